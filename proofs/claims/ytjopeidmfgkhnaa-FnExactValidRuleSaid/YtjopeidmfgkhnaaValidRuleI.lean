/-
  impl.ValidRule answers as the plain law tells. Condition: fewer than 1000000000 conditions.
-/
import Derived.Test.YtjopeidmfgkhnaaWords
import Derived.Test.YtjopeidmfgkhnaaRuleO
namespace Go.Proofs.Ytjopeidmfgkhnaa
open Go.RowKit
set_option linter.unusedVariables false

theorem impl_isDate_any (x : Int) (w : World) : Calls Try.prog 50 #[.int .i64 x] w fun e w' => e = .returned (.bool (isDateB x)) ∧ w = w' := by
  go_enter Try.func50, Try.ntmps50
  go_wp2_with (first | (go_at_call 42; refine (impl_within_any _ _ _ _).mono ?_; rintro e w' ⟨rfl, rfl⟩))
  go_ret
  exact ⟨rfl, rfl⟩
theorem spec_l05Day_any (x : Int) (w : World) : Calls Try.prog 75 #[.int .i64 x] w fun e w' => e = .returned (.bool (isDateB x)) ∧ w = w' := by
  go_enter Try.func75, Try.ntmps75
  go_wp2_with (first | (go_at_call 51; refine (spec_l00In_any _ _ _ _).mono ?_; rintro e w' ⟨rfl, rfl⟩))
  go_ret
  exact ⟨rfl, rfl⟩
def ValidRule_r0 (h : Int) (xs : List Int) (a b k : Int) : Bool := ruleOk h (fun i => xs.getD i 0) xs.length a b k
theorem rule_turn (h : Int) (f : Nat → Int) (n : Nat) (a b k : Int) : ruleOk h f n a b k = (isWordB h && decide ((n : Int) ≤ 6) && wordsB f n && isDateB a && isDateB b && decide (a ≤ b) && win k 0 100) := by
  simp only [ruleOk]
  cases isWordB h <;> cases decide ((n : Int) ≤ 6) <;> cases wordsB f n <;> rfl

set_option maxHeartbeats 3200000 in
theorem rule_impl (h : Int) (n g c : Nat) (f : Nat → Int) (a b k : Int) (w : World) (hn : n < 1000000000) (hI : Ints w g 0 n f) :
    Calls Try.prog 17 #[.agg #[.int .i64 h, .slice (some ⟨g, 0, none⟩) n c, .int .i64 a, .int .i64 b, .int .i64 k]] w (RetV w (.bool (ruleOk h f n a b k))) := by
  have bA : Below w.heap.size w (w.alloc (.cells #[.int .i64 h, .slice (some ⟨g, 0, none⟩) n c, .int .i64 a, .int .i64 b, .int .i64 k] 34)) := by go_grown
  have hJ := hI.below bA
  cases hx : ruleOk h f n a b k
  · rcases first_no6 hx with h1 | ⟨h1, h2 | ⟨h2, h3 | ⟨h3, h4 | ⟨h4, h5 | ⟨h5, h6⟩⟩⟩⟩⟩
    all_goals
      try have h5' : ¬ a ≤ b := of_decide_eq_false h5
      try have h5'' : b < a := by omega
      try have h5' : a ≤ b := of_decide_eq_true h5
      clear hx
      go_enter Try.func17, Try.ntmps17
      go_wp2_with (first | (go_at_call 48; refine (impl_isWord_any _ _).mono ?_; rintro e w' ⟨rfl, rfl⟩) | (go_at_call 50; refine (impl_isDate_any _ _).mono ?_; rintro e w' ⟨rfl, rfl⟩) | (go_at_call 42; refine (impl_within_any _ _ _ _).mono ?_; rintro e w' ⟨rfl, rfl⟩) | (go_at_call 49; refine (areWords_any n g c f 6 _ hn hJ).mono ?_; rintro e w' ⟨rfl, rfl⟩))
      go_ret
      exact ⟨rfl, bA⟩
  · obtain ⟨h1, h2, h3, h4, h5, h6⟩ := all_yes6 hx
    have h5' : a ≤ b := of_decide_eq_true h5
    clear hx
    go_enter Try.func17, Try.ntmps17
    go_wp2_with (first | (go_at_call 48; refine (impl_isWord_any _ _).mono ?_; rintro e w' ⟨rfl, rfl⟩) | (go_at_call 50; refine (impl_isDate_any _ _).mono ?_; rintro e w' ⟨rfl, rfl⟩) | (go_at_call 42; refine (impl_within_any _ _ _ _).mono ?_; rintro e w' ⟨rfl, rfl⟩) | (go_at_call 49; refine (areWords_any n g c f 6 _ hn hJ).mono ?_; rintro e w' ⟨rfl, rfl⟩))
    go_ret
    exact ⟨rfl, bA⟩

end Go.Proofs.Ytjopeidmfgkhnaa
