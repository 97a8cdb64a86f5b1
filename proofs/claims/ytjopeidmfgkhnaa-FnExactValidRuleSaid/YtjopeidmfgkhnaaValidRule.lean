/-
  impl.ValidRule and spec.ValidRule answer alike: every rule of fewer than 1000000000 conditions. No other condition.
-/
import Derived.Test.YtjopeidmfgkhnaaValidRuleI
namespace Go.Proofs.Ytjopeidmfgkhnaa
open Go.RowKit
set_option linter.unusedVariables false

theorem word_is (x : Int) (w : World) {r : Bool} (hr : isWordB x = r) : Calls Try.prog 73 #[.int .i64 x] w fun e w' => e = .returned (.bool r) ∧ w' = w := (spec_l05Word_any x w).mono fun _ _ h => ⟨by rw [h.1, hr], h.2.symm⟩
theorem day_is (x : Int) (w : World) {r : Bool} (hr : isDateB x = r) : Calls Try.prog 75 #[.int .i64 x] w fun e w' => e = .returned (.bool r) ∧ w' = w := (spec_l05Day_any x w).mono fun _ _ h => ⟨by rw [h.1, hr], h.2.symm⟩
theorem in_is (x l u : Int) (w : World) {r : Bool} (hr : win x l u = r) : Calls Try.prog 51 #[.int .i64 x, .int .i64 l, .int .i64 u] w fun e w' => e = .returned (.bool r) ∧ w' = w := (spec_l00In_any x l u w).mono fun _ _ h => ⟨by rw [h.1, hr], h.2.symm⟩
theorem words_is (n g c : Nat) (f : Nat → Int) (w : World) (hn : n < 1000000000) (hI : Ints w g 0 n f) {r : Bool} (hr : wordsB f n = r) : Calls Try.prog 74 #[.slice (some ⟨g, 0, none⟩) n c] w fun e w' => e = .returned (.bool r) ∧ ∃ q, w' = w.drewN q := (l05Words_any n g c f w hn hI).mono fun _ _ h => ⟨by rw [h.1, hr], h.2⟩

set_option maxHeartbeats 6400000 in
theorem l05Rule_any (p : Nat) (h : Int) (n g c : Nat) (f : Nat → Int) (a b k : Int) (w : World) (hn : n < 1000000000) (hI : Ints w g 0 n f)
    (c0 : w.cell? ⟨p, 0, none⟩ = some (.int .i64 h)) (c1 : w.cell? ⟨p, 1, none⟩ = some (.slice (some ⟨g, 0, none⟩) n c)) (c2 : w.cell? ⟨p, 2, none⟩ = some (.int .i64 a)) (c3 : w.cell? ⟨p, 3, none⟩ = some (.int .i64 b)) (c4 : w.cell? ⟨p, 4, none⟩ = some (.int .i64 k)) :
    Calls Try.prog 47 #[.pointer (some ⟨p, 0, none⟩)] w fun e w' => e = .returned (.bool (ruleOk h f n a b k)) ∧ ∃ q, w' = w.drewN q := by
  have HJ : Hid (∀ m, Ints (w.drewN m) g 0 n f) := fun m => hI.below (Below.drewN' (Below.refl _ _) m)
  have HT := Lib.hid (rule_turn h f n a b k)
  cases hx : (isWordB h && decide ((n : Int) ≤ 6) && wordsB f n && isDateB a && isDateB b && decide (a ≤ b) && win k 0 100)
  · have HF : Hid (ruleOk h f n a b k = false) := HT.out.trans hx
    rcases first_no7 hx with h1 | ⟨h1, h2 | ⟨h2, h3 | ⟨h3, h4 | ⟨h4, h5 | ⟨h5, h6 | ⟨h6, h7⟩⟩⟩⟩⟩⟩
    all_goals
      clear hx HT
      go_enter Try.func47, Try.ntmps47
      go_wp2_with fail
      go_quiet ((first | (go_at_call 73; exact Calls.quiet_of_same (word_is _ _ (by assumption))) | (go_at_call 75; exact Calls.quiet_of_same (day_is _ _ (by assumption))) | (go_at_call 51; exact Calls.quiet_of_same (in_is _ _ _ _ (by assumption))) | (go_at_call 74; exact Calls.quiet_of (words_is n g c f _ hn (by first | exact hI | exact HJ.out _) (by assumption)))))
      go_wp2
      go_ret
      exact ⟨ret_bool HF.out.symm, _, rfl⟩
  · have HF : Hid (ruleOk h f n a b k = true) := HT.out.trans hx
    obtain ⟨h1, h2, h3, h4, h5, h6, h7⟩ := all_yes7 hx
    clear hx HT
    go_enter Try.func47, Try.ntmps47
    go_wp2_with fail
    go_quiet ((first | (go_at_call 73; exact Calls.quiet_of_same (word_is _ _ (by assumption))) | (go_at_call 75; exact Calls.quiet_of_same (day_is _ _ (by assumption))) | (go_at_call 51; exact Calls.quiet_of_same (in_is _ _ _ _ (by assumption))) | (go_at_call 74; exact Calls.quiet_of (words_is n g c f _ hn (by first | exact hI | exact HJ.out _) (by assumption)))))
    go_wp2
    go_ret
    exact ⟨ret_bool HF.out.symm, _, rfl⟩
theorem rule_spec (h : Int) (n g c : Nat) (f : Nat → Int) (a b k : Int) (w : World) (hn : n < 1000000000) (hI : Ints w g 0 n f) :
    Calls Try.prog 15 #[.agg #[.int .i64 h, .slice (some ⟨g, 0, none⟩) n c, .int .i64 a, .int .i64 b, .int .i64 k]] w (RetV w (.bool (ruleOk h f n a b k))) := by
  obtain ⟨W, hW⟩ : ∃ W, W = w.alloc (.cells #[.int .i64 h, .slice (some ⟨g, 0, none⟩) n c, .int .i64 a, .int .i64 b, .int .i64 k] 34) := ⟨_, rfl⟩
  have bA : Below w.heap.size w W := by rw [hW]; go_grown
  have hC := l05Rule_any w.heap.size h n g c f a b k W hn (hI.below bA) (by rw [hW]; simp [go_sem]) (by rw [hW]; simp [go_sem]) (by rw [hW]; simp [go_sem]) (by rw [hW]; simp [go_sem]) (by rw [hW]; simp [go_sem])
  rw [hW] at hC bA
  clear hW
  go_enter Try.func15, Try.ntmps15
  go_wp2_with fail
  refine hC.mono ?_
  rintro e w' ⟨rfl, q, rfl⟩
  go_wp2
  go_ret
  exact ⟨rfl, Below.drewN' bA q⟩
theorem ValidRule_impl {w : World} {B : Nat} {v : Value} {h : Int} {xs : List Int} {a b k : Int} (i : RowU 2 w B v h xs a b k) : Calls Try.prog 17 #[v] w (RetV w (.bool (ValidRule_r0 h xs a b k))) := by
  obtain ⟨g, c, rfl, hn, hI⟩ := i.form
  exact rule_impl h xs.length g c _ a b k w hn hI
theorem ValidRule_spec {w : World} {B : Nat} {v : Value} {h : Int} {xs : List Int} {a b k : Int} (i : RowU 2 w B v h xs a b k) : Calls Try.prog 15 #[v] w (RetV w (.bool (ValidRule_r0 h xs a b k))) := by
  obtain ⟨g, c, rfl, hn, hI⟩ := i.form
  exact rule_spec h xs.length g c _ a b k w hn hI
end Go.Proofs.Ytjopeidmfgkhnaa
