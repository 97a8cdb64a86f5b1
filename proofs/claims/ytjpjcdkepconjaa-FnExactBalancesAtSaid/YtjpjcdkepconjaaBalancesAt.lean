/-
  impl.BalancesAt and spec.BalancesAt answer alike: every list of fewer than 1000000000 entries, every day. No other condition.
-/
import Derived.Test.YtjpjcdkepconjaaBalances
namespace Go.Proofs.Ytjpjcdkepconjaa
open Go.RowKit
set_option linter.unusedVariables false

def BalancesAt_r1 (X : Rec) (d : Int) : Bool := entriesOk X.f X.length && isDay d
def BalancesAt_r0 (X : Rec) (d : Int) : List Int := bif BalancesAt_r1 X d then tab (balF X.f d X.length) 12 else []
theorem balAt_no {X : Rec} {d : Int} (h : BalancesAt_r1 X d = false) : BalancesAt_r0 X d = [] := by simp only [BalancesAt_r0, h, cond_false]
theorem balAt_yes {X : Rec} {d : Int} (h : BalancesAt_r1 X d = true) : BalancesAt_r0 X d = tab (balF X.f d X.length) 12 := by simp only [BalancesAt_r0, h, cond_true]

set_option maxHeartbeats 800000 in
theorem BalancesAt_impl {w : World} {B : Nat} {u : Value} {X : Rec} (hv : RowR 4 w B u X) (d : Int) : Calls Try.prog 43 #[u, .int .i64 d] w (RetL1 2 w (BalancesAt_r0 X d) (BalancesAt_r1 X d)) := by
  obtain ⟨g, rfl, _, _, hn, hI, _⟩ := hv
  cases h : BalancesAt_r1 X d
  · rw [balAt_no h]
    obtain ⟨n, f⟩ := X
    rcases first_no2 (show (entriesOk f n && isDay d) = false from h) with h1 | ⟨h1, h2⟩
    all_goals
      clear h
      go_enter Try.func43, Try.ntmps43
      go_wp2_with (first | (go_at_call 85; refine (impl_isDay_any _ _).mono ?_; rintro e w' ⟨rfl, rfl⟩) | (go_at_call 66; refine (entries_impl n g f _ hn hI).mono ?_; rintro e w1 ⟨rfl, hb⟩))
      go_ret2
      exact RetL1.no _ hb
  · rw [balAt_yes h]
    obtain ⟨n, f⟩ := X
    obtain ⟨h1, h2⟩ := all_yes2 (show (entriesOk f n && isDay d) = true from h)
    have H1 := Lib.hid h1
    have HT := Lib.hid (tab_length (balF f d n) 12)
    clear h
    show Calls _ _ _ _ (RetL1 2 w (tab (balF f d n) 12) true)
    go_enter Try.func43, Try.ntmps43
    go_wp2_with (first | (go_at_call 85; refine (impl_isDay_any _ _).mono ?_; rintro e w' ⟨rfl, rfl⟩) | (go_at_call 66; refine (entries_impl n g f _ hn hI).mono ?_; rintro e w1 ⟨rfl, hb⟩))
    refine (bal_impl n n g f d _ (hI.below hb) H1.out).mono ?_
    rintro e w2 ⟨v, rfl, hv, hb2⟩
    go_wp2
    go_ret2
    exact ⟨_, rfl, hv.mono hb.size, by rw [HT.out]; decide, bnext hb hb2⟩

set_option maxHeartbeats 800000 in
theorem BalancesAt_spec {w : World} {B : Nat} {u : Value} {X : Rec} (hv : RowR 4 w B u X) (d : Int) : Calls Try.prog 42 #[u, .int .i64 d] w (RetL1 2 w (BalancesAt_r0 X d) (BalancesAt_r1 X d)) := by
  obtain ⟨g, rfl, _, _, hn, hI, _⟩ := hv
  cases h : BalancesAt_r1 X d
  · rw [balAt_no h]
    obtain ⟨n, f⟩ := X
    rcases first_no2 (show (entriesOk f n && isDay d) = false from h) with h1 | ⟨h1, h2⟩
    all_goals
      clear h
      go_enter Try.func42, Try.ntmps42
      go_wp2_with (first | (go_at_call 83; refine (spec_l03Day_any _ _).mono ?_; rintro e w' ⟨rfl, rfl⟩) | (go_at_call 63; refine (entries_spec n g f _ hn hI).mono ?_; rintro e w1 ⟨rfl, hb⟩))
      go_ret2
      exact RetL1.no _ hb
  · rw [balAt_yes h]
    obtain ⟨n, f⟩ := X
    obtain ⟨h1, h2⟩ := all_yes2 (show (entriesOk f n && isDay d) = true from h)
    have H1 := Lib.hid h1
    have HT := Lib.hid (tab_length (balF f d n) 12)
    clear h
    show Calls _ _ _ _ (RetL1 2 w (tab (balF f d n) 12) true)
    go_enter Try.func42, Try.ntmps42
    go_wp2_with (first | (go_at_call 83; refine (spec_l03Day_any _ _).mono ?_; rintro e w' ⟨rfl, rfl⟩) | (go_at_call 63; refine (entries_spec n g f _ hn hI).mono ?_; rintro e w1 ⟨rfl, hb⟩))
    refine (bal_spec n n g f d _ (hI.below hb) H1.out).mono ?_
    rintro e w2 ⟨v, rfl, hv, hb2⟩
    go_wp2
    go_ret2
    exact ⟨_, rfl, hv.mono hb.size, by rw [HT.out]; decide, bnext hb hb2⟩
end Go.Proofs.Ytjpjcdkepconjaa
