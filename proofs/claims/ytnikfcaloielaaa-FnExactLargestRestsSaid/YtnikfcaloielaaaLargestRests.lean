/-
  impl.LargestRests and spec.LargestRests answer alike: every list of fewer than 1000000000 integers, every number. No other condition.
-/
import Derived.Test.YtnikfcaloielaaaParted
import Derived.Test.YtnikfcaloielaaaShares
import Derived.Test.YtnikfcaloielaaaPlaces
namespace Go.Proofs.Ytnikfcaloielaaa
open Go.RowKit
set_option linter.unusedVariables false

def lrOk (t : Int) (f : Nat → Int) (n : Nat) : Bool := plcOk f n && win t 0 1000000000
def lrL (t : Int) (f : Nat → Int) (n : Nat) : List Int := bif lrOk t f n then tab (ptO t f n) n else []
theorem lr_no {t : Int} {f : Nat → Int} {n : Nat} (h : lrOk t f n = false) : lrL t f n = [] := by simp only [lrL, h, cond_false]
theorem lr_yes {t : Int} {f : Nat → Int} {n : Nat} (h : lrOk t f n = true) : lrL t f n = tab (ptO t f n) n := by simp only [lrL, h, cond_true]
def LargestRests_r0 (t : Int) (xs : List Int) : List Int := lrL t (fun i => xs.getD i 0) xs.length
def LargestRests_r1 (t : Int) (xs : List Int) : Bool := lrOk t (fun i => xs.getD i 0) xs.length

set_option maxHeartbeats 1600000 in
set_option maxRecDepth 100000 in
theorem lr_impl (t : Int) (n g cp : Nat) (f : Nat → Int) (w : World) (hn : n < 1000000000) (hI : Ints w g 0 n f) :
    Calls Try.prog 18 #[.int .i64 t, .slice (some ⟨g, 0, none⟩) n cp] w (RetL1 2 w (lrL t f n) (lrOk t f n)) := by
  cases h : lrOk t f n
  · rw [lr_no h]
    rcases first_no2 h with h1 | ⟨h1, h2⟩
    all_goals
      clear h
      go_enter Try.func18, Try.ntmps18
      go_wp2_with (first | (go_at_call 52; refine (impl_within_any _ _ _ _).mono ?_; rintro e w' ⟨rfl, rfl⟩) | (go_at_call 51; refine (places_impl n g cp f _ hn hI).mono ?_; rintro e w1 ⟨rfl, hb⟩))
      go_ret2
      exact RetL1.no _ hb
  · rw [lr_yes h]
    obtain ⟨h1, h2⟩ := all_yes2 h
    obtain ⟨c0, c1⟩ := win_iff.1 h2
    obtain ⟨n1, n12, hf, ⟨s0, s1⟩, _⟩ := plc_is h1
    have HP : Hid (∀ w', Ints w' g 0 n f → _) := fun w' i => parted_any n g cp t f w' n1 (by omega) c0 (by omega) hf s0 i (fun i hi => divC_small (Int.mul_nonneg c0 (hf i hi).1) (by have : t * f i ≤ 1000000000 * 1000000000 := Int.mul_le_mul c1 (hf i hi).2 (hf i hi).1 (by omega); omega) s0 (by omega))
    clear h hf
    go_enter Try.func18, Try.ntmps18
    go_wp2_with (first | (go_at_call 52; refine (impl_within_any _ _ _ _).mono ?_; rintro e w' ⟨rfl, rfl⟩) | (go_at_call 51; refine (places_impl n g cp f _ hn hI).mono ?_; rintro e w1 ⟨rfl, hb⟩))
    refine (HP.out _ (hI.below hb)).mono ?_
    rintro e w2 ⟨v, rfl, hv, hb2⟩
    go_wp2_with fail
    go_ret2
    exact ⟨_, rfl, hv.mono hb.size, by rw [tab_length]; omega, bnext hb hb2⟩

set_option maxHeartbeats 1600000 in
set_option maxRecDepth 100000 in
theorem lr_spec (t : Int) (n g cp : Nat) (f : Nat → Int) (w : World) (hn : n < 1000000000) (hI : Ints w g 0 n f) :
    Calls Try.prog 17 #[.int .i64 t, .slice (some ⟨g, 0, none⟩) n cp] w (RetL1 2 w (lrL t f n) (lrOk t f n)) := by
  cases h : lrOk t f n
  · rw [lr_no h]
    rcases first_no2 h with h1 | ⟨h1, h2⟩
    all_goals
      clear h
      go_enter Try.func17, Try.ntmps17
      go_wp2_with (first | (go_at_call 34; refine (spec_l00In_any _ _ _ _).mono ?_; rintro e w' ⟨rfl, rfl⟩) | (go_at_call 49; refine (places_spec n g cp f _ hn hI).mono ?_; rintro e w1 ⟨s, rfl, _, rfl⟩))
      go_ret2
      exact RetL1.no _ (Below.refl _ _)
  · rw [lr_yes h]
    obtain ⟨h1, h2⟩ := all_yes2 h
    obtain ⟨c0, c1⟩ := win_iff.1 h2
    obtain ⟨n1, n12, hf, ⟨s0, s1⟩, _⟩ := plc_is h1
    have HP : Hid (∀ s, sumTo f n = s → _) := fun s hs => shares_any n g cp t s f w n1 n12 c0 c1 hf s0 hs hI
    have HS : Hid (plcOk f n = true) := h1
    clear h hf
    go_enter Try.func17, Try.ntmps17
    go_wp2_with (first | (go_at_call 34; refine (spec_l00In_any _ _ _ _).mono ?_; rintro e w' ⟨rfl, rfl⟩) | (go_at_call 49; refine (places_spec n g cp f _ hn hI).mono ?_; rintro e w1 ⟨s, rfl, hs, rfl⟩))
    refine (HP.out _ rfl).mono ?_
    rintro e w2 ⟨v, rfl, hv, hb2⟩
    go_wp2_with fail
    go_ret2
    exact ⟨_, rfl, hv, by rw [tab_length]; omega, hb2⟩

theorem LargestRests_impl {w : World} {B : Nat} {v : Value} {xs : List Int} (t : Int) (h : RowI 2 w B v xs) :
    Calls Try.prog 18 #[.int .i64 t, v] w (RetL1 2 w (LargestRests_r0 t xs) (LargestRests_r1 t xs)) := by
  obtain ⟨g, c, rfl, _, _, _, _, I1, _, m1⟩ := h.form
  exact lr_impl t xs.length g c _ w m1 I1

theorem LargestRests_spec {w : World} {B : Nat} {v : Value} {xs : List Int} (t : Int) (h : RowI 2 w B v xs) :
    Calls Try.prog 17 #[.int .i64 t, v] w (RetL1 2 w (LargestRests_r0 t xs) (LargestRests_r1 t xs)) := by
  obtain ⟨g, c, rfl, _, _, _, _, I1, _, m1⟩ := h.form
  exact lr_spec t xs.length g c _ w m1 I1
end Go.Proofs.Ytnikfcaloielaaa
