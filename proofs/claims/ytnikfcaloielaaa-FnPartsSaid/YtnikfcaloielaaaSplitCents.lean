/-
  impl.SplitCents and spec.SplitCents answer alike: every list of fewer than 1000000000 integers, every number. No other condition.
-/
import Derived.Test.YtnikfcaloielaaaParted
import Derived.Test.YtnikfcaloielaaaSplitS
import Derived.Test.YtnikfcaloielaaaWeights
namespace Go.Proofs.Ytnikfcaloielaaa
open Go.RowKit
set_option linter.unusedVariables false

def scOk (t : Int) (f : Nat → Int) (n : Nat) : Bool := isSum t && wgtOk f n
def scL (t : Int) (f : Nat → Int) (n : Nat) : List Int := bif scOk t f n then tab (ptO t f n) n else []
theorem sc_no {t : Int} {f : Nat → Int} {n : Nat} (h : scOk t f n = false) : scL t f n = [] := by simp only [scL, h, cond_false]
theorem sc_yes {t : Int} {f : Nat → Int} {n : Nat} (h : scOk t f n = true) : scL t f n = tab (ptO t f n) n := by simp only [scL, h, cond_true]
def SplitCents_r0 (t : Int) (xs : List Int) : List Int := scL t (fun i => xs.getD i 0) xs.length
def SplitCents_r1 (t : Int) (xs : List Int) : Bool := scOk t (fun i => xs.getD i 0) xs.length

theorem no_swap {a b : Bool} (h : (a && b) = false) : b = false ∨ (b = true ∧ a = false) := by cases a <;> cases b <;> simp_all
set_option maxHeartbeats 1600000 in
set_option maxRecDepth 100000 in
theorem sc_impl (t : Int) (n g cp : Nat) (f : Nat → Int) (w : World) (hn : n < 1000000000) (hI : Ints w g 0 n f) :
    Calls Try.prog 20 #[.int .i64 t, .slice (some ⟨g, 0, none⟩) n cp] w (RetL1 2 w (scL t f n) (scOk t f n)) := by
  cases h : scOk t f n
  · rw [sc_no h]
    rcases first_no2 h with h1 | ⟨h1, h2⟩
    all_goals
      clear h
      go_enter Try.func20, Try.ntmps20
      go_wp2_with (first | (go_at_call 36; refine (impl_isSum_any _ _).mono ?_; rintro e w' ⟨rfl, rfl⟩) | (go_at_call 37; refine (weights_impl n g cp f _ hn hI).mono ?_; rintro e w1 ⟨rfl, hb⟩))
      go_ret2
      exact RetL1.no _ (by first | assumption | exact Below.refl _ _)
  · rw [sc_yes h]
    obtain ⟨h1, h2⟩ := all_yes2 h
    obtain ⟨c0, c1⟩ := win_iff.1 h1
    obtain ⟨n1, n12, hf, ⟨s0, s1⟩, _⟩ := wgt_is h2
    have HP : Hid (∀ w', Ints w' g 0 n f → _) := fun w' i => parted_any n g cp t f w' n1 (by omega) c0 (by omega) hf s0 i (fun i hi => divC_small (Int.mul_nonneg c0 (hf i hi).1) (by have : t * f i ≤ 1000000000 * 1000000000 := Int.mul_le_mul c1 (hf i hi).2 (hf i hi).1 (by omega); omega) s0 (by omega))
    clear h hf
    go_enter Try.func20, Try.ntmps20
    go_wp2_with (first | (go_at_call 36; refine (impl_isSum_any _ _).mono ?_; rintro e w' ⟨rfl, rfl⟩) | (go_at_call 37; refine (weights_impl n g cp f _ hn hI).mono ?_; rintro e w1 ⟨rfl, hb⟩))
    refine (HP.out _ (hI.below hb)).mono ?_
    rintro e w2 ⟨v, rfl, hv, hb2⟩
    go_wp2_with fail
    go_ret2
    exact ⟨_, rfl, hv.mono hb.size, by rw [tab_length]; omega, bnext hb hb2⟩

set_option maxHeartbeats 1600000 in
set_option maxRecDepth 100000 in
theorem sc_spec (t : Int) (n g cp : Nat) (f : Nat → Int) (w : World) (hn : n < 1000000000) (hI : Ints w g 0 n f) :
    Calls Try.prog 19 #[.int .i64 t, .slice (some ⟨g, 0, none⟩) n cp] w (RetL1 2 w (scL t f n) (scOk t f n)) := by
  cases h : scOk t f n
  · rw [sc_no h]
    rcases no_swap h with h1 | ⟨h1, h2⟩
    all_goals
      clear h
      try have h2' : win t 0 1000000000 = false := h2
      go_enter Try.func19, Try.ntmps19
      go_wp2_with (first | (go_at_call 34; refine (spec_l00In_any _ _ _ _).mono ?_; rintro e w' ⟨rfl, rfl⟩) | (go_at_call 33; refine (weights_spec n g cp f _ hn hI).mono ?_; rintro e w1 ⟨s, rfl, _, rfl⟩))
      go_ret2
      exact RetL1.no _ (Below.refl _ _)
  · rw [sc_yes h]
    obtain ⟨h2, h1⟩ := all_yes2 h
    obtain ⟨c0, c1⟩ := win_iff.1 h2
    obtain ⟨n1, n12, hf, ⟨s0, s1⟩, _⟩ := wgt_is h1
    have h2' : win t 0 1000000000 = true := h2
    have HP : Hid (∀ s, sumTo f n = s → _) := fun s hs => split_any n g cp t s f w n1 n12 c0 (by omega) hf s0 hs hI
    have HS : Hid (wgtOk f n = true) := h1
    clear h hf
    go_enter Try.func19, Try.ntmps19
    go_wp2_with (first | (go_at_call 34; refine (spec_l00In_any _ _ _ _).mono ?_; rintro e w' ⟨rfl, rfl⟩) | (go_at_call 33; refine (weights_spec n g cp f _ hn hI).mono ?_; rintro e w1 ⟨s, rfl, hs, rfl⟩))
    refine (HP.out _ rfl).mono ?_
    rintro e w2 ⟨v, rfl, hv, hb2⟩
    go_wp2_with fail
    go_ret2
    exact ⟨_, rfl, hv, by rw [tab_length]; omega, hb2⟩

theorem SplitCents_impl {w : World} {B : Nat} {v : Value} {xs : List Int} (t : Int) (h : RowI 2 w B v xs) :
    Calls Try.prog 20 #[.int .i64 t, v] w (RetL1 2 w (SplitCents_r0 t xs) (SplitCents_r1 t xs)) := by
  obtain ⟨g, c, rfl, _, _, _, _, I1, _, m1⟩ := h.form
  exact sc_impl t xs.length g c _ w m1 I1

theorem SplitCents_spec {w : World} {B : Nat} {v : Value} {xs : List Int} (t : Int) (h : RowI 2 w B v xs) :
    Calls Try.prog 19 #[.int .i64 t, v] w (RetL1 2 w (SplitCents_r0 t xs) (SplitCents_r1 t xs)) := by
  obtain ⟨g, c, rfl, _, _, _, _, I1, _, m1⟩ := h.form
  exact sc_spec t xs.length g c _ w m1 I1
end Go.Proofs.Ytnikfcaloielaaa
