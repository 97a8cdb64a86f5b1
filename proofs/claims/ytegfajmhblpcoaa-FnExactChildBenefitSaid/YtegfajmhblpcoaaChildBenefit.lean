/-
  impl.ChildBenefit and spec.ChildBenefit answer alike: every number. No condition.
-/
import Derived.Test.YtegfajmhblpcoaaSmall
import Derived.Test.YtegfajmhblpcoaaTaperI
import Derived.Test.YtegfajmhblpcoaaTaperS
namespace Go.Proofs.Ytegfajmhblpcoaa
open Go.RowKit
set_option linter.unusedVariables false

def fullB (a b c : Int) : Int := if 0 < c then a + (c - 1) * b else 0
theorem fullB_bd {a b c : Int} (a0 : 0 ≤ a) (a1 : a ≤ 1000000000000) (b0 : 0 ≤ b) (b1 : b ≤ 1000000000000) (c0 : 0 ≤ c) (c1 : c ≤ 20) (h : 0 < c) : 0 ≤ (c - 1) * b ∧ (c - 1) * b ≤ 19000000000000 ∧ fullB a b c = a + (c - 1) * b := by
  refine ⟨Int.mul_nonneg (by omega) b0, ?_, if_pos h⟩
  have : (c - 1) * b ≤ 19 * 1000000000000 := Int.mul_le_mul (by omega) b1 b0 (by omega)
  omega
def ChildBenefit_r1 (a b c s r m : Int) : Bool := isAmount a && isAmount b && win c 0 20 && isAmount m && isTaperB (fullB a b c) s r
def ChildBenefit_r0 (a b c s r m : Int) : Int := if ChildBenefit_r1 a b c s r m then taperF (fullB a b c) s r m else 0
theorem child_no {a b c s r m : Int} (h : ChildBenefit_r1 a b c s r m = false) : ChildBenefit_r0 a b c s r m = 0 := by simp [ChildBenefit_r0, h]
theorem child_yes {a b c s r m : Int} (h : ChildBenefit_r1 a b c s r m = true) : ChildBenefit_r0 a b c s r m = taperF (fullB a b c) s r m := by simp [ChildBenefit_r0, h]

theorem TaperOf_impl (a s r m : Int) (w : World) (F : Int) (T : Bool) (hT : (isTaperB a s r && isAmount m) = T) (hF : F = if T then taperF a s r m else 0) :
    Calls Try.prog 63 #[.int .i64 a, .int .i64 s, .int .i64 r, .int .i64 m] w (RetV w (.tuple #[.int .i64 F, .bool T])) := by
  cases T
  · have hF' : F = 0 := by rw [hF]; rfl
    subst hF'
    clear hF
    rcases first_no2 hT with h1 | ⟨h1, h2⟩
    all_goals
      clear hT
      go_enter Try.func63, Try.ntmps63
      go_wp2_with (first | (go_at_call 87; refine (impl_isTaper_any _ _ _ _).mono ?_; rintro e w' ⟨rfl, rfl⟩) | (go_at_call 62; refine (impl_isAmount_any _ _).mono ?_; rintro e w' ⟨rfl, rfl⟩))
      go_ret2
      exact ⟨rfl, Below.refl _ _⟩
  · have hF' : F = taperF a s r m := by rw [hF]; rfl
    subst hF'
    clear hF
    obtain ⟨h1, h2⟩ := all_yes2 hT
    obtain ⟨h3, h4, h5⟩ := all_yes3 (show (isAmount a && isAmount s && isRate r) = true from h1)
    obtain ⟨a0, a1⟩ := win_iff.1 h3
    obtain ⟨s0, s1⟩ := win_iff.1 h4
    obtain ⟨r0, r1⟩ := win_iff.1 h5
    obtain ⟨m0, m1⟩ := win_iff.1 h2
    clear hT
    go_enter Try.func63, Try.ntmps63
    go_wp2_with (first | (go_at_call 87; refine (impl_isTaper_any _ _ _ _).mono ?_; rintro e w' ⟨rfl, rfl⟩) | (go_at_call 62; refine (impl_isAmount_any _ _).mono ?_; rintro e w' ⟨rfl, rfl⟩) | (go_at_call 88; refine (impl_taper _ _ _ _ _ a0 a1 s0 s1 r0 r1 m0 m1).mono ?_; rintro e w1 ⟨rfl, hb⟩))
    go_ret2
    exact ⟨rfl, hb⟩

theorem child_out (a b c s r m : Int) (h1 : isAmount a = true) (h2 : isAmount b = true) (h3 : win c 0 20 = true) : ChildBenefit_r0 a b c s r m = if (isTaperB (fullB a b c) s r && isAmount m) then taperF (fullB a b c) s r m else 0 := by
  have e : ChildBenefit_r1 a b c s r m = (isTaperB (fullB a b c) s r && isAmount m) := by simp only [ChildBenefit_r1, h1, h2, h3, Bool.true_and]; rw [Bool.and_comm]
  rw [ChildBenefit_r0, e]
theorem child_out1 (a b c s r m : Int) (h1 : isAmount a = true) (h2 : isAmount b = true) (h3 : win c 0 20 = true) : (isTaperB (fullB a b c) s r && isAmount m) = ChildBenefit_r1 a b c s r m := by
  simp only [ChildBenefit_r1, h1, h2, h3, Bool.true_and]; rw [Bool.and_comm]

theorem ChildBenefit_impl (a b c s r m : Int) (w : World) :
    Calls Try.prog 22 #[.int .i64 a, .int .i64 b, .int .i64 c, .int .i64 s, .int .i64 r, .int .i64 m] w (RetV w (.tuple #[.int .i64 (ChildBenefit_r0 a b c s r m), .bool (ChildBenefit_r1 a b c s r m)])) := by
  cases h : (isAmount a && isAmount b && win c 0 20)
  · have e : ChildBenefit_r1 a b c s r m = false := by simp only [ChildBenefit_r1, h, Bool.false_and]
    rw [child_no e, e]
    clear e
    rcases first_no3 h with h1 | ⟨h1, h2 | ⟨h2, h3⟩⟩
    all_goals
      clear h
      go_enter Try.func22, Try.ntmps22
      go_wp2_with (first | (go_at_call 62; refine (impl_isAmount_any _ _).mono ?_; rintro e w' ⟨rfl, rfl⟩) | (go_at_call 55; refine (impl_within_any _ _ _ _).mono ?_; rintro e w' ⟨rfl, rfl⟩))
      go_ret2
      exact ⟨rfl, Below.refl _ _⟩
  · obtain ⟨h1, h2, h3⟩ := all_yes3 h
    obtain ⟨a0, a1⟩ := win_iff.1 h1
    obtain ⟨b0, b1⟩ := win_iff.1 h2
    obtain ⟨c0, c1⟩ := win_iff.1 h3
    have X0 := Lib.hid (child_out a b c s r m h1 h2 h3)
    have X1 := Lib.hid (child_out1 a b c s r m h1 h2 h3)
    clear h
    by_cases hc : 0 < c
    · obtain ⟨p0, p1, p2⟩ := fullB_bd a0 a1 b0 b1 c0 c1 hc
      rw [p2] at X0 X1
      have hX0 := Lib.hid X0
      clear p2 X0
      go_enter Try.func22, Try.ntmps22
      go_wp2_with (first | (go_at_call 62; refine (impl_isAmount_any _ _).mono ?_; rintro e w' ⟨rfl, rfl⟩) | (go_at_call 55; refine (impl_within_any _ _ _ _).mono ?_; rintro e w' ⟨rfl, rfl⟩) | (go_at_call 63; refine (TaperOf_impl _ s r m _ (ChildBenefit_r0 a b c s r m) _ X1.out (by rw [← X1.out]; exact hX0.out.out)).mono ?_; rintro e w1 ⟨rfl, hb⟩))
      go_ret2
      exact ⟨rfl, hb⟩
    · have e : fullB a b c = 0 := if_neg hc
      rw [e] at X0 X1
      have hX0 := Lib.hid X0
      clear e X0
      go_enter Try.func22, Try.ntmps22
      go_wp2_with (first | (go_at_call 62; refine (impl_isAmount_any _ _).mono ?_; rintro e w' ⟨rfl, rfl⟩) | (go_at_call 55; refine (impl_within_any _ _ _ _).mono ?_; rintro e w' ⟨rfl, rfl⟩) | (go_at_call 63; refine (TaperOf_impl _ s r m _ (ChildBenefit_r0 a b c s r m) _ X1.out (by rw [← X1.out]; exact hX0.out.out)).mono ?_; rintro e w1 ⟨rfl, hb⟩))
      go_ret2
      exact ⟨rfl, hb⟩

set_option maxHeartbeats 800000 in
theorem ChildBenefit_spec (a b c s r m : Int) (w : World) :
    Calls Try.prog 21 #[.int .i64 a, .int .i64 b, .int .i64 c, .int .i64 s, .int .i64 r, .int .i64 m] w (RetV w (.tuple #[.int .i64 (ChildBenefit_r0 a b c s r m), .bool (ChildBenefit_r1 a b c s r m)])) := by
  cases h : (isAmount a && isAmount b && win c 0 20 && isAmount m)
  · have e : ChildBenefit_r1 a b c s r m = false := by simp only [ChildBenefit_r1, h, Bool.false_and]
    rw [child_no e, e]
    clear e
    rcases first_no4 h with h1 | ⟨h1, h2 | ⟨h2, h3 | ⟨h3, h4⟩⟩⟩
    all_goals
      clear h
      go_enter Try.func21, Try.ntmps21
      go_wp2_with (first | (go_at_call 53; refine (spec_l02Cents_any _ _).mono ?_; rintro e w' ⟨rfl, rfl⟩) | (go_at_call 52; refine (spec_l00In_any _ _ _ _).mono ?_; rintro e w' ⟨rfl, rfl⟩))
      go_ret2
      exact ⟨rfl, Below.refl _ _⟩
  · obtain ⟨h1, h2, h3, h4⟩ := all_yes4 h
    obtain ⟨a0, a1⟩ := win_iff.1 h1
    obtain ⟨b0, b1⟩ := win_iff.1 h2
    obtain ⟨c0, c1⟩ := win_iff.1 h3
    obtain ⟨m0, m1⟩ := win_iff.1 h4
    obtain ⟨X, hX⟩ : ∃ X, fullB a b c = X := ⟨_, rfl⟩
    have e1 : ChildBenefit_r1 a b c s r m = isTaperB X s r := by simp only [ChildBenefit_r1, h, Bool.true_and, hX]
    have hcase : (0 < c ∧ 0 ≤ b * (c - 1) ∧ b * (c - 1) ≤ 19000000000000 ∧ Hid (X = a + b * (c - 1))) ∨ (¬ 0 < c ∧ Hid (X = 0)) := by
      by_cases hc : 0 < c
      · obtain ⟨p0, p1, p2⟩ := fullB_bd a0 a1 b0 b1 c0 c1 hc
        rw [Int.mul_comm] at p0 p1 p2
        exact .inl ⟨hc, p0, p1, by rw [← p2]; exact hX.symm⟩
      · exact .inr ⟨hc, by rw [← hX]; exact if_neg hc⟩
    clear h
    cases h5 : isTaperB X s r
    · rw [h5] at e1
      rw [child_no e1, e1]
      clear e1 hX
      rcases hcase with ⟨hc, p0, p1, hx⟩ | ⟨hc, hx⟩
      all_goals
        have h6 := h5
        rw [hx.out] at h6
        clear h5
        go_enter Try.func21, Try.ntmps21
        go_wp2_with (first | (go_at_call 53; refine (spec_l02Cents_any _ _).mono ?_; rintro e w' ⟨rfl, rfl⟩) | (go_at_call 52; refine (spec_l00In_any _ _ _ _).mono ?_; rintro e w' ⟨rfl, rfl⟩) | (go_at_call 60; refine (spec_l02Tapers_any _ _ _ _).mono ?_; rintro e w' ⟨rfl, rfl⟩))
        go_ret2
        exact ⟨rfl, Below.refl _ _⟩
    · rw [h5] at e1
      rw [child_yes e1, e1, hX]
      clear e1 hX
      obtain ⟨h7, h8, h9⟩ := all_yes3 (show (isAmount X && isAmount s && isRate r) = true from h5)
      obtain ⟨s0, s1⟩ := win_iff.1 h8
      obtain ⟨r0, r1⟩ := win_iff.1 h9
      obtain ⟨x0, x1⟩ := win_iff.1 h7
      clear h7
      rcases hcase with ⟨hc, p0, p1, hx⟩ | ⟨hc, hx⟩
      all_goals
        have h6 := h5
        rw [hx.out] at h6 x0 x1 ⊢
        clear h5
        go_enter Try.func21, Try.ntmps21
        go_wp2_with (first | (go_at_call 53; refine (spec_l02Cents_any _ _).mono ?_; rintro e w' ⟨rfl, rfl⟩) | (go_at_call 52; refine (spec_l00In_any _ _ _ _).mono ?_; rintro e w' ⟨rfl, rfl⟩) | (go_at_call 60; refine (spec_l02Tapers_any _ _ _ _).mono ?_; rintro e w' ⟨rfl, rfl⟩) | (go_at_call 61; refine (spec_l02Taper _ _ _ _ _ x0 x1 s0 s1 r0 r1 m0 m1).mono ?_; rintro e w1 ⟨rfl, hb⟩))
        go_ret2
        exact ⟨rfl, hb⟩
end Go.Proofs.Ytegfajmhblpcoaa
