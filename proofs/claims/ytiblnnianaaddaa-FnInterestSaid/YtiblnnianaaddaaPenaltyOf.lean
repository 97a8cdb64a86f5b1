/-
  impl.PenaltyOf and spec.PenaltyOf answer alike: every number. No condition.
-/
import Derived.Test.YtiblnnianaaddaaInterest
namespace Go.Proofs.Ytiblnnianaaddaa
open Go.RowKit
set_option linter.unusedVariables false

theorem isTime_iffP {k a b : Int} : isTimeB k a b = true ↔ (0 ≤ k ∧ k ≤ 2) ∧ 0 ≤ a ∧ a ≤ b ∧ b ≤ 36524 := by
  simp only [isTimeB, Bool.and_eq_true, win_iff, decide_eq_true_eq]; omega
/-- Begun months from a day to another one. -/
def moR (a b : Int) : Int := 12 * ((dK b : Int) - dK a) + dJ b - dJ a + if dR a < dR b then 1 else 0
def moF (a b : Int) : Int := if a < b then max (moR a b) 1 else 0
def PenaltyOf_r1 (c r q a b : Int) : Bool := isSum c && isHigh r && isHigh q && isTimeB 0 a b
def penF (c r q a b : Int) : Int := min (nrst (c * r * moF a b) 10000) (nrst (c * q) 10000)
def PenaltyOf_r0 (c r q a b : Int) : Int := bif PenaltyOf_r1 c r q a b then penF c r q a b else 0
theorem pen_no {c r q a b : Int} (h : PenaltyOf_r1 c r q a b = false) : PenaltyOf_r0 c r q a b = 0 := by simp only [PenaltyOf_r0, h, cond_false]
theorem pen_yes {c r q a b : Int} (h : PenaltyOf_r1 c r q a b = true) : PenaltyOf_r0 c r q a b = penF c r q a b := by simp only [PenaltyOf_r0, h, cond_true]
theorem moF_bd {a b : Int} (h0 : 0 ≤ a) (h : a ≤ b) (h1 : b ≤ 36524) : 0 ≤ moF a b ∧ moF a b ≤ 1200 := by
  unfold moF moR
  have := dK_is a h0 (by omega)
  have := dK_is b (by omega) h1
  have := dJ_is a h0 (by omega)
  have := dJ_is b (by omega) h1
  split
  · split <;> omega
  · omega
theorem pen_prod {c r q n : Int} (c0 : 0 ≤ c) (c1 : c ≤ 1000000000) (r0 : 0 ≤ r) (r1 : r ≤ 100000) (q0 : 0 ≤ q) (q1 : q ≤ 100000) (n0 : 0 ≤ n) (n1 : n ≤ 1200) :
    (0 ≤ c * r ∧ c * r ≤ 100000000000000) ∧ (0 ≤ c * r * n ∧ c * r * n ≤ 120000000000000000) ∧ (0 ≤ r * n ∧ r * n ≤ 120000000) ∧ c * (r * n) = c * r * n ∧ 0 ≤ c * q ∧ c * q ≤ 100000000000000 := by
  obtain ⟨a1, _, _, e⟩ := int_prod c0 c1 r0 r1 n0 (show n ≤ 36524 by omega)
  obtain ⟨a2, _, _, _⟩ := int_prod c0 c1 q0 q1 n0 (show n ≤ 36524 by omega)
  have h3 : c * r * n ≤ 100000000000000 * 1200 := Int.mul_le_mul a1.2 n1 n0 (by omega)
  have h4 : r * n ≤ 100000 * 1200 := Int.mul_le_mul r1 n1 n0 (by omega)
  exact ⟨a1, ⟨Int.mul_nonneg a1.1 n0, by omega⟩, ⟨Int.mul_nonneg r0 n0, by omega⟩, e, a2⟩

set_option maxHeartbeats 1600000 in
theorem PenaltyOf_impl (c r q a b : Int) (w : World) : Calls Try.prog 20 #[.int .i64 c, .int .i64 r, .int .i64 q, .int .i64 a, .int .i64 b] w (RetV w (.tuple #[.int .i64 (PenaltyOf_r0 c r q a b), .bool (PenaltyOf_r1 c r q a b)])) := by
  cases h : PenaltyOf_r1 c r q a b
  · rw [pen_no h]
    rcases first_no4 h with h1 | ⟨h1, h2 | ⟨h2, h3 | ⟨h3, h4⟩⟩⟩
    all_goals
      clear h
      go_enter Try.func20, Try.ntmps20
      go_wp2_with (first | (go_at_call 38; refine (impl_isSum_any _ _).mono ?_; rintro e w' ⟨rfl, rfl⟩) | (go_at_call 39; refine (impl_isHigh_any _ _).mono ?_; rintro e w' ⟨rfl, rfl⟩) | (go_at_call 40; refine (impl_isTime_any _ _ _ _).mono ?_; rintro e w' ⟨rfl, rfl⟩))
      go_ret2
      exact ⟨rfl, Below.refl _ _⟩
  · rw [pen_yes h]
    obtain ⟨h1, h2, h3, h4⟩ := all_yes4 h
    obtain ⟨c0, c1⟩ := win_iff.1 h1
    obtain ⟨r0, r1⟩ := win_iff.1 h2
    obtain ⟨q0, q1⟩ := win_iff.1 h3
    obtain ⟨_, a0, ab, b1⟩ := isTime_iffP.1 h4
    obtain ⟨n0, n1⟩ := moF_bd a0 ab b1
    obtain ⟨⟨x0, x1⟩, ⟨y0, y1⟩, _, _, z0, z1⟩ := pen_prod c0 c1 r0 r1 q0 q1 n0 n1
    clear h
    by_cases hab : a < b
    · have k1 := dK_is a a0 (by omega)
      have k2 := dK_is b (by omega) b1
      have k3 := dJ_is a a0 (by omega)
      have k4 := dJ_is b (by omega) b1
      have y1 := dR_bd a a0 (by omega)
      have y2 := dR_bd b (by omega) b1
      have k5 := k1.1
      have k6 := k2.1
      have k7 := k3.1
      have k8 := k4.1
      clear k1 k2 k3 k4
      by_cases hd : dR a < dR b
      · have l1 : dR a + 1 < dR b + 1 := by omega
        have e1 : max (12 * (2000 + (dK b : Int) - (2000 + (dK a : Int))) + (1 + (dJ b : Int)) - (1 + (dJ a : Int)) + 1) 1 = moF a b := by unfold moF moR; rw [if_pos hab, if_pos hd]; omega
        go_enter Try.func20, Try.ntmps20
        go_wp2_with (first | (go_at_call 38; refine (impl_isSum_any _ _).mono ?_; rintro e w' ⟨rfl, rfl⟩) | (go_at_call 39; refine (impl_isHigh_any _ _).mono ?_; rintro e w' ⟨rfl, rfl⟩) | (go_at_call 40; refine (impl_isTime_any _ _ _ _).mono ?_; rintro e w' ⟨rfl, rfl⟩) | (go_at_call 52; refine (impl_date _ _ (by omega) (by omega)).mono ?_; rintro e w' ⟨rfl, rfl⟩) | (go_at_call 53; refine (impl_nearest _ _ _ (by omega) (by omega) (by omega) (by omega)).mono ?_; rintro e w' ⟨rfl, m, rfl⟩))
        all_goals (go_ret2; exact ⟨ret_ib2 (by unfold penF; omega) rfl, Below.drewN' (Below.refl _ _) _⟩)
      · have l1 : ¬ dR a + 1 < dR b + 1 := by omega
        have e1 : max (12 * (2000 + (dK b : Int) - (2000 + (dK a : Int))) + (1 + (dJ b : Int)) - (1 + (dJ a : Int))) 1 = moF a b := by unfold moF moR; rw [if_pos hab, if_neg hd]; omega
        go_enter Try.func20, Try.ntmps20
        go_wp2_with (first | (go_at_call 38; refine (impl_isSum_any _ _).mono ?_; rintro e w' ⟨rfl, rfl⟩) | (go_at_call 39; refine (impl_isHigh_any _ _).mono ?_; rintro e w' ⟨rfl, rfl⟩) | (go_at_call 40; refine (impl_isTime_any _ _ _ _).mono ?_; rintro e w' ⟨rfl, rfl⟩) | (go_at_call 52; refine (impl_date _ _ (by omega) (by omega)).mono ?_; rintro e w' ⟨rfl, rfl⟩) | (go_at_call 53; refine (impl_nearest _ _ _ (by omega) (by omega) (by omega) (by omega)).mono ?_; rintro e w' ⟨rfl, m, rfl⟩))
        all_goals (go_ret2; exact ⟨ret_ib2 (by unfold penF; omega) rfl, Below.drewN' (Below.refl _ _) _⟩)
    · have e1 : moF a b = 0 := if_neg hab
      have HE : Hid (penF c r q a b = min (nrst 0 10000) (nrst (c * q) 10000)) := by show _ = _; unfold penF; rw [e1, Int.mul_zero]
      clear e1
      go_enter Try.func20, Try.ntmps20
      go_wp2_with (first | (go_at_call 38; refine (impl_isSum_any _ _).mono ?_; rintro e w' ⟨rfl, rfl⟩) | (go_at_call 39; refine (impl_isHigh_any _ _).mono ?_; rintro e w' ⟨rfl, rfl⟩) | (go_at_call 40; refine (impl_isTime_any _ _ _ _).mono ?_; rintro e w' ⟨rfl, rfl⟩) | (go_at_call 53; refine (impl_nearest _ _ _ (by omega) (by omega) (by omega) (by omega)).mono ?_; rintro e w' ⟨rfl, m, rfl⟩))
      all_goals (go_ret2; exact ⟨ret_ib2 (by first | (rw [HE.out]; done) | (rw [HE.out]; omega)) rfl, Below.drewN' (Below.refl _ _) _⟩)

theorem l00Max_anyP (a b : Int) (w : World) : Calls Try.prog 50 #[.int .i64 a, .int .i64 b] w fun e w' => e = .returned (.int .i64 (max a b)) ∧ w = w' := by
  go_enter Try.func50, Try.ntmps50
  go_wp2
  all_goals (go_ret; exact ⟨ret_int (by omega), rfl⟩)
theorem l00Min_anyP (a b : Int) (w : World) : Calls Try.prog 51 #[.int .i64 a, .int .i64 b] w fun e w' => e = .returned (.int .i64 (min a b)) ∧ w = w' := by
  go_enter Try.func51, Try.ntmps51
  go_wp2
  all_goals (go_ret; exact ⟨ret_int (by omega), rfl⟩)

set_option maxHeartbeats 1600000 in
theorem PenaltyOf_spec (c r q a b : Int) (w : World) : Calls Try.prog 21 #[.int .i64 c, .int .i64 r, .int .i64 q, .int .i64 a, .int .i64 b] w (RetV w (.tuple #[.int .i64 (PenaltyOf_r0 c r q a b), .bool (PenaltyOf_r1 c r q a b)])) := by
  cases h : PenaltyOf_r1 c r q a b
  · rw [pen_no h]
    rcases first_no4 h with h1 | ⟨h1, h2 | ⟨h2, h3 | ⟨h3, h4⟩⟩⟩
    all_goals
      clear h
      go_enter Try.func21, Try.ntmps21
      go_wp2_with (first | (go_at_call 42; refine (spec_l00In_any _ _ _ _).mono ?_; rintro e w' ⟨rfl, rfl⟩) | (go_at_call 43; refine (spec_l03Rate_any _ _).mono ?_; rintro e w' ⟨rfl, rfl⟩) | (go_at_call 44; refine (spec_l03Time_any _ _ _ _).mono ?_; rintro e w' ⟨rfl, rfl⟩))
      go_ret2
      exact ⟨rfl, Below.refl _ _⟩
  · rw [pen_yes h]
    obtain ⟨h1, h2, h3, h4⟩ := all_yes4 h
    obtain ⟨c0, c1⟩ := win_iff.1 h1
    obtain ⟨r0, r1⟩ := win_iff.1 h2
    obtain ⟨q0, q1⟩ := win_iff.1 h3
    obtain ⟨_, a0, ab, b1⟩ := isTime_iffP.1 h4
    obtain ⟨n0, n1⟩ := moF_bd a0 ab b1
    obtain ⟨⟨x0, x1⟩, ⟨y0, y1⟩, ⟨u0, u1⟩, he, z0, z1⟩ := pen_prod c0 c1 r0 r1 q0 q1 n0 n1
    have g1 : c * (r * moF a b) / 10000 ≤ 1000000000000000000 := by rw [he]; omega
    have g2 : c * q / 10000 ≤ 1000000000000000000 := by omega
    have HE : Hid (penF c r q a b = min (rnd (c * (r * moF a b)) 10000 1) (rnd (c * q) 10000 1)) := by show _ = _; rw [he, penF, nrst_pos y0, nrst_pos z0]
    clear h he
    by_cases hab : a < b
    · have k1 := dK_is a a0 (by omega)
      have k2 := dK_is b (by omega) b1
      have k3 := dJ_is a a0 (by omega)
      have k4 := dJ_is b (by omega) b1
      have y1 := dR_bd a a0 (by omega)
      have y2 := dR_bd b (by omega) b1
      have k5 := k1.1
      have k6 := k2.1
      have k7 := k3.1
      have k8 := k4.1
      clear k1 k2 k3 k4
      by_cases hd : dR a < dR b
      · have l1 : dR a + 1 < dR b + 1 := by omega
        have e1 : max 1 (12 * (2000 + (dK b : Int) - (2000 + (dK a : Int))) + (1 + (dJ b : Int)) - (1 + (dJ a : Int)) + 1) = moF a b := by unfold moF moR; rw [if_pos hab, if_pos hd]; omega
        go_enter Try.func21, Try.ntmps21
        go_wp2_with (first | (go_at_call 42; refine (spec_l00In_any _ _ _ _).mono ?_; rintro e w' ⟨rfl, rfl⟩) | (go_at_call 43; refine (spec_l03Rate_any _ _).mono ?_; rintro e w' ⟨rfl, rfl⟩) | (go_at_call 44; refine (spec_l03Time_any _ _ _ _).mono ?_; rintro e w' ⟨rfl, rfl⟩) | (go_at_call 54; refine (spec_date _ _ (by omega) (by omega)).mono ?_; rintro e w' ⟨rfl, rfl⟩) | (go_at_call 50; refine (l00Max_anyP _ _ _).mono ?_; rintro e w' ⟨rfl, rfl⟩) | (go_at_call 51; refine (l00Min_anyP _ _ _).mono ?_; rintro e w' ⟨rfl, rfl⟩) | (go_at_call 55; refine (rounded_any _ _ _ _ c0 c1 (by omega) (by omega) (by omega) (by omega) (by assumption)).mono ?_; rintro e w' ⟨rfl, rfl⟩))
        go_ret2
        exact ⟨ret_ib2 HE.out.symm rfl, Below.refl _ _⟩
      · have l1 : ¬ dR a + 1 < dR b + 1 := by omega
        have e1 : max 1 (12 * (2000 + (dK b : Int) - (2000 + (dK a : Int))) + (1 + (dJ b : Int)) - (1 + (dJ a : Int))) = moF a b := by unfold moF moR; rw [if_pos hab, if_neg hd]; omega
        go_enter Try.func21, Try.ntmps21
        go_wp2_with (first | (go_at_call 42; refine (spec_l00In_any _ _ _ _).mono ?_; rintro e w' ⟨rfl, rfl⟩) | (go_at_call 43; refine (spec_l03Rate_any _ _).mono ?_; rintro e w' ⟨rfl, rfl⟩) | (go_at_call 44; refine (spec_l03Time_any _ _ _ _).mono ?_; rintro e w' ⟨rfl, rfl⟩) | (go_at_call 54; refine (spec_date _ _ (by omega) (by omega)).mono ?_; rintro e w' ⟨rfl, rfl⟩) | (go_at_call 50; refine (l00Max_anyP _ _ _).mono ?_; rintro e w' ⟨rfl, rfl⟩) | (go_at_call 51; refine (l00Min_anyP _ _ _).mono ?_; rintro e w' ⟨rfl, rfl⟩) | (go_at_call 55; refine (rounded_any _ _ _ _ c0 c1 (by omega) (by omega) (by omega) (by omega) (by assumption)).mono ?_; rintro e w' ⟨rfl, rfl⟩))
        go_ret2
        exact ⟨ret_ib2 HE.out.symm rfl, Below.refl _ _⟩
    · have e1 : moF a b = 0 := if_neg hab
      rw [e1, Int.mul_zero] at g1 HE
      rw [Int.mul_zero] at g1 HE
      clear e1
      have g3 : c * 0 / 10000 ≤ 1000000000000000000 := by omega
      go_enter Try.func21, Try.ntmps21
      go_wp2_with (first | (go_at_call 42; refine (spec_l00In_any _ _ _ _).mono ?_; rintro e w' ⟨rfl, rfl⟩) | (go_at_call 43; refine (spec_l03Rate_any _ _).mono ?_; rintro e w' ⟨rfl, rfl⟩) | (go_at_call 44; refine (spec_l03Time_any _ _ _ _).mono ?_; rintro e w' ⟨rfl, rfl⟩) | (go_at_call 51; refine (l00Min_anyP _ _ _).mono ?_; rintro e w' ⟨rfl, rfl⟩) | (go_at_call 55; refine (rounded_any _ _ _ _ c0 c1 (by omega) (by omega) (by omega) (by omega) (by first | assumption | omega)).mono ?_; rintro e w' ⟨rfl, rfl⟩))
      go_ret2
      exact ⟨ret_ib2 (by first | (rw [HE.out]; done) | (rw [HE.out]; simp)) rfl, Below.refl _ _⟩
end Go.Proofs.Ytiblnnianaaddaa
