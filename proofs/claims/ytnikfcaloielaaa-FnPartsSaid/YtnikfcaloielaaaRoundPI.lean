/-
  impl.RoundPart and spec.RoundPart answer alike: every number. No condition.
-/
import Derived.Test.YtnikfcaloielaaaSmall
import Derived.Test.YtnikfcaloielaaaNearest
namespace Go.Proofs.Ytnikfcaloielaaa
open Go.RowKit
set_option linter.unusedVariables false

def rpUp (x n k : Int) : Bool := (decide (k = 1) && (decide (n < 2 * (x % n)) || (decide (2 * (x % n) = n) && decide (0 < x)))) || (decide (k = 2) && (decide (n < 2 * (x % n)) || (decide (2 * (x % n) = n) && decide (x / n % 2 = 1))))
def rp (x n k : Int) : Int := x / n + if rpUp x n k then 1 else 0
def RoundPart_r1 (c b n k : Int) : Bool := win c (-1000000000) 1000000000 && win b 0 1000000 && win n 1 1000000 && win k 0 2
def RoundPart_r0 (c b n k : Int) : Int := if RoundPart_r1 c b n k then rp (c * b) n k else 0

/-- Quotient and remainder of a number below 0. -/
theorem neg_quo (x n : Int) (hx : x < 0) (hn : 1 ≤ n) : ((-x) % n = 0 ∧ x / n = -((-x) / n) ∧ x % n = 0) ∨ (0 < (-x) % n ∧ (-x) % n < n ∧ x / n = -((-x) / n) - 1 ∧ x % n = n - (-x) % n) := by
  have h1 := Int.emod_nonneg (-x) (show n ≠ 0 by omega)
  have h2 := Int.emod_lt_of_pos (-x) (show 0 < n by omega)
  have h3 := Int.emod_add_mul_ediv (-x) n
  by_cases h : (-x) % n = 0
  · left
    have := (Int.ediv_emod_unique (a := x) (b := n) (r := 0) (q := -((-x) / n)) (by omega)).2 ⟨by rw [Int.mul_neg]; omega, by omega, by omega⟩
    exact ⟨h, this.1, this.2⟩
  · right
    have := (Int.ediv_emod_unique (a := x) (b := n) (r := n - (-x) % n) (q := -((-x) / n) - 1) (by omega)).2 ⟨by rw [Int.mul_sub, Int.mul_neg, Int.mul_one]; omega, by omega, by omega⟩
    exact ⟨by omega, h2, this.1, this.2⟩
theorem up3 (a b : Int) : rnd a b 3 = a / b + if 0 < a % b then 1 else 0 := by simp [rnd, up]
theorem up1 (a b : Int) : rnd a b 1 = a / b + if b - a % b ≤ a % b then 1 else 0 := by simp [rnd, up]
theorem up2 (a b : Int) : rnd a b 2 = a / b + if b - a % b < a % b ∨ a % b = b - a % b ∧ a / b % 2 = 1 then 1 else 0 := by simp [rnd, up]
theorem rp0 (x n : Int) : rp x n 0 = x / n := by simp [rp, rpUp]
theorem rp1 (x n : Int) : rp x n 1 = x / n + if n < 2 * (x % n) ∨ 2 * (x % n) = n ∧ 0 < x then 1 else 0 := by simp [rp, rpUp]
theorem rp2 (x n : Int) : rp x n 2 = x / n + if n < 2 * (x % n) ∨ 2 * (x % n) = n ∧ x / n % 2 = 1 then 1 else 0 := by simp [rp, rpUp]
theorem rp0_neg (x n : Int) (hx : x < 0) (hn : 1 ≤ n) : -(rnd (-x) n 3) = rp x n 0 := by
  rw [up3, rp0]
  rcases neg_quo x n hx hn with ⟨h1, h2, h3⟩ | ⟨h1, h2, h3, h4⟩ <;> split <;> omega
theorem rp1_neg (x n : Int) (hx : x < 0) (hn : 1 ≤ n) : -(rnd (-x) n 1) = rp x n 1 := by
  rw [up1, rp1]
  rcases neg_quo x n hx hn with ⟨h1, h2, h3⟩ | ⟨h1, h2, h3, h4⟩ <;> split <;> split <;> omega
theorem rp2_neg (x n : Int) (hx : x < 0) (hn : 1 ≤ n) : -(rnd (-x) n 2) = rp x n 2 := by
  rw [up2, rp2]
  rcases neg_quo x n hx hn with ⟨h1, h2, h3⟩ | ⟨h1, h2, h3, h4⟩ <;> split <;> split <;> omega
theorem rp1_pos (x n : Int) (hx : 0 ≤ x) (hn : 1 ≤ n) : rnd x n 1 = rp x n 1 := by
  rw [up1, rp1]
  have h3 := Int.emod_add_mul_ediv x n
  by_cases hz : x = 0
  · subst hz; simp; omega
  · split <;> split <;> omega
theorem rp2_pos (x n : Int) (hx : 0 ≤ x) (hn : 1 ≤ n) : rnd x n 2 = rp x n 2 := by
  rw [up2, rp2]
  split <;> split <;> omega
theorem nrst_rp (x n : Int) (hn : 1 ≤ n) : nrst x n = rp x n 1 := by
  unfold nrst
  split
  · exact rp1_neg x n (by omega) hn
  · exact rp1_pos x n (by omega) hn

/-- What Go's own quotient and remainder are. -/
theorem go_quo (x n : Int) (hn : 1 ≤ n) : (x.tmod n < 0 ∧ x / n = x.tdiv n - 1 ∧ x % n = x.tmod n + n ∧ -n < x.tmod n) ∨ (0 ≤ x.tmod n ∧ x / n = x.tdiv n ∧ x % n = x.tmod n ∧ x.tmod n < n) := by
  by_cases hx : 0 ≤ x
  · right
    rw [Int.tmod_eq_emod_of_nonneg hx, Int.tdiv_eq_ediv_of_nonneg hx]
    exact ⟨Int.emod_nonneg _ (by omega), rfl, rfl, Int.emod_lt_of_pos _ (by omega)⟩
  · have e1 : x.tdiv n = -((-x) / n) := by
      rw [← Int.tdiv_eq_ediv_of_nonneg (show 0 ≤ -x by omega), Int.neg_tdiv, Int.neg_neg]
    have e2 : x.tmod n = -((-x) % n) := by
      rw [← Int.tmod_eq_emod_of_nonneg (show 0 ≤ -x by omega), Int.neg_tmod, Int.neg_neg]
    rw [e1, e2]
    rcases neg_quo x n (by omega) hn with ⟨h1, h2, h3⟩ | ⟨h1, h2, h3, h4⟩
    · right; omega
    · left; omega
theorem tmod_two (z : Int) : z.tmod 2 = 0 ↔ z % 2 = 0 := by
  rcases go_quo z 2 (by omega) with ⟨h1, h2, h3, h4⟩ | ⟨h1, h2, h3, h4⟩ <;> omega
theorem quo_bd (x n : Int) (h0 : -1000000000000000 ≤ x) (h1 : x ≤ 1000000000000000) (hn : 1 ≤ n) : -1000000000000000 ≤ x.tdiv n ∧ x.tdiv n ≤ 1000000000000000 := by
  by_cases hx : 0 ≤ x
  · rw [Int.tdiv_eq_ediv_of_nonneg hx]
    have := Int.ediv_nonneg hx (show 0 ≤ n by omega)
    have := Int.ediv_le_self n hx
    omega
  · have e1 : x.tdiv n = -((-x) / n) := by
      rw [← Int.tdiv_eq_ediv_of_nonneg (show 0 ≤ -x by omega), Int.neg_tdiv, Int.neg_neg]
    rw [e1]
    have := Int.ediv_nonneg (show 0 ≤ -x by omega) (show 0 ≤ n by omega)
    have := Int.ediv_le_self n (show 0 ≤ -x by omega)
    omega
theorem prod_bd (c b : Int) (b0 : -1000000000 ≤ c) (b1 : c ≤ 1000000000) (b2 : 0 ≤ b) (b3 : b ≤ 1000000) : -1000000000000000 ≤ c * b ∧ c * b ≤ 1000000000000000 := by
  have h1 : c * b ≤ 1000000000 * b := Int.mul_le_mul_of_nonneg_right b1 b2
  have h2 : -1000000000 * b ≤ c * b := Int.mul_le_mul_of_nonneg_right b0 b2
  omega

/-- How the tests fall where one does not hold. -/
theorem RoundPart_no {c b n k : Int} (h : RoundPart_r1 c b n k = false) : win c (-1000000000) 1000000000 = false ∨ win c (-1000000000) 1000000000 = true ∧ (win b 0 1000000 = false ∨ win b 0 1000000 = true ∧ (win n 1 1000000 = false ∨ win n 1 1000000 = true ∧ win k 0 2 = false)) := by
  revert h; unfold RoundPart_r1
  cases win c (-1000000000) 1000000000 <;> cases win b 0 1000000 <;> cases win n 1 1000000 <;> cases win k 0 2 <;> simp
theorem RoundPart_yes {c b n k : Int} (h : RoundPart_r1 c b n k = true) : win c (-1000000000) 1000000000 = true ∧ win b 0 1000000 = true ∧ win n 1 1000000 = true ∧ win k 0 2 = true := by
  revert h; unfold RoundPart_r1
  cases win c (-1000000000) 1000000000 <;> cases win b 0 1000000 <;> cases win n 1 1000000 <;> cases win k 0 2 <;> simp

theorem RoundPart_impl (c b n k : Int) (w : World) : Calls Try.prog 26 #[.int .i64 c, .int .i64 b, .int .i64 n, .int .i64 k] w (RetV w (.tuple #[.int .i64 (RoundPart_r0 c b n k), .bool (RoundPart_r1 c b n k)])) := by
  by_cases h : RoundPart_r1 c b n k = false
  · have e0 : RoundPart_r0 c b n k = 0 := by simp [RoundPart_r0, h]
    rw [e0, h]
    clear e0
    rcases RoundPart_no h with h1 | ⟨h1, h2 | ⟨h2, h3 | ⟨h3, h4⟩⟩⟩
    all_goals
      clear h
      go_enter Try.func26, Try.ntmps26
      go_wp2_with (first | (go_at_call 52; refine (impl_within_any _ _ _ _).mono ?_; rintro e w' ⟨rfl, rfl⟩))
      go_ret2
      exact ⟨rfl, Below.refl _ _⟩
  · have e1 : RoundPart_r1 c b n k = true := by simpa using h
    obtain ⟨h1, h2, h3, h4⟩ := RoundPart_yes e1
    have e0 : RoundPart_r0 c b n k = rp (c * b) n k := by simp [RoundPart_r0, e1]
    rw [e0, e1]
    clear e0 e1 h
    obtain ⟨b0, b1⟩ := win_iff.1 h1
    obtain ⟨b2, b3⟩ := win_iff.1 h2
    obtain ⟨b4, b5⟩ := win_iff.1 h3
    obtain ⟨b6, b7⟩ := win_iff.1 h4
    obtain ⟨p0, p1⟩ := prod_bd c b b0 b1 b2 b3
    obtain ⟨X, hX⟩ : ∃ X, c * b = X := ⟨_, rfl⟩
    rw [hX] at p0 p1 ⊢
    rcases (show k = 0 ∨ k = 1 ∨ k = 2 by omega) with rfl | rfl | rfl
    · by_cases hx : X < 0
      · have HE := Lib.hid (rp0_neg X n hx b4)
        have k1 := rnd_bd (-X) n 3 (by omega) b4
        have k2 := rnd_le (-X) n 3 (by omega) b4
        go_enter Try.func26, Try.ntmps26
        go_wp2_with (first | (go_at_call 52; refine (impl_within_any _ _ _ _).mono ?_; rintro e w' ⟨rfl, rfl⟩) | (go_at_call 55; refine (impl_rounded _ _ _ _ (by omega) (by omega) (by omega) (by omega)).mono ?_; rintro e w' ⟨rfl, m, rfl⟩))
        go_ret2
        exact ⟨ret_ib HE.out, Below.drewN' (Below.refl _ _) _⟩
      · have HE := Lib.hid (rp0 X n)
        have k1 : 0 ≤ X / n := Int.ediv_nonneg (by omega) (by omega)
        have k2 : X / n ≤ X := Int.ediv_le_self _ (by omega)
        go_enter Try.func26, Try.ntmps26
        go_wp2_with (first | (go_at_call 52; refine (impl_within_any _ _ _ _).mono ?_; rintro e w' ⟨rfl, rfl⟩))
        go_ret2
        exact ⟨ret_ib HE.out.symm, Below.refl _ _⟩
    · have HE := Lib.hid (nrst_rp X n b4)
      go_enter Try.func26, Try.ntmps26
      go_wp2_with (first | (go_at_call 52; refine (impl_within_any _ _ _ _).mono ?_; rintro e w' ⟨rfl, rfl⟩) | (go_at_call 39; refine (impl_nearest _ _ _ (by omega) (by omega) (by omega) (by omega)).mono ?_; rintro e w' ⟨rfl, m, rfl⟩))
      go_ret2
      exact ⟨ret_ib HE.out, Below.drewN' (Below.refl _ _) _⟩
    · by_cases hx : X < 0
      · have HE := Lib.hid (rp2_neg X n hx b4)
        have k1 := rnd_bd (-X) n 2 (by omega) b4
        have k2 := rnd_le (-X) n 2 (by omega) b4
        go_enter Try.func26, Try.ntmps26
        go_wp2_with (first | (go_at_call 52; refine (impl_within_any _ _ _ _).mono ?_; rintro e w' ⟨rfl, rfl⟩) | (go_at_call 55; refine (impl_rounded _ _ _ _ (by omega) (by omega) (by omega) (by omega)).mono ?_; rintro e w' ⟨rfl, m, rfl⟩))
        go_ret2
        exact ⟨ret_ib HE.out, Below.drewN' (Below.refl _ _) _⟩
      · have HE := Lib.hid (rp2_pos X n (by omega) b4)
        go_enter Try.func26, Try.ntmps26
        go_wp2_with (first | (go_at_call 52; refine (impl_within_any _ _ _ _).mono ?_; rintro e w' ⟨rfl, rfl⟩) | (go_at_call 55; refine (impl_rounded _ _ _ _ (by omega) (by omega) (by omega) (by omega)).mono ?_; rintro e w' ⟨rfl, m, rfl⟩))
        go_ret2
        exact ⟨ret_ib HE.out, Below.drewN' (Below.refl _ _) _⟩

end Go.Proofs.Ytnikfcaloielaaa
