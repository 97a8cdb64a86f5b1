/-
  What is asked of parts and of roundings, in plain numbers. Conditions as the laws say.
-/
import Derived.Test.YtnikfcaloielaaaSplitCents
import Derived.Test.YtnikfcaloielaaaSplitInTurn
import Derived.Test.YtnikfcaloielaaaEvenI
import Derived.Test.YtnikfcaloielaaaRoundPI
namespace Go.Proofs.Ytnikfcaloielaaa
open Go.RowKit
set_option linter.unusedVariables false

theorem gO_sum {q r : Nat → Int} {n : Nat} (hn : 0 < n) : ∀ j, sumTo (gO q r n j) n = sumTo q n + j := by
  intro j
  induction j with
  | zero => show sumTo q n = _; omega
  | succ j ih =>
    simp only [gO]
    rw [sumTo_upd, if_pos (gB_lt _ n hn), ih]
    omega
theorem sum_max {R : Nat → Int} {n : Nat} (h : 0 < sumTo (fun i => max (R i) 0) n) : ∃ i, i < n ∧ 0 < R i := by
  apply Classical.byContradiction
  intro hc
  have : ∀ m, m ≤ n → sumTo (fun i => max (R i) 0) m = 0 := by
    intro m
    induction m with
    | zero => intro _; rfl
    | succ m ih =>
      intro hm
      have h1 := ih (by omega)
      have h2 : ¬ 0 < R m := fun x => hc ⟨m, by omega, x⟩
      show sumTo (fun i => max (R i) 0) m + max (R m) 0 = 0
      omega
  have := this n (Nat.le_refl _)
  omega
theorem sum_ext {f g : Nat → Int} : ∀ n, (∀ i, i < n → f i = g i) → sumTo f n = sumTo g n := by
  intro n
  induction n with
  | zero => intro _; rfl
  | succ n ih =>
    intro h
    show sumTo f n + f n = sumTo g n + g n
    rw [ih (fun i hi => h i (by omega)), h n (by omega)]
theorem gR_sum {r : Nat → Int} {n : Nat} {s : Int} (hn : 0 < n) (hr : ∀ i, 0 ≤ r i ∧ r i < s) : ∀ j : Nat, sumTo r n - j * (s - 1) ≤ sumTo (fun i => max (gR r n j i) 0) n := by
  intro j
  induction j with
  | zero =>
    have : sumTo (fun i => max (gR r n 0 i) 0) n = sumTo r n := sum_ext n (fun i _ => by show max (r i) 0 = r i; have := hr i; omega)
    rw [this]
    omega
  | succ j ih =>
    have e : (fun i => max (gR r n (j + 1) i) 0) = upd (fun i => max (gR r n j i) 0) (gB (gR r n j) n) 0 := by
      funext i
      simp only [gR, upd]
      split <;> omega
    rw [e, sumTo_upd, if_pos (gB_lt _ n hn)]
    have h1 := gR_cases r n j (gB (gR r n j) n)
    have h2 := hr (gB (gR r n j) n)
    have h3 : ((j + 1 : Nat) : Int) * (s - 1) = j * (s - 1) + (s - 1) := by rw [show ((j + 1 : Nat) : Int) = (j : Int) + 1 by omega, Int.add_mul, Int.one_mul]
    rw [h3]
    omega
/-- No rest of 0 gets a cent, and none gets two. -/
theorem pt_picks {c : Int} {f : Nat → Int} {n : Nat} (hn : 0 < n) (hs : 0 < sumTo f n) : ∀ j : Nat, (j : Int) ≤ pL c f (sumTo f n) n → ∀ i, i < n →
    (gR (pR c f (sumTo f n)) n j i = pR c f (sumTo f n) i ∧ gO (pQ c f (sumTo f n)) (pR c f (sumTo f n)) n j i = pQ c f (sumTo f n) i) ∨
    (gR (pR c f (sumTo f n)) n j i = -1 ∧ gO (pQ c f (sumTo f n)) (pR c f (sumTo f n)) n j i = pQ c f (sumTo f n) i + 1 ∧ 0 < pR c f (sumTo f n) i) := by
  intro j
  induction j with
  | zero => intro _ i _; exact .inl ⟨rfl, rfl⟩
  | succ j ih =>
    intro hj i hi
    have I := ih (by omega)
    have hr : ∀ i, 0 ≤ pR c f (sumTo f n) i ∧ pR c f (sumTo f n) i < sumTo f n := fun i => pR_bd hs i
    have T := gR_sum hn hr j
    have e := pL_eq (c := c) (f := f) (s := sumTo f n) n
    have eL : sumTo (pR c f (sumTo f n)) n = sumTo f n * pL c f (sumTo f n) n := by
      unfold pL
      rw [Int.mul_sub, Int.mul_comm (sumTo f n) c]
      omega
    have g1 : sumTo f n * ((j : Int) + 1) ≤ sumTo f n * pL c f (sumTo f n) n := Int.mul_le_mul_of_nonneg_left (by omega) (by omega)
    have g2 : (j : Int) * (sumTo f n - 1) = sumTo f n * j - j := by rw [Int.mul_sub, Int.mul_one, Int.mul_comm]
    rw [Int.mul_add, Int.mul_one] at g1
    have pos : 0 < sumTo (fun i => max (gR (pR c f (sumTo f n)) n j i) 0) n := by omega
    obtain ⟨i0, h1, h2⟩ := sum_max pos
    have B := gB_best (gR (pR c f (sumTo f n)) n j) n hn
    have hb : 0 < gR (pR c f (sumTo f n)) n j (gB (gR (pR c f (sumTo f n)) n j) n) := by
      by_cases e : i0 = gB (gR (pR c f (sumTo f n)) n j) n
      · rw [← e]; exact h2
      · have := B.2 i0 h1 e; omega
    simp only [gR, gO]
    by_cases e : i = gB (gR (pR c f (sumTo f n)) n j) n
    · rw [← e] at hb ⊢
      rw [upd_at, upd_at]
      rcases I i hi with ⟨x1, x2⟩ | ⟨x1, _⟩
      · exact .inr ⟨rfl, by rw [x2], by omega⟩
      · omega
    · rw [upd_ne _ _ e, upd_ne _ _ e]
      exact I i hi
theorem pt_is {c : Int} {f : Nat → Int} {n : Nat} (hn : 0 < n) (hs : 0 < sumTo f n) : sumTo (ptO c f n) n = c ∧ ∀ i, i < n → ptO c f n i = pQ c f (sumTo f n) i ∨ (ptO c f n i = pQ c f (sumTo f n) i + 1 ∧ 0 < pR c f (sumTo f n) i) := by
  have b := pL_bd (c := c) hn hs
  constructor
  · unfold ptO
    rw [gO_sum hn]
    unfold pL at *
    omega
  · intro i hi
    rcases pt_picks (c := c) hn hs (pL c f (sumTo f n) n).toNat (by omega) i hi with ⟨_, x⟩ | ⟨_, x, y⟩
    · exact .inl x
    · exact .inr ⟨x, y⟩

theorem sit_zero {f : Nat → Int} {n : Nat} {c : Int} (hf : ∀ i, i < n → 0 ≤ f i) (hs : 0 < sumTo f n) : ∀ k, k ≤ n → sumTo f n - sumTo f k = 0 → sitC f n c k = 0 := by
  intro k
  induction k with
  | zero => intro _ h; simp [sumTo] at h; omega
  | succ k ih =>
    intro hk h
    have e : sumTo f (k + 1) = sumTo f k + f k := rfl
    have h0 := hf k (by omega)
    simp only [sitC]
    by_cases h1 : 0 < sumTo f n - sumTo f k
    · rw [if_pos h1]
      have e2 : f k = sumTo f n - sumTo f k := by omega
      rw [e2]
      generalize sumTo f n - sumTo f k = S at *
      rw [rnd_one_no (by rw [Int.mul_emod_left]; omega), Int.mul_ediv_cancel _ (by omega)]
      omega
    · rw [if_neg h1, ih (by omega) (by omega)]
      rfl
theorem sit_sum {f : Nat → Int} {n : Nat} {c : Int} : ∀ k, sumTo (sitP f n c) k = c - sitC f n c k := by
  intro k
  induction k with
  | zero => show (0 : Int) = c - c; omega
  | succ k ih =>
    show sumTo (sitP f n c) k + sitP f n c k = _
    rw [ih]
    simp only [sitC, sitP]
    omega
theorem sit_all {f : Nat → Int} {n : Nat} {c : Int} (hf : ∀ i, i < n → 0 ≤ f i) (hs : 0 < sumTo f n) : sumTo (sitP f n c) n = c := by
  rw [sit_sum, sit_zero hf hs n (Nat.le_refl _) (by omega)]
  omega

def evF (c n : Int) (i : Nat) : Int := c / n + if (i : Int) < c % n then 1 else 0
theorem even_tab (c n : Int) : ∀ k, evenTo c n k = tab (evF c n) k := by
  intro k
  induction k with
  | zero => rfl
  | succ k ih => rw [tab, evenTo, ih]; rfl
theorem even_sum (c : Int) (m : Nat) (hm : 0 < m) : sumTo (evF c m) m = c := by
  have e := Int.emod_nonneg c (show (m : Int) ≠ 0 by omega)
  have e1 := Int.emod_lt_of_pos c (show (0 : Int) < m by omega)
  have key : ∀ k : Nat, sumTo (evF c m) k = k * (c / m) + min (k : Int) (c % m) := by
    intro k
    induction k with
    | zero => simp [sumTo]; omega
    | succ k ih =>
      show sumTo (evF c m) k + evF c m k = _
      have h3 : ((k + 1 : Nat) : Int) * (c / m) = k * (c / m) + c / m := by rw [show ((k + 1 : Nat) : Int) = (k : Int) + 1 by omega, Int.add_mul, Int.one_mul]
      rw [ih, h3]
      unfold evF
      split <;> omega
  rw [key]
  have := Int.mul_ediv_add_emod c m
  omega
theorem even_step (c : Int) (m : Nat) (k : Nat) : evF c m (k + 1) ≤ evF c m k := by unfold evF; split <;> split <;> omega
theorem even_first (c : Int) (m : Nat) (k : Nat) : evF c m 0 - evF c m k ≤ 1 := by unfold evF; split <;> split <;> omega
theorem even_bd {c : Int} {m : Nat} (hm : 0 < m) (c0 : 0 ≤ c) (k : Nat) : 0 ≤ evF c m k ∧ evF c m k ≤ c + 1 := by
  have h0 := Int.ediv_nonneg c0 (show (0 : Int) ≤ m by omega)
  have h1 : c / m ≤ c := Int.ediv_le_self _ c0
  unfold evF
  split <;> omega

/-- What roundings are. -/
structure RpIs (x n D N E PD PN PE : Int) : Prop where
  d0 : PD ≤ x
  d1 : x < PD + n
  n0 : 2 * (PN - x) ≤ n
  n1 : 2 * (x - PN) ≤ n
  e0 : 2 * (PE - x) ≤ n
  e1 : 2 * (x - PE) ≤ n
  tie : 2 * (x - PD) = n → E % 2 = 0 ∧ (0 < x ↔ D < N)
theorem rp_is {x n : Int} (hn : 1 ≤ n) : RpIs x n (rp x n 0) (rp x n 1) (rp x n 2) (rp x n 0 * n) (rp x n 1 * n) (rp x n 2 * n) := by
  have e := Int.mul_ediv_add_emod x n
  have m0 := Int.emod_nonneg x (show n ≠ 0 by omega)
  have m1 := Int.emod_lt_of_pos x (show 0 < n by omega)
  rw [rp0, rp1, rp2]
  have p1 : (x / n + 1) * n = n * (x / n) + n := by rw [Int.add_mul, Int.one_mul, Int.mul_comm]
  have p0 : (x / n + 0) * n = n * (x / n) := by rw [Int.add_zero, Int.mul_comm]
  have p2 : x / n * n = n * (x / n) := Int.mul_comm _ _
  generalize n * (x / n) = P at *
  constructor
  · omega
  · omega
  · split
    · rw [p1]; omega
    · rw [p0]; omega
  · split
    · rw [p1]; omega
    · rw [p0]; omega
  · split
    · rw [p1]; omega
    · rw [p0]; omega
  · split
    · rw [p1]; omega
    · rw [p0]; omega
  · intro ht
    constructor
    · split <;> omega
    · split <;> omega
end Go.Proofs.Ytnikfcaloielaaa
