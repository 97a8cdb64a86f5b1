/-
  How balances are settled, in plain numbers. No program in sight. No condition.
-/
import Derived.Test.YtcpjbnfmkhaadaaAllW
import Derived.Test.YtcpjbnfmkhaadaaKept
namespace Go.Proofs.Ytcpjbnfmkhaadaa
open Go.RowKit
set_option linter.unusedVariables false

/-- The first of the least, the first of the greatest. -/
def amn (b : Nat → Int) : Nat → Nat
  | 0 => 0
  | k + 1 => if b k < b (amn b k) then k else amn b k
def amx (b : Nat → Int) : Nat → Nat
  | 0 => 0
  | k + 1 => if b (amx b k) < b k then k else amx b k
theorem amn_lt (b : Nat → Int) : ∀ k, amn b k ≤ k ∧ (0 < k → amn b k < k) := by
  intro k
  induction k with
  | zero => simp [amn]
  | succ k ih =>
    simp only [amn]
    split
    · omega
    · rcases Nat.eq_zero_or_pos k with h | h
      · subst h; simp [amn]
      · have := ih.2 h; omega
theorem amx_lt (b : Nat → Int) : ∀ k, amx b k ≤ k ∧ (0 < k → amx b k < k) := by
  intro k
  induction k with
  | zero => simp [amx]
  | succ k ih =>
    simp only [amx]
    split
    · omega
    · rcases Nat.eq_zero_or_pos k with h | h
      · subst h; simp [amx]
      · have := ih.2 h; omega
theorem amn_le (b : Nat → Int) : ∀ k j, j < k → b (amn b k) ≤ b j := by
  intro k
  induction k with
  | zero => intro j h; omega
  | succ k ih =>
    intro j hj
    simp only [amn]
    rcases Nat.lt_succ_iff_lt_or_eq.1 hj with h | rfl
    · have := ih j h
      split <;> omega
    · split <;> omega
theorem amx_le (b : Nat → Int) : ∀ k j, j < k → b j ≤ b (amx b k) := by
  intro k
  induction k with
  | zero => intro j h; omega
  | succ k ih =>
    intro j hj
    simp only [amx]
    rcases Nat.lt_succ_iff_lt_or_eq.1 hj with h | rfl
    · have := ih j h
      split <;> omega
    · split <;> omega
theorem amn_first (b : Nat → Int) : ∀ k j, j < amn b k → b (amn b k) < b j := by
  intro k
  induction k with
  | zero => intro j h; simp [amn] at h
  | succ k ih =>
    intro j hj
    have hb := (amn_lt b k).1
    by_cases h : b k < b (amn b k)
    · simp only [amn, if_pos h] at hj ⊢
      rcases Nat.lt_or_ge j k with h1 | h1
      · have := amn_le b k j h1; omega
      · omega
    · simp only [amn, if_neg h] at hj ⊢
      exact ih j hj
theorem amx_first (b : Nat → Int) : ∀ k j, j < amx b k → b j < b (amx b k) := by
  intro k
  induction k with
  | zero => intro j h; simp [amx] at h
  | succ k ih =>
    intro j hj
    have hb := (amx_lt b k).1
    by_cases h : b (amx b k) < b k
    · simp only [amx, if_pos h] at hj ⊢
      rcases Nat.lt_or_ge j k with h1 | h1
      · have := amx_le b k j h1; omega
      · omega
    · simp only [amx, if_neg h] at hj ⊢
      exact ih j hj
theorem amn_min (b : Nat → Int) (k : Nat) : min (b (amn b k)) (b k) = b (amn b (k + 1)) := by simp only [amn]; split <;> omega
theorem amx_max (b : Nat → Int) (k : Nat) : max (b (amx b k)) (b k) = b (amx b (k + 1)) := by simp only [amx]; split <;> omega

theorem sumTo_upd (f : Nat → Int) (k : Nat) (y : Int) : ∀ n, sumTo (upd f k y) n = sumTo f n + (if k < n then y - f k else 0) := by
  intro n
  induction n with
  | zero => simp [sumTo]
  | succ n ih =>
    simp only [sumTo, ih]
    by_cases h : n = k
    · subst h; rw [upd_at, if_neg (by omega), if_pos (by omega)]; omega
    · rw [upd_ne _ _ h]
      by_cases h2 : k < n
      · rw [if_pos h2, if_pos (by omega)]; omega
      · rw [if_neg h2, if_neg (by omega)]; omega
theorem sumTo_ge {f : Nat → Int} : ∀ n, (∀ i, i < n → 0 ≤ f i) → ∀ i, i < n → f i ≤ sumTo f n := by
  intro n
  induction n with
  | zero => intro _ i h; omega
  | succ n ih =>
    intro h i hi
    have h0 := sumTo_nonneg (n := n) (fun i hi => h i (by omega)) n (Nat.le_refl _)
    have h1 := h n (by omega)
    simp only [sumTo]
    rcases Nat.lt_succ_iff_lt_or_eq.1 hi with h2 | rfl
    · have := ih (fun i hi => h i (by omega)) i h2; omega
    · omega
theorem sumTo_le {f : Nat → Int} : ∀ n, (∀ i, i < n → f i ≤ 0) → ∀ i, i < n → sumTo f n ≤ f i := by
  have neg : ∀ n, sumTo (fun i => -(f i)) n = -(sumTo f n) := by
    intro n
    induction n with
    | zero => rfl
    | succ n ih => simp only [sumTo, ih]; omega
  intro n h i hi
  have := sumTo_ge (f := fun i => -(f i)) n (fun i hi => by have := h i hi; omega) i hi
  rw [neg] at this
  omega
/-- How many are not 0. -/
def nzi (y : Int) : Nat := if y = 0 then 0 else 1
theorem nzi_le (y : Int) : nzi y ≤ 1 := by unfold nzi; split <;> omega
theorem nzi_no {y : Int} (h : y = 0) : nzi y = 0 := if_pos h
theorem nzi_yes {y : Int} (h : y ≠ 0) : nzi y = 1 := if_neg h
def nz (b : Nat → Int) : Nat → Nat
  | 0 => 0
  | k + 1 => nz b k + nzi (b k)
theorem nz_far (f : Nat → Int) (k : Nat) (y : Int) : ∀ n, n ≤ k → nz (upd f k y) n = nz f n := by
  intro n
  induction n with
  | zero => intro _; rfl
  | succ n ih => intro h; simp only [nz, ih (by omega)]; rw [upd_ne _ _ (by omega)]
theorem nz_upd (f : Nat → Int) (k : Nat) (y : Int) : ∀ n, k < n → nz (upd f k y) n + nzi (f k) = nz f n + nzi y := by
  intro n
  induction n with
  | zero => intro h; omega
  | succ n ih =>
    intro hk
    simp only [nz]
    by_cases h : n = k
    · subst h
      rw [nz_far f n y n (Nat.le_refl _), upd_at]
      omega
    · rw [upd_ne _ _ h]
      have := ih (by omega)
      omega
theorem nz_le (b : Nat → Int) : ∀ n, nz b n ≤ n := by
  intro n
  induction n with
  | zero => exact Nat.le_refl _
  | succ n ih => have := nzi_le (b n); simp only [nz]; omega

/-- What one settles, and what is left then. -/
def setX (b : Nat → Int) (n : Nat) : Int := min (-(b (amn b n))) (b (amx b n))
def setB (b : Nat → Int) (n : Nat) : Nat → Int := upd (upd b (amn b n) (b (amn b n) + setX b n)) (amx b n) (b (amx b n) - setX b n)
def setOut (n : Nat) : Nat → (Nat → Int) → List Int → List Int
  | 0, _, out => out
  | k + 1, b, out => if b (amx b n) = 0 then out else setOut n k (setB b n) (out ++ [((amn b n : Nat) : Int), ((amx b n : Nat) : Int), setX b n])
/-- Balances that are to be settled. -/
structure SetIs (b : Nat → Int) (n g : Nat) : Prop where
  r : ∀ i, i < n → -1000000000 ≤ b i ∧ b i ≤ 1000000000
  s : sumTo b n = 0
  z : nz b n < g
theorem set_end {b : Nat → Int} {n g : Nat} (h : SetIs b n g) (hn : 0 < n) (h0 : b (amx b n) = 0) : b (amn b n) = 0 := by
  have h1 := amx_le b n
  have h2 := sumTo_le (f := b) n (fun i hi => by have := h1 i hi; omega) (amn b n) ((amn_lt b n).2 hn)
  have h3 := h1 (amn b n) ((amn_lt b n).2 hn)
  have := h.s
  omega
theorem set_more {b : Nat → Int} {n g : Nat} (h : SetIs b n g) (hn : 0 < n) (h0 : b (amx b n) ≠ 0) : b (amn b n) < 0 ∧ 0 < b (amx b n) ∧ amn b n ≠ amx b n := by
  have h1 := amx_le b n
  have hl := (amn_lt b n).2 hn
  have hx := (amx_lt b n).2 hn
  have h4 : 0 < b (amx b n) := by
    rcases Int.lt_or_le 0 (b (amx b n)) with h5 | h5
    · exact h5
    · have h2 := sumTo_le (f := b) n (fun i hi => by have := h1 i hi; omega) (amx b n) hx
      have := h.s
      omega
  have h5 : b (amn b n) < 0 := by
    rcases Int.lt_or_le (b (amn b n)) 0 with h5 | h5
    · exact h5
    · have h6 := amn_le b n
      have h2 := sumTo_ge (f := b) n (fun i hi => by have := h6 i hi; omega) (amx b n) hx
      have := h.s
      omega
  exact ⟨h5, h4, fun e => by rw [e] at h5; omega⟩
theorem set_next {b : Nat → Int} {n g : Nat} (h : SetIs b n (g + 1)) (hn : 0 < n) (h0 : b (amx b n) ≠ 0) : SetIs (setB b n) n g := by
  obtain ⟨h1, h2, h3⟩ := set_more h hn h0
  have hl := (amn_lt b n).2 hn
  have hx := (amx_lt b n).2 hn
  have e : setX b n = min (-(b (amn b n))) (b (amx b n)) := rfl
  have r1 := h.r _ hl
  have r2 := h.r _ hx
  have u1 := upd_ne b (b (amn b n) + setX b n) (Ne.symm h3)
  refine ⟨fun i hi => ?_, ?_, ?_⟩
  · have := h.r i hi
    unfold setB upd
    split
    · omega
    · split <;> omega
  · unfold setB
    rw [sumTo_upd, sumTo_upd, if_pos hl, if_pos hx, u1, h.s]
    omega
  · have a := nz_upd b (amn b n) (b (amn b n) + setX b n) n hl
    have c := nz_upd (upd b (amn b n) (b (amn b n) + setX b n)) (amx b n) (b (amx b n) - setX b n) n hx
    rw [u1] at c
    have hz := h.z
    unfold setB
    rw [nzi_yes (show b (amn b n) ≠ 0 by omega)] at a
    rw [nzi_yes (show b (amx b n) ≠ 0 by omega)] at c
    by_cases hq : b (amn b n) + setX b n = 0
    · rw [nzi_no hq] at a
      have := nzi_le (b (amx b n) - setX b n)
      omega
    · rw [nzi_yes hq] at a
      rw [nzi_no (show b (amx b n) - setX b n = 0 by omega)] at c
      omega
def stlOk (f : Nat → Int) (n : Nat) : Bool := cntB f n 1 12 (-1000000000) 1000000000 && decide (sumTo f n = 0)
def stlL (f : Nat → Int) (n : Nat) : List Int := bif stlOk f n then setOut n (n + 1) f [] else []
theorem stl_no {f : Nat → Int} {n : Nat} (h : stlOk f n = false) : stlL f n = [] := by simp only [stlL, h, cond_false]
theorem stl_yes {f : Nat → Int} {n : Nat} (h : stlOk f n = true) : stlL f n = setOut n (n + 1) f [] := by simp only [stlL, h, cond_true]
theorem stl_is {f : Nat → Int} {n : Nat} (h : stlOk f n = true) : 0 < n ∧ n ≤ 12 ∧ SetIs f n (n + 1) := by
  obtain ⟨h1, h2⟩ := all_yes2 h
  obtain ⟨⟨a, b⟩, c⟩ := cntB_iff.1 h1
  have := nz_le f n
  exact ⟨by omega, by omega, c, of_decide_eq_true h2, by omega⟩
def SettleAccounts_r0 (xs : List Int) : List Int := stlL (fun i => xs.getD i 0) xs.length
def SettleAccounts_r1 (xs : List Int) : Bool := stlOk (fun i => xs.getD i 0) xs.length
end Go.Proofs.Ytcpjbnfmkhaadaa
