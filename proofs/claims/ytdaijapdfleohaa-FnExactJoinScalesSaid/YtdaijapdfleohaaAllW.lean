/-
  Whether all of some numbers lie in a range, and their sum. No program in sight. No condition.
-/
import Derived.Test.YtdaijapdfleohaaBase
namespace Go.Proofs.Ytdaijapdfleohaa
open Go.RowKit

/-- Whether the first n numbers lie in a range. -/
def allW (f : Nat → Int) (l h : Int) : Nat → Bool
  | 0 => true
  | k + 1 => allW f l h k && win (f k) l h
theorem allW_iff {f : Nat → Int} {l h : Int} {n : Nat} : allW f l h n = true ↔ ∀ i, i < n → l ≤ f i ∧ f i ≤ h := by
  induction n with
  | zero => simp [allW]
  | succ n ih =>
    simp only [allW, Bool.and_eq_true, ih, win_iff]
    constructor
    · rintro ⟨h1, h2⟩ i hi
      rcases Nat.lt_succ_iff_lt_or_eq.1 hi with h3 | rfl
      · exact h1 i h3
      · exact h2
    · exact fun h => ⟨fun i hi => h i (by omega), h n (by omega)⟩
theorem allW_false {f : Nat → Int} {l h : Int} {n : Nat} (k : Nat) (hk : k < n) (hf : win (f k) l h = false) : allW f l h n = false := by
  cases ha : allW f l h n
  · rfl
  · have := win_iff.2 (allW_iff.1 ha k hk)
    rw [hf] at this; cases this
theorem allW_succ {f : Nat → Int} {l h : Int} {k : Nat} (h1 : allW f l h k = true) (h2 : win (f k) l h = true) : allW f l h (k + 1) = true := by simp [allW, h1, h2]

/-- Whether there are so many numbers, all of them in a range. -/
def cntB (f : Nat → Int) (n : Nat) (a b l h : Int) : Bool := win n a b && allW f l h n
theorem cntB_iff {f : Nat → Int} {n : Nat} {a b l h : Int} : cntB f n a b l h = true ↔ (a ≤ n ∧ (n : Int) ≤ b) ∧ ∀ i, i < n → l ≤ f i ∧ f i ≤ h := by
  simp only [cntB, Bool.and_eq_true, win_iff, allW_iff]

theorem cnt_no {f : Nat → Int} {n : Nat} {a b l h : Int} (z : win n a b = false) : cntB f n a b l h = false := by simp only [cntB, z]; rfl
theorem cnt_no2 {f : Nat → Int} {n : Nat} {a b l h : Int} (z : allW f l h n = false) : cntB f n a b l h = false := by simp only [cntB, z]; simp
/-- The sum of the first n numbers. -/
def sumTo (f : Nat → Int) : Nat → Int
  | 0 => 0
  | k + 1 => sumTo f k + f k
theorem sumTo_bd {f : Nat → Int} {l h : Int} {n : Nat} (hf : ∀ i, i < n → l ≤ f i ∧ f i ≤ h) (hl : l ≤ 0) (hh : 0 ≤ h) : ∀ k, k ≤ n → l * n ≤ sumTo f k ∧ sumTo f k ≤ h * n := by
  have key : ∀ k, k ≤ n → l * k ≤ sumTo f k ∧ sumTo f k ≤ h * k := by
    intro k
    induction k with
    | zero => intro _; simp [sumTo]
    | succ k ih =>
      intro hk
      have h1 := ih (by omega)
      have h2 := hf k (by omega)
      simp only [sumTo]
      rw [show ((k + 1 : Nat) : Int) = (k : Int) + 1 from by omega, Int.mul_add, Int.mul_add, Int.mul_one, Int.mul_one]
      omega
  intro k hk
  have h1 := key k hk
  have h2 : l * (n : Int) ≤ l * k := Int.mul_le_mul_of_nonpos_left hl (by omega)
  have h3 : h * (k : Int) ≤ h * n := Int.mul_le_mul_of_nonneg_left (by omega) hh
  omega
theorem sumTo_nonneg {f : Nat → Int} {n : Nat} (hf : ∀ i, i < n → 0 ≤ f i) : ∀ k, k ≤ n → 0 ≤ sumTo f k := by
  intro k
  induction k with
  | zero => intro _; simp [sumTo]
  | succ k ih => intro hk; have := ih (by omega); have := hf k (by omega); simp only [sumTo]; omega
end Go.Proofs.Ytdaijapdfleohaa
