/-
  The dues of lines, and what each kind has left over. No program in sight. Conditions as the laws say.
-/
import Derived.Test.YtnikfcaloielaaaSpreadQ
import Derived.Test.YtnikfcaloielaaaRateRows
namespace Go.Proofs.Ytnikfcaloielaaa
open Go.RowKit
set_option linter.unusedVariables false

/-- A line's rest, its own due, what a kind has left over, what a line gets at last. -/
def sdR (f1 f2 f3 : Nat → Int) (i : Nat) : Int := f1 i * f3 (f2 i).toNat % 10000
def sdQ (f1 f2 f3 : Nat → Int) (i : Nat) : Int := rnd (f1 i * f3 (f2 i).toNat) 10000 0
def sdL (f1 f2 f3 : Nat → Int) (n : Nat) (r : Int) (k : Nat) : Int := rateAt f1 f2 f3 n r k - ksum (sdQ f1 f2 f3) f2 n k
def sdO (f1 f2 f3 : Nat → Int) (n : Nat) (r : Int) (i : Nat) : Int := gO (sdQ f1 f2 f3) (mask f2 (f2 i) (sdR f1 f2 f3)) n (sdL f1 f2 f3 n r (f2 i).toNat).toNat i
section
variable {f1 f2 f3 : Nat → Int} {n : Nat} {r : Int}
theorem rnd_down (a : Int) : rnd a 10000 0 = a / 10000 := by unfold rnd up; simp
theorem sdR_bd (i : Nat) : 0 ≤ sdR f1 f2 f3 i ∧ sdR f1 f2 f3 i < 10000 := ⟨Int.emod_nonneg _ (by omega), Int.emod_lt_of_pos _ (by omega)⟩
theorem sd_sum (k : Nat) : ∀ j, ksum f1 f2 j k * f3 k = 10000 * ksum (sdQ f1 f2 f3) f2 j k + ksum (sdR f1 f2 f3) f2 j k ∧ 0 ≤ ksum (sdR f1 f2 f3) f2 j k ∧ ksum (sdR f1 f2 f3) f2 j k ≤ 9999 * cnt f2 k j ∧ 0 ≤ cnt f2 k j := by
  intro j
  induction j with
  | zero => simp [ksum, cnt, sumTo]
  | succ j ih =>
    obtain ⟨h1, h2, h3, h4⟩ := ih
    have hc : cnt f2 k (j + 1) = cnt f2 k j + (if f2 j = (k : Int) then 1 else 0) := rfl
    simp only [ksum]
    rw [hc]
    by_cases h : f2 j = (k : Int)
    · rw [if_pos h, if_pos h, if_pos h, if_pos h]
      have e : sdQ f1 f2 f3 j = f1 j * f3 k / 10000 := by unfold sdQ; rw [rnd_down, h]; rfl
      have e2 : sdR f1 f2 f3 j = f1 j * f3 k % 10000 := by unfold sdR; rw [h]; rfl
      have b := sdR_bd (f1 := f1) (f2 := f2) (f3 := f3) j
      have d := Int.mul_ediv_add_emod (f1 j * f3 k) 10000
      rw [Int.add_mul, h1]
      rw [← e, ← e2] at d
      omega
    · rw [if_neg h, if_neg h, if_neg h, if_neg h]
      simp only [Int.add_zero]
      exact ⟨h1, h2, h3, h4⟩
theorem sdL_bd (k : Nat) : 0 ≤ sdL f1 f2 f3 n r k ∧ sdL f1 f2 f3 n r k ≤ cnt f2 k n := by
  obtain ⟨h1, h2, h3, h4⟩ := sd_sum (f1 := f1) (f2 := f2) (f3 := f3) k n
  unfold sdL rateAt
  rw [h1]
  exact left_bd h2 h4 h3
theorem cj_le {kd o : Nat → Int} (k : Int) : ∀ j, cj kd o k j ≤ j := by
  intro j
  induction j with
  | zero => exact Nat.le_refl _
  | succ j ih => simp only [cj]; split <;> omega
theorem sdO_end {o : Nat → Int} (ho : Ord o n) (hk : ∀ i, i < n → 0 ≤ f2 i) {i : Nat} (hi : i < n) : spO f2 (sdR f1 f2 f3) (sdQ f1 f2 f3) (sdL f1 f2 f3 n r) o n n i = sdO f1 f2 f3 n r i := by
  have h0 := hk i hi
  have hL := (sdL_bd (f1 := f1) (f2 := f2) (f3 := f3) (n := n) (r := r) (f2 i).toNat).2
  have hc := cj_cnt ho (kd := f2) (f2 i)
  rw [show (((f2 i).toNat : Nat) : Int) = f2 i by omega] at hL
  unfold spO sdO
  rw [show min (cj f2 o (f2 i) n) (sdL f1 f2 f3 n r (f2 i).toNat).toNat = (sdL f1 f2 f3 n r (f2 i).toNat).toNat by omega]
end
end Go.Proofs.Ytnikfcaloielaaa
