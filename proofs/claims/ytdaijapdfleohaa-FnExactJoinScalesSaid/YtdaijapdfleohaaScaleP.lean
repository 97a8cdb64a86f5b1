/-
  Scales, in plain numbers: when one is valid, what it takes of an amount, its rate at an amount. No program in sight. No condition.
-/
import Derived.Test.YtdaijapdfleohaaAllW
import Derived.Test.YtdaijapdfleohaaRnd
import Derived.Test.YtdaijapdfleohaaRec
namespace Go.Proofs.Ytdaijapdfleohaa
open Go.RowKit
set_option linter.unusedVariables false

/-- Whether the first n numbers ascend strictly. -/
def ascP (f : Nat → Int) (i : Nat) : Bool := decide (i = 0) || decide (f (i - 1) < f i)
def ascB (f : Nat → Int) (n : Nat) : Bool := allB (ascP f) n
theorem ascP_one (f : Nat → Int) {i : Nat} (h : i = 0) : ascP f i = true := by simp [ascP, h]
theorem ascP_two {f : Nat → Int} {i : Nat} (h : f i < f (i + 1)) : ascP f (i + 1) = true := by simp [ascP, h]
theorem ascP_not {f : Nat → Int} {i : Nat} (h : f (i + 1) ≤ f i) : ascP f (i + 1) = false := by
  have : ¬ f i < f (i + 1) := by omega
  simp [ascP, this]
theorem asc_iff {f : Nat → Int} {n : Nat} : ascB f n = true ↔ ∀ i, i + 1 < n → f i < f (i + 1) := by
  unfold ascB
  rw [allB_iff]
  constructor
  · intro h i hi
    have := h (i + 1) hi
    simpa [ascP] using this
  · intro h i hi
    cases i with
    | zero => rfl
    | succ i => exact ascP_two (h i hi)
theorem asc_le {f : Nat → Int} {n : Nat} (h : ∀ i, i + 1 < n → f i < f (i + 1)) : ∀ i j, i ≤ j → j < n → f i ≤ f j := by
  intro i j hij
  induction j with
  | zero => intro _; obtain rfl : i = 0 := by omega
            exact Int.le_refl _
  | succ j ih =>
    intro hj
    rcases Nat.lt_or_ge i (j + 1) with h1 | h1
    · have := ih (by omega) (by omega)
      have := h j hj
      omega
    · obtain rfl : i = j + 1 := by omega
      exact Int.le_refl _

/-- Whether breaks and rates make a scale. -/
def scaleOk (fb : Nat → Int) (nb : Nat) (fr : Nat → Int) (nr : Nat) : Bool :=
  cntB fb nb 1 8 0 1000000000000 && decide (fb 0 = 0) && ascB fb nb && decide (nr = nb) && allW fr 0 10000 nr
/-- What a scale is. -/
structure ScaleIs (fb : Nat → Int) (nb : Nat) (fr : Nat → Int) (nr : Nat) : Prop where
  n1 : 1 ≤ nb
  n8 : nb ≤ 8
  nr : nr = nb
  b0 : fb 0 = 0
  b : ∀ i, i < nb → 0 ≤ fb i ∧ fb i ≤ 1000000000000
  asc : ∀ i, i + 1 < nb → fb i < fb (i + 1)
  r : ∀ i, i < nb → 0 ≤ fr i ∧ fr i ≤ 10000
section
variable {fb fr : Nat → Int} {nb nr : Nat}
theorem scale_is (h : scaleOk fb nb fr nr = true) : ScaleIs fb nb fr nr := by
  obtain ⟨h1, h2, h3, h4, h5⟩ := all_yes5 h
  obtain ⟨⟨a, b⟩, c⟩ := cntB_iff.1 h1
  have e : nr = nb := of_decide_eq_true h4
  have r := allW_iff.1 h5
  rw [e] at r
  exact ⟨by omega, by omega, e, of_decide_eq_true h2, c, asc_iff.1 h3, r⟩
theorem scale_mk (h : ScaleIs fb nb fr nr) : scaleOk fb nb fr nr = true := by
  have h1 : cntB fb nb 1 8 0 1000000000000 = true := cntB_iff.2 ⟨⟨by have := h.n1; omega, by have := h.n8; omega⟩, h.b⟩
  have h2 : decide (fb 0 = 0) = true := decide_eq_true h.b0
  have h3 : ascB fb nb = true := asc_iff.2 h.asc
  have h4 : decide (nr = nb) = true := decide_eq_true h.nr
  have h5 : allW fr 0 10000 nr = true := allW_iff.2 (by rw [h.nr]; exact h.r)
  simp only [scaleOk, h1, h2, h3, h4, h5, Bool.and_true]
theorem scale_not (h : ScaleIs fb nb fr nr → False) : scaleOk fb nb fr nr = false := by
  cases e : scaleOk fb nb fr nr
  · rfl
  · exact (h (scale_is e)).elim
theorem scale_no1 (h : cntB fb nb 1 8 0 1000000000000 = false) : scaleOk fb nb fr nr = false := by simp only [scaleOk, h, Bool.false_and]
/-- What the reference asks of each place. -/
def placeOk (fb fr : Nat → Int) (i : Nat) : Bool := isAmount (fb i) && ascP fb i && isRate (fr i)
theorem scale_place (h : ScaleIs fb nb fr nr) {i : Nat} (hi : i < nb) : placeOk fb fr i = true := by
  have h1 := win_iff.2 (h.b i hi)
  have h2 : ascP fb i = true := allB_iff.1 (asc_iff.2 h.asc : ascB fb nb = true) i hi
  have h3 := win_iff.2 (h.r i hi)
  simp only [placeOk, h1, h2, h3, Bool.and_true]
theorem scale_no6 {i : Nat} (hi : i < nb) (h : placeOk fb fr i = false) : scaleOk fb nb fr nr = false :=
  scale_not fun hs => by rw [scale_place hs hi] at h; cases h
theorem scale_all (h1 : 1 ≤ nb) (h2 : nb ≤ 8) (h3 : nr = nb) (h4 : fb 0 = 0) (h : allB (placeOk fb fr) nb = true) : scaleOk fb nb fr nr = true := by
  have H := fun i hi => all_yes3 (allB_iff.1 h i hi)
  exact scale_mk ⟨h1, h2, h3, h4, fun i hi => win_iff.1 (H i hi).1, asc_iff.1 (allB_iff.2 fun i hi => (H i hi).2.1), fun i hi => win_iff.1 (H i hi).2.2⟩

/-- Where the part of an amount that a break begins ends. -/
def endA (fb : Nat → Int) (n : Nat) (c : Int) (k : Nat) : Int := if k + 1 < n then min c (fb (k + 1)) else c
/-- What the first breaks take, 10000 times. -/
def exS (fb fr : Nat → Int) (n : Nat) (c : Int) : Nat → Int
  | 0 => 0
  | k + 1 => exS fb fr n c k + (if fb k < c then (endA fb n c k - fb k) * fr k else 0)
/-- 10000 times the exact due. -/
def exF (fb fr : Nat → Int) (n : Nat) (c : Int) : Int := exS fb fr n c n
theorem exS_on {c : Int} {k : Nat} (h : fb k < c) : exS fb fr nb c (k + 1) = exS fb fr nb c k + (endA fb nb c k - fb k) * fr k := by simp only [exS, h, if_true]
theorem exS_stop (h : ScaleIs fb nb fr nr) {c : Int} {k : Nat} (hk : k < nb) (hc : c ≤ fb k) : exF fb fr nb c = exS fb fr nb c k := by
  have : ∀ m, k + m ≤ nb → exS fb fr nb c (k + m) = exS fb fr nb c k := by
    intro m
    induction m with
    | zero => intro _; rfl
    | succ m ih =>
      intro hm
      have h1 := asc_le h.asc k (k + m) (by omega) (by omega)
      have h2 : ¬ fb (k + m) < c := by omega
      rw [← Nat.add_assoc]
      simp only [exS, h2, if_false, ih (by omega)]
      omega
  have := this (nb - k) (by omega)
  rw [show k + (nb - k) = nb by omega] at this
  exact this
theorem endA_bd (h : ScaleIs fb nb fr nr) {c : Int} {k : Nat} (hk : k < nb) (hc : fb k < c) : 0 ≤ endA fb nb c k - fb k ∧ endA fb nb c k - fb k ≤ c ∧ endA fb nb c k ≤ c := by
  have h0 := h.b k hk
  unfold endA
  split
  · rename_i h1
    have := h.asc k h1
    omega
  · omega
theorem piece_bd (h : ScaleIs fb nb fr nr) {c : Int} {k : Nat} (hk : k < nb) (hc : fb k < c) : 0 ≤ (endA fb nb c k - fb k) * fr k ∧ (endA fb nb c k - fb k) * fr k ≤ 10000 * c := by
  obtain ⟨a, b, _⟩ := endA_bd h hk hc
  obtain ⟨d, e⟩ := h.r k hk
  refine ⟨Int.mul_nonneg a d, ?_⟩
  have : (endA fb nb c k - fb k) * fr k ≤ c * 10000 := Int.mul_le_mul b e d (by omega)
  omega
theorem exS_bd (h : ScaleIs fb nb fr nr) {c : Int} (hc : 0 ≤ c) : ∀ k, k ≤ nb → 0 ≤ exS fb fr nb c k ∧ exS fb fr nb c k ≤ 10000 * c * k := by
  intro k
  induction k with
  | zero => intro _; simp [exS]
  | succ k ih =>
    intro hk
    have h1 := ih (by omega)
    have e : 10000 * c * ((k + 1 : Nat) : Int) = 10000 * c * k + 10000 * c := by
      rw [show ((k + 1 : Nat) : Int) = (k : Int) + 1 from by omega, Int.mul_add, Int.mul_one]
    rw [e]
    by_cases hl : fb k < c
    · have h2 := piece_bd h (by omega) hl
      rw [exS_on hl]
      omega
    · simp only [exS, hl, if_false]
      omega
theorem exS_bd8 (h : ScaleIs fb nb fr nr) {c : Int} (hc : 0 ≤ c) : ∀ k, k ≤ nb → 0 ≤ exS fb fr nb c k ∧ exS fb fr nb c k ≤ 80000 * c := by
  intro k hk
  obtain ⟨a, b⟩ := exS_bd h hc k hk
  have h8 := h.n8
  have : 10000 * c * (k : Int) ≤ 10000 * c * 8 := Int.mul_le_mul_of_nonneg_left (by omega) (by omega)
  exact ⟨a, by omega⟩
theorem exF_bd (h : ScaleIs fb nb fr nr) {c : Int} (hc : 0 ≤ c) : 0 ≤ exF fb fr nb c ∧ exF fb fr nb c ≤ 80000 * c := exS_bd8 h hc nb (Nat.le_refl _)
/-- The due of an amount, and what is left. -/
def dueF (fb fr : Nat → Int) (n : Nat) (c r : Int) : Int := rnd (exF fb fr n c) 10000 r
def netF (fb fr : Nat → Int) (n : Nat) (c r : Int) : Int := c - dueF fb fr n c r
theorem dueF_bd (h : ScaleIs fb nb fr nr) {c : Int} (hc : 0 ≤ c) (r : Int) : 0 ≤ dueF fb fr nb c r ∧ dueF fb fr nb c r ≤ 8 * c + 1 := by
  obtain ⟨a, b⟩ := exF_bd h hc
  have := rnd_bd (exF fb fr nb c) 10000 r a (by omega)
  unfold dueF
  omega
end
end Go.Proofs.Ytdaijapdfleohaa
