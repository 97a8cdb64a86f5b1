/-
  Whether all of some numbers lie in a range, and their sum. No program in sight. No condition.
  Rounded quotients, in plain numbers. No program in sight. No condition.
  Scales, in plain numbers: when one is valid, what it takes of an amount, its rate at an amount. No program in sight. No condition.
  The small tests of the program and of the reference, each by its contract: it answers as a plain Bool says. No condition.
  impl.rounded gives a rounded quotient. Conditions: the number is from 0 to 9000000000000000000, the divisor from 1 to that.
  spec.l02Round gives a rounded quotient. Conditions: the number is from 0 to 9000000000000000000, the divisor from 1 to that.
  A scale's exact due and its due of an amount, in the program and in the reference. Conditions: the scale is valid, the amount from 0 to 1000000000000.
  impl.areWithin and impl.hasCount answer whether all integers of a row lie in a range, and whether their count does. Condition: fewer than 1000000000 integers.
  impl.ValidScale, impl.isAsked, spec.l02Is, spec.l02Can tell whether a scale is valid (and an amount and a way of rounding with it). Condition: fewer than 1000000000 integers in each list.
  impl.isAsked, spec.l02Is, spec.l02Can tell whether a scale is valid (and an amount and a way of rounding with it). Condition: fewer than 1000000000 integers in each list.
  The literal that impl.DuesShared hands over: the due of an amount by a scale. Conditions: a valid scale, an amount of 0 to 1000000000000.
  Two rows of a call's own that share no memory: one integer appended to one of them. No program in sight. Conditions as the law says.
  A scale in memory: two slices, as it came in or in memory of a call's own. No program in sight. No condition.
-/
import Derived.Test.YtpigjhagdpeofaaSm4
import Derived.IntWalk
import Derived.Test.YtpigjhagdpeofaaSm12
import Derived.Test.YtpigjhagdpeofaaSm5
import Derived.Test.YtpigjhagdpeofaaProg
import Derived.Maps.AppendAt

namespace Go.Proofs.Ytpigjhagdpeofaa
open Go.RowKit

/-- Whether the first n numbers lie in a range. -/
def allW (f : Nat → Int) (l h : Int) : Nat → Bool
  | 0 => true
  | k + 1 => allW f l h k && win (f k) l h
theorem allW_iff {f : Nat → Int} {l h : Int} {n : Nat} : allW f l h n = true ↔ ∀ i, i < n → l ≤ f i ∧ f i ≤ h := by
  induction n with
  | zero => simp [allW]
  | succ n ih =>
    simp only [allW, Bool.and_eq_true, ih, win_iff]
    constructor
    · rintro ⟨h1, h2⟩ i hi
      rcases Nat.lt_succ_iff_lt_or_eq.1 hi with h3 | rfl
      · exact h1 i h3
      · exact h2
    · exact fun h => ⟨fun i hi => h i (by omega), h n (by omega)⟩
theorem allW_false {f : Nat → Int} {l h : Int} {n : Nat} (k : Nat) (hk : k < n) (hf : win (f k) l h = false) : allW f l h n = false := by
  cases ha : allW f l h n
  · rfl
  · have := win_iff.2 (allW_iff.1 ha k hk)
    rw [hf] at this; cases this
theorem allW_succ {f : Nat → Int} {l h : Int} {k : Nat} (h1 : allW f l h k = true) (h2 : win (f k) l h = true) : allW f l h (k + 1) = true := by simp [allW, h1, h2]

/-- Whether there are so many numbers, all of them in a range. -/
def cntB (f : Nat → Int) (n : Nat) (a b l h : Int) : Bool := win n a b && allW f l h n
theorem cntB_iff {f : Nat → Int} {n : Nat} {a b l h : Int} : cntB f n a b l h = true ↔ (a ≤ n ∧ (n : Int) ≤ b) ∧ ∀ i, i < n → l ≤ f i ∧ f i ≤ h := by
  simp only [cntB, Bool.and_eq_true, win_iff, allW_iff]

theorem cnt_no {f : Nat → Int} {n : Nat} {a b l h : Int} (z : win n a b = false) : cntB f n a b l h = false := by simp only [cntB, z]; rfl
theorem cnt_no2 {f : Nat → Int} {n : Nat} {a b l h : Int} (z : allW f l h n = false) : cntB f n a b l h = false := by simp only [cntB, z]; simp
/-- The sum of the first n numbers. -/
def sumTo (f : Nat → Int) : Nat → Int
  | 0 => 0
  | k + 1 => sumTo f k + f k
theorem sumTo_bd {f : Nat → Int} {l h : Int} {n : Nat} (hf : ∀ i, i < n → l ≤ f i ∧ f i ≤ h) (hl : l ≤ 0) (hh : 0 ≤ h) : ∀ k, k ≤ n → l * n ≤ sumTo f k ∧ sumTo f k ≤ h * n := by
  have key : ∀ k, k ≤ n → l * k ≤ sumTo f k ∧ sumTo f k ≤ h * k := by
    intro k
    induction k with
    | zero => intro _; simp [sumTo]
    | succ k ih =>
      intro hk
      have h1 := ih (by omega)
      have h2 := hf k (by omega)
      simp only [sumTo]
      rw [show ((k + 1 : Nat) : Int) = (k : Int) + 1 from by omega, Int.mul_add, Int.mul_add, Int.mul_one, Int.mul_one]
      omega
  intro k hk
  have h1 := key k hk
  have h2 : l * (n : Int) ≤ l * k := Int.mul_le_mul_of_nonpos_left hl (by omega)
  have h3 : h * (k : Int) ≤ h * n := Int.mul_le_mul_of_nonneg_left (by omega) hh
  omega
theorem sumTo_nonneg {f : Nat → Int} {n : Nat} (hf : ∀ i, i < n → 0 ≤ f i) : ∀ k, k ≤ n → 0 ≤ sumTo f k := by
  intro k
  induction k with
  | zero => intro _; simp [sumTo]
  | succ k ih => intro hk; have := ih (by omega); have := hf k (by omega); simp only [sumTo]; omega
end Go.Proofs.Ytpigjhagdpeofaa

namespace Go.Proofs.Ytpigjhagdpeofaa
open Go.RowKit
set_option linter.unusedVariables false

/-- Whether a quotient is rounded up. -/
def up (a b r : Int) : Bool := (decide (r = 1) && decide (b - a % b ≤ a % b)) || (decide (r = 2) && (decide (b - a % b < a % b) || (decide (a % b = b - a % b) && decide (a / b % 2 = 1)))) || (decide (r = 3) && decide (0 < a % b))
def rnd (a b r : Int) : Int := a / b + if up a b r then 1 else 0
theorem rnd_bd (a b r : Int) (h0 : 0 ≤ a) (h2 : 1 ≤ b) : 0 ≤ rnd a b r ∧ rnd a b r ≤ a / b + 1 := by
  have : 0 ≤ a / b := Int.ediv_nonneg h0 (by omega)
  unfold rnd
  split <;> omega
theorem rnd_yes (a b r : Int) (h : up a b r = true) : rnd a b r = a / b + 1 := by simp [rnd, h]
theorem rnd_no (a b r : Int) (h : up a b r = false) : rnd a b r = a / b := by simp [rnd, h]
end Go.Proofs.Ytpigjhagdpeofaa

namespace Go.Proofs.Ytpigjhagdpeofaa
open Go.RowKit
set_option linter.unusedVariables false

/-- Whether the first n numbers ascend strictly. -/
def ascP (f : Nat → Int) (i : Nat) : Bool := decide (i = 0) || decide (f (i - 1) < f i)
def ascB (f : Nat → Int) (n : Nat) : Bool := allB (ascP f) n
theorem ascP_one (f : Nat → Int) {i : Nat} (h : i = 0) : ascP f i = true := by simp [ascP, h]
theorem ascP_two {f : Nat → Int} {i : Nat} (h : f i < f (i + 1)) : ascP f (i + 1) = true := by simp [ascP, h]
theorem ascP_not {f : Nat → Int} {i : Nat} (h : f (i + 1) ≤ f i) : ascP f (i + 1) = false := by
  have : ¬ f i < f (i + 1) := by omega
  simp [ascP, this]
theorem asc_iff {f : Nat → Int} {n : Nat} : ascB f n = true ↔ ∀ i, i + 1 < n → f i < f (i + 1) := by
  unfold ascB
  rw [allB_iff]
  constructor
  · intro h i hi
    have := h (i + 1) hi
    simpa [ascP] using this
  · intro h i hi
    cases i with
    | zero => rfl
    | succ i => exact ascP_two (h i hi)
theorem asc_le {f : Nat → Int} {n : Nat} (h : ∀ i, i + 1 < n → f i < f (i + 1)) : ∀ i j, i ≤ j → j < n → f i ≤ f j := by
  intro i j hij
  induction j with
  | zero => intro _; obtain rfl : i = 0 := by omega
            exact Int.le_refl _
  | succ j ih =>
    intro hj
    rcases Nat.lt_or_ge i (j + 1) with h1 | h1
    · have := ih (by omega) (by omega)
      have := h j hj
      omega
    · obtain rfl : i = j + 1 := by omega
      exact Int.le_refl _

/-- Whether breaks and rates make a scale. -/
def scaleOk (fb : Nat → Int) (nb : Nat) (fr : Nat → Int) (nr : Nat) : Bool :=
  cntB fb nb 1 8 0 1000000000000 && decide (fb 0 = 0) && ascB fb nb && decide (nr = nb) && allW fr 0 10000 nr
/-- What a scale is. -/
structure ScaleIs (fb : Nat → Int) (nb : Nat) (fr : Nat → Int) (nr : Nat) : Prop where
  n1 : 1 ≤ nb
  n8 : nb ≤ 8
  nr : nr = nb
  b0 : fb 0 = 0
  b : ∀ i, i < nb → 0 ≤ fb i ∧ fb i ≤ 1000000000000
  asc : ∀ i, i + 1 < nb → fb i < fb (i + 1)
  r : ∀ i, i < nb → 0 ≤ fr i ∧ fr i ≤ 10000
section
variable {fb fr : Nat → Int} {nb nr : Nat}
theorem scale_is (h : scaleOk fb nb fr nr = true) : ScaleIs fb nb fr nr := by
  obtain ⟨h1, h2, h3, h4, h5⟩ := all_yes5 h
  obtain ⟨⟨a, b⟩, c⟩ := cntB_iff.1 h1
  have e : nr = nb := of_decide_eq_true h4
  have r := allW_iff.1 h5
  rw [e] at r
  exact ⟨by omega, by omega, e, of_decide_eq_true h2, c, asc_iff.1 h3, r⟩
theorem scale_mk (h : ScaleIs fb nb fr nr) : scaleOk fb nb fr nr = true := by
  have h1 : cntB fb nb 1 8 0 1000000000000 = true := cntB_iff.2 ⟨⟨by have := h.n1; omega, by have := h.n8; omega⟩, h.b⟩
  have h2 : decide (fb 0 = 0) = true := decide_eq_true h.b0
  have h3 : ascB fb nb = true := asc_iff.2 h.asc
  have h4 : decide (nr = nb) = true := decide_eq_true h.nr
  have h5 : allW fr 0 10000 nr = true := allW_iff.2 (by rw [h.nr]; exact h.r)
  simp only [scaleOk, h1, h2, h3, h4, h5, Bool.and_true]
theorem scale_not (h : ScaleIs fb nb fr nr → False) : scaleOk fb nb fr nr = false := by
  cases e : scaleOk fb nb fr nr
  · rfl
  · exact (h (scale_is e)).elim
theorem scale_no1 (h : cntB fb nb 1 8 0 1000000000000 = false) : scaleOk fb nb fr nr = false := by simp only [scaleOk, h, Bool.false_and]
/-- What the reference asks of each place. -/
def placeOk (fb fr : Nat → Int) (i : Nat) : Bool := isAmount (fb i) && ascP fb i && isRate (fr i)
theorem scale_place (h : ScaleIs fb nb fr nr) {i : Nat} (hi : i < nb) : placeOk fb fr i = true := by
  have h1 := win_iff.2 (h.b i hi)
  have h2 : ascP fb i = true := allB_iff.1 (asc_iff.2 h.asc : ascB fb nb = true) i hi
  have h3 := win_iff.2 (h.r i hi)
  simp only [placeOk, h1, h2, h3, Bool.and_true]
theorem scale_no6 {i : Nat} (hi : i < nb) (h : placeOk fb fr i = false) : scaleOk fb nb fr nr = false :=
  scale_not fun hs => by rw [scale_place hs hi] at h; cases h
theorem scale_all (h1 : 1 ≤ nb) (h2 : nb ≤ 8) (h3 : nr = nb) (h4 : fb 0 = 0) (h : allB (placeOk fb fr) nb = true) : scaleOk fb nb fr nr = true := by
  have H := fun i hi => all_yes3 (allB_iff.1 h i hi)
  exact scale_mk ⟨h1, h2, h3, h4, fun i hi => win_iff.1 (H i hi).1, asc_iff.1 (allB_iff.2 fun i hi => (H i hi).2.1), fun i hi => win_iff.1 (H i hi).2.2⟩

/-- Where the part of an amount that a break begins ends. -/
def endA (fb : Nat → Int) (n : Nat) (c : Int) (k : Nat) : Int := if k + 1 < n then min c (fb (k + 1)) else c
/-- What the first breaks take, 10000 times. -/
def exS (fb fr : Nat → Int) (n : Nat) (c : Int) : Nat → Int
  | 0 => 0
  | k + 1 => exS fb fr n c k + (if fb k < c then (endA fb n c k - fb k) * fr k else 0)
/-- 10000 times the exact due. -/
def exF (fb fr : Nat → Int) (n : Nat) (c : Int) : Int := exS fb fr n c n
theorem exS_on {c : Int} {k : Nat} (h : fb k < c) : exS fb fr nb c (k + 1) = exS fb fr nb c k + (endA fb nb c k - fb k) * fr k := by simp only [exS, h, if_true]
theorem exS_stop (h : ScaleIs fb nb fr nr) {c : Int} {k : Nat} (hk : k < nb) (hc : c ≤ fb k) : exF fb fr nb c = exS fb fr nb c k := by
  have : ∀ m, k + m ≤ nb → exS fb fr nb c (k + m) = exS fb fr nb c k := by
    intro m
    induction m with
    | zero => intro _; rfl
    | succ m ih =>
      intro hm
      have h1 := asc_le h.asc k (k + m) (by omega) (by omega)
      have h2 : ¬ fb (k + m) < c := by omega
      rw [← Nat.add_assoc]
      simp only [exS, h2, if_false, ih (by omega)]
      omega
  have := this (nb - k) (by omega)
  rw [show k + (nb - k) = nb by omega] at this
  exact this
theorem endA_bd (h : ScaleIs fb nb fr nr) {c : Int} {k : Nat} (hk : k < nb) (hc : fb k < c) : 0 ≤ endA fb nb c k - fb k ∧ endA fb nb c k - fb k ≤ c ∧ endA fb nb c k ≤ c := by
  have h0 := h.b k hk
  unfold endA
  split
  · rename_i h1
    have := h.asc k h1
    omega
  · omega
theorem piece_bd (h : ScaleIs fb nb fr nr) {c : Int} {k : Nat} (hk : k < nb) (hc : fb k < c) : 0 ≤ (endA fb nb c k - fb k) * fr k ∧ (endA fb nb c k - fb k) * fr k ≤ 10000 * c := by
  obtain ⟨a, b, _⟩ := endA_bd h hk hc
  obtain ⟨d, e⟩ := h.r k hk
  refine ⟨Int.mul_nonneg a d, ?_⟩
  have : (endA fb nb c k - fb k) * fr k ≤ c * 10000 := Int.mul_le_mul b e d (by omega)
  omega
theorem exS_bd (h : ScaleIs fb nb fr nr) {c : Int} (hc : 0 ≤ c) : ∀ k, k ≤ nb → 0 ≤ exS fb fr nb c k ∧ exS fb fr nb c k ≤ 10000 * c * k := by
  intro k
  induction k with
  | zero => intro _; simp [exS]
  | succ k ih =>
    intro hk
    have h1 := ih (by omega)
    have e : 10000 * c * ((k + 1 : Nat) : Int) = 10000 * c * k + 10000 * c := by
      rw [show ((k + 1 : Nat) : Int) = (k : Int) + 1 from by omega, Int.mul_add, Int.mul_one]
    rw [e]
    by_cases hl : fb k < c
    · have h2 := piece_bd h (by omega) hl
      rw [exS_on hl]
      omega
    · simp only [exS, hl, if_false]
      omega
theorem exS_bd8 (h : ScaleIs fb nb fr nr) {c : Int} (hc : 0 ≤ c) : ∀ k, k ≤ nb → 0 ≤ exS fb fr nb c k ∧ exS fb fr nb c k ≤ 80000 * c := by
  intro k hk
  obtain ⟨a, b⟩ := exS_bd h hc k hk
  have h8 := h.n8
  have : 10000 * c * (k : Int) ≤ 10000 * c * 8 := Int.mul_le_mul_of_nonneg_left (by omega) (by omega)
  exact ⟨a, by omega⟩
theorem exF_bd (h : ScaleIs fb nb fr nr) {c : Int} (hc : 0 ≤ c) : 0 ≤ exF fb fr nb c ∧ exF fb fr nb c ≤ 80000 * c := exS_bd8 h hc nb (Nat.le_refl _)
/-- The due of an amount, and what is left. -/
def dueF (fb fr : Nat → Int) (n : Nat) (c r : Int) : Int := rnd (exF fb fr n c) 10000 r
def netF (fb fr : Nat → Int) (n : Nat) (c r : Int) : Int := c - dueF fb fr n c r
theorem dueF_bd (h : ScaleIs fb nb fr nr) {c : Int} (hc : 0 ≤ c) (r : Int) : 0 ≤ dueF fb fr nb c r ∧ dueF fb fr nb c r ≤ 8 * c + 1 := by
  obtain ⟨a, b⟩ := exF_bd h hc
  have := rnd_bd (exF fb fr nb c) 10000 r a (by omega)
  unfold dueF
  omega
end
end Go.Proofs.Ytpigjhagdpeofaa

namespace Go.Proofs.Ytpigjhagdpeofaa
open Go.RowKit
set_option linter.unusedVariables false
theorem Sq.infoI : (Sq.prog.info? 2).map (fun i => (i.zero, i.size, i.bytes)) = some (some (.int .i64 0), 1, 8) := by kernel_rfl

theorem impl_within_any (n l h : Int) (w : World) : Calls Sq.prog 52 #[.int .i64 n, .int .i64 l, .int .i64 h] w fun e w' => e = .returned (.bool (win n l h)) ∧ w = w' := by
  go_enter Sq.func52, Sq.ntmps52
  go_wp2
  all_goals (go_ret; exact ⟨ret_bool (by simp_all [win]; try omega), rfl⟩)
theorem spec_l00In_any (n l h : Int) (w : World) : Calls Sq.prog 25 #[.int .i64 n, .int .i64 l, .int .i64 h] w fun e w' => e = .returned (.bool (win n l h)) ∧ w = w' := by
  go_enter Sq.func25, Sq.ntmps25
  go_wp2
  all_goals (go_ret; exact ⟨ret_bool (by simp_all [win]; try omega), rfl⟩)
theorem impl_isAmount_any (n : Int) (w : World) : Calls Sq.prog 61 #[.int .i64 n] w fun e w' => e = .returned (.bool (isAmount n)) ∧ w = w' := by
  go_enter Sq.func61, Sq.ntmps61
  go_wp2
  all_goals (go_ret; exact ⟨ret_bool (by simp_all [win, isAmount]; try omega), rfl⟩)
theorem spec_l02Cents_any (n : Int) (w : World) : Calls Sq.prog 39 #[.int .i64 n] w fun e w' => e = .returned (.bool (isAmount n)) ∧ w = w' := by
  go_enter Sq.func39, Sq.ntmps39
  go_wp2
  all_goals (go_ret; exact ⟨ret_bool (by simp_all [win, isAmount]; try omega), rfl⟩)
theorem spec_l02Rate_any (n : Int) (w : World) : Calls Sq.prog 72 #[.int .i64 n] w fun e w' => e = .returned (.bool (isRate n)) ∧ w = w' := by
  go_enter Sq.func72, Sq.ntmps72
  go_wp2
  all_goals (go_ret; exact ⟨ret_bool (by simp_all [win, isRate]; try omega), rfl⟩)
theorem impl_isRound_any (n : Int) (w : World) : Calls Sq.prog 62 #[.int .i64 n] w fun e w' => e = .returned (.bool (isRound n)) ∧ w = w' := by
  go_enter Sq.func62, Sq.ntmps62
  go_wp2
  all_goals (go_ret; exact ⟨ret_bool (by simp_all [win, isRound]; try omega), rfl⟩)
theorem spec_l02Way_any (n : Int) (w : World) : Calls Sq.prog 57 #[.int .i64 n] w fun e w' => e = .returned (.bool (isRound n)) ∧ w = w' := by
  go_enter Sq.func57, Sq.ntmps57
  go_wp2
  all_goals (go_ret; exact ⟨ret_bool (by simp_all [win, isRound]; try omega), rfl⟩)
theorem impl_isWorkers_any (n : Int) (w : World) : Calls Sq.prog 32 #[.int .i64 n] w fun e w' => e = .returned (.bool (isWorkers n)) ∧ w = w' := by
  go_enter Sq.func32, Sq.ntmps32
  go_wp2
  all_goals (go_ret; exact ⟨ret_bool (by simp_all [win, isWorkers]; try omega), rfl⟩)
theorem impl_isDay_any (n : Int) (w : World) : Calls Sq.prog 50 #[.int .i64 n] w fun e w' => e = .returned (.bool (isDay n)) ∧ w = w' := by
  go_enter Sq.func50, Sq.ntmps50
  go_wp2
  all_goals (go_ret; exact ⟨ret_bool (by simp_all [win, isDay]; try omega), rfl⟩)
theorem spec_l03Day_any (n : Int) (w : World) : Calls Sq.prog 26 #[.int .i64 n] w fun e w' => e = .returned (.bool (isDay n)) ∧ w = w' := by
  go_enter Sq.func26, Sq.ntmps26
  go_wp2
  all_goals (go_ret; exact ⟨ret_bool (by simp_all [win, isDay]; try omega), rfl⟩)
theorem impl_isAccount_any (n : Int) (w : World) : Calls Sq.prog 51 #[.int .i64 n] w fun e w' => e = .returned (.bool (isAccount n)) ∧ w = w' := by
  go_enter Sq.func51, Sq.ntmps51
  go_wp2
  all_goals (go_ret; exact ⟨ret_bool (by simp_all [win, isAccount]; try omega), rfl⟩)
theorem spec_l03Account_any (n : Int) (w : World) : Calls Sq.prog 49 #[.int .i64 n] w fun e w' => e = .returned (.bool (isAccount n)) ∧ w = w' := by
  go_enter Sq.func49, Sq.ntmps49
  go_wp2
  all_goals (go_ret; exact ⟨ret_bool (by simp_all [win, isAccount]; try omega), rfl⟩)
end Go.Proofs.Ytpigjhagdpeofaa

namespace Go.Proofs.Ytpigjhagdpeofaa
open Go.RowKit
set_option linter.unusedVariables false

set_option maxRecDepth 100000 in
set_option maxHeartbeats 1600000 in
theorem impl_rounded (a b r : Int) (w : World) (h0 : 0 ≤ a) (h1 : a ≤ 9000000000000000000) (h2 : 1 ≤ b) (h3 : b ≤ 9000000000000000000) :
    Calls Sq.prog 63 #[.int .i64 a, .int .i64 b, .int .i64 r] w fun e w' => e = .returned (.int .i64 (rnd a b r)) ∧ ∃ n, w' = w.drewN n := by
  have q0 : 0 ≤ a / b := Int.ediv_nonneg h0 (by omega)
  have q1 : a / b ≤ a := Int.ediv_le_self _ h0
  have m0 : 0 ≤ a % b := Int.emod_nonneg _ (by omega)
  have m1 : a % b < b := Int.emod_lt_of_pos _ (by omega)
  have t1 : IntKind.i64.wrap (a.tdiv b) = a / b := IntWalk.i64_quo a b ⟨h0, by omega, h2⟩
  have t2 : a.tmod b = a % b := Int.tmod_eq_emod_of_nonneg h0
  have hb : (b == 0) = false := by simp; omega
  obtain ⟨q, hq⟩ : ∃ q, a / b = q := ⟨_, rfl⟩
  obtain ⟨m, hm⟩ : ∃ m, a % b = m := ⟨_, rfl⟩
  have hr : rnd a b r = q + if (decide (r = 1) && decide (b - m ≤ m)) || (decide (r = 2) && (decide (b - m < m) || (decide (m = b - m) && decide (q % 2 = 1)))) || (decide (r = 3) && decide (0 < m)) then 1 else 0 := by simp only [rnd, up, hq, hm]
  obtain ⟨R, hR⟩ : ∃ R, rnd a b r = R := ⟨_, rfl⟩
  rw [hR] at hr ⊢
  have HR := Lib.hid hr
  clear hr hR
  rw [hq] at q0 q1 t1
  rw [hm] at m0 m1 t2
  cases he : (m == b - m)
  all_goals
    go_enter Sq.func63, Sq.ntmps63
    go_wp2
    go_quiet (fail)
    clear t1 t2 hb
    go_wp2
    all_goals (go_ret; refine ⟨ret_int ?_, ⟨_, rfl⟩⟩; have hr := HR.out; simp only [Bool.or_eq_true, Bool.and_eq_true, decide_eq_true_eq] at hr; rw [hr]; simp only [beq_iff_eq, beq_eq_false_iff_ne, ne_eq] at *; split <;> omega)
end Go.Proofs.Ytpigjhagdpeofaa

namespace Go.Proofs.Ytpigjhagdpeofaa
open Go.RowKit
set_option linter.unusedVariables false

set_option maxRecDepth 100000 in
set_option maxHeartbeats 1600000 in
theorem spec_l02Round (a b r : Int) (w : World) (h0 : 0 ≤ a) (h1 : a ≤ 9000000000000000000) (h2 : 1 ≤ b) (h3 : b ≤ 9000000000000000000) :
    Calls Sq.prog 58 #[.int .i64 a, .int .i64 b, .int .i64 r] w fun e w' => e = .returned (.int .i64 (rnd a b r)) ∧ ∃ n, w' = w.drewN n := by
  have q0 : 0 ≤ a / b := Int.ediv_nonneg h0 (by omega)
  have q1 : a / b ≤ a := Int.ediv_le_self _ h0
  have m0 : 0 ≤ a % b := Int.emod_nonneg _ (by omega)
  have m1 : a % b < b := Int.emod_lt_of_pos _ (by omega)
  obtain ⟨q, hq⟩ : ∃ q, a / b = q := ⟨_, rfl⟩
  obtain ⟨m, hm⟩ : ∃ m, a % b = m := ⟨_, rfl⟩
  have hr : rnd a b r = q + if (decide (r = 1) && decide (b - m ≤ m)) || (decide (r = 2) && (decide (b - m < m) || (decide (m = b - m) && decide (q % 2 = 1)))) || (decide (r = 3) && decide (0 < m)) then 1 else 0 := by simp only [rnd, up, hq, hm]
  obtain ⟨R, hR⟩ : ∃ R, rnd a b r = R := ⟨_, rfl⟩
  rw [hR] at hr ⊢
  have HR := Lib.hid hr
  clear hr hR
  rw [hq] at q0 q1
  rw [hm] at m0 m1
  cases he : (m == b - m)
  all_goals
    go_enter Sq.func58, Sq.ntmps58
    go_wp2
    all_goals (go_ret; refine ⟨ret_int ?_, ⟨0, rfl⟩⟩; have hr := HR.out; simp only [Bool.or_eq_true, Bool.and_eq_true, decide_eq_true_eq] at hr; rw [hr]; simp only [beq_iff_eq, beq_eq_false_iff_ne, ne_eq] at *; split <;> omega)
end Go.Proofs.Ytpigjhagdpeofaa

namespace Go.Proofs.Ytpigjhagdpeofaa
open Go.RowKit
set_option linter.unusedVariables false

theorem l00Min_any (a b : Int) (w : World) : Calls Sq.prog 73 #[.int .i64 a, .int .i64 b] w fun e w' => e = .returned (.int .i64 (min a b)) ∧ w = w' := by
  go_enter Sq.func73, Sq.ntmps73
  go_wp2
  all_goals (go_ret; exact ⟨ret_int (by omega), rfl⟩)
/-- What a round of the sum adds, with the end written as the program does. -/
theorem endA_last {fb : Nat → Int} {n : Nat} {c : Int} {k : Nat} (h : ¬ k + 1 < n) : endA fb n c k = c := if_neg h
theorem endA_min {fb : Nat → Int} {n : Nat} {c : Int} {k : Nat} (h : k + 1 < n) : endA fb n c k = min c (fb (k + 1)) := if_pos h

set_option maxHeartbeats 1600000 in
theorem exact_impl (gb cb gr cr nb nr : Nat) (fb fr : Nat → Int) (c : Int) (w : World) (mb : nb < 1000000000) (mr : nr < 1000000000) (Ib : Ints w gb 0 nb fb) (Ir : Ints w gr 0 nr fr) (h : ScaleIs fb nb fr nr) (c0 : 0 ≤ c) (c1 : c ≤ 1000000000000) :
    Calls Sq.prog 64 #[.agg #[.slice (some ⟨gb, 0, none⟩) nb cb, .slice (some ⟨gr, 0, none⟩) nr cr], .int .i64 c] w (RetV w (.int .i64 (exF fb fr nb c))) := by
  have bA : Below w.heap.size w (w.alloc (.cells #[.slice (some ⟨gb, 0, none⟩) nb cb, .slice (some ⟨gr, 0, none⟩) nr cr] 39)) := by go_grown
  have Jb := Ib.below bA
  have Jr := Ir.below bA
  have HS := Lib.hid h
  have n8 := h.n8
  have e : nr = nb := h.nr
  subst e
  clear h
  go_enter Sq.func64, Sq.ntmps64
  go_wp2
  go_loop [12, 5] (fun i s => ∃ k : Nat, k ≤ nr ∧ i = .int .i64 k ∧ s = .int .i64 (exS fb fr nr c k)) (fun i _ => nr - (intOf i).toNat)
  case atStart => exact ⟨0, Nat.zero_le _, rfl, rfl⟩
  case round =>
    obtain ⟨k, hk, rfl, rfl⟩ := hrel
    by_cases hlt : k < nr
    · have d0 := Jb.at0 k hlt
      have d1 := Jr.at0 k hlt
      have b0 := HS.out.b k hlt
      by_cases hc : c ≤ fb k
      · have HF := Lib.hid (exS_stop HS.out hlt hc)
        go_wp2
        go_ret
        exact ⟨ret_int HF.out.symm, bA⟩
      · have hc' : fb k < c := by omega
        have pb := piece_bd HS.out hlt hc'
        have sb := exS_bd8 HS.out c0 k hk
        have r0 := HS.out.r k hlt
        have HF := Lib.hid (exS_on (fr := fr) (nb := nr) hc')
        have eb := endA_bd HS.out hlt hc'
        by_cases h1 : k + 1 < nr
        · have d2 := Jb.at0 (k + 1) h1
          have b1 := HS.out.b (k + 1) h1
          have HE := Lib.hid (endA_min (fb := fb) (c := c) h1)
          have l0 : (0 : Int) ≤ (k : Int) + 1 := by omega
          have l1 : ((k : Int) + 1).toNat = k + 1 := by omega
          by_cases hm : c ≤ fb (k + 1)
          · have hE : endA fb nr c k = c := by rw [HE.out]; omega
            rw [hE] at pb eb
            have HF2 : Hid (exS fb fr nr c (k + 1) = exS fb fr nr c k + (c - fb k) * fr k) := by rw [hE] at HF; exact HF
            clear hE
            go_wp2
            all_goals
              go_round
              case rel => exact ⟨k + 1, by omega, by go_num, by rw [HF2.out]⟩
              case measure => simp [intOf]; omega
          · have hm' : fb (k + 1) < c := by omega
            have hE : endA fb nr c k = fb (k + 1) := by rw [HE.out]; omega
            rw [hE] at pb eb
            have HF2 : Hid (exS fb fr nr c (k + 1) = exS fb fr nr c k + (fb (k + 1) - fb k) * fr k) := by rw [hE] at HF; exact HF
            clear hE
            go_wp2
            all_goals
              go_round
              case rel => exact ⟨k + 1, by omega, by go_num, by rw [HF2.out]⟩
              case measure => simp [intOf]; omega
        · have hE := endA_last (fb := fb) (c := c) h1
          rw [hE] at pb eb
          have HF2 : Hid (exS fb fr nr c (k + 1) = exS fb fr nr c k + (c - fb k) * fr k) := by rw [hE] at HF; exact HF
          have h1' : ¬ (k : Int) + 1 < nr := by omega
          clear hE
          go_wp2
          go_round
          case rel => exact ⟨k + 1, by omega, by go_num, by rw [HF2.out]⟩
          case measure => simp [intOf]; omega
    · obtain rfl : k = nr := by omega
      go_wp2
      go_ret
      exact ⟨rfl, bA⟩

theorem due_impl (gb cb gr cr nb nr : Nat) (fb fr : Nat → Int) (c r : Int) (w : World) (mb : nb < 1000000000) (mr : nr < 1000000000) (Ib : Ints w gb 0 nb fb) (Ir : Ints w gr 0 nr fr) (h : ScaleIs fb nb fr nr) (c0 : 0 ≤ c) (c1 : c ≤ 1000000000000) :
    Calls Sq.prog 43 #[.agg #[.slice (some ⟨gb, 0, none⟩) nb cb, .slice (some ⟨gr, 0, none⟩) nr cr], .int .i64 c, .int .i64 r] w (RetV w (.int .i64 (dueF fb fr nb c r))) := by
  have bA : Below w.heap.size w (w.alloc (.cells #[.slice (some ⟨gb, 0, none⟩) nb cb, .slice (some ⟨gr, 0, none⟩) nr cr] 39)) := by go_grown
  have eb := exF_bd h c0
  go_enter Sq.func43, Sq.ntmps43
  go_wp2_with (first | (go_at_call 64; refine (exact_impl gb cb gr cr nb nr fb fr c _ mb mr (Ib.below bA) (Ir.below bA) h c0 c1).mono ?_; rintro e w1 ⟨rfl, hb⟩) | (go_at_call 63; refine (impl_rounded _ _ _ _ (by omega) (by omega) (by omega) (by omega)).mono ?_; rintro e w2 ⟨rfl, m, rfl⟩))
  go_ret
  exact ⟨rfl, Below.drewN' (bnext bA hb) _⟩
set_option maxHeartbeats 1600000 in
theorem exact_spec (g : Nat) (gb cb gr cr nb nr : Nat) (fb fr : Nat → Int) (c : Int) (w : World) (k0 : w.cell? ⟨g, 0, none⟩ = some (.slice (some ⟨gb, 0, none⟩) nb cb)) (k1 : w.cell? ⟨g, 1, none⟩ = some (.slice (some ⟨gr, 0, none⟩) nr cr)) (mb : nb < 1000000000) (mr : nr < 1000000000) (Ib : Ints w gb 0 nb fb) (Ir : Ints w gr 0 nr fr) (h : ScaleIs fb nb fr nr) (c0 : 0 ≤ c) (c1 : c ≤ 1000000000000) :
    Calls Sq.prog 59 #[.pointer (some ⟨g, 0, none⟩), .int .i64 c] w fun e w' => e = .returned (.int .i64 (exF fb fr nb c)) ∧ ∃ m, w' = w.drewN m := by
  have HS := Lib.hid h
  have n8 := h.n8
  have e : nr = nb := h.nr
  subst e
  clear h
  go_enter Sq.func59, Sq.ntmps59
  go_wp2
  go_loopw [6, 5] (fun i s wr => ∃ k : Nat, k ≤ nr ∧ i = .int .i64 k ∧ s = .int .i64 (exS fb fr nr c k) ∧ ∃ m, wr = w.drewN m) (fun i _ _ => nr - (intOf i).toNat)
  case atStart => exact ⟨0, Nat.zero_le _, rfl, rfl, 0, rfl⟩
  case round =>
    obtain ⟨k, hk, rfl, rfl, m, rfl⟩ := hrel
    by_cases hlt : k < nr
    · have d0 := Ib.at0 k hlt
      have d1 := Ir.at0 k hlt
      have b0 := HS.out.b k hlt
      have l5 : (k : Int) < nr := by omega
      by_cases hc : c ≤ fb k
      · have HF := Lib.hid (exS_stop HS.out hlt hc)
        go_wp2
        go_ret
        exact ⟨ret_int HF.out.symm, _, rfl⟩
      · have hc' : fb k < c := by omega
        have pb := piece_bd HS.out hlt hc'
        have sb := exS_bd8 HS.out c0 k hk
        have r0 := HS.out.r k hlt
        have HF := Lib.hid (exS_on (fr := fr) (nb := nr) hc')
        have eb := endA_bd HS.out hlt hc'
        by_cases h1 : k + 1 < nr
        · have d2 := Ib.at0 (k + 1) h1
          have b1 := HS.out.b (k + 1) h1
          have HE := Lib.hid (endA_min (fb := fb) (c := c) h1)
          have l0 : (0 : Int) ≤ (k : Int) + 1 := by omega
          have l1 : ((k : Int) + 1).toNat = k + 1 := by omega
          rw [HE.out] at pb eb
          have HF2 : Hid (exS fb fr nr c (k + 1) = exS fb fr nr c k + (min c (fb (k + 1)) - fb k) * fr k) := by rw [HE.out] at HF; exact HF
          have e1 : IntKind.i64.wrap (min c (fb (k + 1)) - fb k) = min c (fb (k + 1)) - fb k := IntWalk.i64_in _ (by omega)
          have e2 : IntKind.i64.wrap ((min c (fb (k + 1)) - fb k) * fr k) = (min c (fb (k + 1)) - fb k) * fr k := IntWalk.i64_in _ (by omega)
          have e3 : IntKind.i64.wrap (exS fb fr nr c k + (min c (fb (k + 1)) - fb k) * fr k) = exS fb fr nr c k + (min c (fb (k + 1)) - fb k) * fr k := IntWalk.i64_in _ (by omega)
          go_wp2_with (first | (go_at_call 73; refine (l00Min_any _ _ _).mono ?_; rintro e w' ⟨rfl, rfl⟩))
          go_quiet (fail)
          clear e1 e2 e3
          go_wp2
          go_roundw
          case rel => exact ⟨k + 1, by omega, by go_num, by rw [HF2.out], _, rfl⟩
          case measure => simp [intOf]; omega
        · have hE := endA_last (fb := fb) (c := c) h1
          rw [hE] at pb eb
          have HF2 : Hid (exS fb fr nr c (k + 1) = exS fb fr nr c k + (c - fb k) * fr k) := by rw [hE] at HF; exact HF
          have h1' : ¬ (k : Int) + 1 < nr := by omega
          clear hE
          have e1 : IntKind.i64.wrap (c - fb k) = c - fb k := IntWalk.i64_in _ (by omega)
          have e2 : IntKind.i64.wrap ((c - fb k) * fr k) = (c - fb k) * fr k := IntWalk.i64_in _ (by omega)
          have e3 : IntKind.i64.wrap (exS fb fr nr c k + (c - fb k) * fr k) = exS fb fr nr c k + (c - fb k) * fr k := IntWalk.i64_in _ (by omega)
          go_wp2_with fail
          go_quiet (fail)
          clear e1 e2 e3
          go_wp2
          go_roundw
          case rel => exact ⟨k + 1, by omega, by go_num, by rw [HF2.out], _, rfl⟩
          case measure => simp [intOf]; omega
    · obtain rfl : k = nr := by omega
      go_wp2
      go_ret
      exact ⟨rfl, _, rfl⟩
theorem due_spec (g : Nat) (gb cb gr cr nb nr : Nat) (fb fr : Nat → Int) (c r : Int) (w : World) (k0 : w.cell? ⟨g, 0, none⟩ = some (.slice (some ⟨gb, 0, none⟩) nb cb)) (k1 : w.cell? ⟨g, 1, none⟩ = some (.slice (some ⟨gr, 0, none⟩) nr cr)) (mb : nb < 1000000000) (mr : nr < 1000000000) (Ib : Ints w gb 0 nb fb) (Ir : Ints w gr 0 nr fr) (h : ScaleIs fb nb fr nr) (c0 : 0 ≤ c) (c1 : c ≤ 1000000000000) :
    Calls Sq.prog 40 #[.pointer (some ⟨g, 0, none⟩), .int .i64 c, .int .i64 r] w fun e w' => e = .returned (.int .i64 (dueF fb fr nb c r)) ∧ ∃ m, w' = w.drewN m := by
  have eb := exF_bd h c0
  go_enter Sq.func40, Sq.ntmps40
  go_wp2_with (first | (go_at_call 59; refine (exact_spec g gb cb gr cr nb nr fb fr c _ k0 k1 mb mr Ib Ir h c0 c1).mono ?_; rintro e w1 ⟨rfl, m, rfl⟩) | (go_at_call 58; refine (spec_l02Round _ _ _ _ (by omega) (by omega) (by omega) (by omega)).mono ?_; rintro e w2 ⟨rfl, m2, rfl⟩))
  go_ret
  exact ⟨rfl, _, rfl⟩
end Go.Proofs.Ytpigjhagdpeofaa

namespace Go.Proofs.Ytpigjhagdpeofaa
open Go.RowKit
set_option linter.unusedVariables false

theorem areOut_any (n l h : Int) (B1 B2 : Nat) (w : World) (c1 : w.cell? ⟨B1, 0, none⟩ = some (.int .i64 l)) (c2 : w.cell? ⟨B2, 0, none⟩ = some (.int .i64 h)) :
    Calls Sq.prog 71 #[.int .i64 n, .pointer (some ⟨B1, 0, none⟩), .pointer (some ⟨B2, 0, none⟩)] w fun e w' => e = .returned (.bool (!win n l h)) ∧ w = w' := by
  go_enter Sq.func71, Sq.ntmps71
  go_wp2_with (first | (go_at_call 52; refine (impl_within_any _ _ _ _).mono ?_; rintro e w' ⟨rfl, rfl⟩))
  go_ret
  exact ⟨rfl, rfl⟩

/-- An index, or -1. -/
def IdxOut (b : Bool) (w : World) (e : Ending) (w' : World) : Prop := ∃ r : Int, e = .returned (.int .i64 r) ∧ decide (0 ≤ r) = !b ∧ w = w'

set_option maxHeartbeats 800000 in
theorem indexOut_any (n g off c B1 B2 : Nat) (f : Nat → Int) (l h : Int) (w : World) (hn : n < 1000000000) (hI : Ints w g off n f) (c1 : w.cell? ⟨B1, 0, none⟩ = some (.int .i64 l)) (c2 : w.cell? ⟨B2, 0, none⟩ = some (.int .i64 h)) :
    Calls Sq.prog 77 #[.slice (some ⟨g, off, none⟩) n c, .func (.func 71) #[] #[.pointer (some ⟨B1, 0, none⟩), .pointer (some ⟨B2, 0, none⟩)]] w (IdxOut (allW f l h n) w) := by
  go_enter Sq.func77, Sq.ntmps77
  go_wp2
  go_loop [8] (fun i => ∃ k : Nat, k ≤ n ∧ i = .int .i64 k ∧ Hid (allW f l h k = true)) (fun i => n - (intOf i).toNat)
  case atStart => exact ⟨0, Nat.zero_le _, rfl, rfl⟩
  case round =>
    obtain ⟨k, hk, rfl, ha⟩ := hrel
    by_cases hlt : k < n
    · have hc := hI.at k hlt
      cases hw : win (f k) l h
      · have HF := Lib.hid (allW_false k hlt hw)
        go_wp2_with (go_at_call 71; refine (areOut_any _ l h B1 B2 _ c1 c2).mono ?_; rintro e w' ⟨rfl, rfl⟩)
        go_ret
        exact ⟨k, rfl, by rw [HF.out]; simp, rfl⟩
      · have HF := Lib.hid (allW_succ ha.out hw)
        go_wp2_with (go_at_call 71; refine (areOut_any _ l h B1 B2 _ c1 c2).mono ?_; rintro e w' ⟨rfl, rfl⟩)
        go_round
        case rel => exact ⟨k + 1, by omega, by go_num, HF⟩
        case measure => simp [intOf]; omega
    · obtain rfl : k = n := by omega
      go_wp2
      go_ret
      exact ⟨-1, rfl, by rw [ha.out]; rfl, rfl⟩

theorem containsOut_any (n g off c B1 B2 : Nat) (f : Nat → Int) (l h : Int) (w : World) (hn : n < 1000000000) (hI : Ints w g off n f) (c1 : w.cell? ⟨B1, 0, none⟩ = some (.int .i64 l)) (c2 : w.cell? ⟨B2, 0, none⟩ = some (.int .i64 h)) :
    Calls Sq.prog 70 #[.slice (some ⟨g, off, none⟩) n c, .func (.func 71) #[] #[.pointer (some ⟨B1, 0, none⟩), .pointer (some ⟨B2, 0, none⟩)]] w fun e w' => e = .returned (.bool (!allW f l h n)) ∧ w = w' := by
  go_enter Sq.func70, Sq.ntmps70
  go_wp2_with (go_at_call 77; refine (indexOut_any n g off c B1 B2 f l h _ hn hI c1 c2).mono ?_; rintro e w' ⟨r, rfl, hr, rfl⟩)
  go_ret
  first
    | exact ⟨rfl, rfl⟩
    | exact ⟨ret_bool hr, rfl⟩

theorem areWithin_any (n g off c : Nat) (f : Nat → Int) (l h : Int) (w : World) (hn : n < 1000000000) (hI : Ints w g off n f) :
    Calls Sq.prog 53 #[.slice (some ⟨g, off, none⟩) n c, .int .i64 l, .int .i64 h] w (RetV w (.bool (allW f l h n))) := by
  have hb : Below w.heap.size w ((w.alloc (.cells #[.int .i64 l] 2)).alloc (.cells #[.int .i64 h] 2)) := by go_grown
  have hI2 := hI.below hb
  have k1 : ((w.alloc (.cells #[.int .i64 l] 2)).alloc (.cells #[.int .i64 h] 2)).cell? ⟨w.heap.size, 0, none⟩ = some (.int .i64 l) := by simp [go_sem]
  have k2 : ((w.alloc (.cells #[.int .i64 l] 2)).alloc (.cells #[.int .i64 h] 2)).cell? ⟨w.heap.size + 1, 0, none⟩ = some (.int .i64 h) := by simp [go_sem]
  go_enter Sq.func53, Sq.ntmps53
  go_wp2_with (go_at_call 70; refine (containsOut_any n g off c _ _ f l h _ hn hI2 k1 k2).mono ?_; rintro e w' ⟨rfl, rfl⟩)
  go_ret
  exact ⟨ret_bool (by simp), hb⟩

theorem hasCount_any (n g off c : Nat) (f : Nat → Int) (a b : Int) (l h : Int) (w : World) (hn : n < 1000000000) (hI : Ints w g off n f) :
    Calls Sq.prog 31 #[.slice (some ⟨g, off, none⟩) n c, .int .i64 a, .int .i64 b, .int .i64 l, .int .i64 h] w (RetV w (.bool (cntB f n a b l h))) := by
  by_cases h1 : a ≤ (n : Int)
  · by_cases h2 : (n : Int) ≤ b
    · go_enter Sq.func31, Sq.ntmps31
      go_wp2_with (go_at_call 53; refine (areWithin_any n g off c f l h _ hn hI).mono ?_; rintro e w' ⟨rfl, hb⟩)
      go_ret
      exact ⟨ret_bool (by simp [cntB, win, h1, h2]), hb⟩
    · go_enter Sq.func31, Sq.ntmps31
      go_wp2_with fail
      go_ret
      exact ⟨ret_bool (by first | (rw [cnt_no (by rw [win_not]; omega)]; done) | (rw [cnt_no (by rw [win_not]; omega)]; simp; done) | (rw [cnt_no (by rw [win_not]; omega)]; simp; omega)), Below.refl _ _⟩
  · go_enter Sq.func31, Sq.ntmps31
    go_wp2_with fail
    go_ret
    exact ⟨ret_bool (by first | (rw [cnt_no (by rw [win_not]; omega)]; done) | (rw [cnt_no (by rw [win_not]; omega)]; simp; done) | (rw [cnt_no (by rw [win_not]; omega)]; simp; omega)), Below.refl _ _⟩
end Go.Proofs.Ytpigjhagdpeofaa

namespace Go.Proofs.Ytpigjhagdpeofaa
open Go.RowKit
set_option linter.unusedVariables false

theorem asc_any (n g c : Nat) (f : Nat → Int) (w : World) (h0 : 1 ≤ n) (hn : n < 1000000000) (hI : Ints w g 0 n f) :
    Calls Sq.prog 74 #[.slice (some ⟨g, 0, none⟩) n c] w (RetV w (.bool (ascB f n))) := by
  go_enter Sq.func74, Sq.ntmps74
  go_wp2
  go_loopw [3] (fun i wr => ∃ k : Nat, k + 1 ≤ n ∧ i = .int .i64 (k + 1) ∧ Hid (allB (ascP f) (k + 1) = true) ∧ Below w.heap.size w wr) (fun i _ => n - (intOf i).toNat)
  case atStart => exact ⟨0, h0, by go_num, rfl, Below.refl _ _⟩
  case round =>
    obtain ⟨k, hk, rfl, ha, hb⟩ := hrel
    by_cases hlt : k + 1 < n
    · have c1 := Below.cellOf hb rfl (hI.at0 k (by omega))
      have c2 := Below.cellOf hb rfl (hI.at0 (k + 1) hlt)
      have l1 : (k : Int) + 1 < n := by omega
      have l2 : (0 : Int) ≤ (k : Int) + 1 := by omega
      have l3 : ((k : Int) + 1).toNat = k + 1 := by omega
      have l4 : k < n := by omega
      have l5 : (k : Int) < n := by omega
      have e1 : IntKind.i64.wrap ((k : Int) + 1 - 1) = k := by rw [show (k : Int) + 1 - 1 = k by omega]; exact IntWalk.i64_in _ (by omega)
      by_cases hx : f (k + 1) ≤ f k
      · have HF : Hid (ascB f n = false) := allB_false (k + 1) hlt (ascP_not hx)
        go_wp2
        go_quiet (fail)
        go_wp2
        go_ret
        exact ⟨ret_bool HF.out.symm, Below.drewN' hb _⟩
      · have HF : Hid (allB (ascP f) (k + 1 + 1) = true) := allB_succ ha.out (ascP_two (by omega))
        go_wp2
        go_quiet (fail)
        go_wp2
        go_roundw
        case rel => exact ⟨k + 1, by omega, by go_num, HF, Below.drewN' hb _⟩
        case measure => simp [intOf]; omega
    · obtain rfl : n = k + 1 := by omega
      have HF : Hid (ascB f (k + 1) = true) := ha.out
      go_wp2
      go_ret
      exact ⟨ret_bool HF.out.symm, hb⟩

set_option maxHeartbeats 1600000 in
theorem valid_impl (gb cb gr cr nb nr : Nat) (fb fr : Nat → Int) (w : World) (mb : nb < 1000000000) (mr : nr < 1000000000) (Ib : Ints w gb 0 nb fb) (Ir : Ints w gr 0 nr fr) : Calls Sq.prog 60 #[.agg #[.slice (some ⟨gb, 0, none⟩) nb cb, .slice (some ⟨gr, 0, none⟩) nr cr]] w (RetV w (.bool (scaleOk fb nb fr nr))) := by
  have bA : Below w.heap.size w (w.alloc (.cells #[.slice (some ⟨gb, 0, none⟩) nb cb, .slice (some ⟨gr, 0, none⟩) nr cr] 39)) := by go_grown
  have HK0 : Hid ((w.alloc (.cells #[.slice (some ⟨gb, 0, none⟩) nb cb, .slice (some ⟨gr, 0, none⟩) nr cr] 39)).cell? ⟨w.heap.size, 0, none⟩ = some (.slice (some ⟨gb, 0, none⟩) nb cb)) := by show (w.alloc (.cells #[.slice (some ⟨gb, 0, none⟩) nb cb, .slice (some ⟨gr, 0, none⟩) nr cr] 39)).cell? _ = _; simp [go_sem]
  have HK1 : Hid ((w.alloc (.cells #[.slice (some ⟨gb, 0, none⟩) nb cb, .slice (some ⟨gr, 0, none⟩) nr cr] 39)).cell? ⟨w.heap.size, 1, none⟩ = some (.slice (some ⟨gr, 0, none⟩) nr cr)) := by show (w.alloc (.cells #[.slice (some ⟨gb, 0, none⟩) nb cb, .slice (some ⟨gr, 0, none⟩) nr cr] 39)).cell? _ = _; simp [go_sem]
  cases h1 : cntB fb nb 1 8 0 1000000000000
  · rw [scale_no1 h1]
    go_enter Sq.func60, Sq.ntmps60
    go_wp2_with (first | (go_at_call 31; refine (hasCount_any nb gb 0 cb fb _ _ _ _ _ mb (Ib.below bA)).mono ?_; rintro e w1 ⟨rfl, hb⟩))
    go_ret
    exact ⟨rfl, bnext bA hb⟩
  obtain ⟨⟨n1, n8⟩, hbk⟩ := cntB_iff.1 h1
  have AR : Hid (∀ w', Ints w' gb 0 nb fb → Calls Sq.prog 31 #[.slice (some ⟨gb, 0, none⟩) nb cb, .int .i64 1, .int .i64 8, .int .i64 0, .int .i64 1000000000000] w' (RetV w' (.bool true))) := fun w' I => by have := hasCount_any nb gb 0 cb fb 1 8 0 1000000000000 w' mb I; rwa [h1] at this
  have HB := Lib.hid hbk
  clear h1 hbk
  by_cases h2 : ¬ fb 0 = 0
  · have HF : Hid (scaleOk fb nb fr nr = false) := scale_not fun h => h2 h.b0
    have h2' : (fb 0 == 0) = false := by simpa using h2
    clear h2
    go_enter Sq.func60, Sq.ntmps60
    go_wp2_with fail
    refine (AR.out _ (Ib.below bA)).mono ?_
    rintro e w1 ⟨rfl, hb⟩
    have C1 := bnext bA hb
    have k0 := Below.cellOf hb rfl HK0.out
    have c0 := (Ib.below C1).at0 0 (by omega)
    go_wp2_with fail
    go_ret
    exact ⟨ret_bool HF.out.symm, C1⟩
  have h2 := Classical.not_not.1 h2
  have H2 := Lib.hid h2
  have h2' : (fb 0 == 0) = true := by simpa using h2
  clear h2
  cases h3 : ascB fb nb
  · have HF : Hid (scaleOk fb nb fr nr = false) := scale_not fun h => by rw [asc_iff.2 h.asc] at h3; cases h3
    go_enter Sq.func60, Sq.ntmps60
    go_wp2_with fail
    refine (AR.out _ (Ib.below bA)).mono ?_
    rintro e w1 ⟨rfl, hb⟩
    have C1 := bnext bA hb
    have k0 := Below.cellOf hb rfl HK0.out
    have c0 := (Ib.below C1).at0 0 (by omega)
    go_wp2_with (first | (go_at_call 74; refine (asc_any nb gb cb fb _ (by omega) mb (Ib.below C1)).mono ?_; rintro e w2 ⟨rfl, hb2⟩))
    go_ret
    exact ⟨ret_bool HF.out.symm, bnext C1 hb2⟩
  have AS : Hid (∀ w', Ints w' gb 0 nb fb → Calls Sq.prog 74 #[.slice (some ⟨gb, 0, none⟩) nb cb] w' (RetV w' (.bool true))) := fun w' I => by have := asc_any nb gb cb fb w' (by omega) mb I; rwa [h3] at this
  have H3 := Lib.hid h3
  clear h3
  by_cases h4 : ¬ nr = nb
  · have HF : Hid (scaleOk fb nb fr nr = false) := scale_not fun h => h4 h.nr
    have h4' : ((nr : Int) == nb) = false := by simp; omega
    clear h4
    go_enter Sq.func60, Sq.ntmps60
    go_wp2_with fail
    refine (AR.out _ (Ib.below bA)).mono ?_
    rintro e w1 ⟨rfl, hb⟩
    have C1 := bnext bA hb
    have k0 := Below.cellOf hb rfl HK0.out
    have k1 := Below.cellOf hb rfl HK1.out
    have c0 := (Ib.below C1).at0 0 (by omega)
    have HK0' := Lib.hid k0
    have HK1' := Lib.hid k1
    go_wp2_with fail
    refine (AS.out _ (Ib.below C1)).mono ?_
    rintro e w2 ⟨rfl, hb2⟩
    have C2 := bnext C1 hb2
    have k2 := Below.cellOf hb2 rfl HK0'.out
    have k3 := Below.cellOf hb2 rfl HK1'.out
    go_wp2_with fail
    go_ret
    exact ⟨ret_bool HF.out.symm, C2⟩
  obtain rfl : nr = nb := Classical.not_not.1 h4
  have h4' : ((nr : Int) == nr) = true := by simp
  go_enter Sq.func60, Sq.ntmps60
  go_wp2_with fail
  refine (AR.out _ (Ib.below bA)).mono ?_
  rintro e w1 ⟨rfl, hb⟩
  have C1 := bnext bA hb
  have k0 := Below.cellOf hb rfl HK0.out
  have k1 := Below.cellOf hb rfl HK1.out
  have c0 := (Ib.below C1).at0 0 (by omega)
  have HK0' := Lib.hid k0
  have HK1' := Lib.hid k1
  go_wp2_with fail
  refine (AS.out _ (Ib.below C1)).mono ?_
  rintro e w2 ⟨rfl, hb2⟩
  have C2 := bnext C1 hb2
  have k2 := Below.cellOf hb2 rfl HK0'.out
  have k3 := Below.cellOf hb2 rfl HK1'.out
  go_wp2_with fail
  refine (areWithin_any nr gr 0 cr fr _ _ _ mr (Ir.below C2)).mono ?_
  rintro e w3 ⟨rfl, hb3⟩
  cases h5 : allW fr 0 10000 nr
  · have HF : Hid (scaleOk fb nr fr nr = false) := scale_not fun h => by rw [allW_iff.2 h.r] at h5; cases h5
    go_wp2_with fail
    go_ret
    exact ⟨ret_bool HF.out.symm, bnext C2 hb3⟩
  · have HF : Hid (scaleOk fb nr fr nr = true) := scale_mk ⟨by omega, by omega, rfl, H2.out, HB.out, asc_iff.1 H3.out, allW_iff.1 h5⟩
    go_wp2_with fail
    go_ret
    exact ⟨ret_bool HF.out.symm, bnext C2 hb3⟩
end Go.Proofs.Ytpigjhagdpeofaa

namespace Go.Proofs.Ytpigjhagdpeofaa
open Go.RowKit
set_option linter.unusedVariables false

def askOk (fb : Nat → Int) (nb : Nat) (fr : Nat → Int) (nr : Nat) (c r : Int) : Bool := scaleOk fb nb fr nr && isAmount c && isRound r
theorem ask_is {fb fr : Nat → Int} {nb nr : Nat} {c r : Int} (h : askOk fb nb fr nr c r = true) : ScaleIs fb nb fr nr ∧ (0 ≤ c ∧ c ≤ 1000000000000) ∧ 0 ≤ r ∧ r ≤ 3 := by
  obtain ⟨h1, h2, h3⟩ := all_yes3 h
  exact ⟨scale_is h1, win_iff.1 h2, win_iff.1 h3⟩

set_option maxHeartbeats 800000 in
theorem isAsked_any (gb cb gr cr nb nr : Nat) (fb fr : Nat → Int) (c r : Int) (w : World) (mb : nb < 1000000000) (mr : nr < 1000000000) (Ib : Ints w gb 0 nb fb) (Ir : Ints w gr 0 nr fr) : Calls Sq.prog 41 #[.agg #[.slice (some ⟨gb, 0, none⟩) nb cb, .slice (some ⟨gr, 0, none⟩) nr cr], .int .i64 c, .int .i64 r] w (RetV w (.bool (askOk fb nb fr nr c r))) := by
  have bA : Below w.heap.size w (w.alloc (.cells #[.slice (some ⟨gb, 0, none⟩) nb cb, .slice (some ⟨gr, 0, none⟩) nr cr] 39)) := by go_grown
  cases h : askOk fb nb fr nr c r
  · rcases first_no3 h with h1 | ⟨h1, h2 | ⟨h2, h3⟩⟩
    all_goals
      clear h
      go_enter Sq.func41, Sq.ntmps41
      go_wp2_with (first | (go_at_call 61; refine (impl_isAmount_any _ _).mono ?_; rintro e w' ⟨rfl, rfl⟩) | (go_at_call 62; refine (impl_isRound_any _ _).mono ?_; rintro e w' ⟨rfl, rfl⟩) | (go_at_call 60; refine (valid_impl gb cb gr cr nb nr fb fr _ mb mr (Ib.below bA) (Ir.below bA)).mono ?_; rintro e w1 ⟨rfl, hb⟩))
      go_ret
      exact ⟨rfl, bnext bA hb⟩
  · obtain ⟨h1, h2, h3⟩ := all_yes3 h
    clear h
    go_enter Sq.func41, Sq.ntmps41
    go_wp2_with (first | (go_at_call 61; refine (impl_isAmount_any _ _).mono ?_; rintro e w' ⟨rfl, rfl⟩) | (go_at_call 62; refine (impl_isRound_any _ _).mono ?_; rintro e w' ⟨rfl, rfl⟩) | (go_at_call 60; refine (valid_impl gb cb gr cr nb nr fb fr _ mb mr (Ib.below bA) (Ir.below bA)).mono ?_; rintro e w1 ⟨rfl, hb⟩))
    go_ret
    exact ⟨rfl, bnext bA hb⟩

set_option maxHeartbeats 1600000 in
theorem is_spec (g : Nat) (gb cb gr cr nb nr : Nat) (fb fr : Nat → Int) (w : World) (k0 : w.cell? ⟨g, 0, none⟩ = some (.slice (some ⟨gb, 0, none⟩) nb cb)) (k1 : w.cell? ⟨g, 1, none⟩ = some (.slice (some ⟨gr, 0, none⟩) nr cr)) (mb : nb < 1000000000) (mr : nr < 1000000000) (Ib : Ints w gb 0 nb fb) (Ir : Ints w gr 0 nr fr) : Calls Sq.prog 56 #[.pointer (some ⟨g, 0, none⟩)] w (RetV w (.bool (scaleOk fb nb fr nr))) := by
  by_cases n1 : ¬ (1 : Int) ≤ nb
  · have HF : Hid (scaleOk fb nb fr nr = false) := scale_not fun h => by have := h.n1; omega
    go_enter Sq.func56, Sq.ntmps56
    go_wp2
    go_ret
    exact ⟨ret_bool HF.out.symm, Below.refl _ _⟩
  have n1 := Classical.not_not.1 n1
  by_cases n8 : ¬ (nb : Int) ≤ 8
  · have HF : Hid (scaleOk fb nb fr nr = false) := scale_not fun h => by have := h.n8; omega
    go_enter Sq.func56, Sq.ntmps56
    go_wp2
    go_ret
    exact ⟨ret_bool HF.out.symm, Below.refl _ _⟩
  have n8 := Classical.not_not.1 n8
  by_cases h4 : ¬ nr = nb
  · have HF : Hid (scaleOk fb nb fr nr = false) := scale_not fun h => h4 h.nr
    have h4' : ((nr : Int) != nb) = true := by simp; omega
    have h4'' : ((nr : Int) == nb) = false := by simp; omega
    clear h4
    go_enter Sq.func56, Sq.ntmps56
    go_wp2
    go_ret
    exact ⟨ret_bool HF.out.symm, Below.refl _ _⟩
  obtain rfl : nr = nb := Classical.not_not.1 h4
  have h4' : ((nr : Int) != nr) = false := by simp
  have c0 := Ib.at0 0 (by omega)
  by_cases h2 : ¬ fb 0 = 0
  · have HF : Hid (scaleOk fb nr fr nr = false) := scale_not fun h => h2 h.b0
    have h2' : (fb 0 != 0) = true := by simpa using h2
    have h2'' : (fb 0 == 0) = false := by simpa using h2
    clear h2
    go_enter Sq.func56, Sq.ntmps56
    go_wp2
    go_ret
    exact ⟨ret_bool HF.out.symm, Below.refl _ _⟩
  have h2 := Classical.not_not.1 h2
  have H2 := Lib.hid h2
  have h2' : (fb 0 != 0) = false := by simpa using h2
  have h2'' : (fb 0 == 0) = true := by simpa using h2
  clear h2
  have HY : Hid (allB (placeOk fb fr) nr = true → scaleOk fb nr fr nr = true) := fun h => scale_all (by omega) (by omega) rfl H2.out h
  have HN : Hid (∀ i, i < nr → placeOk fb fr i = false → scaleOk fb nr fr nr = false) := fun i hi h => scale_no6 hi h
  generalize hS : scaleOk fb nr fr nr = S at *
  clear hS
  go_enter Sq.func56, Sq.ntmps56
  go_wp2
  go_loopw [4] (fun i wr => ∃ k : Nat, k ≤ nr ∧ i = .int .i64 k ∧ Hid (allB (placeOk fb fr) k = true) ∧ Below w.heap.size w wr) (fun i _ => nr - (intOf i).toNat)
  case atStart => exact ⟨0, Nat.zero_le _, rfl, rfl, Below.refl _ _⟩
  case round =>
    obtain ⟨k, hk, rfl, ha, hb⟩ := hrel
    have p0 := Below.cellOf hb rfl k0
    have p1 := Below.cellOf hb rfl k1
    by_cases hlt : k < nr
    · have c1 := Below.cellOf hb rfl (Ib.at0 k hlt)
      have c2 := Below.cellOf hb rfl (Ir.at0 k hlt)
      have l1 : (k : Int) < nr := by omega
      obtain ⟨j, hj⟩ : ∃ j, (k = 0 ∧ j = 0) ∨ k = j + 1 := ⟨k - 1, by omega⟩
      cases hx : placeOk fb fr k
      · have HF := Lib.hid (HN.out k hlt hx)
        have hx' : (isAmount (fb k) && ascP fb k && isRate (fr k)) = false := hx
        rcases first_no3 hx' with h1 | ⟨h1, h5 | ⟨h5, h6⟩⟩
        · clear hx hx' hj
          go_wp2_with fail
          go_quiet ((first | (go_at_call 39; exact Calls.quiet_of_same ((spec_l02Cents_any _ _).mono (fun _ _ h => ⟨h.1, h.2.symm⟩))) | (go_at_call 72; exact Calls.quiet_of_same ((spec_l02Rate_any _ _).mono (fun _ _ h => ⟨h.1, h.2.symm⟩))))); go_wp2
          go_ret
          exact ⟨ret_bool HF.out.symm, Below.drewN' hb _⟩
        · have h7 : ¬ k = 0 ∧ fb k ≤ fb (k - 1) := by simpa [ascP] using h5
          have hj' : k = j + 1 := by omega
          have h8 : fb k ≤ fb j := by have := h7.2; rwa [show k - 1 = j by omega] at this
          have cj := Below.cellOf hb rfl (Ib.at0 j (by omega))
          have e1 : IntKind.i64.wrap ((k : Int) - 1) = j := by rw [show (k : Int) - 1 = j by omega]; exact IntWalk.i64_in _ (by omega)
          have l2 : (0 : Int) < k := by omega
          have l2' : 0 < k := by omega
          have l3 : (j : Int) < nr := by omega
          have l4 : j < nr := by omega
          clear hx hx' h5 h7 hj' hj
          go_wp2_with fail
          go_quiet ((first | (go_at_call 39; exact Calls.quiet_of_same ((spec_l02Cents_any _ _).mono (fun _ _ h => ⟨h.1, h.2.symm⟩))) | (go_at_call 72; exact Calls.quiet_of_same ((spec_l02Rate_any _ _).mono (fun _ _ h => ⟨h.1, h.2.symm⟩))))); go_wp2
          go_ret
          exact ⟨ret_bool HF.out.symm, Below.drewN' hb _⟩
        · rcases hj with ⟨hk0, _⟩ | hj
          · have l2 : decide ((0 : Int) < (k : Int)) = false := decide_eq_false (by omega)
            have l2' : decide (0 < k) = false := decide_eq_false (by omega)
            clear hx hx' h5 hk0
            go_wp2_with fail
            go_quiet ((first | (go_at_call 39; exact Calls.quiet_of_same ((spec_l02Cents_any _ _).mono (fun _ _ h => ⟨h.1, h.2.symm⟩))) | (go_at_call 72; exact Calls.quiet_of_same ((spec_l02Rate_any _ _).mono (fun _ _ h => ⟨h.1, h.2.symm⟩))))); go_wp2
            go_ret
            exact ⟨ret_bool HF.out.symm, Below.drewN' hb _⟩
          · have h8 : ¬ fb k ≤ fb j := by
              have h6' : k = 0 ∨ fb (k - 1) < fb k := by simpa [ascP] using h5
              rw [show k - 1 = j by omega] at h6'
              omega
            have cj := Below.cellOf hb rfl (Ib.at0 j (by omega))
            have e1 : IntKind.i64.wrap ((k : Int) - 1) = j := by rw [show (k : Int) - 1 = j by omega]; exact IntWalk.i64_in _ (by omega)
            have l2 : (0 : Int) < k := by omega
            have l2' : 0 < k := by omega
            have l3 : (j : Int) < nr := by omega
            have l4 : j < nr := by omega
            have h8' : decide (fb k ≤ fb j) = false := decide_eq_false h8
            clear hx hx' h5 hj
            go_wp2_with fail
            go_quiet ((first | (go_at_call 39; exact Calls.quiet_of_same ((spec_l02Cents_any _ _).mono (fun _ _ h => ⟨h.1, h.2.symm⟩))) | (go_at_call 72; exact Calls.quiet_of_same ((spec_l02Rate_any _ _).mono (fun _ _ h => ⟨h.1, h.2.symm⟩))))); go_wp2
            go_ret
            exact ⟨ret_bool HF.out.symm, Below.drewN' hb _⟩
      · have HF := Lib.hid (allB_succ ha.out hx)
        obtain ⟨h1, h5, h6⟩ := all_yes3 hx
        rcases hj with ⟨hk0, _⟩ | hj
        · have l2 : decide ((0 : Int) < (k : Int)) = false := decide_eq_false (by omega)
          have l2' : decide (0 < k) = false := decide_eq_false (by omega)
          clear hx h5 hk0
          go_wp2_with fail
          go_quiet ((first | (go_at_call 39; exact Calls.quiet_of_same ((spec_l02Cents_any _ _).mono (fun _ _ h => ⟨h.1, h.2.symm⟩))) | (go_at_call 72; exact Calls.quiet_of_same ((spec_l02Rate_any _ _).mono (fun _ _ h => ⟨h.1, h.2.symm⟩))))); go_wp2
          go_roundw
          case rel => exact ⟨k + 1, by omega, by go_num, HF, Below.drewN' hb _⟩
          case measure => simp [intOf]; omega
        · have h8 : ¬ fb k ≤ fb j := by
            have h6' : k = 0 ∨ fb (k - 1) < fb k := by simpa [ascP] using h5
            rw [show k - 1 = j by omega] at h6'
            omega
          have cj := Below.cellOf hb rfl (Ib.at0 j (by omega))
          have e1 : IntKind.i64.wrap ((k : Int) - 1) = j := by rw [show (k : Int) - 1 = j by omega]; exact IntWalk.i64_in _ (by omega)
          have l2 : (0 : Int) < k := by omega
          have l2' : 0 < k := by omega
          have l3 : (j : Int) < nr := by omega
          have l4 : j < nr := by omega
          have h8' : decide (fb k ≤ fb j) = false := decide_eq_false h8
          clear hx h5 hj
          go_wp2_with fail
          go_quiet ((first | (go_at_call 39; exact Calls.quiet_of_same ((spec_l02Cents_any _ _).mono (fun _ _ h => ⟨h.1, h.2.symm⟩))) | (go_at_call 72; exact Calls.quiet_of_same ((spec_l02Rate_any _ _).mono (fun _ _ h => ⟨h.1, h.2.symm⟩))))); go_wp2
          go_roundw
          case rel => exact ⟨k + 1, by omega, by go_num, HF, Below.drewN' hb _⟩
          case measure => simp [intOf]; omega
    · obtain rfl : k = nr := by omega
      have HF := Lib.hid (HY.out ha.out)
      go_wp2
      go_ret
      exact ⟨ret_bool HF.out.symm, hb⟩

theorem can_any (g : Nat) (gb cb gr cr nb nr : Nat) (fb fr : Nat → Int) (c r : Int) (w : World) (k0 : w.cell? ⟨g, 0, none⟩ = some (.slice (some ⟨gb, 0, none⟩) nb cb)) (k1 : w.cell? ⟨g, 1, none⟩ = some (.slice (some ⟨gr, 0, none⟩) nr cr)) (mb : nb < 1000000000) (mr : nr < 1000000000) (Ib : Ints w gb 0 nb fb) (Ir : Ints w gr 0 nr fr) : Calls Sq.prog 38 #[.pointer (some ⟨g, 0, none⟩), .int .i64 c, .int .i64 r] w (RetV w (.bool (askOk fb nb fr nr c r))) := by
  cases h : askOk fb nb fr nr c r
  · rcases first_no3 h with h1 | ⟨h1, h2 | ⟨h2, h3⟩⟩
    all_goals
      clear h
      go_enter Sq.func38, Sq.ntmps38
      go_wp2_with (first | (go_at_call 39; refine (spec_l02Cents_any _ _).mono ?_; rintro e w' ⟨rfl, rfl⟩) | (go_at_call 57; refine (spec_l02Way_any _ _).mono ?_; rintro e w' ⟨rfl, rfl⟩) | (go_at_call 56; refine (is_spec g gb cb gr cr nb nr fb fr _ k0 k1 mb mr Ib Ir).mono ?_; rintro e w1 ⟨rfl, hb⟩))
      go_ret
      exact ⟨rfl, hb⟩
  · obtain ⟨h1, h2, h3⟩ := all_yes3 h
    clear h
    go_enter Sq.func38, Sq.ntmps38
    go_wp2_with (first | (go_at_call 39; refine (spec_l02Cents_any _ _).mono ?_; rintro e w' ⟨rfl, rfl⟩) | (go_at_call 57; refine (spec_l02Way_any _ _).mono ?_; rintro e w' ⟨rfl, rfl⟩) | (go_at_call 56; refine (is_spec g gb cb gr cr nb nr fb fr _ k0 k1 mb mr Ib Ir).mono ?_; rintro e w1 ⟨rfl, hb⟩))
    go_ret
    exact ⟨rfl, hb⟩
end Go.Proofs.Ytpigjhagdpeofaa

namespace Go.Proofs.Ytpigjhagdpeofaa
open Go.RowKit
set_option linter.unusedVariables false
set_option maxHeartbeats 1600000 in
theorem lit42_impl (gb cb gr cr nb nr : Nat) (fb fr : Nat → Int) (p q : Nat) (d rd : Int) (w : World) (mb : nb < 1000000000) (mr : nr < 1000000000) (Ib : Ints w gb 0 nb fb) (Ir : Ints w gr 0 nr fr) (k0 : w.cell? ⟨p, 0, none⟩ = some (.slice (some ⟨gb, 0, none⟩) nb cb)) (k1 : w.cell? ⟨p, 1, none⟩ = some (.slice (some ⟨gr, 0, none⟩) nr cr)) (k2 : w.cell? ⟨q, 0, none⟩ = some (.int .i64 rd)) (h : ScaleIs fb nb fr nr) (d0 : 0 ≤ d) (d1 : d ≤ 1000000000000) :
    Calls Sq.prog 42 #[.int .i64 d, .pointer (some ⟨p, 0, none⟩), .pointer (some ⟨q, 0, none⟩)] w fun e w' => e = .returned (.int .i64 (dueF fb fr nb d rd)) ∧ Below w.heap.size w w' := by
  have HP : Hid (∀ w', Ints w' gb 0 nb fb → Ints w' gr 0 nr fr → _) := fun w' i j => due_impl gb cb gr cr nb nr fb fr d rd w' mb mr i j h d0 d1
  clear h
  go_enter Sq.func42, Sq.ntmps42
  go_wp2_with (first | (go_at_call 43; refine (HP.out _ Ib Ir).mono ?_; rintro e w1 ⟨rfl, hb⟩))
  go_ret
  exact ⟨rfl, hb⟩
end Go.Proofs.Ytpigjhagdpeofaa

namespace Go.Proofs.Ytpigjhagdpeofaa
open Go.RowKit

/-- Two slices in two blocks. -/
def Apart (v u : Value) : Prop := ∀ k, v.ownBlock = some k → u.ownBlock = some k → False
theorem Apart.symm {v u : Value} (h : Apart v u) : Apart u v := fun k a b => h k b a
theorem Apart.two {a b n c n' c' : Nat} (h : a ≠ b) : Apart (.slice (some ⟨a, 0, none⟩) n c) (.slice (some ⟨b, 0, none⟩) n' c') := fun k h1 h2 => by
  cases h1; cases h2; exact h rfl
/-- What an append leaves of the other rows. -/
def Spared (E : TypeId) (w0 : World) (v : Value) (w' : World) (v' : Value) : Prop := ∀ B u ys, Own E w0 B u ys → Apart v u → Own E w' B u ys ∧ Apart v' u

theorem wpList_app2 {P : Program} (w0 : World) {ops : Array Oper} {rest : List Oper} {o : Oper} {a : Act} {Q : Exit → Act → World → Prop} (hgd : o.guard = none) (s x : Operand) (t : TypeId)
    (ho : o.op = .call { callee := .builtin .append, args := #[s, x], argTypes := #[t, t] })
    (B : Nat) (E : TypeId) (hi : (P.info? E).map (fun i => (i.zero, i.size, i.bytes)) = some (some (.int .i64 0), 1, 8)) (ht : P.underlying t = some (.slice E))
    (v : Value) (xs : List Int) (hs : a.eval s = v) (hown : Own E w0 B v xs) (y : Int) (hx : a.eval x = .slice (some ⟨w0.heap.size, 0, none⟩) 1 1)
    (hlen : xs.length < 1000000000) (hB : B ≤ w0.heap.size)
    (h : ∀ v' w', Own E w' B v' (xs ++ [y]) → Below B w0 w' → Spared E w0 v w' v' → wpList P ops Q rest (a.put o.dst v') w') : wpList P ops Q (o :: rest) a (w0.alloc (.cells #[.int .i64 y] E)) := by
  obtain ⟨i0, hi0, hz0, hz1, hz2⟩ := info_parts hi
  have hb0 : Below B w0 (w0.alloc (.cells #[.int .i64 y] E)) := (Below.refl _ _).alloc hB _
  refine wpList_append_own_at _ hgd s x t ho B E i0 (.int .i64 0) 1 8 ht hi0 hz0 hz1 hz2 rfl (by decide) v xs.length (xs.map (Value.int .i64)) hs (World.ownsRow.alloc hown _) ⟨w0.heap.size, 0, none⟩ 1 1 [.int .i64 y] hx rfl ?c1 ?c2 ?c3 ?c4 ?c5 ?_
  case c1 => exact cell_one_new _ _ _
  case c2 => intro u hu; simp at hu; subst hu; rfl
  case c3 => unfold maxLen; omega
  case c4 => omega
  case c5 => simp; omega
  intro v' w' hown' hg _ hv'
  refine h v' w' ?_ (hb0.grown hg (by simp; omega) (fun k hk => (hown.lt k hk).1)) ?_
  · have e1 : (xs ++ [y]).length = xs.length + 1 := by simp
    unfold Own
    rw [e1, List.map_append]
    exact hown'
  · intro B2 u ys hu hd
    have hs1 : (w0.alloc (.cells #[.int .i64 y] E)).heap.size = w0.heap.size + 1 := by simp
    refine ⟨hu.block fun k hk => ?_, fun k h1 h2 => ?_⟩
    · have hk2 := (hu.lt k hk).2
      rw [hg.block k (by omega) (fun e => hd k e.symm hk)]
      exact ((Below.refl w0.heap.size w0).alloc (Nat.le_refl _) _).block k hk2
    · have hk2 := (hu.lt k h2).2
      rcases hv' with e | e
      · exact hd k (e ▸ h1) h2
      · rw [e, hs1] at h1
        simp at h1
        omega
end Go.Proofs.Ytpigjhagdpeofaa

namespace Go.Proofs.Ytpigjhagdpeofaa
open Go.RowKit
set_option linter.unusedVariables false

/-- Whether a block is one of a scale's two. -/
def inS (v : Value) (k : Nat) : Prop := ∃ vb vr, v = .agg #[vb, vr] ∧ (vb.ownBlock = some k ∨ vr.ownBlock = some k)
/-- A scale that came in. -/
def InS (w : World) (v : Value) (b r : List Int) : Prop :=
  ∃ ab cb ar cr, v = .agg #[.slice ab b.length cb, .slice ar r.length cr] ∧ b.length ≤ maxLen ∧ r.length ≤ maxLen ∧ InI w (.slice ab b.length cb) b ∧ InI w (.slice ar r.length cr) r
theorem InS.below {w w' : World} {v : Value} {b r : List Int} (h : InS w v b r) (hb : Below w.heap.size w w') : InS w' v b r := by
  obtain ⟨ab, cb, ar, cr, hv, h1, h2, h3, h4⟩ := h
  exact ⟨ab, cb, ar, cr, hv, h1, h2, h3.below hb, h4.below hb⟩
/-- A scale in the call's own memory. -/
def OwnS (E : TypeId) (w : World) (B : Nat) (v : Value) (b r : List Int) : Prop := ∃ vb vr, v = .agg #[vb, vr] ∧ Own E w B vb b ∧ Own E w B vr r ∧ Apart vb vr
theorem OwnS.lt {E : TypeId} {w : World} {B : Nat} {v : Value} {b r : List Int} (h : OwnS E w B v b r) : ∀ k, inS v k → B ≤ k ∧ k < w.heap.size := by
  obtain ⟨vb, vr, rfl, h1, h2, _⟩ := h
  rintro k ⟨ub, ur, he, hk⟩
  cases he
  rcases hk with hk | hk
  · exact h1.lt k hk
  · exact h2.lt k hk
theorem OwnS.below {E : TypeId} {w w' : World} {B : Nat} {v : Value} {b r : List Int} (h : OwnS E w B v b r) (hb : Below w.heap.size w w') : OwnS E w' B v b r := by
  obtain ⟨vb, vr, hv, h1, h2, d⟩ := h
  exact ⟨vb, vr, hv, h1.below hb, h2.below hb, d⟩
theorem OwnS.only {E : TypeId} {w w' : World} {B lo hi : Nat} {v : Value} {b r : List Int} (h : OwnS E w B v b r) (ho : Only lo hi w w') (hd : ∀ k, inS v k → k < lo ∨ hi ≤ k) : OwnS E w' B v b r := by
  obtain ⟨vb, vr, rfl, h1, h2, d⟩ := h
  exact ⟨vb, vr, rfl, h1.only ho (fun k hk => hd k ⟨vb, vr, rfl, .inl hk⟩), h2.only ho (fun k hk => hd k ⟨vb, vr, rfl, .inr hk⟩), d⟩
/-- A scale in the call's own memory whose lists are not nil. -/
def RowS (E : TypeId) (w : World) (B : Nat) (v : Value) (b r : List Int) : Prop := ∃ vb vr, v = .agg #[vb, vr] ∧ RowI E w B vb b ∧ RowI E w B vr r ∧ Apart vb vr
theorem RowS.own {E : TypeId} {w : World} {B : Nat} {v : Value} {b r : List Int} (h : RowS E w B v b r) : OwnS E w B v b r := by
  obtain ⟨vb, vr, hv, h1, h2, d⟩ := h
  exact ⟨vb, vr, hv, h1.own, h2.own, d⟩
theorem RowS.lt {E : TypeId} {w : World} {B : Nat} {v : Value} {b r : List Int} (h : RowS E w B v b r) : ∀ k, inS v k → B ≤ k ∧ k < w.heap.size := h.own.lt
theorem RowS.below {E : TypeId} {w w' : World} {B : Nat} {v : Value} {b r : List Int} (h : RowS E w B v b r) (hb : Below w.heap.size w w') : RowS E w' B v b r := by
  obtain ⟨vb, vr, hv, h1, h2, d⟩ := h
  exact ⟨vb, vr, hv, h1.below hb, h2.below hb, d⟩
theorem RowS.only {E : TypeId} {w w' : World} {B lo hi : Nat} {v : Value} {b r : List Int} (h : RowS E w B v b r) (ho : Only lo hi w w') (hd : ∀ k, inS v k → k < lo ∨ hi ≤ k) : RowS E w' B v b r := by
  obtain ⟨vb, vr, rfl, h1, h2, d⟩ := h
  exact ⟨vb, vr, rfl, h1.only ho (fun k hk => hd k ⟨vb, vr, rfl, .inl hk⟩), h2.only ho (fun k hk => hd k ⟨vb, vr, rfl, .inr hk⟩), d⟩
theorem RowS.form {E : TypeId} {w : World} {B : Nat} {v : Value} {b r : List Int} (h : RowS E w B v b r) :
    ∃ gb cb gr cr, v = .agg #[.slice (some ⟨gb, 0, none⟩) b.length cb, .slice (some ⟨gr, 0, none⟩) r.length cr] ∧ b.length < 1000000000 ∧ r.length < 1000000000 ∧ Ints w gb 0 b.length (fun i => b.getD i 0) ∧ Ints w gr 0 r.length (fun i => r.getD i 0) := by
  obtain ⟨vb, vr, rfl, h1, h2, _⟩ := h
  obtain ⟨gb, cb, rfl, _, _, _, _, I1, _, m1⟩ := h1.form
  obtain ⟨gr, cr, rfl, _, _, _, _, I2, _, m2⟩ := h2.form
  exact ⟨gb, cb, gr, cr, rfl, m1, m2, I1, I2⟩
theorem RowS.form2 {E : TypeId} {w : World} {B : Nat} {v : Value} {b r : List Int} (h : RowS E w B v b r) :
    ∃ gb cb gr cr, v = .agg #[.slice (some ⟨gb, 0, none⟩) b.length cb, .slice (some ⟨gr, 0, none⟩) r.length cr] ∧ b.length < 1000000000 ∧ r.length < 1000000000 ∧ Ints w gb 0 b.length (fun i => b.getD i 0) ∧ Ints w gr 0 r.length (fun i => r.getD i 0) ∧ gb < w.heap.size ∧ gr < w.heap.size := by
  obtain ⟨vb, vr, rfl, h1, h2, _⟩ := h
  obtain ⟨gb, cb, rfl, _, l1, _, _, I1, _, m1⟩ := h1.form
  obtain ⟨gr, cr, rfl, _, l2, _, _, I2, _, m2⟩ := h2.form
  exact ⟨gb, cb, gr, cr, rfl, m1, m2, I1, I2, l1, l2⟩
/-- A row, and a cell, in a block below that from which on a world has changed. -/
theorem Ints.belowAt {w w' : World} {B g off n : Nat} {f : Nat → Int} (h : Ints w g off n f) (hb : Below B w w') (hg : g < B) : Ints w' g off n f := fun i hi => (hb.cell (p := ⟨g, off + i, none⟩) hg).trans (h i hi)
theorem cellAtB {w w' : World} {B : Nat} {p : Addr} {v : Value} (h : w.cell? p = some v) (hb : Below B w w') (hg : p.block < B) : w'.cell? p = some v := (hb.cell hg).trans h
theorem RowS.shape {E : TypeId} {w : World} {B : Nat} {v : Value} {b r : List Int} (h : RowS E w B v b r) :
    ∃ gb cb gr cr, v = .agg #[.slice (some ⟨gb, 0, none⟩) b.length cb, .slice (some ⟨gr, 0, none⟩) r.length cr] := by
  obtain ⟨gb, cb, gr, cr, hv, _⟩ := h.form
  exact ⟨gb, cb, gr, cr, hv⟩
/-- A cell that such a call does not reach. -/
theorem Only.cellOf {lo hi g i : Nat} {w w' : World} {v : Value} (ho : Only lo hi w w') (hd : g < lo ∨ hi ≤ g) (h : w.cell? ⟨g, i, none⟩ = some v) : w'.cell? ⟨g, i, none⟩ = some v := by
  have hlt := World.block_lt_of_cell? w _ h
  have hb := ho.block g hlt hd
  unfold World.cell? at h ⊢
  rw [hb]
  exact h
/-- A scale, and whether it is one. -/
def RetS (E : TypeId) (w : World) (b r : List Int) (ok : Bool) (e : Ending) (w' : World) : Prop :=
  ∃ v, e = .returned (.tuple #[v, .bool ok]) ∧ OwnS E w' w.heap.size v b r ∧ (b.length < 1000000000 ∧ r.length < 1000000000) ∧ Below w.heap.size w w'
theorem RetS.no (E : TypeId) {w w' : World} (hb : Below w.heap.size w w') : RetS E w [] [] false (.returned (.tuple #[.agg #[.slice none 0 0, .slice none 0 0], .bool false])) w' :=
  ⟨_, rfl, ⟨_, _, rfl, Own.nil _ _ _, Own.nil _ _ _, fun k h _ => by cases h⟩, ⟨by decide, by decide⟩, hb⟩
end Go.Proofs.Ytpigjhagdpeofaa
