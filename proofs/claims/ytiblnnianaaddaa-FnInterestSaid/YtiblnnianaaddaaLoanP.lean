/-
  A loan's interests and rests, in plain numbers. No program in sight. No condition.
-/
import Derived.Test.YtiblnnianaaddaaNearest
import Derived.Test.YtiblnnianaaddaaTab
namespace Go.Proofs.Ytiblnnianaaddaa
open Go.RowKit
set_option linter.unusedVariables false

/-- A term's interest. -/
def ownI (x a : Int) : Int := (2 * (x * a) + 10000) / 20000
theorem own_prod {x a : Int} (h0 : 0 ≤ x) (h1 : x ≤ 1000000000000) (h2 : 0 ≤ a) (h3 : a ≤ 100000) : 0 ≤ x * a ∧ x * a ≤ 100000000000000000 := by
  refine ⟨Int.mul_nonneg h0 h2, ?_⟩
  have : x * a ≤ 1000000000000 * 100000 := Int.mul_le_mul h1 h3 h2 (by omega)
  omega
theorem ownI_bd {x a : Int} (h0 : 0 ≤ x) (h1 : x ≤ 1000000000000) (h2 : 0 ≤ a) (h3 : a ≤ 100000) : 0 ≤ ownI x a ∧ ownI x a ≤ 10000000000001 := by
  obtain ⟨p0, p1⟩ := own_prod h0 h1 h2 h3
  unfold ownI
  omega
theorem ownI_nrst {x a : Int} (h : 0 ≤ x * a) : nrst (x * a) 10000 = ownI x a := by
  have e : nrst (x * a) 10000 = rnd (x * a) 10000 1 := if_neg (by omega)
  rw [e]
  unfold ownI
  generalize x * a = X at *
  cases hu : up X 10000 1
  · rw [rnd_no _ _ _ hu]
    simp [up] at hu
    omega
  · rw [rnd_yes _ _ _ hu]
    simp [up] at hu
    omega

/-- What is owed after so many terms. -/
def restN (c a p : Int) : Nat → Int
  | 0 => c
  | k + 1 => max (restN c a p k + ownI (restN c a p k) a - p) 0
def restS (c a p : Int) (k : Nat) : Int := restN c a p (k + 1)
def intN (c a p : Int) (k : Nat) : Int := ownI (restN c a p k) a
/-- Whether no rest of so many terms is too great. -/
def loanOk (c a p : Int) : Nat → Bool
  | 0 => true
  | k + 1 => loanOk c a p k && decide (restN c a p (k + 1) ≤ 1000000000000)
theorem loanOk_succ {c a p : Int} {k : Nat} (h : loanOk c a p k = true) (h1 : restN c a p (k + 1) ≤ 1000000000000) : loanOk c a p (k + 1) = true := by simp [loanOk, h, h1]
theorem loanOk_false {c a p : Int} {n : Nat} (k : Nat) (hk : k < n) (h1 : 1000000000000 < restN c a p (k + 1)) : loanOk c a p n = false := by
  induction n with
  | zero => omega
  | succ n ih =>
    by_cases e : k < n
    · simp [loanOk, ih e]
    · obtain rfl : k = n := by omega
      have : ¬ restN c a p (k + 1) ≤ 1000000000000 := by omega
      simp [loanOk, this]
theorem restN_bd {c a p : Int} (h0 : 0 ≤ c) (h1 : c ≤ 1000000000000) : ∀ {k : Nat}, loanOk c a p k = true → 0 ≤ restN c a p k ∧ restN c a p k ≤ 1000000000000 := by
  intro k hk
  cases k with
  | zero => exact ⟨h0, h1⟩
  | succ k =>
    simp [loanOk] at hk
    refine ⟨?_, hk.2⟩
    show 0 ≤ max _ _
    omega
theorem loanOk_pred {c a p : Int} {k : Nat} (h : loanOk c a p (k + 1) = true) : loanOk c a p k = true := by
  simp [loanOk] at h; exact h.1
theorem loanOk_out {c a p : Int} {k : Nat} (h : loanOk c a p k = true) : loanOk c a p (k + 1) = decide (restN c a p (k + 1) ≤ 1000000000000) := by simp [loanOk, h]
/-- Whether nothing is owed at the end. -/
def paidB (c a p : Int) (n : Nat) : Bool := loanOk c a p n && decide (restN c a p n = 0)
theorem isLoanB_iff {a b c : Int} : isLoanB a b c = true ↔ (0 ≤ a ∧ a ≤ 1000000000) ∧ (0 ≤ b ∧ b ≤ 100000) ∧ 0 ≤ c ∧ c ≤ 1000000000 := by
  simp only [isLoanB, Bool.and_eq_true, win_iff]; omega
end Go.Proofs.Ytiblnnianaaddaa
