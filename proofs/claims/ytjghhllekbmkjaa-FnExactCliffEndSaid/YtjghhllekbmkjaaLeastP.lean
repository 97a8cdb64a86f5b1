/-
  The least number of a range from which on something holds, by halves, in plain numbers. No program in sight. No condition.
-/
import Derived.Test.YtjghhllekbmkjaaScaleP
namespace Go.Proofs.Ytjghhllekbmkjaa
open Go.RowKit
set_option linter.unusedVariables false

/-- By halves. -/
def bs (p : Int → Bool) (l h : Int) : Int :=
  if hlt : l < h then (bif p ((l + h) / 2) then bs p l ((l + h) / 2) else bs p ((l + h) / 2 + 1) h) else l
termination_by (h - l).toNat
decreasing_by all_goals omega
theorem bs_end {p : Int → Bool} {l h : Int} (hl : ¬ l < h) : bs p l h = l := by rw [bs, dif_neg hl]
theorem bs_low {p : Int → Bool} {l h : Int} (hl : l < h) (hp : p ((l + h) / 2) = true) : bs p l h = bs p l ((l + h) / 2) := by rw [bs, dif_pos hl, hp]; rfl
theorem bs_high {p : Int → Bool} {l h : Int} (hl : l < h) (hp : p ((l + h) / 2) = false) : bs p l h = bs p ((l + h) / 2 + 1) h := by rw [bs, dif_pos hl, hp]; rfl
theorem bs_bd (p : Int → Bool) : ∀ (n : Nat) (l h : Int), (h - l).toNat ≤ n → l ≤ h → l ≤ bs p l h ∧ bs p l h ≤ h := by
  intro n
  induction n with
  | zero => intro l h hn hl; rw [bs_end (by omega)]; omega
  | succ n ih =>
    intro l h hn hl
    by_cases h1 : l < h
    · cases hp : p ((l + h) / 2)
      · rw [bs_high h1 hp]
        have := ih ((l + h) / 2 + 1) h (by omega) (by omega)
        omega
      · rw [bs_low h1 hp]
        have := ih l ((l + h) / 2) (by omega) (by omega)
        omega
    · rw [bs_end h1]; omega
/-- Whether there is such a number, and it. -/
def ls1 (p : Int → Bool) (a : Int) : Bool := decide (a ≤ 1000000000000) && p 1000000000000
def ls0 (p : Int → Bool) (a : Int) : Int := bif ls1 p a then bs p a 1000000000000 else 0
theorem ls_no {p : Int → Bool} {a : Int} (h : ls1 p a = false) : ls0 p a = 0 := by simp only [ls0, h, cond_false]
theorem ls_yes {p : Int → Bool} {a : Int} (h : ls1 p a = true) : ls0 p a = bs p a 1000000000000 := by simp only [ls0, h, cond_true]
theorem ls_bd {p : Int → Bool} {a : Int} (h : ls1 p a = true) : a ≤ bs p a 1000000000000 ∧ bs p a 1000000000000 ≤ 1000000000000 := by
  obtain ⟨h1, _⟩ := all_yes2 h
  exact bs_bd p _ a _ (Nat.le_refl _) (of_decide_eq_true h1)
/-- Whether a scale's net of an amount is at least a number. -/
def geB (fb fr : Nat → Int) (nb : Nat) (r t c : Int) : Bool := decide (t ≤ netF fb fr nb c r)
theorem netF_bd {fb fr : Nat → Int} {nb nr : Nat} (hs : ScaleIs fb nb fr nr) {c : Int} (c0 : 0 ≤ c) (c1 : c ≤ 1000000000000) (r : Int) : -9000000000000 ≤ netF fb fr nb c r ∧ netF fb fr nb c r ≤ 1000000000000 := by
  have d := dueF_bd hs c0 r
  unfold netF
  omega
end Go.Proofs.Ytjghhllekbmkjaa
