/-
  The first of the greatest numbers: plain. No program in sight. No condition.
-/
import Derived.Test.YtcpjbnfmkhaadaaPartP
import Derived.Test.YtcpjbnfmkhaadaaBoolRow
import Derived.Test.YtcpjbnfmkhaadaaSmall
import Derived.Test.YtcpjbnfmkhaadaaTotal
import Derived.Deep.QuietTactic
import Derived.BigQuiet
namespace Go.Proofs.Ytcpjbnfmkhaadaa
open Go.RowKit
set_option linter.unusedVariables false

theorem Own.formTs {E : TypeId} {w : World} {B n : Nat} {v : Value} {f : Nat → Int} (h : Own E w B v (tab f n)) (hn : 1 ≤ n) : ∃ g cap, v = .slice (some ⟨g, 0, none⟩) n cap ∧ B ≤ g ∧ g < w.heap.size := by
  rcases h.form with ⟨_, h0⟩ | ⟨g, cap, hv, h1, h2, _⟩
  · have := congrArg List.length h0
    rw [tab_length] at this
    simp at this
    omega
  · rw [tab_length] at hv
    exact ⟨g, cap, hv, h1, h2⟩

/-- The first of the greatest of the first k numbers that are not negative; -1 where there is none. -/
def sB (R : Nat → Int) : Nat → Int
  | 0 => -1
  | k + 1 => if 0 ≤ R k ∧ (sB R k < 0 ∨ R (sB R k).toNat < R k) then k else sB R k
theorem sB_is (R : Nat → Int) : ∀ k, (sB R k = -1 ∧ ∀ i, i < k → R i < 0) ∨ (∃ b : Nat, sB R k = b ∧ Best R k b ∧ 0 ≤ R b) := by
  intro k
  induction k with
  | zero => exact .inl ⟨rfl, fun i h => by omega⟩
  | succ k ih =>
    rcases ih with ⟨h1, h2⟩ | ⟨b, h1, h2, h3⟩
    · by_cases hk : 0 ≤ R k
      · right
        refine ⟨k, ?_, ⟨by omega, fun i hi hne => .inl (by have := h2 i (by omega); omega)⟩, hk⟩
        simp only [sB]
        rw [if_pos ⟨hk, .inl (by omega)⟩]
      · left
        refine ⟨?_, fun i hi => ?_⟩
        · simp only [sB]
          rw [if_neg (by omega)]
          exact h1
        · by_cases e : i = k
          · subst e; omega
          · exact h2 i (by omega)
    · right
      have eb : (sB R k).toNat = b := by omega
      have hb := h2.1
      by_cases hk : R b < R k
      · refine ⟨k, ?_, ⟨by omega, fun i hi hne => .inl ?_⟩, by omega⟩
        · simp only [sB]
          rw [if_pos ⟨by omega, .inr (by rw [eb]; exact hk)⟩]
        · by_cases e : i = b
          · subst e; exact hk
          · have := h2.2 i (by omega) e
            omega
      · refine ⟨b, ?_, ⟨by omega, fun i hi hne => ?_⟩, h3⟩
        · simp only [sB]
          rw [if_neg (by rw [eb]; omega)]
          exact h1
        · by_cases e : i = k
          · subst e; omega
          · exact h2.2 i (by omega) hne
theorem sB_gB {R : Nat → Int} {n : Nat} (h : ∃ i, i < n ∧ 0 ≤ R i) : sB R n = gB R n := by
  rcases sB_is R n with ⟨_, h2⟩ | ⟨b, h1, h2, _⟩
  · obtain ⟨i, h3, h4⟩ := h
    have := h2 i h3
    omega
  · rw [h1, best_gB h2]

end Go.Proofs.Ytcpjbnfmkhaadaa
