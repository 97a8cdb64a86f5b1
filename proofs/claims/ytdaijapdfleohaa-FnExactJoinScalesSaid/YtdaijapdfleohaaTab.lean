/-
  A list told by its rule, and running sums by kind. No program in sight. No condition.
-/
import Derived.Test.YtdaijapdfleohaaBase
namespace Go.Proofs.Ytdaijapdfleohaa
open Go.RowKit
set_option linter.unusedVariables false

/-- h 0, h 1, .. h (k - 1). -/
def tab (h : Nat → Int) : Nat → List Int
  | 0 => []
  | k + 1 => tab h k ++ [h k]
theorem tab_length (h : Nat → Int) (k : Nat) : (tab h k).length = k := by
  induction k with
  | zero => rfl
  | succ k ih => simp [tab, ih]
theorem tab_get (h : Nat → Int) (n i : Nat) (hi : i < n) : (tab h n).getD i 0 = h i := by
  induction n with
  | zero => omega
  | succ n ih =>
    have hl := tab_length h n
    by_cases e : i < n
    · rw [tab, List.getD_eq_getElem?_getD, List.getElem?_append_left (by omega), ← List.getD_eq_getElem?_getD]; exact ih e
    · obtain rfl : i = n := by omega
      rw [tab, List.getD_eq_getElem?_getD, List.getElem?_append_right (by omega), hl, Nat.sub_self]; rfl
theorem tab_congr (h h' : Nat → Int) (n : Nat) (e : ∀ i, i < n → h i = h' i) : tab h n = tab h' n := by
  induction n with
  | zero => rfl
  | succ n ih => rw [tab, tab, ih (fun i hi => e i (by omega)), e n (by omega)]
theorem tab_set (h h' : Nat → Int) (n j : Nat) (hj : j < n) (e : ∀ i, i < n → i ≠ j → h i = h' i) : (tab h n).set j (h' j) = tab h' n := by
  induction n with
  | zero => omega
  | succ n ih =>
    have hl := tab_length h n
    by_cases e1 : j < n
    · rw [tab, tab, List.set_append_left _ _ (by omega), ih e1 (fun i hi => e i (by omega)), e n (by omega) (by omega)]
    · obtain rfl : j = n := by omega
      rw [tab, tab, List.set_append_right _ _ (by omega), hl, Nat.sub_self, tab_congr h h' j (fun i hi => e i (by omega) (by omega))]; rfl
theorem tab_rep (n : Nat) (h : Nat → Int) (e : ∀ i, h i = 0) : List.replicate n 0 = tab h n := by
  induction n with
  | zero => rfl
  | succ n ih => rw [List.replicate_succ', ih, tab, e n]
end Go.Proofs.Ytdaijapdfleohaa
