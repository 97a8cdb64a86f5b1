/-
  How losses are set off against gains, in plain numbers. No program in sight. No condition.
-/
import Derived.Test.YtjopeidmfgkhnaaAllW
import Derived.Test.YtjopeidmfgkhnaaKept
namespace Go.Proofs.Ytjopeidmfgkhnaa
open Go.RowKit
set_option linter.unusedVariables false

/-- Gains and losses. -/
abbrev CS := (Nat → Int) × (Nat → Int)
def clUse (s : CS) (i k : Nat) : CS := (upd s.1 k (s.1 k - min (s.2 i) (s.1 k)), upd s.2 i (s.2 i - min (s.2 i) (s.1 k)))
def clRun (s : CS) (i lo : Nat) : Nat → CS
  | 0 => s
  | m + 1 => clUse (clRun s i lo m) i (lo + m)
def clLo (i : Nat) (back : Int) : Nat := (max ((i : Int) - back) 0).toNat
def clHi (n i : Nat) (on : Int) : Nat := (min (n : Int) ((i : Int) + on + 1)).toNat
def clOut (s : CS) (n : Nat) (back on : Int) : Nat → CS
  | 0 => s
  | i + 1 => clRun (clOut s n back on i) i (clLo i back) (clHi n i on - clLo i back)
def clS (f : Nat → Int) : CS := (fun i => max (f i) 0, fun i => max (-(f i)) 0)
def clInv (n : Nat) (s : CS) : Prop := ∀ j, j < n → (0 ≤ s.1 j ∧ s.1 j ≤ 1000000000) ∧ (0 ≤ s.2 j ∧ s.2 j ≤ 1000000000) ∧ (s.1 j = 0 ∨ s.2 j = 0)
theorem clUse_inv {n : Nat} {s : CS} {i k : Nat} (h : clInv n s) (hi : i < n) (hk : k < n) : clInv n (clUse s i k) := by
  intro j hj
  have a := h i hi
  have b := h k hk
  have c := h j hj
  simp only [clUse, upd]
  split
  · rename_i e
    subst e
    split
    · rename_i e; subst e; omega
    · omega
  · split
    · rename_i e; subst e; omega
    · exact c
theorem clUse_same {n : Nat} {s : CS} {i : Nat} (h : clInv n s) (hi : i < n) : clUse s i i = s := by
  have a := h i hi
  have e : min (s.2 i) (s.1 i) = 0 := by omega
  unfold clUse
  rw [e, Int.sub_zero, Int.sub_zero, upd_self, upd_self]
theorem clRun_inv {n : Nat} {s : CS} {i lo : Nat} (h : clInv n s) (hi : i < n) : ∀ m, lo + m ≤ n → clInv n (clRun s i lo m) := by
  intro m
  induction m with
  | zero => intro _; exact h
  | succ m ih => intro hm; exact clUse_inv (ih (by omega)) hi (by omega)
theorem clRun_same {n : Nat} {s : CS} {i lo : Nat} (h : clInv n s) (hi : i < n) (hlo : lo ≤ i) : clRun s i lo (i + 1 - lo) = clRun s i lo (i - lo) := by
  rw [show i + 1 - lo = (i - lo) + 1 by omega]
  show clUse _ i (lo + (i - lo)) = _
  rw [show lo + (i - lo) = i by omega]
  exact clUse_same (clRun_inv h hi _ (by omega)) hi
theorem clLo_is {i : Nat} {back : Int} (b0 : 0 ≤ back) : clLo i back ≤ i ∧ ((clLo i back : Nat) : Int) = max ((i : Int) - back) 0 := by unfold clLo; omega
theorem clHi_is {n i : Nat} {on : Int} (o0 : 0 ≤ on) (hi : i < n) : i + 1 ≤ clHi n i on ∧ clHi n i on ≤ n ∧ ((clHi n i on : Nat) : Int) = min (n : Int) ((i : Int) + on + 1) := by unfold clHi; omega
theorem clOut_inv {n : Nat} {s : CS} {back on : Int} (h : clInv n s) (b0 : 0 ≤ back) (o0 : 0 ≤ on) : ∀ i, i ≤ n → clInv n (clOut s n back on i) := by
  intro i
  induction i with
  | zero => intro _; exact h
  | succ i ih =>
    intro hi
    have a := clLo_is (i := i) b0
    have b := clHi_is (n := n) (i := i) o0 (by omega)
    exact clRun_inv (ih (by omega)) (by omega) _ (by omega)
theorem clS_inv {n : Nat} {f : Nat → Int} (h : ∀ i, i < n → -1000000000 ≤ f i ∧ f i ≤ 1000000000) : clInv n (clS f) := by
  intro j hj
  have := h j hj
  simp only [clS]
  omega
def clOk (f : Nat → Int) (n : Nat) (back on : Int) : Bool := cntB f n 1 24 (-1000000000) 1000000000 && win back 0 3 && win on 0 24
def clG (f : Nat → Int) (n : Nat) (back on : Int) : List Int := bif clOk f n back on then tab (clOut (clS f) n back on n).1 n else []
def clL (f : Nat → Int) (n : Nat) (back on : Int) : List Int := bif clOk f n back on then tab (clOut (clS f) n back on n).2 n else []
theorem cl_no {f : Nat → Int} {n : Nat} {back on : Int} (h : clOk f n back on = false) : clG f n back on = [] ∧ clL f n back on = [] := by simp only [clG, clL, h, cond_false, and_self]
theorem cl_yes {f : Nat → Int} {n : Nat} {back on : Int} (h : clOk f n back on = true) : clG f n back on = tab (clOut (clS f) n back on n).1 n ∧ clL f n back on = tab (clOut (clS f) n back on n).2 n := by simp only [clG, clL, h, cond_true, and_self]
def CarryLosses_r0 (xs : List Int) (back on : Int) : List Int := clG (fun i => xs.getD i 0) xs.length back on
def CarryLosses_r1 (xs : List Int) (back on : Int) : List Int := clL (fun i => xs.getD i 0) xs.length back on
def CarryLosses_r2 (xs : List Int) (back on : Int) : Bool := clOk (fun i => xs.getD i 0) xs.length back on
end Go.Proofs.Ytjopeidmfgkhnaa
