/-
  Matching two lists: what is used and what is left. No program in sight. No condition.
-/
import Derived.Test.YtjpjcdkepconjaaAllW
import Derived.Test.YtjpjcdkepconjaaTab
import Derived.Test.YtjpjcdkepconjaaFirstShort
namespace Go.Proofs.Ytjpjcdkepconjaa
open Go.RowKit
set_option linter.unusedVariables false

/-- Whether x meets the k-th of b, which is free. -/
def meet (b : Nat → Int) (u : Nat → Bool) (x : Int) (k : Nat) : Bool := (x == b k) && !(u k)
/-- The first of m that meets x; -1 if there is none. -/
def metAt (b : Nat → Int) (u : Nat → Bool) (m : Nat) (x : Int) : Int := firstB (meet b u x) m
def usedA (a b : Nat → Int) (m : Nat) : Nat → Nat → Bool
  | 0 => fun _ => false
  | i + 1 => fun k => usedA a b m i k || decide (metAt b (usedA a b m i) m (a i) = k)
def onesL (a b : Nat → Int) (m : Nat) : Nat → List Int
  | 0 => []
  | i + 1 => bif decide (metAt b (usedA a b m i) m (a i) = -1) then onesL a b m i ++ [(i : Int)] else onesL a b m i
def twosL (u : Nat → Bool) : Nat → List Int
  | 0 => []
  | k + 1 => bif u k then twosL u k else twosL u k ++ [(k : Int)]
theorem onesL_len (a b : Nat → Int) (m i : Nat) : (onesL a b m i).length ≤ i := by
  induction i with
  | zero => simp [onesL]
  | succ i ih =>
    simp only [onesL]
    cases decide (metAt b (usedA a b m i) m (a i) = -1) <;> simp <;> omega
theorem twosL_len (u : Nat → Bool) (i : Nat) : (twosL u i).length ≤ i := by
  induction i with
  | zero => simp [twosL]
  | succ i ih =>
    simp only [twosL]
    cases u i <;> simp <;> omega
theorem used_none {a b : Nat → Int} {m i : Nat} (h : metAt b (usedA a b m i) m (a i) = -1) : usedA a b m (i + 1) = usedA a b m i := by
  funext k
  simp only [usedA, h]
  have : ¬ (-1 : Int) = k := by omega
  simp [this]
theorem ones_none {a b : Nat → Int} {m i : Nat} (h : metAt b (usedA a b m i) m (a i) = -1) : onesL a b m (i + 1) = onesL a b m i ++ [(i : Int)] := by simp [onesL, h]
theorem used_here {a b : Nat → Int} {m i j : Nat} (h : metAt b (usedA a b m i) m (a i) = j) : usedA a b m (i + 1) j = true := by simp [usedA, h]
theorem used_other {a b : Nat → Int} {m i j : Nat} (h : metAt b (usedA a b m i) m (a i) = j) (k : Nat) (hk : k ≠ j) : usedA a b m (i + 1) k = usedA a b m i k := by
  have : ¬ (j : Int) = k := by omega
  simp [usedA, h, this]
theorem ones_here {a b : Nat → Int} {m i j : Nat} (h : metAt b (usedA a b m i) m (a i) = j) : onesL a b m (i + 1) = onesL a b m i := by
  have : ¬ (j : Int) = -1 := by omega
  simp [onesL, h, this]
def matOk (a : Nat → Int) (n : Nat) (b : Nat → Int) (m : Nat) : Bool := cntB a n 0 64 (-1000000000) 1000000000 && cntB b m 0 64 (-1000000000) 1000000000
def MatchSums_r2 (xs ys : List Int) : Bool := matOk (fun i => xs.getD i 0) xs.length (fun i => ys.getD i 0) ys.length
def matA (a : Nat → Int) (n : Nat) (b : Nat → Int) (m : Nat) : List Int := bif matOk a n b m then onesL a b m n else []
def matB (a : Nat → Int) (n : Nat) (b : Nat → Int) (m : Nat) : List Int := bif matOk a n b m then twosL (usedA a b m n) m else []
def MatchSums_r0 (xs ys : List Int) : List Int := matA (fun i => xs.getD i 0) xs.length (fun i => ys.getD i 0) ys.length
def MatchSums_r1 (xs ys : List Int) : List Int := matB (fun i => xs.getD i 0) xs.length (fun i => ys.getD i 0) ys.length
theorem mat_no {a b : Nat → Int} {n m : Nat} (h : matOk a n b m = false) : matA a n b m = [] ∧ matB a n b m = [] := by simp only [matA, matB, h, cond_false, and_self]
theorem mat_yes {a b : Nat → Int} {n m : Nat} (h : matOk a n b m = true) : matA a n b m = onesL a b m n ∧ matB a n b m = twosL (usedA a b m n) m := by simp only [matA, matB, h, cond_true, and_self]
end Go.Proofs.Ytjpjcdkepconjaa
