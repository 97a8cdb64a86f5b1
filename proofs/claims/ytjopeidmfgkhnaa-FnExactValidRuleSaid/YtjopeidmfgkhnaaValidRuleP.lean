/-
  Words and rules, in plain numbers. No program in sight. No condition.
-/
import Derived.Test.YtjopeidmfgkhnaaAllW
import Derived.Test.YtjopeidmfgkhnaaRec
namespace Go.Proofs.Ytjopeidmfgkhnaa
open Go.RowKit
set_option linter.unusedVariables false

def isWordB (x : Int) : Bool := !(x == 0) && win x (-16) 16
/-- A word's atom. -/
def atomF (x : Int) : Int := max x (-x)
def wordAt (f : Nat → Int) (i : Nat) : Bool := isWordB (f i) && (decide (i = 0) || decide (atomF (f (i - 1)) < atomF (f i)))
def wordsB (f : Nat → Int) (n : Nat) : Bool := allB (wordAt f) n
def isDateB (x : Int) : Bool := win x 0 100000
def ruleOk (h : Int) (f : Nat → Int) (n : Nat) (a b k : Int) : Bool := isWordB h && (wordsB f n && decide ((n : Int) ≤ 6)) && isDateB a && isDateB b && decide (a ≤ b) && win k 0 100
end Go.Proofs.Ytjopeidmfgkhnaa
