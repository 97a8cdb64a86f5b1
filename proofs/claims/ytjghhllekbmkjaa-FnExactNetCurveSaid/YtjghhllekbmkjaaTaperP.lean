/-
  What a taper leaves, in plain numbers. No program in sight.
-/
import Derived.Test.YtjghhllekbmkjaaDueP
namespace Go.Proofs.Ytjghhllekbmkjaa
open Go.RowKit
set_option linter.unusedVariables false

def taperF (full start rate cents : Int) : Int := if cents ≤ start then full else max (full - rnd ((cents - start) * rate) 10000 3) 0
theorem taperF_bd {full start rate cents : Int} (h0 : 0 ≤ full) (h1 : 0 ≤ start) (h2 : cents ≤ 1000000000000) (h3 : 0 ≤ rate) (h4 : rate ≤ 10000) : 0 ≤ taperF full start rate cents ∧ taperF full start rate cents ≤ full := by
  unfold taperF
  split
  · omega
  · have := due_bd (cents - start) rate 3 (by omega) h3 h4
    omega
end Go.Proofs.Ytjghhllekbmkjaa
