/-
  slices.symMergeCmpFunc at int, over a comparison that tells which of two keys is less. Conditions: fewer than 1000000 integers, each below their count.
-/
import Derived.Test.YtcpjbnfmkhaadaaSortS2Pd
import Derived.Test.YtcpjbnfmkhaadaaSortC
namespace Go.Proofs.Ytcpjbnfmkhaadaa
open Go.RowKit
set_option linter.unusedVariables false

def MergeC_pd (w0 : World) (g n c : Nat) (b1 b2 : Value) (key : Int → Int) (a m b : Nat) (f : Nat → Int) : Prop := ∀ w, Kept (fun k => k = g) w0 w → RowAt w g n f → Calls Try.prog 48 #[.slice (some ⟨g, 0, none⟩) n c, .int .i64 a, .int .i64 m, .int .i64 b, .func (.func 31) #[] #[b1, b2]] w
      fun e w' => e = .returned (.tuple #[]) ∧ ∃ h, RowAt w' g n h ∧ Mix a b f h ∧ Srt key h a b ∧ Kept (fun k => k = g) w0 w'
end Go.Proofs.Ytcpjbnfmkhaadaa
