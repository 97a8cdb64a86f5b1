/-
  impl.JoinScales and spec.JoinScales answer alike on scales of the caller's own. No condition beyond the row's own.
-/
import Derived.Test.YtdaijapdfleohaaJoinI
import Derived.Test.YtdaijapdfleohaaJoinS
namespace Go.Proofs.Ytdaijapdfleohaa
open Go.RowKit
set_option linter.unusedVariables false

def JoinScales_r0 (xb xr yb yr : List Int) : List Int := jLb (fun i => xb.getD i 0) (fun i => xr.getD i 0) xb.length xr.length (fun i => yb.getD i 0) (fun i => yr.getD i 0) yb.length yr.length
def JoinScales_r1 (xb xr yb yr : List Int) : List Int := jLr (fun i => xb.getD i 0) (fun i => xr.getD i 0) xb.length xr.length (fun i => yb.getD i 0) (fun i => yr.getD i 0) yb.length yr.length
def JoinScales_r2 (xb xr yb yr : List Int) : Bool := jOk (fun i => xb.getD i 0) (fun i => xr.getD i 0) xb.length xr.length (fun i => yb.getD i 0) (fun i => yr.getD i 0) yb.length yr.length
theorem JoinScales_impl {w : World} {B B2 : Nat} {v u : Value} {xb xr yb yr : List Int} (h : RowS 2 w B v xb xr) (h2 : RowS 2 w B2 u yb yr) :
    Calls Try.prog 22 #[v, u] w (RetS 2 w (JoinScales_r0 xb xr yb yr) (JoinScales_r1 xb xr yb yr) (JoinScales_r2 xb xr yb yr)) := by
  obtain ⟨gb, cb, gr, cr, rfl, mb, mr, Ib, Ir, l1, l2⟩ := h.form2
  obtain ⟨g3, c3, g4, c4, rfl, m3, m4, I3, I4, l3, l4⟩ := h2.form2
  exact join_impl gb cb gr cr _ _ _ _ g3 c3 g4 c4 _ _ _ _ w mb mr Ib Ir m3 m4 I3 I4
theorem JoinScales_spec {w : World} {B B2 : Nat} {v u : Value} {xb xr yb yr : List Int} (h : RowS 2 w B v xb xr) (h2 : RowS 2 w B2 u yb yr) :
    Calls Try.prog 21 #[v, u] w (RetS 2 w (JoinScales_r0 xb xr yb yr) (JoinScales_r1 xb xr yb yr) (JoinScales_r2 xb xr yb yr)) := by
  obtain ⟨gb, cb, gr, cr, rfl, mb, mr, Ib, Ir, l1, l2⟩ := h.form2
  obtain ⟨g3, c3, g4, c4, rfl, m3, m4, I3, I4, l3, l4⟩ := h2.form2
  exact join_spec gb cb gr cr _ _ _ _ g3 c3 g4 c4 _ _ _ _ w mb mr Ib Ir m3 m4 I3 I4
end Go.Proofs.Ytdaijapdfleohaa
