/-
  How a tariff among a call's arguments is opened: three integers. No program in sight. No condition.
-/
import Derived.Test.YtegfajmhblpcoaaOpen
namespace Go.Proofs.Ytegfajmhblpcoaa
open Go.ChangeShapes Go.WideShapes Go.RowKit Go.Joins Go.Deep

theorem openTar {H : Type} {enc : TypeId × Value → H} {P : Program} {w : World} {t : TypeId} {f0 f1 f2 : Field} {v : Value} {d : DataW H} {p : List MemPlace} (hs : P.underlying t = some (.struct #[f0, f1, f2])) (hone : oneCellFields P #[f0, f1, f2] = true) (hC : P.cellsOf t = 3)
    (he0 : P.underlying f0.type = some (.int .i64)) (he1 : P.underlying f1.type = some (.int .i64)) (he2 : P.underlying f2.type = some (.int .i64)) {r : Reach} {b0 : Nat} (hv : Value.okWide P w r b0 t v) (h : DataW.Trod enc P w 0 (fun _ => true) true t v d p) :
    ∃ a b c : Int, v = .agg #[.int .i64 a, .int .i64 b, .int .i64 c] := by
  obtain ⟨v0, v1, v2, y0, y1, y2, n, rfl, _, _, h0, h1, h2⟩ := open_agg3 hs hone hC hv h
  obtain ⟨a, e0, _, _⟩ := DataW.trod_int he0 h0
  obtain ⟨b, e1, _, _⟩ := DataW.trod_int he1 h1
  obtain ⟨c, e2, _, _⟩ := DataW.trod_int he2 h2
  simp at e0 e1 e2
  subst e0 e1 e2
  exact ⟨a, b, c, rfl⟩
end Go.Proofs.Ytegfajmhblpcoaa
