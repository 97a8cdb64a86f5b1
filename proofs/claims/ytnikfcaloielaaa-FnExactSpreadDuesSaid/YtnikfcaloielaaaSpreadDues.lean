/-
  impl.SpreadDues and spec.SpreadDues answer alike. Condition: fewer than 1000000000 integers in each list.
-/
import Derived.Test.YtnikfcaloielaaaSpreadI
import Derived.Test.YtnikfcaloielaaaSpreadS
namespace Go.Proofs.Ytnikfcaloielaaa
open Go.RowKit
set_option linter.unusedVariables false

theorem SpreadDues_impl {w : World} {B1 B2 B3 : Nat} {v1 v2 v3 : Value} {xs ys zs : List Int} (h1 : RowI 2 w B1 v1 xs) (h2 : RowI 2 w B2 v2 ys) (h3 : RowI 2 w B3 v3 zs) (r : Int) :
    Calls Try.prog 16 #[v1, v2, v3, .int .i64 r] w (RetL1 2 w (SpreadDues_r0 xs ys zs r) (SpreadDues_r1 xs ys zs r)) := by
  obtain ⟨g1, c1, rfl, _, _, _, _, I1, _, m1⟩ := h1.form
  obtain ⟨g2, c2, rfl, _, _, _, _, I2, _, m2⟩ := h2.form
  obtain ⟨g3, c3, rfl, _, _, _, _, I3, _, m3⟩ := h3.form
  exact spread_impl xs.length g1 c1 _ ys.length g2 c2 _ zs.length g3 c3 _ r w m1 m2 m3 I1 I2 I3
theorem SpreadDues_spec {w : World} {B1 B2 B3 : Nat} {v1 v2 v3 : Value} {xs ys zs : List Int} (h1 : RowI 2 w B1 v1 xs) (h2 : RowI 2 w B2 v2 ys) (h3 : RowI 2 w B3 v3 zs) (r : Int) :
    Calls Try.prog 15 #[v1, v2, v3, .int .i64 r] w (RetL1 2 w (SpreadDues_r0 xs ys zs r) (SpreadDues_r1 xs ys zs r)) := by
  obtain ⟨g1, c1, rfl, _, _, _, _, I1, _, m1⟩ := h1.form
  obtain ⟨g2, c2, rfl, _, _, _, _, I2, _, m2⟩ := h2.form
  obtain ⟨g3, c3, rfl, _, _, _, _, I3, _, m3⟩ := h3.form
  exact spread_spec xs.length g1 c1 _ ys.length g2 c2 _ zs.length g3 c3 _ r w m1 m2 m3 I1 I2 I3
end Go.Proofs.Ytnikfcaloielaaa
