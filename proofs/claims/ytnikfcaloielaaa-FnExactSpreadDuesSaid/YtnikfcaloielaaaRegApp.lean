/-
  One integer appended to a slice of the call's own, in a region whose order is open. No program in sight. Conditions as the law says.
-/
import Derived.Test.YtnikfcaloielaaaBase
import Derived.Deep.RegionHeld3
namespace Go.Proofs.Ytnikfcaloielaaa
open Go.RowKit

theorem step_app1 {P : Program} (w0 : World) {ops : Array Oper} {o : Oper} {a : Act} {K : Act → World → Prop} {Q : Exit → Act → World → Prop} {F : Prop} (hgd : o.guard = none) (s x : Operand) (t : TypeId)
    (ho : o.op = .call { callee := .builtin .append, args := #[s, x], argTypes := #[t, t] })
    (B : Nat) (E : TypeId) (hi : (P.info? E).map (fun i => (i.zero, i.size, i.bytes)) = some (some (.int .i64 0), 1, 8)) (ht : P.underlying t = some (.slice E))
    (v : Value) (xs : List Int) (hs : a.eval s = v) (hown : Own E w0 B v xs) (y : Int) (hx : a.eval x = .slice (some ⟨w0.heap.size, 0, none⟩) 1 1)
    (hlen : xs.length < 1000000000) (hB : B ≤ w0.heap.size)
    (h : ∀ v' w', Own E w' B v' (xs ++ [y]) → Below B w0 w' → Below B (w0.alloc (.cells #[.int .i64 y] E)) w' → K (a.put o.dst v') w') :
    if Region.wanted o (yielded ops a.tmps) = true then Oper.wp P o a (w0.alloc (.cells #[.int .i64 y] E)) K Q else F := by
  have hw : Region.wanted o (yielded ops a.tmps) = true := by simp [Region.wanted, hgd]
  rw [if_pos hw]
  obtain ⟨i0, hi0, hz0, hz1, hz2⟩ := info_parts hi
  have hb0 : Below B w0 (w0.alloc (.cells #[.int .i64 y] E)) := (Below.refl _ _).alloc hB _
  refine wp_append_own _ s x t ho B E i0 (.int .i64 0) 1 8 ht hi0 hz0 hz1 hz2 rfl (by decide) v xs.length (xs.map (Value.int .i64)) hs (World.ownsRow.alloc hown _) ⟨w0.heap.size, 0, none⟩ 1 1 [.int .i64 y] hx rfl ?c1 ?c2 ?c3 ?c4 ?c5 ?_
  case c1 =>
    intro j u hj
    match j, hj with
    | 0, hj => simp at hj; subst hj; simp [Addr.add]
  case c2 => intro u hu; simp at hu; subst hu; rfl
  case c3 => unfold maxLen; omega
  case c4 => omega
  case c5 => simp; omega
  intro v' w' hown' hg _
  refine h v' w' ?_ (hb0.grown hg (by simp; omega) (fun k hk => (hown.lt k hk).1)) ((Below.refl _ _).grown hg (by simp; omega) (fun k hk => (hown.lt k hk).1))
  have e1 : (xs ++ [y]).length = xs.length + 1 := by simp
  unfold Own
  rw [e1, List.map_append]
  exact hown'
end Go.Proofs.Ytnikfcaloielaaa
