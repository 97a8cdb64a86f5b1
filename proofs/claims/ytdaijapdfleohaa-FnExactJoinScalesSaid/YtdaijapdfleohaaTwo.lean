/-
  Two rows of a call's own that share no memory: one integer appended to one of them. No program in sight. Conditions as the law says.
-/
import Derived.Test.YtdaijapdfleohaaBase
import Derived.Maps.AppendAt
namespace Go.Proofs.Ytdaijapdfleohaa
open Go.RowKit

/-- Two slices in two blocks. -/
def Apart (v u : Value) : Prop := ∀ k, v.ownBlock = some k → u.ownBlock = some k → False
theorem Apart.symm {v u : Value} (h : Apart v u) : Apart u v := fun k a b => h k b a
theorem Apart.two {a b n c n' c' : Nat} (h : a ≠ b) : Apart (.slice (some ⟨a, 0, none⟩) n c) (.slice (some ⟨b, 0, none⟩) n' c') := fun k h1 h2 => by
  cases h1; cases h2; exact h rfl
/-- What an append leaves of the other rows. -/
def Spared (E : TypeId) (w0 : World) (v : Value) (w' : World) (v' : Value) : Prop := ∀ B u ys, Own E w0 B u ys → Apart v u → Own E w' B u ys ∧ Apart v' u

theorem wpList_app2 {P : Program} (w0 : World) {ops : Array Oper} {rest : List Oper} {o : Oper} {a : Act} {Q : Exit → Act → World → Prop} (hgd : o.guard = none) (s x : Operand) (t : TypeId)
    (ho : o.op = .call { callee := .builtin .append, args := #[s, x], argTypes := #[t, t] })
    (B : Nat) (E : TypeId) (hi : (P.info? E).map (fun i => (i.zero, i.size, i.bytes)) = some (some (.int .i64 0), 1, 8)) (ht : P.underlying t = some (.slice E))
    (v : Value) (xs : List Int) (hs : a.eval s = v) (hown : Own E w0 B v xs) (y : Int) (hx : a.eval x = .slice (some ⟨w0.heap.size, 0, none⟩) 1 1)
    (hlen : xs.length < 1000000000) (hB : B ≤ w0.heap.size)
    (h : ∀ v' w', Own E w' B v' (xs ++ [y]) → Below B w0 w' → Spared E w0 v w' v' → wpList P ops Q rest (a.put o.dst v') w') : wpList P ops Q (o :: rest) a (w0.alloc (.cells #[.int .i64 y] E)) := by
  obtain ⟨i0, hi0, hz0, hz1, hz2⟩ := info_parts hi
  have hb0 : Below B w0 (w0.alloc (.cells #[.int .i64 y] E)) := (Below.refl _ _).alloc hB _
  refine wpList_append_own_at _ hgd s x t ho B E i0 (.int .i64 0) 1 8 ht hi0 hz0 hz1 hz2 rfl (by decide) v xs.length (xs.map (Value.int .i64)) hs (World.ownsRow.alloc hown _) ⟨w0.heap.size, 0, none⟩ 1 1 [.int .i64 y] hx rfl ?c1 ?c2 ?c3 ?c4 ?c5 ?_
  case c1 => exact cell_one_new _ _ _
  case c2 => intro u hu; simp at hu; subst hu; rfl
  case c3 => unfold maxLen; omega
  case c4 => omega
  case c5 => simp; omega
  intro v' w' hown' hg _ hv'
  refine h v' w' ?_ (hb0.grown hg (by simp; omega) (fun k hk => (hown.lt k hk).1)) ?_
  · have e1 : (xs ++ [y]).length = xs.length + 1 := by simp
    unfold Own
    rw [e1, List.map_append]
    exact hown'
  · intro B2 u ys hu hd
    have hs1 : (w0.alloc (.cells #[.int .i64 y] E)).heap.size = w0.heap.size + 1 := by simp
    refine ⟨hu.block fun k hk => ?_, fun k h1 h2 => ?_⟩
    · have hk2 := (hu.lt k hk).2
      rw [hg.block k (by omega) (fun e => hd k e.symm hk)]
      exact ((Below.refl w0.heap.size w0).alloc (Nat.le_refl _) _).block k hk2
    · have hk2 := (hu.lt k h2).2
      rcases hv' with e | e
      · exact hd k (e ▸ h1) h2
      · rw [e, hs1] at h1
        simp at h1
        omega
end Go.Proofs.Ytdaijapdfleohaa
