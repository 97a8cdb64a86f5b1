/-
  A row of truth values in memory of the call's own, made and written; an append of one integer that spares all other blocks. No program in sight. Conditions as the laws say.
-/
import Derived.Test.YtdaijapdfleohaaBase
import Derived.Test.YtdaijapdfleohaaTwo
namespace Go.Proofs.Ytdaijapdfleohaa
open Go.RowKit
set_option linter.unusedVariables false

/-- Truth values in a block. -/
def Bools (w : World) (g n : Nat) (u : Nat → Bool) : Prop := g < w.heap.size ∧ (∀ i, i < n → w.cell? ⟨g, i, none⟩ = some (.bool (u i))) ∧ ∀ i, w.frozen? ⟨g, i, none⟩ = false
theorem Bools.block {w w' : World} {g n : Nat} {u : Nat → Bool} (h : Bools w g n u) (hs : w.heap.size ≤ w'.heap.size) (hb : w'.heap[g]? = w.heap[g]?) : Bools w' g n u := by
  refine ⟨Nat.lt_of_lt_of_le h.1 hs, fun i hi => ?_, fun i => ?_⟩
  · have := h.2.1 i hi
    unfold World.cell? at this ⊢
    rw [hb]
    exact this
  · have := h.2.2 i
    unfold World.frozen? at this ⊢
    rw [hb]
    exact this
theorem Bools.below {w w' : World} {g n : Nat} {u : Nat → Bool} (h : Bools w g n u) (hb : Below w.heap.size w w') : Bools w' g n u := h.block hb.size (hb.block g h.1)
theorem Bools.set {w : World} {g n : Nat} {u u' : Nat → Bool} (h : Bools w g n u) (j : Nat) (hj : j < n) (b : Bool) (e0 : u' j = b) (e1 : ∀ i, i ≠ j → u' i = u i) : Bools (w.setCell ⟨g, j, none⟩ (.bool b)) g n u' := by
  refine ⟨by simpa using h.1, fun i hi => ?_, fun i => by rw [World.frozen?_setCell]; exact h.2.2 i⟩
  by_cases e : j = i
  · subst e
    rw [World.cell?_setCell_same _ _ _ (h.2.1 j hi), e0]
  · rw [World.cell?_setCell_other _ _ _ _ (by intro h; cases h; exact e rfl), e1 i (fun h => e h.symm)]; exact h.2.1 i hi

/-- What a write into one slice leaves of the other blocks. -/
def Kept3 (w0 : World) (v : Value) (w' : World) (v' : Value) : Prop := (∀ k, k < w0.heap.size → (v.ownBlock = some k → False) → w'.heap[k]? = w0.heap[k]?) ∧ (∀ k, v'.ownBlock = some k → v.ownBlock = some k ∨ w0.heap.size ≤ k) ∧ w0.heap.size ≤ w'.heap.size
theorem Kept3.bools {w0 w' : World} {v v' : Value} {g n : Nat} {u : Nat → Bool} (h : Kept3 w0 v w' v') (hu : Bools w0 g n u) (hd : v.ownBlock = some g → False) : Bools w' g n u ∧ (v'.ownBlock = some g → False) :=
  ⟨hu.block h.2.2 (h.1 g hu.1 hd), fun e => by rcases h.2.1 g e with h1 | h1; exact hd h1; exact absurd hu.1 (by omega)⟩
theorem Kept3.own {E : TypeId} {B : Nat} {u : Value} {ys : List Int} {w0 w' : World} {v v' : Value} (h : Kept3 w0 v w' v') (hu : Own E w0 B u ys) (hd : Apart v u) : Own E w' B u ys ∧ Apart v' u :=
  ⟨hu.block fun k hk => h.1 k (hu.lt k hk).2 (fun e => hd k e hk), fun k h1 h2 => by
    rcases h.2.1 k h1 with h3 | h3
    · exact hd k h3 h2
    · have := (hu.lt k h2).2; omega⟩

theorem wpList_mkB {P : Program} (w : World) {ops : Array Oper} {rest : List Oper} {o : Oper} {a : Act} {Q : Exit → Act → World → Prop}
    (hg : o.guard = none) (l c : Operand) (t : TypeId) (hop : o.op = Op.makeSlice t l c)
    (E : TypeId) (hi : (P.info? E).map (fun i => (i.zero, i.size, i.bytes)) = some (some (.bool false), 1, 1)) (ht : P.underlying t = some (.slice E))
    (kl kc : IntKind) (L C : Int) (n : Nat) (hl : a.eval l = .int kl L) (hc : a.eval c = .int kc C) (hL : L = (n : Int)) (hC : C = (n : Int)) (hn : n < 1000000000)
    (hK : ∀ w', Bools w' w.heap.size n (fun _ => false) → Below w.heap.size w w' → wpList P ops Q rest (a.put o.dst (.slice (some ⟨w.heap.size, 0, none⟩) n n)) w') :
    wpList P ops Q (o :: rest) a w := by
  obtain ⟨i0, hi0, hz0, hz1, hz2⟩ := info_parts hi
  refine wpList_make_full w hg l c t hop w.heap.size E i0 (.bool false) 1 ht hi0 hz0 hz1 kl kc L C n hl hc hL hC (by rw [hz2]; omega) (by unfold maxLen; omega) (Nat.le_refl _) fun w' hown hgr => hK w' ⟨(World.ownsRow.lt hown _ rfl).2, fun i hi => ?_, fun i => World.ownsRow.frozenAt hown i⟩ ((Below.refl _ _).grown hgr (Nat.le_refl _) (fun k hk => by cases hk))
  have e : (madeCells (Value.bool false).cells (n * 1)).toList = List.replicate n (Value.bool false) := by
    rw [Nat.mul_one]
    exact toList_madeCells_one (.bool false) n
  rw [e] at hown
  rw [World.ownsRow.cellAt hown i (by omega)]
  simp [hi]

theorem wpList_app3 {P : Program} (w0 : World) {ops : Array Oper} {rest : List Oper} {o : Oper} {a : Act} {Q : Exit → Act → World → Prop} (hgd : o.guard = none) (s x : Operand) (t : TypeId)
    (ho : o.op = .call { callee := .builtin .append, args := #[s, x], argTypes := #[t, t] })
    (B : Nat) (E : TypeId) (hi : (P.info? E).map (fun i => (i.zero, i.size, i.bytes)) = some (some (.int .i64 0), 1, 8)) (ht : P.underlying t = some (.slice E))
    (v : Value) (xs : List Int) (hs : a.eval s = v) (hown : Own E w0 B v xs) (y : Int) (hx : a.eval x = .slice (some ⟨w0.heap.size, 0, none⟩) 1 1)
    (hlen : xs.length < 1000000000) (hB : B ≤ w0.heap.size)
    (h : ∀ v' w', Own E w' B v' (xs ++ [y]) → Below B w0 w' → Kept3 w0 v w' v' → wpList P ops Q rest (a.put o.dst v') w') : wpList P ops Q (o :: rest) a (w0.alloc (.cells #[.int .i64 y] E)) := by
  obtain ⟨i0, hi0, hz0, hz1, hz2⟩ := info_parts hi
  have hb0 : Below B w0 (w0.alloc (.cells #[.int .i64 y] E)) := (Below.refl _ _).alloc hB _
  refine wpList_append_own_at _ hgd s x t ho B E i0 (.int .i64 0) 1 8 ht hi0 hz0 hz1 hz2 rfl (by decide) v xs.length (xs.map (Value.int .i64)) hs (World.ownsRow.alloc hown _) ⟨w0.heap.size, 0, none⟩ 1 1 [.int .i64 y] hx rfl ?c1 ?c2 ?c3 ?c4 ?c5 ?_
  case c1 => exact cell_one_new _ _ _
  case c2 => intro u hu; simp at hu; subst hu; rfl
  case c3 => unfold maxLen; omega
  case c4 => omega
  case c5 => simp; omega
  intro v' w' hown' hg _ hv'
  have hbb := hb0.grown hg (by simp; omega) (fun k hk => (hown.lt k hk).1)
  have hs1 : (w0.alloc (.cells #[.int .i64 y] E)).heap.size = w0.heap.size + 1 := by simp
  refine h v' w' ?_ hbb ⟨fun k hk hd => ?_, fun k h1 => ?_, hbb.size⟩
  · have e1 : (xs ++ [y]).length = xs.length + 1 := by simp
    unfold Own
    rw [e1, List.map_append]
    exact hown'
  · rw [hg.block k (by omega) (fun e => hd e.symm)]
    exact ((Below.refl w0.heap.size w0).alloc (Nat.le_refl _) _).block k hk
  · rcases hv' with e | e
    · exact .inl (e ▸ h1)
    · rw [e, hs1] at h1
      simp at h1
      exact .inr (by omega)
end Go.Proofs.Ytdaijapdfleohaa
