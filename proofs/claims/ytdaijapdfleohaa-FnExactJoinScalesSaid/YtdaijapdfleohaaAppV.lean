/-
  Appends of one integer to slices of the call's own, of signed or unsigned integers, in a region whose order is open and that holds several of them. No program in sight. Conditions as the laws say.
-/
import Derived.Test.YtdaijapdfleohaaBoolRow
import Derived.Test.YtdaijapdfleohaaKept
import Derived.Deep.RegionHeld3
namespace Go.Proofs.Ytdaijapdfleohaa
open Go.RowKit
set_option linter.unusedVariables false

/-- A slice of unsigned integers that is nil or a row of the call's own. -/
def OwnU (E : TypeId) (w : World) (B : Nat) (v : Value) (xs : List Int) : Prop := w.ownsRow B E 1 v xs.length (xs.map (Value.int .u64))
theorem OwnU.lt {E : TypeId} {w : World} {B : Nat} {v : Value} {xs : List Int} (h : OwnU E w B v xs) : ∀ k, v.ownBlock = some k → B ≤ k ∧ k < w.heap.size := World.ownsRow.lt h
theorem OwnU.block {E : TypeId} {w w' : World} {B : Nat} {v : Value} {xs : List Int} (h : OwnU E w B v xs) (hb : ∀ k, v.ownBlock = some k → w'.heap[k]? = w.heap[k]?) : OwnU E w' B v xs := by
  obtain ⟨h1, h2⟩ := h
  refine ⟨h1, ?_⟩
  rcases h2 with h2 | ⟨g, cap, cur, rfl, hg, hh, r⟩
  · exact .inl h2
  · exact .inr ⟨g, cap, cur, rfl, hg, by rw [hb g rfl]; exact hh, r⟩
theorem OwnU.below {E : TypeId} {w w' : World} {B : Nat} {v : Value} {xs : List Int} (h : OwnU E w B v xs) (hb : Below w.heap.size w w') : OwnU E w' B v xs := h.block fun k hk => hb.block k (h.lt k hk).2
theorem OwnU.made (E : TypeId) (w : World) {B : Nat} (hB : B ≤ w.heap.size) : OwnU E (w.alloc (.cells #[] E)) B (.slice (some ⟨w.heap.size, 0, none⟩) 0 0) [] := World.ownsRow_made w #[] 0 hB (Nat.zero_le _) rfl
theorem OwnU.mono {E : TypeId} {w : World} {B B' : Nat} {v : Value} {xs : List Int} (h : OwnU E w B v xs) (hB : B' ≤ B) : OwnU E w B' v xs := by
  obtain ⟨h1, h2⟩ := h
  refine ⟨h1, ?_⟩
  rcases h2 with h2 | ⟨g, cap, cur, hv, hg, r⟩
  · exact .inl h2
  · exact .inr ⟨g, cap, cur, hv, Nat.le_trans hB hg, r⟩
theorem OwnU.form {E : TypeId} {w : World} {B n : Nat} {v : Value} {f : Nat → Int} (h : OwnU E w B v (tab f n)) (hn : 1 ≤ n) :
    ∃ g cap, v = .slice (some ⟨g, 0, none⟩) n cap ∧ B ≤ g ∧ g < w.heap.size ∧ ∀ i, i < n → w.cell? ⟨g, i, none⟩ = some (.int .u64 (f i)) := by
  have h0 := h
  have hlt := h.lt
  have hl := tab_length f n
  obtain ⟨h1, h2⟩ := h
  rcases h2 with ⟨rfl, hz⟩ | ⟨g, cap, cur, rfl, hg, hh, hn2, hm, hs, ht⟩
  · omega
  · refine ⟨g, cap, by rw [hl], hg, (hlt g rfl).2, fun i hi => ?_⟩
    rw [World.ownsRow.cellAt h0 i (by omega)]
    have e := tab_get f n i hi
    have e2 : (tab f n)[i]? = some (f i) := by
      rw [List.getD_eq_getElem?_getD] at e
      have : i < (tab f n).length := by omega
      rw [List.getElem?_eq_getElem this] at e ⊢
      simpa using e
    simp [e2]
theorem Kept3.ownU {E : TypeId} {B : Nat} {u : Value} {ys : List Int} {w0 w' : World} {v v' : Value} (h : Kept3 w0 v w' v') (hu : OwnU E w0 B u ys) (hd : Apart v u) : OwnU E w' B u ys ∧ Apart v' u :=
  ⟨hu.block fun k hk => h.1 k (hu.lt k hk).2 (fun e => hd k e hk), fun k h1 h2 => by
    rcases h.2.1 k h1 with h3 | h3
    · exact hd k h3 h2
    · have := (hu.lt k h2).2; omega⟩
theorem Kept3.cell {w0 w' : World} {v v' : Value} (h : Kept3 w0 v w' v') {k i : Nat} {y : Value} (hy : w0.cell? ⟨k, i, none⟩ = some y) (hd : v.ownBlock = some k → False) : w'.cell? ⟨k, i, none⟩ = some y := by
  have hlt := World.block_lt_of_cell? w0 _ hy
  have hb := h.1 k hlt hd
  unfold World.cell? at hy ⊢
  rw [hb]
  exact hy
theorem Kept3.frozen {w0 w' : World} {v v' : Value} (h : Kept3 w0 v w' v') {k i : Nat} (hlt : k < w0.heap.size) (hy : w0.frozen? ⟨k, i, none⟩ = false) (hd : v.ownBlock = some k → False) : w'.frozen? ⟨k, i, none⟩ = false := by
  have hb := h.1 k hlt hd
  unfold World.frozen? at hy ⊢
  rw [hb]
  exact hy

/-- One more block, one draw more. -/
theorem Own.up {E : TypeId} {w : World} {B : Nat} {v : Value} {xs : List Int} (h : Own E w B v xs) (c : Obj) : Own E (w.alloc c) B v xs := World.ownsRow.alloc h _
theorem OwnU.up {E : TypeId} {w : World} {B : Nat} {v : Value} {xs : List Int} (h : OwnU E w B v xs) (c : Obj) : OwnU E (w.alloc c) B v xs := World.ownsRow.alloc h _

theorem step_appV {P : Program} (W : World) {ops : Array Oper} {o : Oper} {a : Act} {K : Act → World → Prop} {Q : Exit → Act → World → Prop} {F : Prop} (hgd : o.guard = none) (s x : Operand) (t : TypeId)
    (ho : o.op = .call { callee := .builtin .append, args := #[s, x], argTypes := #[t, t] })
    (B : Nat) (E : TypeId) (z : Value) (hi : (P.info? E).map (fun i => (i.zero, i.size, i.bytes)) = some (some z, 1, 8)) (hz : z.cells.size = 1) (ht : P.underlying t = some (.slice E))
    (v : Value) (n : Nat) (xs : List Value) (hs : a.eval s = v) (hown : W.ownsRow B E 1 v n xs) (g : Nat) (y : Value) (hx : a.eval x = .slice (some ⟨g, 0, none⟩) 1 1) (hy : W.cell? ⟨g, 0, none⟩ = some y) (hone : y.oneCell' = true)
    (hlen : n < 100000000) (hB : B ≤ W.heap.size)
    (h : ∀ v' w', w'.ownsRow B E 1 v' (n + 1) (xs ++ [y]) → Below B W w' → Kept3 W v w' v' → K (a.put o.dst v') w') :
    if Region.wanted o (yielded ops a.tmps) = true then Oper.wp P o a W K Q else F := by
  have hw : Region.wanted o (yielded ops a.tmps) = true := by simp [Region.wanted, hgd]
  rw [if_pos hw]
  obtain ⟨i0, hi0, hz0, hz1, hz2⟩ := info_parts hi
  obtain ⟨v', w', hr, h2, h3, h4, h5⟩ := run_append_own_at (P := P) W B t o.type E i0 z 1 8 ht hi0 hz0 hz1 hz2 hz (by decide) v n xs hown ⟨g, 0, none⟩ 1 1 [y] rfl
    (fun j u hj => by
      match j, hj with
      | 0, hj => simp at hj; subst hj; simpa [Addr.add] using hy)
    (fun u hu => by simp at hu; subst hu; exact hone) (by unfold maxLen; omega) (by omega) hB
  unfold Oper.wp execOp
  simp only [ho, resolve, invoke, builtin, Sem.run_bind, Sem.run_pure, Result.andThen_ok, List.map_toArray, List.map_cons, List.map_nil, hs, hx, hr]
  have hbb := (Below.refl B W).grown h3 hB (fun k hk => (World.ownsRow.lt hown k hk).1)
  refine h v' w' h2 hbb ⟨fun k hk hd => h3.block k hk (fun e => hd e.symm), fun k h1 => ?_, hbb.size⟩
  rcases h5 with e | e
  · exact .inl (e ▸ h1)
  · rw [e] at h1
    cases h1
    exact .inr (Nat.le_refl _)

theorem step_appI {P : Program} (W : World) {ops : Array Oper} {o : Oper} {a : Act} {K : Act → World → Prop} {Q : Exit → Act → World → Prop} {F : Prop} (hgd : o.guard = none) (s x : Operand) (t : TypeId)
    (ho : o.op = .call { callee := .builtin .append, args := #[s, x], argTypes := #[t, t] })
    (B : Nat) (E : TypeId) (hi : (P.info? E).map (fun i => (i.zero, i.size, i.bytes)) = some (some (.int .i64 0), 1, 8)) (ht : P.underlying t = some (.slice E))
    (v : Value) (xs : List Int) (hs : a.eval s = v) (hown : Own E W B v xs) (g : Nat) (y : Int) (hx : a.eval x = .slice (some ⟨g, 0, none⟩) 1 1) (hy : W.cell? ⟨g, 0, none⟩ = some (.int .i64 y))
    (hlen : xs.length < 100000000) (hB : B ≤ W.heap.size)
    (h : ∀ v' w', Own E w' B v' (xs ++ [y]) → Below B W w' → Kept3 W v w' v' → K (a.put o.dst v') w') :
    if Region.wanted o (yielded ops a.tmps) = true then Oper.wp P o a W K Q else F :=
  step_appV W hgd s x t ho B E _ hi rfl ht v xs.length _ hs hown g _ hx hy rfl hlen hB fun v' w' h1 h2 h3 => h v' w' (by
    have e1 : (xs ++ [y]).length = xs.length + 1 := by simp
    unfold Own
    rw [e1, List.map_append]
    exact h1) h2 h3
theorem step_appU {P : Program} (W : World) {ops : Array Oper} {o : Oper} {a : Act} {K : Act → World → Prop} {Q : Exit → Act → World → Prop} {F : Prop} (hgd : o.guard = none) (s x : Operand) (t : TypeId)
    (ho : o.op = .call { callee := .builtin .append, args := #[s, x], argTypes := #[t, t] })
    (B : Nat) (E : TypeId) (hi : (P.info? E).map (fun i => (i.zero, i.size, i.bytes)) = some (some (.int .u64 0), 1, 8)) (ht : P.underlying t = some (.slice E))
    (v : Value) (xs : List Int) (hs : a.eval s = v) (hown : OwnU E W B v xs) (g : Nat) (y : Int) (hx : a.eval x = .slice (some ⟨g, 0, none⟩) 1 1) (hy : W.cell? ⟨g, 0, none⟩ = some (.int .u64 y))
    (hlen : xs.length < 100000000) (hB : B ≤ W.heap.size)
    (h : ∀ v' w', OwnU E w' B v' (xs ++ [y]) → Below B W w' → Kept3 W v w' v' → K (a.put o.dst v') w') :
    if Region.wanted o (yielded ops a.tmps) = true then Oper.wp P o a W K Q else F :=
  step_appV W hgd s x t ho B E _ hi rfl ht v xs.length _ hs hown g _ hx hy rfl hlen hB fun v' w' h1 h2 h3 => h v' w' (by
    have e1 : (xs ++ [y]).length = xs.length + 1 := by simp
    unfold OwnU
    rw [e1, List.map_append]
    exact h1) h2 h3
end Go.Proofs.Ytdaijapdfleohaa
