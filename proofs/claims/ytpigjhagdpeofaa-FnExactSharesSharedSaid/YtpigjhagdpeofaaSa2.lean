/-
  Appends of one integer to slices of the call's own, of signed or unsigned integers, in a region whose order is open and that holds several of them. No program in sight. Conditions as the laws say.
  A statement that appends to three slices at once, one of them in a variable's own memory, in whatever order its operations come: what it does. No program in sight. Conditions as the laws say.
  A statement that appends to three slices at once: from its beginning to where its results are assigned, in whatever order its operations come. No program in sight. Conditions as the law says.
  The small tests of the program and of the reference, each by its contract: it answers as a plain Bool says. No condition.
  A row of integers that is written: two cells exchanged. No program in sight. No condition.
  slices.swapRangeCmpFunc and rotateCmpFunc at int exchange ranges. Conditions: fewer than 1000000 integers, ranges that lie in the row.
  slices.insertionSortCmpFunc at int, over a comparison that tells which of two keys is less. Conditions: fewer than 1000000 integers, each of them below their count, ascending at first.
  slices.symMergeCmpFunc at int where one of the two ranges has a single element. Conditions: fewer than 1000000 integers, each below their count.
-/
import Derived.Test.YtpigjhagdpeofaaSa1
import Derived.Deep.RegionHeld3
import Derived.Orders
import Derived.Great.BuildSlice
import Derived.Test.YtpigjhagdpeofaaSm5
import Derived.Test.YtpigjhagdpeofaaProg
import Derived.Test.YtpigjhagdpeofaaSm4
import Derived.Deep.QuietTactic
import Derived.BigQuiet
import Derived.BigRegion

namespace Go.Proofs.Ytpigjhagdpeofaa
open Go.RowKit
set_option linter.unusedVariables false

/-- A slice of unsigned integers that is nil or a row of the call's own. -/
def OwnU (E : TypeId) (w : World) (B : Nat) (v : Value) (xs : List Int) : Prop := w.ownsRow B E 1 v xs.length (xs.map (Value.int .u64))
theorem OwnU.lt {E : TypeId} {w : World} {B : Nat} {v : Value} {xs : List Int} (h : OwnU E w B v xs) : ∀ k, v.ownBlock = some k → B ≤ k ∧ k < w.heap.size := World.ownsRow.lt h
theorem OwnU.block {E : TypeId} {w w' : World} {B : Nat} {v : Value} {xs : List Int} (h : OwnU E w B v xs) (hb : ∀ k, v.ownBlock = some k → w'.heap[k]? = w.heap[k]?) : OwnU E w' B v xs := by
  obtain ⟨h1, h2⟩ := h
  refine ⟨h1, ?_⟩
  rcases h2 with h2 | ⟨g, cap, cur, rfl, hg, hh, r⟩
  · exact .inl h2
  · exact .inr ⟨g, cap, cur, rfl, hg, by rw [hb g rfl]; exact hh, r⟩
theorem OwnU.below {E : TypeId} {w w' : World} {B : Nat} {v : Value} {xs : List Int} (h : OwnU E w B v xs) (hb : Below w.heap.size w w') : OwnU E w' B v xs := h.block fun k hk => hb.block k (h.lt k hk).2
theorem OwnU.made (E : TypeId) (w : World) {B : Nat} (hB : B ≤ w.heap.size) : OwnU E (w.alloc (.cells #[] E)) B (.slice (some ⟨w.heap.size, 0, none⟩) 0 0) [] := World.ownsRow_made w #[] 0 hB (Nat.zero_le _) rfl
theorem OwnU.mono {E : TypeId} {w : World} {B B' : Nat} {v : Value} {xs : List Int} (h : OwnU E w B v xs) (hB : B' ≤ B) : OwnU E w B' v xs := by
  obtain ⟨h1, h2⟩ := h
  refine ⟨h1, ?_⟩
  rcases h2 with h2 | ⟨g, cap, cur, hv, hg, r⟩
  · exact .inl h2
  · exact .inr ⟨g, cap, cur, hv, Nat.le_trans hB hg, r⟩
theorem OwnU.form {E : TypeId} {w : World} {B n : Nat} {v : Value} {f : Nat → Int} (h : OwnU E w B v (tab f n)) (hn : 1 ≤ n) :
    ∃ g cap, v = .slice (some ⟨g, 0, none⟩) n cap ∧ B ≤ g ∧ g < w.heap.size ∧ ∀ i, i < n → w.cell? ⟨g, i, none⟩ = some (.int .u64 (f i)) := by
  have h0 := h
  have hlt := h.lt
  have hl := tab_length f n
  obtain ⟨h1, h2⟩ := h
  rcases h2 with ⟨rfl, hz⟩ | ⟨g, cap, cur, rfl, hg, hh, hn2, hm, hs, ht⟩
  · omega
  · refine ⟨g, cap, by rw [hl], hg, (hlt g rfl).2, fun i hi => ?_⟩
    rw [World.ownsRow.cellAt h0 i (by omega)]
    have e := tab_get f n i hi
    have e2 : (tab f n)[i]? = some (f i) := by
      rw [List.getD_eq_getElem?_getD] at e
      have : i < (tab f n).length := by omega
      rw [List.getElem?_eq_getElem this] at e ⊢
      simpa using e
    simp [e2]
theorem Kept3.ownU {E : TypeId} {B : Nat} {u : Value} {ys : List Int} {w0 w' : World} {v v' : Value} (h : Kept3 w0 v w' v') (hu : OwnU E w0 B u ys) (hd : Apart v u) : OwnU E w' B u ys ∧ Apart v' u :=
  ⟨hu.block fun k hk => h.1 k (hu.lt k hk).2 (fun e => hd k e hk), fun k h1 h2 => by
    rcases h.2.1 k h1 with h3 | h3
    · exact hd k h3 h2
    · have := (hu.lt k h2).2; omega⟩
theorem Kept3.cell {w0 w' : World} {v v' : Value} (h : Kept3 w0 v w' v') {k i : Nat} {y : Value} (hy : w0.cell? ⟨k, i, none⟩ = some y) (hd : v.ownBlock = some k → False) : w'.cell? ⟨k, i, none⟩ = some y := by
  have hlt := World.block_lt_of_cell? w0 _ hy
  have hb := h.1 k hlt hd
  unfold World.cell? at hy ⊢
  rw [hb]
  exact hy
theorem Kept3.frozen {w0 w' : World} {v v' : Value} (h : Kept3 w0 v w' v') {k i : Nat} (hlt : k < w0.heap.size) (hy : w0.frozen? ⟨k, i, none⟩ = false) (hd : v.ownBlock = some k → False) : w'.frozen? ⟨k, i, none⟩ = false := by
  have hb := h.1 k hlt hd
  unfold World.frozen? at hy ⊢
  rw [hb]
  exact hy

/-- One more block, one draw more. -/
theorem Own.up {E : TypeId} {w : World} {B : Nat} {v : Value} {xs : List Int} (h : Own E w B v xs) (c : Obj) : Own E (w.alloc c) B v xs := World.ownsRow.alloc h _
theorem OwnU.up {E : TypeId} {w : World} {B : Nat} {v : Value} {xs : List Int} (h : OwnU E w B v xs) (c : Obj) : OwnU E (w.alloc c) B v xs := World.ownsRow.alloc h _

theorem step_appV {P : Program} (W : World) {ops : Array Oper} {o : Oper} {a : Act} {K : Act → World → Prop} {Q : Exit → Act → World → Prop} {F : Prop} (hgd : o.guard = none) (s x : Operand) (t : TypeId)
    (ho : o.op = .call { callee := .builtin .append, args := #[s, x], argTypes := #[t, t] })
    (B : Nat) (E : TypeId) (z : Value) (hi : (P.info? E).map (fun i => (i.zero, i.size, i.bytes)) = some (some z, 1, 8)) (hz : z.cells.size = 1) (ht : P.underlying t = some (.slice E))
    (v : Value) (n : Nat) (xs : List Value) (hs : a.eval s = v) (hown : W.ownsRow B E 1 v n xs) (g : Nat) (y : Value) (hx : a.eval x = .slice (some ⟨g, 0, none⟩) 1 1) (hy : W.cell? ⟨g, 0, none⟩ = some y) (hone : y.oneCell' = true)
    (hlen : n < 100000000) (hB : B ≤ W.heap.size)
    (h : ∀ v' w', w'.ownsRow B E 1 v' (n + 1) (xs ++ [y]) → Below B W w' → Kept3 W v w' v' → K (a.put o.dst v') w') :
    if Region.wanted o (yielded ops a.tmps) = true then Oper.wp P o a W K Q else F := by
  have hw : Region.wanted o (yielded ops a.tmps) = true := by simp [Region.wanted, hgd]
  rw [if_pos hw]
  obtain ⟨i0, hi0, hz0, hz1, hz2⟩ := info_parts hi
  obtain ⟨v', w', hr, h2, h3, h4, h5⟩ := run_append_own_at (P := P) W B t o.type E i0 z 1 8 ht hi0 hz0 hz1 hz2 hz (by decide) v n xs hown ⟨g, 0, none⟩ 1 1 [y] rfl
    (fun j u hj => by
      match j, hj with
      | 0, hj => simp at hj; subst hj; simpa [Addr.add] using hy)
    (fun u hu => by simp at hu; subst hu; exact hone) (by unfold maxLen; omega) (by omega) hB
  unfold Oper.wp execOp
  simp only [ho, resolve, invoke, builtin, Sem.run_bind, Sem.run_pure, Result.andThen_ok, List.map_toArray, List.map_cons, List.map_nil, hs, hx, hr]
  have hbb := (Below.refl B W).grown h3 hB (fun k hk => (World.ownsRow.lt hown k hk).1)
  refine h v' w' h2 hbb ⟨fun k hk hd => h3.block k hk (fun e => hd e.symm), fun k h1 => ?_, hbb.size⟩
  rcases h5 with e | e
  · exact .inl (e ▸ h1)
  · rw [e] at h1
    cases h1
    exact .inr (Nat.le_refl _)

theorem step_appI {P : Program} (W : World) {ops : Array Oper} {o : Oper} {a : Act} {K : Act → World → Prop} {Q : Exit → Act → World → Prop} {F : Prop} (hgd : o.guard = none) (s x : Operand) (t : TypeId)
    (ho : o.op = .call { callee := .builtin .append, args := #[s, x], argTypes := #[t, t] })
    (B : Nat) (E : TypeId) (hi : (P.info? E).map (fun i => (i.zero, i.size, i.bytes)) = some (some (.int .i64 0), 1, 8)) (ht : P.underlying t = some (.slice E))
    (v : Value) (xs : List Int) (hs : a.eval s = v) (hown : Own E W B v xs) (g : Nat) (y : Int) (hx : a.eval x = .slice (some ⟨g, 0, none⟩) 1 1) (hy : W.cell? ⟨g, 0, none⟩ = some (.int .i64 y))
    (hlen : xs.length < 100000000) (hB : B ≤ W.heap.size)
    (h : ∀ v' w', Own E w' B v' (xs ++ [y]) → Below B W w' → Kept3 W v w' v' → K (a.put o.dst v') w') :
    if Region.wanted o (yielded ops a.tmps) = true then Oper.wp P o a W K Q else F :=
  step_appV W hgd s x t ho B E _ hi rfl ht v xs.length _ hs hown g _ hx hy rfl hlen hB fun v' w' h1 h2 h3 => h v' w' (by
    have e1 : (xs ++ [y]).length = xs.length + 1 := by simp
    unfold Own
    rw [e1, List.map_append]
    exact h1) h2 h3
theorem step_appU {P : Program} (W : World) {ops : Array Oper} {o : Oper} {a : Act} {K : Act → World → Prop} {Q : Exit → Act → World → Prop} {F : Prop} (hgd : o.guard = none) (s x : Operand) (t : TypeId)
    (ho : o.op = .call { callee := .builtin .append, args := #[s, x], argTypes := #[t, t] })
    (B : Nat) (E : TypeId) (hi : (P.info? E).map (fun i => (i.zero, i.size, i.bytes)) = some (some (.int .u64 0), 1, 8)) (ht : P.underlying t = some (.slice E))
    (v : Value) (xs : List Int) (hs : a.eval s = v) (hown : OwnU E W B v xs) (g : Nat) (y : Int) (hx : a.eval x = .slice (some ⟨g, 0, none⟩) 1 1) (hy : W.cell? ⟨g, 0, none⟩ = some (.int .u64 y))
    (hlen : xs.length < 100000000) (hB : B ≤ W.heap.size)
    (h : ∀ v' w', OwnU E w' B v' (xs ++ [y]) → Below B W w' → Kept3 W v w' v' → K (a.put o.dst v') w') :
    if Region.wanted o (yielded ops a.tmps) = true then Oper.wp P o a W K Q else F :=
  step_appV W hgd s x t ho B E _ hi rfl ht v xs.length _ hs hown g _ hx hy rfl hlen hB fun v' w' h1 h2 h3 => h v' w' (by
    have e1 : (xs ++ [y]).length = xs.length + 1 := by simp
    unfold OwnU
    rw [e1, List.map_append]
    exact h1) h2 h3
end Go.Proofs.Ytpigjhagdpeofaa

namespace Go.Proofs.Ytpigjhagdpeofaa
open Go.RowKit
set_option linter.unusedVariables false

theorem upC {w : World} {p : Addr} {v : Value} (h : w.cell? p = some v) (c : Obj) : (w.alloc c).cell? p = some v := Below.cellOf (B := w.heap.size) ((Below.refl _ _).alloc (Nat.le_refl _) _) rfl h
theorem upF {w : World} {p : Addr} {v : Value} (h : w.cell? p = some v) (hf : w.frozen? p = false) (c : Obj) : (w.alloc c).frozen? p = false :=
  (((Below.refl w.heap.size w).alloc (Nat.le_refl _) c).frozen (World.block_lt_of_cell? w p h)).trans hf
theorem upB {a w : World} (h : Below a.heap.size a w) (c : Obj) : Below a.heap.size a (w.alloc c) := h.alloc h.size _
theorem Kept3.nown {w0 w' : World} {v v' : Value} (h : Kept3 w0 v w' v') {k i : Nat} {y : Value} (hy : w0.cell? ⟨k, i, none⟩ = some y) (hd : v.ownBlock = some k → False) : v'.ownBlock = some k → False := fun e => by
  rcases h.2.1 k e with h1 | h1
  · exact hd h1
  · have := World.block_lt_of_cell? w0 _ hy
    exact absurd h1 (Nat.not_le.2 this)

/-- A temporary that is set, if it is yet. -/
def pif (b : Bool) (t : Nat) (v : Value) (a : Act) : Act := bif b then a.put (some t) v else a
theorem pif_true (t : Nat) (v : Value) (a : Act) : pif true t v a = a.put (some t) v := rfl
theorem pif_false (t : Nat) (v : Value) (a : Act) : pif false t v a = a := rfl
theorem pif_put {b : Bool} {t s : Nat} {v u : Value} {a : Act} (h : t ≠ s) : (pif b t v a).put (some s) u = pif b t v (a.put (some s) u) := by
  cases b
  · rfl
  · show (a.put (some t) v).put (some s) u = (a.put (some s) u).put (some t) v
    exact Act.put_comm a (x := some t) (y := some s) v u (fun d hd => by cases hd; intro e; exact h (Option.some.inj e).symm)
theorem pif_eval {b : Bool} {t : Nat} {v : Value} {a : Act} {x : Operand} (h : x ≠ .tmp t) : (pif b t v a).eval x = a.eval x := by
  cases b
  · rfl
  · exact Act.eval_put (a := a) (dst := some t) (v := v) (fun d hd => by cases hd; exact h)
theorem put_size (a : Act) (d : Option Nat) (v : Value) : (a.put d v).tmps.size = a.tmps.size := by
  cases d <;> simp [Act.put]
theorem pif_size (b : Bool) (t : Nat) (v : Value) (a : Act) : (pif b t v a).tmps.size = a.tmps.size := by
  cases b
  · rfl
  · exact put_size a (some t) v
theorem pif_same {t : Nat} {v : Value} {a : Act} (h : t < a.tmps.size) : (pif true t v a).eval (.tmp t) = v := by
  show (a.put (some t) v).eval (.tmp t) = v
  simp [Act.put, Act.eval, h]

/-- An operation that yields a value. -/
theorem wpOp_ok {P : Program} {ops : Array Oper} {Q : Exit → Act → World → Prop} {i : Nat} {o : Oper} {K : Act → World → Prop} {a : Act} {w w' : World} {v : Value} (ho : ops[i]? = some o) (hg : o.guard = none)
    (hr : (execOp a.eval o).run P w = .ok (.value v) w') (h : K (a.put o.dst v) w') : wpOp P ops Q i K a w := by
  unfold wpOp
  rw [ho]
  have hw : Region.wanted o (yielded ops a.tmps) = true := by simp [Region.wanted, hg]
  show (if Region.wanted o (yielded ops a.tmps) = true then _ else _)
  rw [if_pos hw]
  refine .inl ?_
  unfold Oper.wp
  rw [hr]
  exact h
theorem wpOp_step {P : Program} {ops : Array Oper} {Q : Exit → Act → World → Prop} {i : Nat} {o : Oper} {K : Act → World → Prop} {a : Act} {w : World} (ho : ops[i]? = some o) (hg : o.guard = none)
    (h : if Region.wanted o (yielded ops a.tmps) = true then Oper.wp P o a w K Q else False) : wpOp P ops Q i K a w := by
  unfold wpOp
  rw [ho]
  have hw : Region.wanted o (yielded ops a.tmps) = true := by simp [Region.wanted, hg]
  rw [if_pos hw] at h
  show (if Region.wanted o (yielded ops a.tmps) = true then _ else _)
  rw [if_pos hw]
  exact .inl h

/-- What stands in memory in the midst of such a statement. -/
structure Mid3 (EI EU EJ : TypeId) (w0 : World) (bx : Nat) (q r k : Int) (vB : Value) (cO : Value) (lO : List Int) (cR : Value) (lR : List Int) (cD : Value) (lD : List Int) (g1 g2 g3 : Option Nat) (w : World) : Prop where
  b : Below w0.heap.size w0 w
  o : Own EI w w0.heap.size cO lO
  u : OwnU EU w w0.heap.size cR lR
  d : Own EJ w w0.heap.size cD lD
  c : w.cell? ⟨bx, 0, none⟩ = some vB
  f : w.frozen? ⟨bx, 0, none⟩ = false
  od : Apart cO cD
  or : Apart cO cR
  dr : Apart cD cR
  no : cO.ownBlock = some bx → False
  nr : cR.ownBlock = some bx → False
  nd : cD.ownBlock = some bx → False
  p1 : ∀ g, g1 = some g → w.cell? ⟨g, 0, none⟩ = some (.int .i64 q) ∧ (cO.ownBlock = some g → False) ∧ (cR.ownBlock = some g → False) ∧ (cD.ownBlock = some g → False)
  p2 : ∀ g, g2 = some g → w.cell? ⟨g, 0, none⟩ = some (.int .u64 r) ∧ (cO.ownBlock = some g → False) ∧ (cR.ownBlock = some g → False) ∧ (cD.ownBlock = some g → False)
  p3 : ∀ g, g3 = some g → w.cell? ⟨g, 0, none⟩ = some (.int .i64 k) ∧ (cO.ownBlock = some g → False) ∧ (cR.ownBlock = some g → False) ∧ (cD.ownBlock = some g → False)
section
variable {EI EU EJ : TypeId} {w0 : World} {bx : Nat} {q r k : Int} {vB cO cR cD : Value} {lO lR lD : List Int} {g1 g2 g3 : Option Nat} {w w' : World}
theorem Mid3.up (h : Mid3 EI EU EJ w0 bx q r k vB cO lO cR lR cD lD g1 g2 g3 w) (c : Obj) : Mid3 EI EU EJ w0 bx q r k vB cO lO cR lR cD lD g1 g2 g3 (w.alloc c) :=
  ⟨upB h.b c, h.o.up c, h.u.up c, h.d.up c, upC h.c c, upF h.c h.f c, h.od, h.or, h.dr, h.no, h.nr, h.nd, fun g e => ⟨upC (h.p1 g e).1 c, (h.p1 g e).2⟩, fun g e => ⟨upC (h.p2 g e).1 c, (h.p2 g e).2⟩, fun g e => ⟨upC (h.p3 g e).1 c, (h.p3 g e).2⟩⟩
theorem new_cell (w : World) (v : Value) (E : TypeId) : (w.alloc (.cells #[v] E)).cell? ⟨w.heap.size, 0, none⟩ = some v := by simp [go_sem]
theorem Mid3.mk1 (h : Mid3 EI EU EJ w0 bx q r k vB cO lO cR lR cD lD g1 g2 g3 w) (E : TypeId) : Mid3 EI EU EJ w0 bx q r k vB cO lO cR lR cD lD (some w.heap.size) g2 g3 (w.alloc (.cells #[.int .i64 q] E)) :=
  { h.up _ with p1 := fun g e => by cases e; exact ⟨new_cell _ _ _, fun e => Nat.lt_irrefl _ (h.o.lt _ e).2, fun e => Nat.lt_irrefl _ (h.u.lt _ e).2, fun e => Nat.lt_irrefl _ (h.d.lt _ e).2⟩ }
theorem Mid3.mk2 (h : Mid3 EI EU EJ w0 bx q r k vB cO lO cR lR cD lD g1 g2 g3 w) (E : TypeId) : Mid3 EI EU EJ w0 bx q r k vB cO lO cR lR cD lD g1 (some w.heap.size) g3 (w.alloc (.cells #[.int .u64 r] E)) :=
  { h.up _ with p2 := fun g e => by cases e; exact ⟨new_cell _ _ _, fun e => Nat.lt_irrefl _ (h.o.lt _ e).2, fun e => Nat.lt_irrefl _ (h.u.lt _ e).2, fun e => Nat.lt_irrefl _ (h.d.lt _ e).2⟩ }
theorem Mid3.mk3 (h : Mid3 EI EU EJ w0 bx q r k vB cO lO cR lR cD lD g1 g2 g3 w) (E : TypeId) : Mid3 EI EU EJ w0 bx q r k vB cO lO cR lR cD lD g1 g2 (some w.heap.size) (w.alloc (.cells #[.int .i64 k] E)) :=
  { h.up _ with p3 := fun g e => by cases e; exact ⟨new_cell _ _ _, fun e => Nat.lt_irrefl _ (h.o.lt _ e).2, fun e => Nat.lt_irrefl _ (h.u.lt _ e).2, fun e => Nat.lt_irrefl _ (h.d.lt _ e).2⟩ }
theorem Mid3.re (h : Mid3 EI EU EJ w0 bx q r k vB cO lO cR lR cD lD none none none w) (q' r' k' : Int) : Mid3 EI EU EJ w0 bx q' r' k' vB cO lO cR lR cD lD none none none w :=
  ⟨h.b, h.o, h.u, h.d, h.c, h.f, h.od, h.or, h.dr, h.no, h.nr, h.nd, fun g e => by (cases e), fun g e => by (cases e), fun g e => by (cases e)⟩
theorem Mid3.next (h : Mid3 EI EU EJ w0 bx q r k vB cO lO cR lR cD lD none none none w) (hb : Below w.heap.size w w') : Mid3 EI EU EJ w0 bx q r k vB cO lO cR lR cD lD none none none w' :=
  ⟨bnext h.b hb, h.o.below hb, h.u.below hb, h.d.below hb, Below.cellOf hb rfl h.c, (hb.frozen (World.block_lt_of_cell? w _ h.c)).trans h.f, h.od, h.or, h.dr, h.no, h.nr, h.nd, fun g e => by (cases e), fun g e => by (cases e), fun g e => by (cases e)⟩
theorem lt_cell {w : World} {g : Nat} {v : Value} (h : w.cell? ⟨g, 0, none⟩ = some v) : g < w.heap.size := World.block_lt_of_cell? w _ h
theorem Mid3.ap1 (h : Mid3 EI EU EJ w0 bx q r k vB cO lO cR lR cD lD g1 g2 g3 w) {v : Value} {l : List Int} (hown : Own EI w' w0.heap.size v l) (hb : Below w0.heap.size w w') (hk : Kept3 w cO w' v) : Mid3 EI EU EJ w0 bx q r k vB v l cR lR cD lD none g2 g3 w' := by
  have xr := hk.ownU h.u h.or
  have xd := hk.own h.d h.od
  exact ⟨h.b.trans hb, hown, xr.1, xd.1, hk.cell h.c h.no, hk.frozen (lt_cell h.c) h.f h.no, xd.2, xr.2, h.dr, hk.nown h.c h.no, h.nr, h.nd, fun g e => by (cases e), fun g e => ⟨hk.cell (h.p2 g e).1 (h.p2 g e).2.1, hk.nown (h.p2 g e).1 (h.p2 g e).2.1, (h.p2 g e).2.2⟩, fun g e => ⟨hk.cell (h.p3 g e).1 (h.p3 g e).2.1, hk.nown (h.p3 g e).1 (h.p3 g e).2.1, (h.p3 g e).2.2⟩⟩
theorem Mid3.ap2 (h : Mid3 EI EU EJ w0 bx q r k vB cO lO cR lR cD lD g1 g2 g3 w) {v : Value} {l : List Int} (hown : OwnU EU w' w0.heap.size v l) (hb : Below w0.heap.size w w') (hk : Kept3 w cR w' v) : Mid3 EI EU EJ w0 bx q r k vB cO lO v l cD lD g1 none g3 w' := by
  have xo := hk.own h.o h.or.symm
  have xd := hk.own h.d h.dr.symm
  exact ⟨h.b.trans hb, xo.1, hown, xd.1, hk.cell h.c h.nr, hk.frozen (lt_cell h.c) h.f h.nr, h.od, xo.2.symm, xd.2.symm, h.no, hk.nown h.c h.nr, h.nd, fun g e => ⟨hk.cell (h.p1 g e).1 (h.p1 g e).2.2.1, (h.p1 g e).2.1, hk.nown (h.p1 g e).1 (h.p1 g e).2.2.1, (h.p1 g e).2.2.2⟩, fun g e => by (cases e), fun g e => ⟨hk.cell (h.p3 g e).1 (h.p3 g e).2.2.1, (h.p3 g e).2.1, hk.nown (h.p3 g e).1 (h.p3 g e).2.2.1, (h.p3 g e).2.2.2⟩⟩
theorem Mid3.ap3 (h : Mid3 EI EU EJ w0 bx q r k vB cO lO cR lR cD lD g1 g2 g3 w) {v : Value} {l : List Int} (hown : Own EJ w' w0.heap.size v l) (hb : Below w0.heap.size w w') (hk : Kept3 w cD w' v) : Mid3 EI EU EJ w0 bx q r k vB cO lO cR lR v l g1 g2 none w' := by
  have xo := hk.own h.o h.od.symm
  have xr := hk.ownU h.u h.dr
  exact ⟨h.b.trans hb, xo.1, xr.1, hown, hk.cell h.c h.nd, hk.frozen (lt_cell h.c) h.f h.nd, xo.2.symm, h.or, xr.2, h.no, h.nr, hk.nown h.c h.nd, fun g e => ⟨hk.cell (h.p1 g e).1 (h.p1 g e).2.2.2, (h.p1 g e).2.1, (h.p1 g e).2.2.1, hk.nown (h.p1 g e).1 (h.p1 g e).2.2.2⟩, fun g e => ⟨hk.cell (h.p2 g e).1 (h.p2 g e).2.2.2, (h.p2 g e).2.1, (h.p2 g e).2.2.1, hk.nown (h.p2 g e).1 (h.p2 g e).2.2.2⟩, fun g e => by (cases e)⟩
end

/-- Which operations have come up: the plain ones all, the last three none. -/
def Lst (b1 p1 l b2 p2 b3 p3 : Bool) : Array Bool := #[true, true, true, b1, p1, l, true, b2, p2, true, true, b3, p3, false, false, false]
def rd0 (b1 b2 b3 l : Bool) : List Nat := (bif b1 then [4] else [3]) ++ (bif l then [] else [5]) ++ (bif b2 then [] else [7]) ++ (bif b3 then [] else [11])
def rd1 (b2 b3 l : Bool) : List Nat := (bif l then [] else [5]) ++ (bif b2 then (bif l then [8] else []) else [7]) ++ (bif b3 then [] else [11])
def rd2 (b3 : Bool) : List Nat := bif b3 then [12] else [11]
def nf (b : Bool) : Nat := bif b then 0 else 1
end Go.Proofs.Ytpigjhagdpeofaa

namespace Go.Proofs.Ytpigjhagdpeofaa
open Go.RowKit
set_option linter.unusedVariables false

def sl (n : Nat) : Value := .slice (some ⟨n, 0, none⟩) 1 1
def og (b : Bool) (n : Nat) : Option Nat := bif b then some n else none
/-- The temporaries that such a statement sets behind its plain operations. -/
def chn (a0 : Act) (vB : Value) (b1 : Bool) (u1 : Value) (p1 : Bool) (v1 : Value) (l b2 : Bool) (u2 : Value) (p2 : Bool) (v2 : Value) (b3 : Bool) (u3 : Value) (p3 : Bool) (v3 : Value) : Act :=
  pif p3 59 v3 (pif b3 58 u3 (pif p2 55 v2 (pif b2 54 u2 (pif l 52 vB (pif p1 51 v1 (pif b1 50 u1 a0))))))
/-- Not one of those. -/
def Plain (x : Operand) : Prop := x ≠ .tmp 50 ∧ x ≠ .tmp 51 ∧ x ≠ .tmp 52 ∧ x ≠ .tmp 54 ∧ x ≠ .tmp 55 ∧ x ≠ .tmp 58 ∧ x ≠ .tmp 59
def Agree (a0 a : Act) : Prop := ∀ x, Plain x → a.eval x = a0.eval x
section
variable {a0 : Act} {vB u1 v1 u2 v2 u3 v3 x : Value} {b1 p1 l b2 p2 b3 p3 : Bool}
theorem chn_agree : Agree a0 (chn a0 vB b1 u1 p1 v1 l b2 u2 p2 v2 b3 u3 p3 v3) := fun x h => by
  obtain ⟨h1, h2, h3, h4, h5, h6, h7⟩ := h
  unfold chn
  rw [pif_eval h7, pif_eval h6, pif_eval h5, pif_eval h4, pif_eval h3, pif_eval h2, pif_eval h1]
theorem chn_50 (h : 60 ≤ a0.tmps.size) : (chn a0 vB true u1 p1 v1 l b2 u2 p2 v2 b3 u3 p3 v3).eval (.tmp 50) = u1 := by
  unfold chn
  rw [pif_eval (by simp), pif_eval (by simp), pif_eval (by simp), pif_eval (by simp), pif_eval (by simp), pif_eval (by simp), pif_same (by omega)]
theorem chn_52 (h : 60 ≤ a0.tmps.size) : (chn a0 vB b1 u1 p1 v1 true b2 u2 p2 v2 b3 u3 p3 v3).eval (.tmp 52) = vB := by
  unfold chn
  rw [pif_eval (by simp), pif_eval (by simp), pif_eval (by simp), pif_eval (by simp), pif_same (by rw [pif_size, pif_size]; omega)]
theorem chn_54 (h : 60 ≤ a0.tmps.size) : (chn a0 vB b1 u1 p1 v1 l true u2 p2 v2 b3 u3 p3 v3).eval (.tmp 54) = u2 := by
  unfold chn
  rw [pif_eval (by simp), pif_eval (by simp), pif_eval (by simp), pif_same (by rw [pif_size, pif_size, pif_size]; omega)]
theorem chn_58 (h : 60 ≤ a0.tmps.size) : (chn a0 vB b1 u1 p1 v1 l b2 u2 p2 v2 true u3 p3 v3).eval (.tmp 58) = u3 := by
  unfold chn
  rw [pif_eval (by simp), pif_same (by rw [pif_size, pif_size, pif_size, pif_size, pif_size]; omega)]
theorem chn_p50 : (chn a0 vB false u1 p1 v1 l b2 u2 p2 v2 b3 u3 p3 v3).put (some 50) x = chn a0 vB true x p1 v1 l b2 u2 p2 v2 b3 u3 p3 v3 := by
  unfold chn
  rw [pif_put (by decide), pif_put (by decide), pif_put (by decide), pif_put (by decide), pif_put (by decide), pif_put (by decide)]
  rfl
theorem chn_p51 : (chn a0 vB b1 u1 false v1 l b2 u2 p2 v2 b3 u3 p3 v3).put (some 51) x = chn a0 vB b1 u1 true x l b2 u2 p2 v2 b3 u3 p3 v3 := by
  unfold chn
  rw [pif_put (by decide), pif_put (by decide), pif_put (by decide), pif_put (by decide), pif_put (by decide)]
  rfl
theorem chn_p52 : (chn a0 vB b1 u1 p1 v1 false b2 u2 p2 v2 b3 u3 p3 v3).put (some 52) vB = chn a0 vB b1 u1 p1 v1 true b2 u2 p2 v2 b3 u3 p3 v3 := by
  unfold chn
  rw [pif_put (by decide), pif_put (by decide), pif_put (by decide), pif_put (by decide)]
  rfl
theorem chn_p54 : (chn a0 vB b1 u1 p1 v1 l false u2 p2 v2 b3 u3 p3 v3).put (some 54) x = chn a0 vB b1 u1 p1 v1 l true x p2 v2 b3 u3 p3 v3 := by
  unfold chn
  rw [pif_put (by decide), pif_put (by decide), pif_put (by decide)]
  rfl
theorem chn_p55 : (chn a0 vB b1 u1 p1 v1 l b2 u2 false v2 b3 u3 p3 v3).put (some 55) x = chn a0 vB b1 u1 p1 v1 l b2 u2 true x b3 u3 p3 v3 := by
  unfold chn
  rw [pif_put (by decide), pif_put (by decide)]
  rfl
theorem chn_p58 : (chn a0 vB b1 u1 p1 v1 l b2 u2 p2 v2 false u3 p3 v3).put (some 58) x = chn a0 vB b1 u1 p1 v1 l b2 u2 p2 v2 true x p3 v3 := by
  unfold chn
  rw [pif_put (by decide)]
  rfl
theorem chn_p59 : (chn a0 vB b1 u1 p1 v1 l b2 u2 p2 v2 b3 u3 false v3).put (some 59) x = chn a0 vB b1 u1 p1 v1 l b2 u2 p2 v2 b3 u3 true x := rfl
theorem lst_3 : (Lst b1 p1 l b2 p2 b3 p3).setIfInBounds 3 true = Lst true p1 l b2 p2 b3 p3 := rfl
theorem lst_4 : (Lst b1 p1 l b2 p2 b3 p3).setIfInBounds 4 true = Lst b1 true l b2 p2 b3 p3 := rfl
theorem lst_5 : (Lst b1 p1 l b2 p2 b3 p3).setIfInBounds 5 true = Lst b1 p1 true b2 p2 b3 p3 := rfl
theorem lst_7 : (Lst b1 p1 l b2 p2 b3 p3).setIfInBounds 7 true = Lst b1 p1 l true p2 b3 p3 := rfl
theorem lst_8 : (Lst b1 p1 l b2 p2 b3 p3).setIfInBounds 8 true = Lst b1 p1 l b2 true b3 p3 := rfl
theorem lst_11 : (Lst b1 p1 l b2 p2 b3 p3).setIfInBounds 11 true = Lst b1 p1 l b2 p2 true p3 := rfl
theorem lst_12 : (Lst b1 p1 l b2 p2 b3 p3).setIfInBounds 12 true = Lst b1 p1 l b2 p2 b3 true := rfl
end

theorem run_bs1 {P : Program} {o : Oper} {a : Act} {w : World} {t e : TypeId} {x : Operand} {k : IntKind} {n : Int} (ho : o.op = .buildSlice t 1 #[(0, x)]) (hu : P.underlying t = some (.slice e))
    (hi : (P.info? e).map (fun i => (i.zero, i.size, i.bytes)) = some (some (.int k 0), 1, 8)) (hx : a.eval x = .int k n) : (execOp a.eval o).run P w = .ok (.value (sl w.heap.size)) (w.alloc (.cells #[.int k n] e)) := by
  obtain ⟨i0, hi0, hz0, hz1, hz2⟩ := info_parts hi
  have hf : Instr.fill (fun i => some (i * i0.size, i0.size)) ((Array.range (1 * i0.size)).map ((Value.int k 0).cells[· % (Value.int k 0).cells.size]!)) (#[(0, x)].map fun (i, x) => (i, a.eval x)).toList = some #[.int k n] := by
    rw [hz1]
    simp only [List.map_toArray, List.map_cons, List.map_nil, hx]
    have c1 : (Value.int k n).cells = #[Value.int k n] := by first | rfl | (unfold Value.cells; rfl) | simp [Value.cells]
    have c2 : (Value.int k 0).cells = #[Value.int k 0] := by first | rfl | (unfold Value.cells; rfl) | simp [Value.cells]
    rw [c2]
    simp [Instr.fill, c1, Array.range]
    first
      | rfl
      | (apply Array.ext
         · simp
         · intro i h1 h2
           simp at h2
           subst h2
           simp)
  have h := run_buildSlice (P := P) w t e 1 _ _ i0 (.int k 0) hu hi0 hz0 (by rw [hz1]; decide) (by rw [hz1]; decide) hf
  unfold execOp
  simp only [ho, Sem.run_bind, h, Result.andThen_ok]
  rfl
theorem run_ld1 {P : Program} {o : Oper} {a : Act} {w : World} {t : TypeId} {x : Operand} {ad : Addr} {v : Value} (ho : o.op = .load t x) (hx : a.eval x = .pointer (some ad)) (hr : (Instr.loadAt t (.pointer (some ad))).run P w = .ok v w) : (execOp a.eval o).run P w = .ok (.value v) w := by
  unfold execOp
  simp only [ho, hx, Sem.run_bind, hr, Result.andThen_ok]
  rfl
theorem region_start {P : Program} {ops : Array Oper} {Q : Exit → Act → World → Prop} {id : Nat} {a : Act} {w : World} (hm : P.follows .mixedOrders = true) (hs : ops.size = 16)
    (h : wpAny P .any ops Q 16 #[false, false, false, false, false, false, false, false, false, false, false, false, false, false, false, false] a w.drew) : (Code.region id ops true).wp P Q a w :=
  wp_region_any hm (by rw [hs]; exact h)
theorem take1 {P : Program} {ops : Array Oper} {Q : Exit → Act → World → Prop} {i : Nat} {oi : Oper} {v : Value} {fuel : Nat} {listed : Array Bool} {a : Act} {w : World} {d : Option Tmp} (hi : ops[i]? = some oi)
    (hs : Region.noSelect ops = true) (hf : Region.free .any ops listed i = true) (hr : (Region.ready .any ops listed).contains i = true) (hd : oi.dst = d)
    (hQ : ∀ c a w, Q (.panic c) (a.put d v) w → Q (.panic c) a w) (hw : Region.wanted oi (yielded ops a.tmps) = true) (hy : ∀ w, (execOp a.eval oi).run P w = .ok (.value v) w)
    (h : wpAny P .any ops Q fuel (listed.setIfInBounds i true) (a.put d v) w) : wpAny P .any ops Q (fuel + 1) listed a w := by
  subst hd
  exact wpAny_take hi hs hf hr hQ (.inl ⟨hw, hy⟩) h
theorem wpOp_val {P : Program} {ops : Array Oper} {Q : Exit → Act → World → Prop} {i : Nat} {o : Oper} {K : Act → World → Prop} {a : Act} {w w' : World} {v : Value} {d : Option Tmp} (ho : ops[i]? = some o) (hg : o.guard = none) (hd : o.dst = d)
    (hr : (execOp a.eval o).run P w = .ok (.value v) w') (h : K (a.put d v) w') : wpOp P ops Q i K a w := wpOp_ok ho hg hr (hd ▸ h)
theorem wpOp_skip {P : Program} {ops : Array Oper} {Q : Exit → Act → World → Prop} {i : Nat} {o : Oper} {K : Act → World → Prop} {a : Act} {w w' : World} (ho : ops[i]? = some o) (hg : o.guard = none) (hd : o.dst = none)
    (hr : (execOp a.eval o).run P w = .ok .skip w') (h : K a w') : wpOp P ops Q i K a w := by
  refine wpOp_step ho hg ?_
  have hw : Region.wanted o (yielded ops a.tmps) = true := by simp [Region.wanted, hg]
  rw [if_pos hw]
  unfold Oper.wp
  rw [hr]
  show K (a.put o.dst undef) w'
  rw [hd]
  exact h
theorem Mid3.store {EI EU EJ : TypeId} {w0 : World} {bx : Nat} {q r k : Int} {vB cO cR cD : Value} {lO lR lD : List Int} {w : World} (h : Mid3 EI EU EJ w0 bx q r k vB cO lO cR lR cD lD none none none w) (hbx : w0.heap.size ≤ bx) (v : Value) :
    Mid3 EI EU EJ w0 bx q r k v cO lO cR lR cD lD none none none (w.setCell ⟨bx, 0, none⟩ v) :=
  ⟨h.b.setCell hbx v, h.o.block (fun j hj => Below.heap_setCell _ _ _ _ (by intro e; exact h.no (by rw [hj, e]))), h.u.block (fun j hj => Below.heap_setCell _ _ _ _ (by intro e; exact h.nr (by rw [hj, e]))), h.d.block (fun j hj => Below.heap_setCell _ _ _ _ (by intro e; exact h.nd (by rw [hj, e]))),
    World.cell?_setCell_same _ _ _ h.c, by rw [World.frozen?_setCell]; exact h.f, h.od, h.or, h.dr, h.no, h.nr, h.nd, fun g e => by (cases e), fun g e => by (cases e), fun g e => by (cases e)⟩
/-- An operation of the statement. -/
def OpAt (ops : Array Oper) (i t : Nat) (o : Oper) : Prop := ops[i]? = some o ∧ o.guard = none ∧ o.dst = some t
/-- The statement's operations. -/
structure Ops3 (P : Program) (ops : Array Oper) (EI EU EJ TI TU TJ : TypeId) (a0 : Act) (bx : Nat) (q r k : Int) (vO vB vD : Value) (o3 o4 o5 o7 o8 o11 o12 : Oper) (s4 s12 : Operand) : Prop where
  hsz : 60 ≤ a0.tmps.size
  h3 : OpAt ops 3 50 o3
  h4 : OpAt ops 4 51 o4
  h5 : OpAt ops 5 52 o5
  h7 : OpAt ops 7 54 o7
  h8 : OpAt ops 8 55 o8
  h11 : OpAt ops 11 58 o11
  h12 : OpAt ops 12 59 o12
  e3 : ∀ a w, Agree a0 a → (execOp a.eval o3).run P w = .ok (.value (sl w.heap.size)) (w.alloc (.cells #[.int .i64 q] EI))
  e7 : ∀ a w, Agree a0 a → (execOp a.eval o7).run P w = .ok (.value (sl w.heap.size)) (w.alloc (.cells #[.int .u64 r] EU))
  e11 : ∀ a w, Agree a0 a → (execOp a.eval o11).run P w = .ok (.value (sl w.heap.size)) (w.alloc (.cells #[.int .i64 k] EJ))
  e5 : ∀ a w, Agree a0 a → w.cell? ⟨bx, 0, none⟩ = some vB → (execOp a.eval o5).run P w = .ok (.value vB) w
  c4 : o4.op = .call { callee := .builtin .append, args := #[s4, .tmp 50], argTypes := #[TI, TI] }
  c8 : o8.op = .call { callee := .builtin .append, args := #[.tmp 52, .tmp 54], argTypes := #[TU, TU] }
  c12 : o12.op = .call { callee := .builtin .append, args := #[s12, .tmp 58], argTypes := #[TJ, TJ] }
  s4 : Plain s4 ∧ a0.eval s4 = vO
  s12 : Plain s12 ∧ a0.eval s12 = vD
  iI : (P.info? EI).map (fun i => (i.zero, i.size, i.bytes)) = some (some (.int .i64 0), 1, 8)
  iU : (P.info? EU).map (fun i => (i.zero, i.size, i.bytes)) = some (some (.int .u64 0), 1, 8)
  iJ : (P.info? EJ).map (fun i => (i.zero, i.size, i.bytes)) = some (some (.int .i64 0), 1, 8)
  tI : P.underlying TI = some (.slice EI)
  tU : P.underlying TU = some (.slice EU)
  tJ : P.underlying TJ = some (.slice EJ)
  r0 : ∀ b1 b2 b3 l, Region.ready .any ops (Lst b1 false l b2 false b3 false) = rd0 b1 b2 b3 l
  r1 : ∀ b2 b3 l, Region.ready .any ops (Lst true true l b2 false b3 false) = rd1 b2 b3 l
  r2 : ∀ b3, Region.ready .any ops (Lst true true true true true b3 false) = rd2 b3

section
variable {P : Program} {ops : Array Oper} {Q : Exit → Act → World → Prop} {EI EU EJ TI TU TJ : TypeId} {a0 : Act} {bx : Nat} {q r k : Int} {vO vB vD : Value} {o3 o4 o5 o7 o8 o11 o12 : Oper} {s4 s12 : Operand} {w0 : World} {lO lR lD : List Int}
/-- What is left behind the three appends. -/
def Fin3 (P : Program) (ops : Array Oper) (Q : Exit → Act → World → Prop) (EI EU EJ : TypeId) (w0 : World) (a0 : Act) (bx : Nat) (q r k : Int) (vB : Value) (lO lR lD : List Int) : Prop :=
  ∀ n1 v1 n2 v2 n3 v3 w, Mid3 EI EU EJ w0 bx q r k vB v1 (lO ++ [q]) v2 (lR ++ [r]) v3 (lD ++ [k]) none none none w → wpAny P .any ops Q 3 (Lst true true true true true true true) (chn a0 vB true (sl n1) true v1 true true (sl n2) true v2 true (sl n3) true v3) w

theorem app3_s2 (O : Ops3 P ops EI EU EJ TI TU TJ a0 bx q r k vO vB vD o3 o4 o5 o7 o8 o11 o12 s4 s12) (hD : lD.length < 100000000) (hf : Fin3 P ops Q EI EU EJ w0 a0 bx q r k vB lO lR lD) :
    ∀ b3 n1 v1 n2 v2 n3 w, Mid3 EI EU EJ w0 bx q r k vB v1 (lO ++ [q]) v2 (lR ++ [r]) vD lD none none (og b3 n3) w → wpAny P .any ops Q (nf b3 + 4) (Lst true true true true true b3 false) (chn a0 vB true (sl n1) true v1 true true (sl n2) true v2 b3 (sl n3) false undef) w := by
  have key : ∀ n1 v1 n2 v2 n3 w, Mid3 EI EU EJ w0 bx q r k vB v1 (lO ++ [q]) v2 (lR ++ [r]) vD lD none none (some n3) w → wpAny P .any ops Q 4 (Lst true true true true true true false) (chn a0 vB true (sl n1) true v1 true true (sl n2) true v2 true (sl n3) false undef) w := by
    intro n1 v1 n2 v2 n3 w h
    refine ⟨fun e => by rw [O.r2] at e; exact absurd e (by decide), fun i hi => ?_⟩
    rw [O.r2] at hi
    obtain rfl : i = 12 := by simpa [rd2] using hi
    refine wpOp_step O.h12.1 O.h12.2.1 (step_appI w O.h12.2.1 s12 (.tmp 58) TJ O.c12 w0.heap.size EJ O.iJ O.tJ vD lD ((chn_agree s12 O.s12.1).trans O.s12.2) h.d n3 k (chn_58 O.hsz) (h.p3 n3 rfl).1 hD h.b.size ?_)
    intro v' w' hown hb hk
    rw [O.h12.2.2, chn_p59, lst_12]
    exact hf _ _ _ _ _ _ _ (h.ap3 hown hb hk)
  intro b3 n1 v1 n2 v2 n3 w h
  cases b3
  · refine ⟨fun e => by rw [O.r2] at e; exact absurd e (by decide), fun i hi => ?_⟩
    rw [O.r2] at hi
    obtain rfl : i = 11 := by simpa [rd2] using hi
    refine wpOp_ok O.h11.1 O.h11.2.1 (O.e11 _ w chn_agree) ?_
    rw [O.h11.2.2, chn_p58, lst_11]
    exact key _ _ _ _ _ _ (h.mk3 EJ)
  · exact key _ _ _ _ _ _ h

theorem app3_s1 (O : Ops3 P ops EI EU EJ TI TU TJ a0 bx q r k vO vB vD o3 o4 o5 o7 o8 o11 o12 s4 s12) (hR : lR.length < 100000000) (hD : lD.length < 100000000) (hf : Fin3 P ops Q EI EU EJ w0 a0 bx q r k vB lO lR lD) :
    ∀ n b2 b3 l n1 v1 n2 n3 w, nf b2 + nf b3 + nf l = n → Mid3 EI EU EJ w0 bx q r k vB v1 (lO ++ [q]) vB lR vD lD none (og b2 n2) (og b3 n3) w → wpAny P .any ops Q (n + 5) (Lst true true l b2 false b3 false) (chn a0 vB true (sl n1) true v1 l b2 (sl n2) false undef b3 (sl n3) false undef) w := by
  intro n
  induction n with
  | zero =>
    intro b2 b3 l n1 v1 n2 n3 w hn h
    obtain ⟨rfl, rfl, rfl⟩ : b2 = true ∧ b3 = true ∧ l = true := by cases b2 <;> cases b3 <;> cases l <;> simp_all [nf]
    refine ⟨fun e => by rw [O.r1] at e; exact absurd e (by decide), fun i hi => ?_⟩
    rw [O.r1] at hi
    obtain rfl : i = 8 := by simpa [rd1] using hi
    refine wpOp_step O.h8.1 O.h8.2.1 (step_appU w O.h8.2.1 (.tmp 52) (.tmp 54) TU O.c8 w0.heap.size EU O.iU O.tU vB lR (chn_52 O.hsz) h.u n2 r (chn_54 O.hsz) (h.p2 n2 rfl).1 hR h.b.size ?_)
    intro v' w' hown hb hk
    rw [O.h8.2.2, chn_p55, lst_8]
    exact app3_s2 O hD hf true _ _ _ _ _ _ (h.ap2 hown hb hk)
  | succ n ih =>
    intro b2 b3 l n1 v1 n2 n3 w hn h
    refine ⟨fun e => by rw [O.r1] at e; cases b2 <;> cases b3 <;> cases l <;> simp_all [rd1, nf], fun i hi => ?_⟩
    rw [O.r1] at hi
    have hc : (i = 5 ∧ l = false) ∨ (i = 7 ∧ b2 = false) ∨ (i = 8 ∧ b2 = true ∧ l = true) ∨ (i = 11 ∧ b3 = false) := by
      cases b2 <;> cases b3 <;> cases l <;> simp_all [rd1]
    rcases hc with ⟨rfl, rfl⟩ | ⟨rfl, rfl⟩ | ⟨rfl, rfl, rfl⟩ | ⟨rfl, rfl⟩
    · refine wpOp_ok O.h5.1 O.h5.2.1 (O.e5 _ w chn_agree h.c) ?_
      rw [O.h5.2.2, chn_p52, lst_5]
      exact ih _ _ _ _ _ _ _ _ (by simp [nf] at hn ⊢; omega) h
    · refine wpOp_ok O.h7.1 O.h7.2.1 (O.e7 _ w chn_agree) ?_
      rw [O.h7.2.2, chn_p54, lst_7]
      exact ih _ _ _ _ _ _ _ _ (by simp [nf] at hn ⊢; omega) (h.mk2 EU)
    · obtain rfl : b3 = false := by cases b3 <;> simp_all [nf]
      obtain rfl : n = 0 := by simp [nf] at hn; omega
      refine wpOp_step O.h8.1 O.h8.2.1 (step_appU w O.h8.2.1 (.tmp 52) (.tmp 54) TU O.c8 w0.heap.size EU O.iU O.tU vB lR (chn_52 O.hsz) h.u n2 r (chn_54 O.hsz) (h.p2 n2 rfl).1 hR h.b.size ?_)
      intro v' w' hown hb hk
      rw [O.h8.2.2, chn_p55, lst_8]
      exact app3_s2 O hD hf false _ _ _ _ n3 _ (h.ap2 hown hb hk)
    · refine wpOp_ok O.h11.1 O.h11.2.1 (O.e11 _ w chn_agree) ?_
      rw [O.h11.2.2, chn_p58, lst_11]
      exact ih _ _ _ _ _ _ _ _ (by simp [nf] at hn ⊢; omega) (h.mk3 EJ)

theorem app3_s0 (O : Ops3 P ops EI EU EJ TI TU TJ a0 bx q r k vO vB vD o3 o4 o5 o7 o8 o11 o12 s4 s12) (hO : lO.length < 100000000) (hR : lR.length < 100000000) (hD : lD.length < 100000000) (hf : Fin3 P ops Q EI EU EJ w0 a0 bx q r k vB lO lR lD) :
    ∀ n b1 b2 b3 l n1 n2 n3 w, nf b1 + nf b2 + nf b3 + nf l = n → Mid3 EI EU EJ w0 bx q r k vB vO lO vB lR vD lD (og b1 n1) (og b2 n2) (og b3 n3) w → wpAny P .any ops Q (n + 6) (Lst b1 false l b2 false b3 false) (chn a0 vB b1 (sl n1) false undef l b2 (sl n2) false undef b3 (sl n3) false undef) w := by
  have ap : ∀ n b2 b3 l n1 n2 n3 w, nf b2 + nf b3 + nf l = n → Mid3 EI EU EJ w0 bx q r k vB vO lO vB lR vD lD (some n1) (og b2 n2) (og b3 n3) w → wpOp P ops Q 4 (wpAny P .any ops Q (n + 5) ((Lst true false l b2 false b3 false).setIfInBounds 4 true)) (chn a0 vB true (sl n1) false undef l b2 (sl n2) false undef b3 (sl n3) false undef) w := by
    intro n b2 b3 l n1 n2 n3 w hn h
    refine wpOp_step O.h4.1 O.h4.2.1 (step_appI w O.h4.2.1 s4 (.tmp 50) TI O.c4 w0.heap.size EI O.iI O.tI vO lO ((chn_agree s4 O.s4.1).trans O.s4.2) h.o n1 q (chn_50 O.hsz) (h.p1 n1 rfl).1 hO h.b.size ?_)
    intro v' w' hown hb hk
    rw [O.h4.2.2, chn_p51, lst_4]
    exact app3_s1 O hR hD hf n b2 b3 l _ _ _ _ _ hn (h.ap1 hown hb hk)
  intro n
  induction n with
  | zero =>
    intro b1 b2 b3 l n1 n2 n3 w hn h
    obtain ⟨rfl, rfl, rfl, rfl⟩ : b1 = true ∧ b2 = true ∧ b3 = true ∧ l = true := by cases b1 <;> cases b2 <;> cases b3 <;> cases l <;> simp_all [nf]
    refine ⟨fun e => by rw [O.r0] at e; exact absurd e (by decide), fun i hi => ?_⟩
    rw [O.r0] at hi
    obtain rfl : i = 4 := by simpa [rd0] using hi
    exact ap 0 _ _ _ _ _ _ _ hn h
  | succ n ih =>
    intro b1 b2 b3 l n1 n2 n3 w hn h
    refine ⟨fun e => by rw [O.r0] at e; cases b1 <;> simp_all [rd0], fun i hi => ?_⟩
    rw [O.r0] at hi
    have hc : (i = 3 ∧ b1 = false) ∨ (i = 4 ∧ b1 = true) ∨ (i = 5 ∧ l = false) ∨ (i = 7 ∧ b2 = false) ∨ (i = 11 ∧ b3 = false) := by
      cases b1 <;> cases b2 <;> cases b3 <;> cases l <;> simp_all [rd0] <;> omega
    rcases hc with ⟨rfl, rfl⟩ | ⟨rfl, rfl⟩ | ⟨rfl, rfl⟩ | ⟨rfl, rfl⟩ | ⟨rfl, rfl⟩
    · refine wpOp_ok O.h3.1 O.h3.2.1 (O.e3 _ w chn_agree) ?_
      rw [O.h3.2.2, chn_p50, lst_3]
      exact ih _ _ _ _ _ _ _ _ (by simp [nf] at hn ⊢; omega) (h.mk1 EI)
    · exact ap (n + 1) _ _ _ _ _ _ _ (by simp [nf] at hn ⊢; omega) h
    · refine wpOp_ok O.h5.1 O.h5.2.1 (O.e5 _ w chn_agree h.c) ?_
      rw [O.h5.2.2, chn_p52, lst_5]
      exact ih _ _ _ _ _ _ _ _ (by simp [nf] at hn ⊢; omega) h
    · refine wpOp_ok O.h7.1 O.h7.2.1 (O.e7 _ w chn_agree) ?_
      rw [O.h7.2.2, chn_p54, lst_7]
      exact ih _ _ _ _ _ _ _ _ (by simp [nf] at hn ⊢; omega) (h.mk2 EU)
    · refine wpOp_ok O.h11.1 O.h11.2.1 (O.e11 _ w chn_agree) ?_
      rw [O.h11.2.2, chn_p58, lst_11]
      exact ih _ _ _ _ _ _ _ _ (by simp [nf] at hn ⊢; omega) (h.mk3 EJ)
/-- The whole: from the plain operations on. -/
theorem app3_run (O : Ops3 P ops EI EU EJ TI TU TJ a0 bx q r k vO vB vD o3 o4 o5 o7 o8 o11 o12 s4 s12) (hO : lO.length < 100000000) (hR : lR.length < 100000000) (hD : lD.length < 100000000) (hf : Fin3 P ops Q EI EU EJ w0 a0 bx q r k vB lO lR lD) {w : World}
    (h : Mid3 EI EU EJ w0 bx q r k vB vO lO vB lR vD lD none none none w) : wpAny P .any ops Q 10 (Lst false false false false false false false) a0 w :=
  app3_s0 O hO hR hD hf 4 false false false false 0 0 0 w rfl h
theorem app3_go (hsz : 60 ≤ a0.tmps.size) (a3 : ops[3]? = some o3) (b3 : o3.guard = none) (d3 : o3.dst = some 50) (a4 : ops[4]? = some o4) (b4 : o4.guard = none) (d4 : o4.dst = some 51) (a5 : ops[5]? = some o5) (b5 : o5.guard = none) (d5 : o5.dst = some 52) (a7 : ops[7]? = some o7) (b7 : o7.guard = none) (d7 : o7.dst = some 54) (a8 : ops[8]? = some o8) (b8 : o8.guard = none) (d8 : o8.dst = some 55) (a11 : ops[11]? = some o11) (b11 : o11.guard = none) (d11 : o11.dst = some 58) (a12 : ops[12]? = some o12) (b12 : o12.guard = none) (d12 : o12.dst = some 59)
    (e3 : ∀ a w, Agree a0 a → (execOp a.eval o3).run P w = .ok (.value (sl w.heap.size)) (w.alloc (.cells #[.int .i64 q] EI)))
    (e7 : ∀ a w, Agree a0 a → (execOp a.eval o7).run P w = .ok (.value (sl w.heap.size)) (w.alloc (.cells #[.int .u64 r] EU)))
    (e11 : ∀ a w, Agree a0 a → (execOp a.eval o11).run P w = .ok (.value (sl w.heap.size)) (w.alloc (.cells #[.int .i64 k] EJ)))
    (e5 : ∀ a w, Agree a0 a → w.cell? ⟨bx, 0, none⟩ = some vB → (execOp a.eval o5).run P w = .ok (.value vB) w)
    (c4 : o4.op = .call { callee := .builtin .append, args := #[s4, .tmp 50], argTypes := #[TI, TI] })
    (c8 : o8.op = .call { callee := .builtin .append, args := #[.tmp 52, .tmp 54], argTypes := #[TU, TU] })
    (c12 : o12.op = .call { callee := .builtin .append, args := #[s12, .tmp 58], argTypes := #[TJ, TJ] })
    (p4 : Plain s4) (q4 : a0.eval s4 = vO) (p12 : Plain s12) (q12 : a0.eval s12 = vD)
    (iI : (P.info? EI).map (fun i => (i.zero, i.size, i.bytes)) = some (some (.int .i64 0), 1, 8)) (iU : (P.info? EU).map (fun i => (i.zero, i.size, i.bytes)) = some (some (.int .u64 0), 1, 8)) (iJ : (P.info? EJ).map (fun i => (i.zero, i.size, i.bytes)) = some (some (.int .i64 0), 1, 8))
    (tI : P.underlying TI = some (.slice EI)) (tU : P.underlying TU = some (.slice EU)) (tJ : P.underlying TJ = some (.slice EJ))
    (r0 : ∀ b1 b2 b3 l, Region.ready .any ops (Lst b1 false l b2 false b3 false) = rd0 b1 b2 b3 l) (r1 : ∀ b2 b3 l, Region.ready .any ops (Lst true true l b2 false b3 false) = rd1 b2 b3 l) (r2 : ∀ b3, Region.ready .any ops (Lst true true true true true b3 false) = rd2 b3)
    (hO : lO.length < 100000000) (hR : lR.length < 100000000) (hD : lD.length < 100000000) {w : World}
    (h : Mid3 EI EU EJ w0 bx q r k vB vO lO vB lR vD lD none none none w) (hf : Fin3 P ops Q EI EU EJ w0 a0 bx q r k vB lO lR lD) : wpAny P .any ops Q 10 (Lst false false false false false false false) a0 w :=
  app3_run (TI := TI) (TU := TU) (TJ := TJ) ⟨hsz, ⟨a3, b3, d3⟩, ⟨a4, b4, d4⟩, ⟨a5, b5, d5⟩, ⟨a7, b7, d7⟩, ⟨a8, b8, d8⟩, ⟨a11, b11, d11⟩, ⟨a12, b12, d12⟩, e3, e7, e11, e5, c4, c8, c12, ⟨p4, q4⟩, ⟨p12, q12⟩, iI, iU, iJ, tI, tU, tJ, r0, r1, r2⟩ hO hR hD hf h
end
end Go.Proofs.Ytpigjhagdpeofaa

namespace Go.Proofs.Ytpigjhagdpeofaa
open Go.RowKit
set_option linter.unusedVariables false
theorem Sq.infoI : (Sq.prog.info? 2).map (fun i => (i.zero, i.size, i.bytes)) = some (some (.int .i64 0), 1, 8) := by kernel_rfl

theorem impl_within_any (n l h : Int) (w : World) : Calls Sq.prog 52 #[.int .i64 n, .int .i64 l, .int .i64 h] w fun e w' => e = .returned (.bool (win n l h)) ∧ w = w' := by
  go_enter Sq.func52, Sq.ntmps52
  go_wp2
  all_goals (go_ret; exact ⟨ret_bool (by simp_all [win]; try omega), rfl⟩)
theorem spec_l00In_any (n l h : Int) (w : World) : Calls Sq.prog 25 #[.int .i64 n, .int .i64 l, .int .i64 h] w fun e w' => e = .returned (.bool (win n l h)) ∧ w = w' := by
  go_enter Sq.func25, Sq.ntmps25
  go_wp2
  all_goals (go_ret; exact ⟨ret_bool (by simp_all [win]; try omega), rfl⟩)
theorem impl_isAmount_any (n : Int) (w : World) : Calls Sq.prog 61 #[.int .i64 n] w fun e w' => e = .returned (.bool (isAmount n)) ∧ w = w' := by
  go_enter Sq.func61, Sq.ntmps61
  go_wp2
  all_goals (go_ret; exact ⟨ret_bool (by simp_all [win, isAmount]; try omega), rfl⟩)
theorem spec_l02Cents_any (n : Int) (w : World) : Calls Sq.prog 39 #[.int .i64 n] w fun e w' => e = .returned (.bool (isAmount n)) ∧ w = w' := by
  go_enter Sq.func39, Sq.ntmps39
  go_wp2
  all_goals (go_ret; exact ⟨ret_bool (by simp_all [win, isAmount]; try omega), rfl⟩)
theorem spec_l02Rate_any (n : Int) (w : World) : Calls Sq.prog 72 #[.int .i64 n] w fun e w' => e = .returned (.bool (isRate n)) ∧ w = w' := by
  go_enter Sq.func72, Sq.ntmps72
  go_wp2
  all_goals (go_ret; exact ⟨ret_bool (by simp_all [win, isRate]; try omega), rfl⟩)
theorem impl_isRound_any (n : Int) (w : World) : Calls Sq.prog 62 #[.int .i64 n] w fun e w' => e = .returned (.bool (isRound n)) ∧ w = w' := by
  go_enter Sq.func62, Sq.ntmps62
  go_wp2
  all_goals (go_ret; exact ⟨ret_bool (by simp_all [win, isRound]; try omega), rfl⟩)
theorem spec_l02Way_any (n : Int) (w : World) : Calls Sq.prog 57 #[.int .i64 n] w fun e w' => e = .returned (.bool (isRound n)) ∧ w = w' := by
  go_enter Sq.func57, Sq.ntmps57
  go_wp2
  all_goals (go_ret; exact ⟨ret_bool (by simp_all [win, isRound]; try omega), rfl⟩)
theorem impl_isWorkers_any (n : Int) (w : World) : Calls Sq.prog 32 #[.int .i64 n] w fun e w' => e = .returned (.bool (isWorkers n)) ∧ w = w' := by
  go_enter Sq.func32, Sq.ntmps32
  go_wp2
  all_goals (go_ret; exact ⟨ret_bool (by simp_all [win, isWorkers]; try omega), rfl⟩)
theorem impl_isDay_any (n : Int) (w : World) : Calls Sq.prog 50 #[.int .i64 n] w fun e w' => e = .returned (.bool (isDay n)) ∧ w = w' := by
  go_enter Sq.func50, Sq.ntmps50
  go_wp2
  all_goals (go_ret; exact ⟨ret_bool (by simp_all [win, isDay]; try omega), rfl⟩)
theorem spec_l03Day_any (n : Int) (w : World) : Calls Sq.prog 26 #[.int .i64 n] w fun e w' => e = .returned (.bool (isDay n)) ∧ w = w' := by
  go_enter Sq.func26, Sq.ntmps26
  go_wp2
  all_goals (go_ret; exact ⟨ret_bool (by simp_all [win, isDay]; try omega), rfl⟩)
theorem impl_isAccount_any (n : Int) (w : World) : Calls Sq.prog 51 #[.int .i64 n] w fun e w' => e = .returned (.bool (isAccount n)) ∧ w = w' := by
  go_enter Sq.func51, Sq.ntmps51
  go_wp2
  all_goals (go_ret; exact ⟨ret_bool (by simp_all [win, isAccount]; try omega), rfl⟩)
theorem spec_l03Account_any (n : Int) (w : World) : Calls Sq.prog 49 #[.int .i64 n] w fun e w' => e = .returned (.bool (isAccount n)) ∧ w = w' := by
  go_enter Sq.func49, Sq.ntmps49
  go_wp2
  all_goals (go_ret; exact ⟨ret_bool (by simp_all [win, isAccount]; try omega), rfl⟩)
end Go.Proofs.Ytpigjhagdpeofaa

namespace Go.Proofs.Ytpigjhagdpeofaa
open Go.RowKit
set_option linter.unusedVariables false

/-- A row of integers that may be written. -/
def RowAt (w : World) (g n : Nat) (h : Nat → Int) : Prop := Ints w g 0 n h ∧ ∀ i, w.frozen? ⟨g, i, none⟩ = false
theorem RowAt.at {w : World} {g n : Nat} {h : Nat → Int} (r : RowAt w g n h) (i : Nat) (hi : i < n) : w.cell? ⟨g, i, none⟩ = some (.int .i64 (h i)) := r.1.at0 i hi
theorem RowAt.below {w w' : World} {g n : Nat} {h : Nat → Int} (r : RowAt w g n h) (hg : g < w.heap.size) (hb : Below w.heap.size w w') : RowAt w' g n h :=
  ⟨r.1.below hb, fun i => (hb.frozen (p := ⟨g, i, none⟩) hg).trans (r.2 i)⟩
theorem RowAt.drewN {w : World} {g n : Nat} {h : Nat → Int} (r : RowAt w g n h) (hg : g < w.heap.size) (q : Nat) : RowAt (w.drewN q) g n h := r.below hg (Below.drewN' (Below.refl _ _) q)
theorem RowAt.set {w : World} {g n : Nat} {h : Nat → Int} (r : RowAt w g n h) (j : Nat) (hj : j < n) (y : Int) : RowAt (w.setCell ⟨g, j, none⟩ (.int .i64 y)) g n (upd h j y) := by
  refine ⟨fun i hi => ?_, fun i => by rw [World.frozen?_setCell]; exact r.2 i⟩
  rw [Nat.zero_add]
  by_cases e : i = j
  · subst e
    rw [World.cell?_setCell_same _ _ _ (r.at i hi), upd_at]
  · rw [World.cell?_setCell_other _ _ _ _ (by intro h; cases h; exact e rfl), upd_ne _ _ e]
    exact r.at i hi
theorem RowAt.swap {w : World} {g n : Nat} {h : Nat → Int} (r : RowAt w g n h) {i j : Nat} (hi : i < n) (hj : j < n) (hij : i ≠ j) : RowAt ((w.setCell ⟨g, i, none⟩ (.int .i64 (h j))).setCell ⟨g, j, none⟩ (.int .i64 (h i))) g n (swp h i j) := by
  have := (r.set i hi (h j)).set j hj (h i)
  have e : upd (upd h i (h j)) j (h i) = swp h i j := by
    funext k
    unfold upd swp
    by_cases c1 : k = j
    · subst c1
      rw [if_pos rfl, if_neg (Ne.symm hij), if_pos rfl]
    · rw [if_neg c1]
      by_cases c2 : k = i
      · rw [if_pos c2, if_pos c2]
      · rw [if_neg c2, if_neg c2, if_neg c1]
  rwa [e] at this
theorem RowAt.lt {w : World} {g n : Nat} {h : Nat → Int} (r : RowAt w g n h) (hn : 0 < n) : g < w.heap.size := World.block_lt_of_cell? w _ (r.at 0 hn)
theorem RowAt.swapD {w : World} {g n : Nat} {h : Nat → Int} (r : RowAt w g n h) {i j : Nat} (hi : i < n) (hj : j < n) (hij : i ≠ j) : RowAt (((w.setCell ⟨g, i, none⟩ (.int .i64 (h j))).setCell ⟨g, j, none⟩ (.int .i64 (h i))).drew) g n (swp h i j) := by
  have := r.swap hi hj hij
  exact this.below (this.lt (by omega)) (Below.refl _ _).drew
theorem Kept.swapD {S : Nat → Prop} {w0 w : World} {g : Nat} (k : Kept S w0 w) (hg : S g) (i j : Nat) (u v : Value) : Kept S w0 (((w.setCell ⟨g, i, none⟩ u).setCell ⟨g, j, none⟩ v).drew) :=
  ((k.setCell (p := ⟨g, i, none⟩) hg u).setCell (p := ⟨g, j, none⟩) hg v).next (Below.refl _ _).drew
end Go.Proofs.Ytpigjhagdpeofaa

namespace Go.Proofs.Ytpigjhagdpeofaa
open Go.RowKit
set_option linter.unusedVariables false

set_option maxHeartbeats 1600000 in
theorem swapRange_any (n g c a b m : Nat) (fv : Value) (h : Nat → Int) (w : World) (hn : n < 1000000) (hr : RowAt w g n h) (h1 : a + m ≤ b) (h2 : b + m ≤ n) :
    Calls Sq.prog 82 #[.slice (some ⟨g, 0, none⟩) n c, .int .i64 a, .int .i64 b, .int .i64 m, fv] w
      fun e w' => e = .returned (.tuple #[]) ∧ RowAt w' g n (swr h a b m) ∧ Kept (fun k => k = g) w w' := by
  have H0 := Lib.hid (swr_zero h a b)
  go_enter Sq.func82, Sq.ntmps82
  go_wp2
  go_loopw [10] (fun i wr => ∃ k : Nat, k ≤ m ∧ i = .int .i64 k ∧ RowAt wr g n (swr h a b k) ∧ Kept (fun k => k = g) w wr) (fun i _ => m - (intOf i).toNat)
  case atStart => exact ⟨0, Nat.zero_le _, rfl, by rw [H0.out]; exact hr, Kept.refl _ _⟩
  case round =>
    obtain ⟨k, hk, rfl, hR, hK⟩ := hrel
    by_cases hlt : k < m
    · have hN := Lib.hid (swr_succ h (a := a) (b := b) (n := k) (by omega))
      have hg := hR.lt (by omega)
      have x1 := hR.at (a + k) (by omega)
      have x2 := hR.at (b + k) (by omega)
      have f1 := hR.2 (a + k)
      have f2 := hR.2 (b + k)
      obtain ⟨p, hp⟩ : ∃ p, a + k = p := ⟨_, rfl⟩
      obtain ⟨q, hq⟩ : ∃ q, b + k = q := ⟨_, rfl⟩
      have e1 : IntKind.i64.wrap ((a : Int) + k) = p := by rw [← hp, show (a : Int) + k = ((a + k : Nat) : Int) by omega]; exact IntWalk.i64_in _ (by omega)
      have e2 : IntKind.i64.wrap ((b : Int) + k) = q := by rw [← hq, show (b : Int) + k = ((b + k : Nat) : Int) by omega]; exact IntWalk.i64_in _ (by omega)
      have e3 : (a : Int) + k = p := by omega
      have e4 : (b : Int) + k = q := by omega
      rw [hp] at x1 f1 hN
      rw [hq] at x2 f2 hN
      have p1 : p < n := by omega
      have q1 : q < n := by omega
      have p2 : (p : Int) < n := by omega
      have q2 : (q : Int) < n := by omega
      have hpq : p ≠ q := by omega
      have HR := Lib.hid hR
      generalize hF : swr h a b k = F at *
      clear hR hp hq hF
      go_wp2_with fail
      go_region
      go_wp2
      have hS := HR.out.swapD p1 q1 hpq
      rw [hN.out] at hS
      go_roundw
      case rel => exact ⟨k + 1, by omega, by go_num, hS, hK.swapD rfl _ _ _ _⟩
      case measure => simp [intOf]; omega
    · obtain rfl : k = m := by omega
      go_wp2
      go_end0
      exact ⟨rfl, hR, hK⟩

set_option maxHeartbeats 1600000 in
theorem rotate_any (n g c a m b : Nat) (fv : Value) (h : Nat → Int) (w : World) (hn : n < 1000000) (hr : RowAt w g n h) (h1 : a < m) (h2 : m < b) (h3 : b ≤ n) :
    Calls Sq.prog 81 #[.slice (some ⟨g, 0, none⟩) n c, .int .i64 a, .int .i64 m, .int .i64 b, fv] w
      fun e w' => e = .returned (.tuple #[]) ∧ RowAt w' g n (rot h a m b) ∧ Kept (fun k => k = g) w w' := by
  go_enter Sq.func81, Sq.ntmps81
  go_wp2
  go_loopw [10, 11] (fun x y wr => ∃ (i j : Nat) (h' : Nat → Int), 0 < i ∧ 0 < j ∧ i ≤ m - a ∧ j ≤ b - m ∧ x = .int .i64 i ∧ y = .int .i64 j ∧ Hid (rot h' (m - i) m (m + j) = rot h a m b) ∧ RowAt wr g n h' ∧ Kept (fun k => k = g) w wr) (fun x y _ => (intOf x).toNat + (intOf y).toNat)
  case atStart => exact ⟨m - a, b - m, h, by omega, by omega, Nat.le_refl _, Nat.le_refl _, by go_num, by go_num, (by show _ = _; rw [show m - (m - a) = a by omega, show m + (b - m) = b by omega]), hr, Kept.refl _ _⟩
  case round =>
    obtain ⟨i, j, h', i0, j0, hi, hj, rfl, rfl, hH, hR, hK⟩ := hrel
    have e1 : (m : Int) - i = ((m - i : Nat) : Int) := by omega
    by_cases hij : i = j
    · subst hij
      have hE := Lib.hid (rot_eq h' (m := m) (i := i) (by omega))
      have HC := Lib.hid (swapRange_any n g c (m - i) m i fv h' wr hn hR (by omega) (by omega))
      have e2 : IntKind.i64.wrap ((m : Int) - i) = ((m - i : Nat) : Int) := by rw [e1]; exact IntWalk.i64_in _ (by omega)
      go_wp2_with (first | (go_at_call 82; refine HC.out.mono ?_; rintro e w2 ⟨rfl, hR2, hK2⟩))
      go_end0
      rw [← hE.out, hH.out] at hR2
      exact ⟨rfl, hR2, hK.trans hK2⟩
    · have hne : ((i : Int) == j) = false := by simp; omega
      have hne2 : ((i : Int) != j) = true := by simp; omega
      by_cases hgt : j < i
      · have hE := Lib.hid (rot_gt h' (m := m) (i := i) (j := j) (by omega) hgt)
        have HC := Lib.hid (swapRange_any n g c (m - i) m j fv h' wr hn hR (by omega) (by omega))
        have e2 : IntKind.i64.wrap ((m : Int) - i) = ((m - i : Nat) : Int) := by rw [e1]; exact IntWalk.i64_in _ (by omega)
        clear hij
        go_wp2_with (first | (go_at_call 82; refine HC.out.mono ?_; rintro e w2 ⟨rfl, hR2, hK2⟩))
        go_roundw
        case rel => exact ⟨i - j, j, swr h' (m - i) m j, by omega, j0, by omega, hj, by go_num, rfl, hE.out.symm.trans hH.out, hR2, hK.trans hK2⟩
        case measure => simp [intOf]; omega
      · have hlt : i < j := by omega
        have hE := Lib.hid (rot_lt h' (m := m) (i := i) (j := j) (by omega) (by omega))
        have HC := Lib.hid (swapRange_any n g c (m - i) (m + j - i) i fv h' wr hn hR (by omega) (by omega))
        have e2 : IntKind.i64.wrap ((m : Int) - i) = ((m - i : Nat) : Int) := by rw [e1]; exact IntWalk.i64_in _ (by omega)
        have e4 : (m : Int) + j - i = ((m + j - i : Nat) : Int) := by omega
        have e3 : IntKind.i64.wrap ((m : Int) + j - i) = ((m + j - i : Nat) : Int) := by rw [e4]; exact IntWalk.i64_in _ (by omega)
        clear hij
        go_wp2_with (first | (go_at_call 82; refine HC.out.mono ?_; rintro e w2 ⟨rfl, hR2, hK2⟩))
        go_roundw
        case rel => exact ⟨i, j - i, swr h' (m - i) (m + j - i) i, i0, by omega, hi, by omega, rfl, by go_num, hE.out.symm.trans hH.out, hR2, hK.trans hK2⟩
        case measure => simp [intOf]; omega
end Go.Proofs.Ytpigjhagdpeofaa

namespace Go.Proofs.Ytpigjhagdpeofaa
open Go.RowKit
set_option linter.unusedVariables false

/-- What is asked of the comparison: in every world that parts from w0 in the row alone. -/
def Cmp_pt (w0 : World) (g n : Nat) (key : Int → Int) (b1 : Value) : Prop := ∀ w', Kept (fun k => k = g) w0 w' → ∀ x y : Int, (0 ≤ x ∧ x < n) → (0 ≤ y ∧ y < n) →
  Calls Sq.prog 69 #[.int .i64 x, .int .i64 y, b1] w' (fun e w'' => ∃ r : Int, e = .returned (.int .i64 r) ∧ decide (r < 0) = decide (key x < key y) ∧ Below w'.heap.size w' w'')

set_option maxHeartbeats 3200000 in
theorem ins_pt (n g c a b : Nat) (b1 : Value) (key : Int → Int) (f : Nat → Int) (w0 w : World) (hn : n < 1000000) (hc : Cmp_pt w0 g n key b1) (hk : Kept (fun k => k = g) w0 w) (hr : RowAt w g n f)
    (hf : Hid (∀ p q, a ≤ p → p < q → q < b → f p < f q)) (hrg : Hid (Rng n f 0 n)) (hab : a < b) (hbn : b ≤ n) :
    Calls Sq.prog 79 #[.slice (some ⟨g, 0, none⟩) n c, .int .i64 a, .int .i64 b, .func (.func 69) #[] #[b1]] w
      fun e w' => e = .returned (.tuple #[]) ∧ ∃ h, RowAt w' g n h ∧ Mix a b f h ∧ Srt key h a b ∧ Kept (fun k => k = g) w0 w' := by
  have HC := Lib.hid hc
  clear hc
  go_enter Sq.func79, Sq.ntmps79
  go_wp2
  go_loopw [8] (fun i wr => ∃ (k : Nat) (h : Nat → Int), a < k ∧ k ≤ b ∧ i = .int .i64 k ∧ RowAt wr g n h ∧ Hid (Mix a k f h) ∧ Hid (Srt key h a k) ∧ Kept (fun k => k = g) w0 wr) (fun i _ => b - (intOf i).toNat)
  case atStart => exact ⟨a + 1, f, by omega, by omega, by go_num, hr, Mix.refl _ _ _, (fun i j x1 x2 x3 => by omega), hk⟩
  case round =>
    obtain ⟨i, h, hai, hib, rfl, hR, hM, hS, hK⟩ := hrel
    by_cases hlt : i < b
    · have HI := Lib.hid (InsI.start hf.out hM.out hS.out (by omega) hlt)
      go_wp2_with fail
      go_loopw [9] (fun v wr => ∃ (j : Nat) (h' : Nat → Int), v = .int .i64 j ∧ Hid (InsI key f h' a i j) ∧ RowAt wr g n h' ∧ Kept (fun k => k = g) w0 wr) (fun v _ => (intOf v).toNat)
      case atStart => exact ⟨i, h, rfl, HI, hR, hK⟩
      case round =>
        obtain ⟨j, h', rfl, HJ, hR, hK⟩ := hrel
        have haj := HJ.out.aj
        have hji := HJ.out.ji
        have HG : Hid (Rng n h' 0 n) := hrg.out.mix HJ.out.mix (by omega)
        generalize hwA : wr = wA at *
        clear hwA
        by_cases hja : a < j
        · obtain ⟨jp, rfl⟩ : ∃ jp, j = jp + 1 := ⟨j - 1, by omega⟩
          have hg := hR.lt (by omega)
          have x1 := hR.at (jp + 1) (by omega)
          have x2 := hR.at jp (by omega)
          have f1 := hR.2 (jp + 1)
          have f2 := hR.2 jp
          have r1 := HG.out (jp + 1) (Nat.zero_le _) (by omega)
          have r2 := HG.out jp (Nat.zero_le _) (by omega)
          have l1 : (a : Int) < (jp : Int) + 1 := by omega
          have l2 : (jp : Int) + 1 < n := by omega
          have l3 : (jp : Int) < n := by omega
          have l4 : (0 : Int) ≤ (jp : Int) + 1 := by omega
          have l5 : ((jp : Int) + 1).toNat = jp + 1 := by omega
          have e1 : IntKind.i64.wrap ((jp : Int) + 1 - 1) = jp := by rw [show (jp : Int) + 1 - 1 = jp by omega]; exact IntWalk.i64_in _ (by omega)
          have e2 : IntKind.i64.wrap (jp : Int) = jp := IntWalk.i64_in _ (by omega)
          have HR := Lib.hid hR
          have HK := Lib.hid hK
          clear hR hK
          obtain ⟨X, hX⟩ : ∃ X, h' (jp + 1) = X := ⟨_, rfl⟩
          obtain ⟨Y, hY⟩ : ∃ Y, h' jp = Y := ⟨_, rfl⟩
          rw [hX] at x1 r1
          rw [hY] at x2 r2
          have R1 := Lib.hid r1
          have R2 := Lib.hid r2
          clear r1 r2
          have HX := Lib.hid hX
          have HY := Lib.hid hY
          clear hX hY
          have HSTOP : Hid (¬ key X < key Y → Srt key h' a (i + 1)) := fun hn => HJ.out.stop (.inr (by rw [Nat.add_sub_cancel, HX.out, HY.out]; exact hn))
          have HSTEP : Hid (key X < key Y → InsI key f (swp h' (jp + 1) jp) a i jp) := fun hl => HJ.out.step (by omega) (by rw [HX.out, HY.out]; exact hl)
          have HMX : Hid (Mix a (i + 1) f h') := HJ.out.mix
          cases hkk : decide (key X < key Y)
          case' false => have HD := Lib.hid (of_decide_eq_false hkk)
          case' true => have HD := Lib.hid (of_decide_eq_true hkk)
          all_goals
            go_wp2_with fail
            go_region_held3 (fun w' => w'.cell? ⟨g, jp + 1, none⟩ = some (.int .i64 X) ∧ w'.cell? ⟨g, jp, none⟩ = some (.int .i64 Y) ∧ Below wA.heap.size wA w')
              (first | (exact ⟨Below.cellOf ((Below.refl _ _).drew) rfl x1, Below.cellOf ((Below.refl _ _).drew) rfl x2, (Below.refl _ _).drew⟩) | (go_split_ands; refine ⟨Below.cellOf hb5 rfl (by assumption), Below.cellOf hb5 rfl (by assumption), bnext (by assumption) hb5⟩))
              ((first | (go_at_call 69; (try go_split_ands); refine (HC.out _ (Kept.next HK.out (by assumption)) X Y R1.out R2.out).mono ?_; rintro e w5 ⟨r, rfl, hr5, hb5⟩; rw [hkk] at hr5)))
            rename_i hH
            have hH2 := hH.2.2
            have hR5 := HR.out.below hg hH2
            have hK5 := HK.out.next hH2
            clear hH
          · have y1 := hR5.at (jp + 1) (by omega)
            have y2 := hR5.at jp (by omega)
            have g1 := hR5.2 (jp + 1)
            have g2 := hR5.2 jp
            have HR5 := Lib.hid hR5
            have HK5 := Lib.hid hK5
            have hSW := Lib.hid (HR5.out.swapD (i := jp + 1) (j := jp) (by omega) (by omega) (by omega))
            clear hR5 hK5 hb5 hH2
            obtain ⟨j1, hj1⟩ : ∃ j1, j1 = jp + 1 := ⟨_, rfl⟩
            rw [← hj1] at y1 g1 l5
            have hne : j1 ≠ jp := by omega
            have hne2 : jp ≠ j1 := by omega
            have J1 := Lib.hid hj1
            clear hj1
            go_wp2_with fail
            go_region
            go_wp2_with fail
            go_roundw
            case rel => exact ⟨jp, swp h' (jp + 1) jp, by go_num, HSTEP.out HD.out, by rw [J1.out]; exact hSW.out, HK5.out.swapD rfl _ _ _ _⟩
            case measure => first | (simp [intOf]; done) | (simp [intOf]; omega)
          · go_wp2_with fail
            go_roundw
            case rel => exact ⟨i + 1, h', by omega, by omega, by go_num, hR5, HMX, HSTOP.out HD.out, hK5⟩
            case measure => simp [intOf]; omega
        · obtain rfl : j = a := by omega
          have hg := hR.lt (by omega)
          have l1 : decide ((j : Int) < (j : Int)) = false := decide_eq_false (by omega)
          have HST := Lib.hid (HJ.out.stop (.inl rfl))
          have HMX : Hid (Mix j (i + 1) f h') := HJ.out.mix
          go_wp2_with fail
          go_quiet (fail)
          go_wp2
          go_roundw
          case rel => exact ⟨i + 1, h', by omega, by omega, by go_num, hR.drewN hg _, HMX, HST, hK.drewN' _⟩
          case measure => simp [intOf]; omega
    · obtain rfl : i = b := by omega
      go_wp2
      go_end0
      exact ⟨rfl, h, hR, hM.out, hS.out, hK⟩
end Go.Proofs.Ytpigjhagdpeofaa

namespace Go.Proofs.Ytpigjhagdpeofaa
open Go.RowKit
set_option linter.unusedVariables false

set_option maxHeartbeats 3200000 in
set_option maxRecDepth 100000 in
theorem symA_pt (n g c a b : Nat) (b1 : Value) (key : Int → Int) (f : Nat → Int) (w0 w : World) (hn : n < 1000000) (hc : Cmp_pt w0 g n key b1) (hk : Kept (fun k => k = g) w0 w) (hr : RowAt w g n f)
    (hrg : Hid (Rng n f 0 n)) (hs : Hid (Srt key f (a + 1) b)) (hl : Hid (Lower f a (a + 1) b)) (hab : a + 1 < b) (hbn : b ≤ n) (m : Nat) (hm : m = a + 1) :
    Calls Sq.prog 80 #[.slice (some ⟨g, 0, none⟩) n c, .int .i64 a, .int .i64 m, .int .i64 b, .func (.func 69) #[] #[b1]] w
      fun e w' => e = .returned (.tuple #[]) ∧ ∃ h, RowAt w' g n h ∧ Mix a b f h ∧ Srt key h a b ∧ Kept (fun k => k = g) w0 w' := by
  have HC := Lib.hid hc
  have hg := hr.lt (by omega)
  have z1 : (m : Int) - a = 1 := by omega
  have z2 : IntKind.i64.wrap ((m : Int) - a) = 1 := by rw [z1]; rfl
  have HM0 := Lib.hid hm
  clear hc hm
  go_enter Sq.func80, Sq.ntmps80
  go_wp2_with fail
  go_loopw [10, 11] (fun x y wr => ∃ i j : Nat, a + 1 ≤ i ∧ i ≤ j ∧ j ≤ b ∧ x = .int .i64 i ∧ y = .int .i64 j ∧ AllLess key f (f a) (a + 1) i ∧ NoneLess key f (f a) j b ∧ RowAt wr g n f ∧ Kept (fun k => k = g) w0 wr) (fun x y _ => ((intOf y) - (intOf x)).toNat)
  case atStart => exact ⟨a + 1, b, Nat.le_refl _, by omega, Nat.le_refl _, by rw [HM0.out], rfl, (fun q h1 h2 => by omega), (fun q h1 h2 => by omega), hr, hk⟩
  case round =>
    obtain ⟨i, j, hai, hij, hjb, rfl, rfl, hA, hB, hR, hK⟩ := hrel
    generalize hwA : wr = wA at *
    clear hwA
    by_cases hlt : i < j
    · obtain ⟨h, hh⟩ : ∃ h : Nat, h = (i + j) / 2 := ⟨_, rfl⟩
      have hi1 : i ≤ h ∧ h < j := by omega
      have e1 : ((i : Int) + j) / 2 = h := by omega
      have x1 := hR.at h (by omega)
      have x2 := hR.at a (by omega)
      have r1 := hrg.out h (Nat.zero_le _) (by omega)
      have r2 := hrg.out a (Nat.zero_le _) (by omega)
      have l1 : (h : Int) < n := by omega
      have l2 : (a : Int) < n := by omega
      obtain ⟨X, hX⟩ : ∃ X, f h = X := ⟨_, rfl⟩
      obtain ⟨Y, hY⟩ : ∃ Y, f a = Y := ⟨_, rfl⟩
      have HT : Hid (key X < key Y → AllLess key f (f a) (a + 1) (h + 1)) := fun hxy q q1 q2 => by
        have := hs.out.kle q1 (show q ≤ h by omega) (by omega)
        rw [hX] at this
        rw [hY]
        omega
      have HF : Hid (¬ key X < key Y → NoneLess key f (f a) h b) := fun hxy q q1 q2 => by
        have := hs.out.kle (show a + 1 ≤ h by omega) q1 q2
        rw [hX] at this
        rw [hY]
        omega
      rw [hX] at x1 r1
      rw [hY] at x2 r2
      have R1 := Lib.hid r1
      have R2 := Lib.hid r2
      have HR := Lib.hid hR
      have HK := Lib.hid hK
      have HH := Lib.hid hh
      have hgA := hR.lt (by omega)
      clear hX hY r1 r2 hR hK hh
      cases hkk : decide (key X < key Y)
      case' false => have HD := Lib.hid (of_decide_eq_false hkk)
      case' true => have HD := Lib.hid (of_decide_eq_true hkk)
      all_goals
        go_wp2_with fail
        go_region_held3 (fun w' => w'.cell? ⟨g, h, none⟩ = some (.int .i64 X) ∧ w'.cell? ⟨g, a, none⟩ = some (.int .i64 Y) ∧ Below wA.heap.size wA w')
          (first | (exact ⟨Below.cellOf ((Below.refl _ _).drew) rfl x1, Below.cellOf ((Below.refl _ _).drew) rfl x2, (Below.refl _ _).drew⟩) | (go_split_ands; refine ⟨Below.cellOf hb5 rfl (by assumption), Below.cellOf hb5 rfl (by assumption), bnext (by assumption) hb5⟩))
          ((first | (go_at_call 69; (try go_split_ands); refine (HC.out _ (Kept.next HK.out (by assumption)) X Y R1.out R2.out).mono ?_; rintro e w5 ⟨r, rfl, hr5, hb5⟩; rw [hkk] at hr5)))
        rename_i hH
        have hH2 := hH.2.2
        have hR5 := HR.out.below hgA hH2
        have hK5 := HK.out.next hH2
        clear hH hb5 hH2 e1
      · go_wp2_with fail
        go_roundw
        case rel => exact ⟨h + 1, j, by omega, by omega, hjb, by go_num, rfl, HT.out HD.out, hB, hR5, hK5⟩
        case measure => simp [intOf]; omega
      · go_wp2_with fail
        go_roundw
        case rel => exact ⟨i, h, hai, by omega, by omega, rfl, rfl, hA, HF.out HD.out, hR5, hK5⟩
        case measure => simp [intOf]; omega
    · obtain rfl : j = i := by omega
      have hRot : RowAt wA g n (rot f a (a + 1) (a + 1)) := by rw [rot_triv f (.inr rfl) (Nat.le_succ _) (Nat.le_refl _)]; exact hR
      clear hR
      go_wp2_with fail
      go_loopw [13] (fun v wr => ∃ k : Nat, a ≤ k ∧ k + 1 ≤ j ∧ v = .int .i64 k ∧ RowAt wr g n (rot f a (a + 1) (k + 1)) ∧ Kept (fun k => k = g) w0 wr) (fun v _ => j - (intOf v).toNat)
      case atStart => exact ⟨a, Nat.le_refl _, hai, rfl, hRot, hK⟩
      case round =>
        obtain ⟨k, hak, hkj, rfl, hR, hK⟩ := hrel
        by_cases hlt2 : k + 1 < j
        · have l1 : (k : Int) < (j : Int) - 1 := by omega
          have l2 : (k : Int) < n := by omega
          have l3 : (k : Int) + 1 < n := by omega
          have l4 : (0 : Int) ≤ (k : Int) + 1 := by omega
          have l5 : ((k : Int) + 1).toNat = k + 1 := by omega
          have e1 : IntKind.i64.wrap ((k : Int) + 1) = (k : Int) + 1 := IntWalk.i64_in _ (by omega)
          have y1 := hR.at k (by omega)
          have y2 := hR.at (k + 1) (by omega)
          have g1 := hR.2 k
          have g2 := hR.2 (k + 1)
          have hSW := hR.swapD (i := k) (j := k + 1) (by omega) (by omega) (by omega)
          rw [rot_up f hak] at hSW
          obtain ⟨F, hF⟩ : ∃ F, rot f a (a + 1) (k + 1) = F := ⟨_, rfl⟩
          rw [hF] at y1 y2 hSW
          have HSW := Lib.hid hSW
          have HK := Lib.hid hK
          clear hR hF hSW hK
          obtain ⟨k1, hk1⟩ : ∃ k1, k1 = k + 1 := ⟨_, rfl⟩
          rw [← hk1] at y2 g2 l5
          have hne : k1 ≠ k := by omega
          have hne2 : k ≠ k1 := by omega
          have J1 := Lib.hid hk1
          clear hk1
          go_wp2_with fail
          go_region
          go_wp2_with fail
          go_roundw
          case rel => exact ⟨k + 1, by omega, by omega, by go_num, by rw [J1.out]; exact HSW.out, HK.out.swapD rfl _ _ _ _⟩
          case measure => simp [intOf]; omega
        · have l1 : ¬ (k : Int) < (j : Int) - 1 := by omega
          obtain rfl : j = k + 1 := by omega
          have HS := Lib.hid (srt_first (by omega) hjb hs.out hl.out hA hB)
          have HM : Hid (Mix a b f (rot f a (a + 1) (k + 1))) := (Mix.rot f (Nat.le_succ _) hai).mono (Nat.le_refl _) hjb
          go_wp2_with fail
          refine bodyPost_ret (v := .tuple #[]) (results_none rfl _ _ _) rfl ?_
          exact ⟨rfl, _, hR, HM.out, HS.out, hK⟩
end Go.Proofs.Ytpigjhagdpeofaa
