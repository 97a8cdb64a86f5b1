/-
  A statement that appends to three slices at once, one of them in a variable's own memory, in whatever order its operations come: what it does. No program in sight. Conditions as the laws say.
-/
import Derived.Test.YtcpjbnfmkhaadaaAppV
import Derived.Orders
namespace Go.Proofs.Ytcpjbnfmkhaadaa
open Go.RowKit
set_option linter.unusedVariables false

theorem upC {w : World} {p : Addr} {v : Value} (h : w.cell? p = some v) (c : Obj) : (w.alloc c).cell? p = some v := Below.cellOf (B := w.heap.size) ((Below.refl _ _).alloc (Nat.le_refl _) _) rfl h
theorem upF {w : World} {p : Addr} {v : Value} (h : w.cell? p = some v) (hf : w.frozen? p = false) (c : Obj) : (w.alloc c).frozen? p = false :=
  (((Below.refl w.heap.size w).alloc (Nat.le_refl _) c).frozen (World.block_lt_of_cell? w p h)).trans hf
theorem upB {a w : World} (h : Below a.heap.size a w) (c : Obj) : Below a.heap.size a (w.alloc c) := h.alloc h.size _
theorem Kept3.nown {w0 w' : World} {v v' : Value} (h : Kept3 w0 v w' v') {k i : Nat} {y : Value} (hy : w0.cell? ⟨k, i, none⟩ = some y) (hd : v.ownBlock = some k → False) : v'.ownBlock = some k → False := fun e => by
  rcases h.2.1 k e with h1 | h1
  · exact hd h1
  · have := World.block_lt_of_cell? w0 _ hy
    exact absurd h1 (Nat.not_le.2 this)

/-- A temporary that is set, if it is yet. -/
def pif (b : Bool) (t : Nat) (v : Value) (a : Act) : Act := bif b then a.put (some t) v else a
theorem pif_true (t : Nat) (v : Value) (a : Act) : pif true t v a = a.put (some t) v := rfl
theorem pif_false (t : Nat) (v : Value) (a : Act) : pif false t v a = a := rfl
theorem pif_put {b : Bool} {t s : Nat} {v u : Value} {a : Act} (h : t ≠ s) : (pif b t v a).put (some s) u = pif b t v (a.put (some s) u) := by
  cases b
  · rfl
  · show (a.put (some t) v).put (some s) u = (a.put (some s) u).put (some t) v
    exact Act.put_comm a (x := some t) (y := some s) v u (fun d hd => by cases hd; intro e; exact h (Option.some.inj e).symm)
theorem pif_eval {b : Bool} {t : Nat} {v : Value} {a : Act} {x : Operand} (h : x ≠ .tmp t) : (pif b t v a).eval x = a.eval x := by
  cases b
  · rfl
  · exact Act.eval_put (a := a) (dst := some t) (v := v) (fun d hd => by cases hd; exact h)
theorem put_size (a : Act) (d : Option Nat) (v : Value) : (a.put d v).tmps.size = a.tmps.size := by
  cases d <;> simp [Act.put]
theorem pif_size (b : Bool) (t : Nat) (v : Value) (a : Act) : (pif b t v a).tmps.size = a.tmps.size := by
  cases b
  · rfl
  · exact put_size a (some t) v
theorem pif_same {t : Nat} {v : Value} {a : Act} (h : t < a.tmps.size) : (pif true t v a).eval (.tmp t) = v := by
  show (a.put (some t) v).eval (.tmp t) = v
  simp [Act.put, Act.eval, h]

/-- An operation that yields a value. -/
theorem wpOp_ok {P : Program} {ops : Array Oper} {Q : Exit → Act → World → Prop} {i : Nat} {o : Oper} {K : Act → World → Prop} {a : Act} {w w' : World} {v : Value} (ho : ops[i]? = some o) (hg : o.guard = none)
    (hr : (execOp a.eval o).run P w = .ok (.value v) w') (h : K (a.put o.dst v) w') : wpOp P ops Q i K a w := by
  unfold wpOp
  rw [ho]
  have hw : Region.wanted o (yielded ops a.tmps) = true := by simp [Region.wanted, hg]
  show (if Region.wanted o (yielded ops a.tmps) = true then _ else _)
  rw [if_pos hw]
  refine .inl ?_
  unfold Oper.wp
  rw [hr]
  exact h
theorem wpOp_step {P : Program} {ops : Array Oper} {Q : Exit → Act → World → Prop} {i : Nat} {o : Oper} {K : Act → World → Prop} {a : Act} {w : World} (ho : ops[i]? = some o) (hg : o.guard = none)
    (h : if Region.wanted o (yielded ops a.tmps) = true then Oper.wp P o a w K Q else False) : wpOp P ops Q i K a w := by
  unfold wpOp
  rw [ho]
  have hw : Region.wanted o (yielded ops a.tmps) = true := by simp [Region.wanted, hg]
  rw [if_pos hw] at h
  show (if Region.wanted o (yielded ops a.tmps) = true then _ else _)
  rw [if_pos hw]
  exact .inl h

/-- What stands in memory in the midst of such a statement. -/
structure Mid3 (EI EU EJ : TypeId) (w0 : World) (bx : Nat) (q r k : Int) (vB : Value) (cO : Value) (lO : List Int) (cR : Value) (lR : List Int) (cD : Value) (lD : List Int) (g1 g2 g3 : Option Nat) (w : World) : Prop where
  b : Below w0.heap.size w0 w
  o : Own EI w w0.heap.size cO lO
  u : OwnU EU w w0.heap.size cR lR
  d : Own EJ w w0.heap.size cD lD
  c : w.cell? ⟨bx, 0, none⟩ = some vB
  f : w.frozen? ⟨bx, 0, none⟩ = false
  od : Apart cO cD
  or : Apart cO cR
  dr : Apart cD cR
  no : cO.ownBlock = some bx → False
  nr : cR.ownBlock = some bx → False
  nd : cD.ownBlock = some bx → False
  p1 : ∀ g, g1 = some g → w.cell? ⟨g, 0, none⟩ = some (.int .i64 q) ∧ (cO.ownBlock = some g → False) ∧ (cR.ownBlock = some g → False) ∧ (cD.ownBlock = some g → False)
  p2 : ∀ g, g2 = some g → w.cell? ⟨g, 0, none⟩ = some (.int .u64 r) ∧ (cO.ownBlock = some g → False) ∧ (cR.ownBlock = some g → False) ∧ (cD.ownBlock = some g → False)
  p3 : ∀ g, g3 = some g → w.cell? ⟨g, 0, none⟩ = some (.int .i64 k) ∧ (cO.ownBlock = some g → False) ∧ (cR.ownBlock = some g → False) ∧ (cD.ownBlock = some g → False)
section
variable {EI EU EJ : TypeId} {w0 : World} {bx : Nat} {q r k : Int} {vB cO cR cD : Value} {lO lR lD : List Int} {g1 g2 g3 : Option Nat} {w w' : World}
theorem Mid3.up (h : Mid3 EI EU EJ w0 bx q r k vB cO lO cR lR cD lD g1 g2 g3 w) (c : Obj) : Mid3 EI EU EJ w0 bx q r k vB cO lO cR lR cD lD g1 g2 g3 (w.alloc c) :=
  ⟨upB h.b c, h.o.up c, h.u.up c, h.d.up c, upC h.c c, upF h.c h.f c, h.od, h.or, h.dr, h.no, h.nr, h.nd, fun g e => ⟨upC (h.p1 g e).1 c, (h.p1 g e).2⟩, fun g e => ⟨upC (h.p2 g e).1 c, (h.p2 g e).2⟩, fun g e => ⟨upC (h.p3 g e).1 c, (h.p3 g e).2⟩⟩
theorem new_cell (w : World) (v : Value) (E : TypeId) : (w.alloc (.cells #[v] E)).cell? ⟨w.heap.size, 0, none⟩ = some v := by simp [go_sem]
theorem Mid3.mk1 (h : Mid3 EI EU EJ w0 bx q r k vB cO lO cR lR cD lD g1 g2 g3 w) (E : TypeId) : Mid3 EI EU EJ w0 bx q r k vB cO lO cR lR cD lD (some w.heap.size) g2 g3 (w.alloc (.cells #[.int .i64 q] E)) :=
  { h.up _ with p1 := fun g e => by cases e; exact ⟨new_cell _ _ _, fun e => Nat.lt_irrefl _ (h.o.lt _ e).2, fun e => Nat.lt_irrefl _ (h.u.lt _ e).2, fun e => Nat.lt_irrefl _ (h.d.lt _ e).2⟩ }
theorem Mid3.mk2 (h : Mid3 EI EU EJ w0 bx q r k vB cO lO cR lR cD lD g1 g2 g3 w) (E : TypeId) : Mid3 EI EU EJ w0 bx q r k vB cO lO cR lR cD lD g1 (some w.heap.size) g3 (w.alloc (.cells #[.int .u64 r] E)) :=
  { h.up _ with p2 := fun g e => by cases e; exact ⟨new_cell _ _ _, fun e => Nat.lt_irrefl _ (h.o.lt _ e).2, fun e => Nat.lt_irrefl _ (h.u.lt _ e).2, fun e => Nat.lt_irrefl _ (h.d.lt _ e).2⟩ }
theorem Mid3.mk3 (h : Mid3 EI EU EJ w0 bx q r k vB cO lO cR lR cD lD g1 g2 g3 w) (E : TypeId) : Mid3 EI EU EJ w0 bx q r k vB cO lO cR lR cD lD g1 g2 (some w.heap.size) (w.alloc (.cells #[.int .i64 k] E)) :=
  { h.up _ with p3 := fun g e => by cases e; exact ⟨new_cell _ _ _, fun e => Nat.lt_irrefl _ (h.o.lt _ e).2, fun e => Nat.lt_irrefl _ (h.u.lt _ e).2, fun e => Nat.lt_irrefl _ (h.d.lt _ e).2⟩ }
theorem Mid3.re (h : Mid3 EI EU EJ w0 bx q r k vB cO lO cR lR cD lD none none none w) (q' r' k' : Int) : Mid3 EI EU EJ w0 bx q' r' k' vB cO lO cR lR cD lD none none none w :=
  ⟨h.b, h.o, h.u, h.d, h.c, h.f, h.od, h.or, h.dr, h.no, h.nr, h.nd, fun g e => by (cases e), fun g e => by (cases e), fun g e => by (cases e)⟩
theorem Mid3.next (h : Mid3 EI EU EJ w0 bx q r k vB cO lO cR lR cD lD none none none w) (hb : Below w.heap.size w w') : Mid3 EI EU EJ w0 bx q r k vB cO lO cR lR cD lD none none none w' :=
  ⟨bnext h.b hb, h.o.below hb, h.u.below hb, h.d.below hb, Below.cellOf hb rfl h.c, (hb.frozen (World.block_lt_of_cell? w _ h.c)).trans h.f, h.od, h.or, h.dr, h.no, h.nr, h.nd, fun g e => by (cases e), fun g e => by (cases e), fun g e => by (cases e)⟩
theorem lt_cell {w : World} {g : Nat} {v : Value} (h : w.cell? ⟨g, 0, none⟩ = some v) : g < w.heap.size := World.block_lt_of_cell? w _ h
theorem Mid3.ap1 (h : Mid3 EI EU EJ w0 bx q r k vB cO lO cR lR cD lD g1 g2 g3 w) {v : Value} {l : List Int} (hown : Own EI w' w0.heap.size v l) (hb : Below w0.heap.size w w') (hk : Kept3 w cO w' v) : Mid3 EI EU EJ w0 bx q r k vB v l cR lR cD lD none g2 g3 w' := by
  have xr := hk.ownU h.u h.or
  have xd := hk.own h.d h.od
  exact ⟨h.b.trans hb, hown, xr.1, xd.1, hk.cell h.c h.no, hk.frozen (lt_cell h.c) h.f h.no, xd.2, xr.2, h.dr, hk.nown h.c h.no, h.nr, h.nd, fun g e => by (cases e), fun g e => ⟨hk.cell (h.p2 g e).1 (h.p2 g e).2.1, hk.nown (h.p2 g e).1 (h.p2 g e).2.1, (h.p2 g e).2.2⟩, fun g e => ⟨hk.cell (h.p3 g e).1 (h.p3 g e).2.1, hk.nown (h.p3 g e).1 (h.p3 g e).2.1, (h.p3 g e).2.2⟩⟩
theorem Mid3.ap2 (h : Mid3 EI EU EJ w0 bx q r k vB cO lO cR lR cD lD g1 g2 g3 w) {v : Value} {l : List Int} (hown : OwnU EU w' w0.heap.size v l) (hb : Below w0.heap.size w w') (hk : Kept3 w cR w' v) : Mid3 EI EU EJ w0 bx q r k vB cO lO v l cD lD g1 none g3 w' := by
  have xo := hk.own h.o h.or.symm
  have xd := hk.own h.d h.dr.symm
  exact ⟨h.b.trans hb, xo.1, hown, xd.1, hk.cell h.c h.nr, hk.frozen (lt_cell h.c) h.f h.nr, h.od, xo.2.symm, xd.2.symm, h.no, hk.nown h.c h.nr, h.nd, fun g e => ⟨hk.cell (h.p1 g e).1 (h.p1 g e).2.2.1, (h.p1 g e).2.1, hk.nown (h.p1 g e).1 (h.p1 g e).2.2.1, (h.p1 g e).2.2.2⟩, fun g e => by (cases e), fun g e => ⟨hk.cell (h.p3 g e).1 (h.p3 g e).2.2.1, (h.p3 g e).2.1, hk.nown (h.p3 g e).1 (h.p3 g e).2.2.1, (h.p3 g e).2.2.2⟩⟩
theorem Mid3.ap3 (h : Mid3 EI EU EJ w0 bx q r k vB cO lO cR lR cD lD g1 g2 g3 w) {v : Value} {l : List Int} (hown : Own EJ w' w0.heap.size v l) (hb : Below w0.heap.size w w') (hk : Kept3 w cD w' v) : Mid3 EI EU EJ w0 bx q r k vB cO lO cR lR v l g1 g2 none w' := by
  have xo := hk.own h.o h.od.symm
  have xr := hk.ownU h.u h.dr
  exact ⟨h.b.trans hb, xo.1, xr.1, hown, hk.cell h.c h.nd, hk.frozen (lt_cell h.c) h.f h.nd, xo.2.symm, h.or, xr.2, h.no, h.nr, hk.nown h.c h.nd, fun g e => ⟨hk.cell (h.p1 g e).1 (h.p1 g e).2.2.2, (h.p1 g e).2.1, (h.p1 g e).2.2.1, hk.nown (h.p1 g e).1 (h.p1 g e).2.2.2⟩, fun g e => ⟨hk.cell (h.p2 g e).1 (h.p2 g e).2.2.2, (h.p2 g e).2.1, (h.p2 g e).2.2.1, hk.nown (h.p2 g e).1 (h.p2 g e).2.2.2⟩, fun g e => by (cases e)⟩
end

/-- Which operations have come up: the plain ones all, the last three none. -/
def Lst (b1 p1 l b2 p2 b3 p3 : Bool) : Array Bool := #[true, true, true, b1, p1, l, true, b2, p2, true, true, b3, p3, false, false, false]
def rd0 (b1 b2 b3 l : Bool) : List Nat := (bif b1 then [4] else [3]) ++ (bif l then [] else [5]) ++ (bif b2 then [] else [7]) ++ (bif b3 then [] else [11])
def rd1 (b2 b3 l : Bool) : List Nat := (bif l then [] else [5]) ++ (bif b2 then (bif l then [8] else []) else [7]) ++ (bif b3 then [] else [11])
def rd2 (b3 : Bool) : List Nat := bif b3 then [12] else [11]
def nf (b : Bool) : Nat := bif b then 0 else 1
end Go.Proofs.Ytcpjbnfmkhaadaa
