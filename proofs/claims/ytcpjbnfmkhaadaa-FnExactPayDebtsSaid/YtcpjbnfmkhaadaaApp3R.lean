/-
  A statement that appends to three slices at once: from its beginning to where its results are assigned, in whatever order its operations come. No program in sight. Conditions as the law says.
-/
import Derived.Test.YtcpjbnfmkhaadaaApp3
import Derived.Great.BuildSlice
namespace Go.Proofs.Ytcpjbnfmkhaadaa
open Go.RowKit
set_option linter.unusedVariables false

def sl (n : Nat) : Value := .slice (some ⟨n, 0, none⟩) 1 1
def og (b : Bool) (n : Nat) : Option Nat := bif b then some n else none
/-- The temporaries that such a statement sets behind its plain operations. -/
def chn (a0 : Act) (vB : Value) (b1 : Bool) (u1 : Value) (p1 : Bool) (v1 : Value) (l b2 : Bool) (u2 : Value) (p2 : Bool) (v2 : Value) (b3 : Bool) (u3 : Value) (p3 : Bool) (v3 : Value) : Act :=
  pif p3 59 v3 (pif b3 58 u3 (pif p2 55 v2 (pif b2 54 u2 (pif l 52 vB (pif p1 51 v1 (pif b1 50 u1 a0))))))
/-- Not one of those. -/
def Plain (x : Operand) : Prop := x ≠ .tmp 50 ∧ x ≠ .tmp 51 ∧ x ≠ .tmp 52 ∧ x ≠ .tmp 54 ∧ x ≠ .tmp 55 ∧ x ≠ .tmp 58 ∧ x ≠ .tmp 59
def Agree (a0 a : Act) : Prop := ∀ x, Plain x → a.eval x = a0.eval x
section
variable {a0 : Act} {vB u1 v1 u2 v2 u3 v3 x : Value} {b1 p1 l b2 p2 b3 p3 : Bool}
theorem chn_agree : Agree a0 (chn a0 vB b1 u1 p1 v1 l b2 u2 p2 v2 b3 u3 p3 v3) := fun x h => by
  obtain ⟨h1, h2, h3, h4, h5, h6, h7⟩ := h
  unfold chn
  rw [pif_eval h7, pif_eval h6, pif_eval h5, pif_eval h4, pif_eval h3, pif_eval h2, pif_eval h1]
theorem chn_50 (h : 60 ≤ a0.tmps.size) : (chn a0 vB true u1 p1 v1 l b2 u2 p2 v2 b3 u3 p3 v3).eval (.tmp 50) = u1 := by
  unfold chn
  rw [pif_eval (by simp), pif_eval (by simp), pif_eval (by simp), pif_eval (by simp), pif_eval (by simp), pif_eval (by simp), pif_same (by omega)]
theorem chn_52 (h : 60 ≤ a0.tmps.size) : (chn a0 vB b1 u1 p1 v1 true b2 u2 p2 v2 b3 u3 p3 v3).eval (.tmp 52) = vB := by
  unfold chn
  rw [pif_eval (by simp), pif_eval (by simp), pif_eval (by simp), pif_eval (by simp), pif_same (by rw [pif_size, pif_size]; omega)]
theorem chn_54 (h : 60 ≤ a0.tmps.size) : (chn a0 vB b1 u1 p1 v1 l true u2 p2 v2 b3 u3 p3 v3).eval (.tmp 54) = u2 := by
  unfold chn
  rw [pif_eval (by simp), pif_eval (by simp), pif_eval (by simp), pif_same (by rw [pif_size, pif_size, pif_size]; omega)]
theorem chn_58 (h : 60 ≤ a0.tmps.size) : (chn a0 vB b1 u1 p1 v1 l b2 u2 p2 v2 true u3 p3 v3).eval (.tmp 58) = u3 := by
  unfold chn
  rw [pif_eval (by simp), pif_same (by rw [pif_size, pif_size, pif_size, pif_size, pif_size]; omega)]
theorem chn_p50 : (chn a0 vB false u1 p1 v1 l b2 u2 p2 v2 b3 u3 p3 v3).put (some 50) x = chn a0 vB true x p1 v1 l b2 u2 p2 v2 b3 u3 p3 v3 := by
  unfold chn
  rw [pif_put (by decide), pif_put (by decide), pif_put (by decide), pif_put (by decide), pif_put (by decide), pif_put (by decide)]
  rfl
theorem chn_p51 : (chn a0 vB b1 u1 false v1 l b2 u2 p2 v2 b3 u3 p3 v3).put (some 51) x = chn a0 vB b1 u1 true x l b2 u2 p2 v2 b3 u3 p3 v3 := by
  unfold chn
  rw [pif_put (by decide), pif_put (by decide), pif_put (by decide), pif_put (by decide), pif_put (by decide)]
  rfl
theorem chn_p52 : (chn a0 vB b1 u1 p1 v1 false b2 u2 p2 v2 b3 u3 p3 v3).put (some 52) vB = chn a0 vB b1 u1 p1 v1 true b2 u2 p2 v2 b3 u3 p3 v3 := by
  unfold chn
  rw [pif_put (by decide), pif_put (by decide), pif_put (by decide), pif_put (by decide)]
  rfl
theorem chn_p54 : (chn a0 vB b1 u1 p1 v1 l false u2 p2 v2 b3 u3 p3 v3).put (some 54) x = chn a0 vB b1 u1 p1 v1 l true x p2 v2 b3 u3 p3 v3 := by
  unfold chn
  rw [pif_put (by decide), pif_put (by decide), pif_put (by decide)]
  rfl
theorem chn_p55 : (chn a0 vB b1 u1 p1 v1 l b2 u2 false v2 b3 u3 p3 v3).put (some 55) x = chn a0 vB b1 u1 p1 v1 l b2 u2 true x b3 u3 p3 v3 := by
  unfold chn
  rw [pif_put (by decide), pif_put (by decide)]
  rfl
theorem chn_p58 : (chn a0 vB b1 u1 p1 v1 l b2 u2 p2 v2 false u3 p3 v3).put (some 58) x = chn a0 vB b1 u1 p1 v1 l b2 u2 p2 v2 true x p3 v3 := by
  unfold chn
  rw [pif_put (by decide)]
  rfl
theorem chn_p59 : (chn a0 vB b1 u1 p1 v1 l b2 u2 p2 v2 b3 u3 false v3).put (some 59) x = chn a0 vB b1 u1 p1 v1 l b2 u2 p2 v2 b3 u3 true x := rfl
theorem lst_3 : (Lst b1 p1 l b2 p2 b3 p3).setIfInBounds 3 true = Lst true p1 l b2 p2 b3 p3 := rfl
theorem lst_4 : (Lst b1 p1 l b2 p2 b3 p3).setIfInBounds 4 true = Lst b1 true l b2 p2 b3 p3 := rfl
theorem lst_5 : (Lst b1 p1 l b2 p2 b3 p3).setIfInBounds 5 true = Lst b1 p1 true b2 p2 b3 p3 := rfl
theorem lst_7 : (Lst b1 p1 l b2 p2 b3 p3).setIfInBounds 7 true = Lst b1 p1 l true p2 b3 p3 := rfl
theorem lst_8 : (Lst b1 p1 l b2 p2 b3 p3).setIfInBounds 8 true = Lst b1 p1 l b2 true b3 p3 := rfl
theorem lst_11 : (Lst b1 p1 l b2 p2 b3 p3).setIfInBounds 11 true = Lst b1 p1 l b2 p2 true p3 := rfl
theorem lst_12 : (Lst b1 p1 l b2 p2 b3 p3).setIfInBounds 12 true = Lst b1 p1 l b2 p2 b3 true := rfl
end

theorem run_bs1 {P : Program} {o : Oper} {a : Act} {w : World} {t e : TypeId} {x : Operand} {k : IntKind} {n : Int} (ho : o.op = .buildSlice t 1 #[(0, x)]) (hu : P.underlying t = some (.slice e))
    (hi : (P.info? e).map (fun i => (i.zero, i.size, i.bytes)) = some (some (.int k 0), 1, 8)) (hx : a.eval x = .int k n) : (execOp a.eval o).run P w = .ok (.value (sl w.heap.size)) (w.alloc (.cells #[.int k n] e)) := by
  obtain ⟨i0, hi0, hz0, hz1, hz2⟩ := info_parts hi
  have hf : Instr.fill (fun i => some (i * i0.size, i0.size)) ((Array.range (1 * i0.size)).map ((Value.int k 0).cells[· % (Value.int k 0).cells.size]!)) (#[(0, x)].map fun (i, x) => (i, a.eval x)).toList = some #[.int k n] := by
    rw [hz1]
    simp only [List.map_toArray, List.map_cons, List.map_nil, hx]
    have c1 : (Value.int k n).cells = #[Value.int k n] := by first | rfl | (unfold Value.cells; rfl) | simp [Value.cells]
    have c2 : (Value.int k 0).cells = #[Value.int k 0] := by first | rfl | (unfold Value.cells; rfl) | simp [Value.cells]
    rw [c2]
    simp [Instr.fill, c1, Array.range]
    first
      | rfl
      | (apply Array.ext
         · simp
         · intro i h1 h2
           simp at h2
           subst h2
           simp)
  have h := run_buildSlice (P := P) w t e 1 _ _ i0 (.int k 0) hu hi0 hz0 (by rw [hz1]; decide) (by rw [hz1]; decide) hf
  unfold execOp
  simp only [ho, Sem.run_bind, h, Result.andThen_ok]
  rfl
theorem run_ld1 {P : Program} {o : Oper} {a : Act} {w : World} {t : TypeId} {x : Operand} {ad : Addr} {v : Value} (ho : o.op = .load t x) (hx : a.eval x = .pointer (some ad)) (hr : (Instr.loadAt t (.pointer (some ad))).run P w = .ok v w) : (execOp a.eval o).run P w = .ok (.value v) w := by
  unfold execOp
  simp only [ho, hx, Sem.run_bind, hr, Result.andThen_ok]
  rfl
theorem region_start {P : Program} {ops : Array Oper} {Q : Exit → Act → World → Prop} {id : Nat} {a : Act} {w : World} (hm : P.follows .mixedOrders = true) (hs : ops.size = 16)
    (h : wpAny P .any ops Q 16 #[false, false, false, false, false, false, false, false, false, false, false, false, false, false, false, false] a w.drew) : (Code.region id ops true).wp P Q a w :=
  wp_region_any hm (by rw [hs]; exact h)
theorem take1 {P : Program} {ops : Array Oper} {Q : Exit → Act → World → Prop} {i : Nat} {oi : Oper} {v : Value} {fuel : Nat} {listed : Array Bool} {a : Act} {w : World} {d : Option Tmp} (hi : ops[i]? = some oi)
    (hs : Region.noSelect ops = true) (hf : Region.free .any ops listed i = true) (hr : (Region.ready .any ops listed).contains i = true) (hd : oi.dst = d)
    (hQ : ∀ c a w, Q (.panic c) (a.put d v) w → Q (.panic c) a w) (hw : Region.wanted oi (yielded ops a.tmps) = true) (hy : ∀ w, (execOp a.eval oi).run P w = .ok (.value v) w)
    (h : wpAny P .any ops Q fuel (listed.setIfInBounds i true) (a.put d v) w) : wpAny P .any ops Q (fuel + 1) listed a w := by
  subst hd
  exact wpAny_take hi hs hf hr hQ (.inl ⟨hw, hy⟩) h
theorem wpOp_val {P : Program} {ops : Array Oper} {Q : Exit → Act → World → Prop} {i : Nat} {o : Oper} {K : Act → World → Prop} {a : Act} {w w' : World} {v : Value} {d : Option Tmp} (ho : ops[i]? = some o) (hg : o.guard = none) (hd : o.dst = d)
    (hr : (execOp a.eval o).run P w = .ok (.value v) w') (h : K (a.put d v) w') : wpOp P ops Q i K a w := wpOp_ok ho hg hr (hd ▸ h)
theorem wpOp_skip {P : Program} {ops : Array Oper} {Q : Exit → Act → World → Prop} {i : Nat} {o : Oper} {K : Act → World → Prop} {a : Act} {w w' : World} (ho : ops[i]? = some o) (hg : o.guard = none) (hd : o.dst = none)
    (hr : (execOp a.eval o).run P w = .ok .skip w') (h : K a w') : wpOp P ops Q i K a w := by
  refine wpOp_step ho hg ?_
  have hw : Region.wanted o (yielded ops a.tmps) = true := by simp [Region.wanted, hg]
  rw [if_pos hw]
  unfold Oper.wp
  rw [hr]
  show K (a.put o.dst undef) w'
  rw [hd]
  exact h
theorem Mid3.store {EI EU EJ : TypeId} {w0 : World} {bx : Nat} {q r k : Int} {vB cO cR cD : Value} {lO lR lD : List Int} {w : World} (h : Mid3 EI EU EJ w0 bx q r k vB cO lO cR lR cD lD none none none w) (hbx : w0.heap.size ≤ bx) (v : Value) :
    Mid3 EI EU EJ w0 bx q r k v cO lO cR lR cD lD none none none (w.setCell ⟨bx, 0, none⟩ v) :=
  ⟨h.b.setCell hbx v, h.o.block (fun j hj => Below.heap_setCell _ _ _ _ (by intro e; exact h.no (by rw [hj, e]))), h.u.block (fun j hj => Below.heap_setCell _ _ _ _ (by intro e; exact h.nr (by rw [hj, e]))), h.d.block (fun j hj => Below.heap_setCell _ _ _ _ (by intro e; exact h.nd (by rw [hj, e]))),
    World.cell?_setCell_same _ _ _ h.c, by rw [World.frozen?_setCell]; exact h.f, h.od, h.or, h.dr, h.no, h.nr, h.nd, fun g e => by (cases e), fun g e => by (cases e), fun g e => by (cases e)⟩
/-- An operation of the statement. -/
def OpAt (ops : Array Oper) (i t : Nat) (o : Oper) : Prop := ops[i]? = some o ∧ o.guard = none ∧ o.dst = some t
/-- The statement's operations. -/
structure Ops3 (P : Program) (ops : Array Oper) (EI EU EJ TI TU TJ : TypeId) (a0 : Act) (bx : Nat) (q r k : Int) (vO vB vD : Value) (o3 o4 o5 o7 o8 o11 o12 : Oper) (s4 s12 : Operand) : Prop where
  hsz : 60 ≤ a0.tmps.size
  h3 : OpAt ops 3 50 o3
  h4 : OpAt ops 4 51 o4
  h5 : OpAt ops 5 52 o5
  h7 : OpAt ops 7 54 o7
  h8 : OpAt ops 8 55 o8
  h11 : OpAt ops 11 58 o11
  h12 : OpAt ops 12 59 o12
  e3 : ∀ a w, Agree a0 a → (execOp a.eval o3).run P w = .ok (.value (sl w.heap.size)) (w.alloc (.cells #[.int .i64 q] EI))
  e7 : ∀ a w, Agree a0 a → (execOp a.eval o7).run P w = .ok (.value (sl w.heap.size)) (w.alloc (.cells #[.int .u64 r] EU))
  e11 : ∀ a w, Agree a0 a → (execOp a.eval o11).run P w = .ok (.value (sl w.heap.size)) (w.alloc (.cells #[.int .i64 k] EJ))
  e5 : ∀ a w, Agree a0 a → w.cell? ⟨bx, 0, none⟩ = some vB → (execOp a.eval o5).run P w = .ok (.value vB) w
  c4 : o4.op = .call { callee := .builtin .append, args := #[s4, .tmp 50], argTypes := #[TI, TI] }
  c8 : o8.op = .call { callee := .builtin .append, args := #[.tmp 52, .tmp 54], argTypes := #[TU, TU] }
  c12 : o12.op = .call { callee := .builtin .append, args := #[s12, .tmp 58], argTypes := #[TJ, TJ] }
  s4 : Plain s4 ∧ a0.eval s4 = vO
  s12 : Plain s12 ∧ a0.eval s12 = vD
  iI : (P.info? EI).map (fun i => (i.zero, i.size, i.bytes)) = some (some (.int .i64 0), 1, 8)
  iU : (P.info? EU).map (fun i => (i.zero, i.size, i.bytes)) = some (some (.int .u64 0), 1, 8)
  iJ : (P.info? EJ).map (fun i => (i.zero, i.size, i.bytes)) = some (some (.int .i64 0), 1, 8)
  tI : P.underlying TI = some (.slice EI)
  tU : P.underlying TU = some (.slice EU)
  tJ : P.underlying TJ = some (.slice EJ)
  r0 : ∀ b1 b2 b3 l, Region.ready .any ops (Lst b1 false l b2 false b3 false) = rd0 b1 b2 b3 l
  r1 : ∀ b2 b3 l, Region.ready .any ops (Lst true true l b2 false b3 false) = rd1 b2 b3 l
  r2 : ∀ b3, Region.ready .any ops (Lst true true true true true b3 false) = rd2 b3

section
variable {P : Program} {ops : Array Oper} {Q : Exit → Act → World → Prop} {EI EU EJ TI TU TJ : TypeId} {a0 : Act} {bx : Nat} {q r k : Int} {vO vB vD : Value} {o3 o4 o5 o7 o8 o11 o12 : Oper} {s4 s12 : Operand} {w0 : World} {lO lR lD : List Int}
/-- What is left behind the three appends. -/
def Fin3 (P : Program) (ops : Array Oper) (Q : Exit → Act → World → Prop) (EI EU EJ : TypeId) (w0 : World) (a0 : Act) (bx : Nat) (q r k : Int) (vB : Value) (lO lR lD : List Int) : Prop :=
  ∀ n1 v1 n2 v2 n3 v3 w, Mid3 EI EU EJ w0 bx q r k vB v1 (lO ++ [q]) v2 (lR ++ [r]) v3 (lD ++ [k]) none none none w → wpAny P .any ops Q 3 (Lst true true true true true true true) (chn a0 vB true (sl n1) true v1 true true (sl n2) true v2 true (sl n3) true v3) w

theorem app3_s2 (O : Ops3 P ops EI EU EJ TI TU TJ a0 bx q r k vO vB vD o3 o4 o5 o7 o8 o11 o12 s4 s12) (hD : lD.length < 100000000) (hf : Fin3 P ops Q EI EU EJ w0 a0 bx q r k vB lO lR lD) :
    ∀ b3 n1 v1 n2 v2 n3 w, Mid3 EI EU EJ w0 bx q r k vB v1 (lO ++ [q]) v2 (lR ++ [r]) vD lD none none (og b3 n3) w → wpAny P .any ops Q (nf b3 + 4) (Lst true true true true true b3 false) (chn a0 vB true (sl n1) true v1 true true (sl n2) true v2 b3 (sl n3) false undef) w := by
  have key : ∀ n1 v1 n2 v2 n3 w, Mid3 EI EU EJ w0 bx q r k vB v1 (lO ++ [q]) v2 (lR ++ [r]) vD lD none none (some n3) w → wpAny P .any ops Q 4 (Lst true true true true true true false) (chn a0 vB true (sl n1) true v1 true true (sl n2) true v2 true (sl n3) false undef) w := by
    intro n1 v1 n2 v2 n3 w h
    refine ⟨fun e => by rw [O.r2] at e; exact absurd e (by decide), fun i hi => ?_⟩
    rw [O.r2] at hi
    obtain rfl : i = 12 := by simpa [rd2] using hi
    refine wpOp_step O.h12.1 O.h12.2.1 (step_appI w O.h12.2.1 s12 (.tmp 58) TJ O.c12 w0.heap.size EJ O.iJ O.tJ vD lD ((chn_agree s12 O.s12.1).trans O.s12.2) h.d n3 k (chn_58 O.hsz) (h.p3 n3 rfl).1 hD h.b.size ?_)
    intro v' w' hown hb hk
    rw [O.h12.2.2, chn_p59, lst_12]
    exact hf _ _ _ _ _ _ _ (h.ap3 hown hb hk)
  intro b3 n1 v1 n2 v2 n3 w h
  cases b3
  · refine ⟨fun e => by rw [O.r2] at e; exact absurd e (by decide), fun i hi => ?_⟩
    rw [O.r2] at hi
    obtain rfl : i = 11 := by simpa [rd2] using hi
    refine wpOp_ok O.h11.1 O.h11.2.1 (O.e11 _ w chn_agree) ?_
    rw [O.h11.2.2, chn_p58, lst_11]
    exact key _ _ _ _ _ _ (h.mk3 EJ)
  · exact key _ _ _ _ _ _ h

theorem app3_s1 (O : Ops3 P ops EI EU EJ TI TU TJ a0 bx q r k vO vB vD o3 o4 o5 o7 o8 o11 o12 s4 s12) (hR : lR.length < 100000000) (hD : lD.length < 100000000) (hf : Fin3 P ops Q EI EU EJ w0 a0 bx q r k vB lO lR lD) :
    ∀ n b2 b3 l n1 v1 n2 n3 w, nf b2 + nf b3 + nf l = n → Mid3 EI EU EJ w0 bx q r k vB v1 (lO ++ [q]) vB lR vD lD none (og b2 n2) (og b3 n3) w → wpAny P .any ops Q (n + 5) (Lst true true l b2 false b3 false) (chn a0 vB true (sl n1) true v1 l b2 (sl n2) false undef b3 (sl n3) false undef) w := by
  intro n
  induction n with
  | zero =>
    intro b2 b3 l n1 v1 n2 n3 w hn h
    obtain ⟨rfl, rfl, rfl⟩ : b2 = true ∧ b3 = true ∧ l = true := by cases b2 <;> cases b3 <;> cases l <;> simp_all [nf]
    refine ⟨fun e => by rw [O.r1] at e; exact absurd e (by decide), fun i hi => ?_⟩
    rw [O.r1] at hi
    obtain rfl : i = 8 := by simpa [rd1] using hi
    refine wpOp_step O.h8.1 O.h8.2.1 (step_appU w O.h8.2.1 (.tmp 52) (.tmp 54) TU O.c8 w0.heap.size EU O.iU O.tU vB lR (chn_52 O.hsz) h.u n2 r (chn_54 O.hsz) (h.p2 n2 rfl).1 hR h.b.size ?_)
    intro v' w' hown hb hk
    rw [O.h8.2.2, chn_p55, lst_8]
    exact app3_s2 O hD hf true _ _ _ _ _ _ (h.ap2 hown hb hk)
  | succ n ih =>
    intro b2 b3 l n1 v1 n2 n3 w hn h
    refine ⟨fun e => by rw [O.r1] at e; cases b2 <;> cases b3 <;> cases l <;> simp_all [rd1, nf], fun i hi => ?_⟩
    rw [O.r1] at hi
    have hc : (i = 5 ∧ l = false) ∨ (i = 7 ∧ b2 = false) ∨ (i = 8 ∧ b2 = true ∧ l = true) ∨ (i = 11 ∧ b3 = false) := by
      cases b2 <;> cases b3 <;> cases l <;> simp_all [rd1]
    rcases hc with ⟨rfl, rfl⟩ | ⟨rfl, rfl⟩ | ⟨rfl, rfl, rfl⟩ | ⟨rfl, rfl⟩
    · refine wpOp_ok O.h5.1 O.h5.2.1 (O.e5 _ w chn_agree h.c) ?_
      rw [O.h5.2.2, chn_p52, lst_5]
      exact ih _ _ _ _ _ _ _ _ (by simp [nf] at hn ⊢; omega) h
    · refine wpOp_ok O.h7.1 O.h7.2.1 (O.e7 _ w chn_agree) ?_
      rw [O.h7.2.2, chn_p54, lst_7]
      exact ih _ _ _ _ _ _ _ _ (by simp [nf] at hn ⊢; omega) (h.mk2 EU)
    · obtain rfl : b3 = false := by cases b3 <;> simp_all [nf]
      obtain rfl : n = 0 := by simp [nf] at hn; omega
      refine wpOp_step O.h8.1 O.h8.2.1 (step_appU w O.h8.2.1 (.tmp 52) (.tmp 54) TU O.c8 w0.heap.size EU O.iU O.tU vB lR (chn_52 O.hsz) h.u n2 r (chn_54 O.hsz) (h.p2 n2 rfl).1 hR h.b.size ?_)
      intro v' w' hown hb hk
      rw [O.h8.2.2, chn_p55, lst_8]
      exact app3_s2 O hD hf false _ _ _ _ n3 _ (h.ap2 hown hb hk)
    · refine wpOp_ok O.h11.1 O.h11.2.1 (O.e11 _ w chn_agree) ?_
      rw [O.h11.2.2, chn_p58, lst_11]
      exact ih _ _ _ _ _ _ _ _ (by simp [nf] at hn ⊢; omega) (h.mk3 EJ)

theorem app3_s0 (O : Ops3 P ops EI EU EJ TI TU TJ a0 bx q r k vO vB vD o3 o4 o5 o7 o8 o11 o12 s4 s12) (hO : lO.length < 100000000) (hR : lR.length < 100000000) (hD : lD.length < 100000000) (hf : Fin3 P ops Q EI EU EJ w0 a0 bx q r k vB lO lR lD) :
    ∀ n b1 b2 b3 l n1 n2 n3 w, nf b1 + nf b2 + nf b3 + nf l = n → Mid3 EI EU EJ w0 bx q r k vB vO lO vB lR vD lD (og b1 n1) (og b2 n2) (og b3 n3) w → wpAny P .any ops Q (n + 6) (Lst b1 false l b2 false b3 false) (chn a0 vB b1 (sl n1) false undef l b2 (sl n2) false undef b3 (sl n3) false undef) w := by
  have ap : ∀ n b2 b3 l n1 n2 n3 w, nf b2 + nf b3 + nf l = n → Mid3 EI EU EJ w0 bx q r k vB vO lO vB lR vD lD (some n1) (og b2 n2) (og b3 n3) w → wpOp P ops Q 4 (wpAny P .any ops Q (n + 5) ((Lst true false l b2 false b3 false).setIfInBounds 4 true)) (chn a0 vB true (sl n1) false undef l b2 (sl n2) false undef b3 (sl n3) false undef) w := by
    intro n b2 b3 l n1 n2 n3 w hn h
    refine wpOp_step O.h4.1 O.h4.2.1 (step_appI w O.h4.2.1 s4 (.tmp 50) TI O.c4 w0.heap.size EI O.iI O.tI vO lO ((chn_agree s4 O.s4.1).trans O.s4.2) h.o n1 q (chn_50 O.hsz) (h.p1 n1 rfl).1 hO h.b.size ?_)
    intro v' w' hown hb hk
    rw [O.h4.2.2, chn_p51, lst_4]
    exact app3_s1 O hR hD hf n b2 b3 l _ _ _ _ _ hn (h.ap1 hown hb hk)
  intro n
  induction n with
  | zero =>
    intro b1 b2 b3 l n1 n2 n3 w hn h
    obtain ⟨rfl, rfl, rfl, rfl⟩ : b1 = true ∧ b2 = true ∧ b3 = true ∧ l = true := by cases b1 <;> cases b2 <;> cases b3 <;> cases l <;> simp_all [nf]
    refine ⟨fun e => by rw [O.r0] at e; exact absurd e (by decide), fun i hi => ?_⟩
    rw [O.r0] at hi
    obtain rfl : i = 4 := by simpa [rd0] using hi
    exact ap 0 _ _ _ _ _ _ _ hn h
  | succ n ih =>
    intro b1 b2 b3 l n1 n2 n3 w hn h
    refine ⟨fun e => by rw [O.r0] at e; cases b1 <;> simp_all [rd0], fun i hi => ?_⟩
    rw [O.r0] at hi
    have hc : (i = 3 ∧ b1 = false) ∨ (i = 4 ∧ b1 = true) ∨ (i = 5 ∧ l = false) ∨ (i = 7 ∧ b2 = false) ∨ (i = 11 ∧ b3 = false) := by
      cases b1 <;> cases b2 <;> cases b3 <;> cases l <;> simp_all [rd0] <;> omega
    rcases hc with ⟨rfl, rfl⟩ | ⟨rfl, rfl⟩ | ⟨rfl, rfl⟩ | ⟨rfl, rfl⟩ | ⟨rfl, rfl⟩
    · refine wpOp_ok O.h3.1 O.h3.2.1 (O.e3 _ w chn_agree) ?_
      rw [O.h3.2.2, chn_p50, lst_3]
      exact ih _ _ _ _ _ _ _ _ (by simp [nf] at hn ⊢; omega) (h.mk1 EI)
    · exact ap (n + 1) _ _ _ _ _ _ _ (by simp [nf] at hn ⊢; omega) h
    · refine wpOp_ok O.h5.1 O.h5.2.1 (O.e5 _ w chn_agree h.c) ?_
      rw [O.h5.2.2, chn_p52, lst_5]
      exact ih _ _ _ _ _ _ _ _ (by simp [nf] at hn ⊢; omega) h
    · refine wpOp_ok O.h7.1 O.h7.2.1 (O.e7 _ w chn_agree) ?_
      rw [O.h7.2.2, chn_p54, lst_7]
      exact ih _ _ _ _ _ _ _ _ (by simp [nf] at hn ⊢; omega) (h.mk2 EU)
    · refine wpOp_ok O.h11.1 O.h11.2.1 (O.e11 _ w chn_agree) ?_
      rw [O.h11.2.2, chn_p58, lst_11]
      exact ih _ _ _ _ _ _ _ _ (by simp [nf] at hn ⊢; omega) (h.mk3 EJ)
/-- The whole: from the plain operations on. -/
theorem app3_run (O : Ops3 P ops EI EU EJ TI TU TJ a0 bx q r k vO vB vD o3 o4 o5 o7 o8 o11 o12 s4 s12) (hO : lO.length < 100000000) (hR : lR.length < 100000000) (hD : lD.length < 100000000) (hf : Fin3 P ops Q EI EU EJ w0 a0 bx q r k vB lO lR lD) {w : World}
    (h : Mid3 EI EU EJ w0 bx q r k vB vO lO vB lR vD lD none none none w) : wpAny P .any ops Q 10 (Lst false false false false false false false) a0 w :=
  app3_s0 O hO hR hD hf 4 false false false false 0 0 0 w rfl h
theorem app3_go (hsz : 60 ≤ a0.tmps.size) (a3 : ops[3]? = some o3) (b3 : o3.guard = none) (d3 : o3.dst = some 50) (a4 : ops[4]? = some o4) (b4 : o4.guard = none) (d4 : o4.dst = some 51) (a5 : ops[5]? = some o5) (b5 : o5.guard = none) (d5 : o5.dst = some 52) (a7 : ops[7]? = some o7) (b7 : o7.guard = none) (d7 : o7.dst = some 54) (a8 : ops[8]? = some o8) (b8 : o8.guard = none) (d8 : o8.dst = some 55) (a11 : ops[11]? = some o11) (b11 : o11.guard = none) (d11 : o11.dst = some 58) (a12 : ops[12]? = some o12) (b12 : o12.guard = none) (d12 : o12.dst = some 59)
    (e3 : ∀ a w, Agree a0 a → (execOp a.eval o3).run P w = .ok (.value (sl w.heap.size)) (w.alloc (.cells #[.int .i64 q] EI)))
    (e7 : ∀ a w, Agree a0 a → (execOp a.eval o7).run P w = .ok (.value (sl w.heap.size)) (w.alloc (.cells #[.int .u64 r] EU)))
    (e11 : ∀ a w, Agree a0 a → (execOp a.eval o11).run P w = .ok (.value (sl w.heap.size)) (w.alloc (.cells #[.int .i64 k] EJ)))
    (e5 : ∀ a w, Agree a0 a → w.cell? ⟨bx, 0, none⟩ = some vB → (execOp a.eval o5).run P w = .ok (.value vB) w)
    (c4 : o4.op = .call { callee := .builtin .append, args := #[s4, .tmp 50], argTypes := #[TI, TI] })
    (c8 : o8.op = .call { callee := .builtin .append, args := #[.tmp 52, .tmp 54], argTypes := #[TU, TU] })
    (c12 : o12.op = .call { callee := .builtin .append, args := #[s12, .tmp 58], argTypes := #[TJ, TJ] })
    (p4 : Plain s4) (q4 : a0.eval s4 = vO) (p12 : Plain s12) (q12 : a0.eval s12 = vD)
    (iI : (P.info? EI).map (fun i => (i.zero, i.size, i.bytes)) = some (some (.int .i64 0), 1, 8)) (iU : (P.info? EU).map (fun i => (i.zero, i.size, i.bytes)) = some (some (.int .u64 0), 1, 8)) (iJ : (P.info? EJ).map (fun i => (i.zero, i.size, i.bytes)) = some (some (.int .i64 0), 1, 8))
    (tI : P.underlying TI = some (.slice EI)) (tU : P.underlying TU = some (.slice EU)) (tJ : P.underlying TJ = some (.slice EJ))
    (r0 : ∀ b1 b2 b3 l, Region.ready .any ops (Lst b1 false l b2 false b3 false) = rd0 b1 b2 b3 l) (r1 : ∀ b2 b3 l, Region.ready .any ops (Lst true true l b2 false b3 false) = rd1 b2 b3 l) (r2 : ∀ b3, Region.ready .any ops (Lst true true true true true b3 false) = rd2 b3)
    (hO : lO.length < 100000000) (hR : lR.length < 100000000) (hD : lD.length < 100000000) {w : World}
    (h : Mid3 EI EU EJ w0 bx q r k vB vO lO vB lR vD lD none none none w) (hf : Fin3 P ops Q EI EU EJ w0 a0 bx q r k vB lO lR lD) : wpAny P .any ops Q 10 (Lst false false false false false false false) a0 w :=
  app3_run (TI := TI) (TU := TU) (TJ := TJ) ⟨hsz, ⟨a3, b3, d3⟩, ⟨a4, b4, d4⟩, ⟨a5, b5, d5⟩, ⟨a7, b7, d7⟩, ⟨a8, b8, d8⟩, ⟨a11, b11, d11⟩, ⟨a12, b12, d12⟩, e3, e7, e11, e5, c4, c8, c12, ⟨p4, q4⟩, ⟨p12, q12⟩, iI, iU, iJ, tI, tU, tJ, r0, r1, r2⟩ hO hR hD hf h
end
end Go.Proofs.Ytcpjbnfmkhaadaa
