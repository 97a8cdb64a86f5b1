/-
  The judgement in company with a state of one's own, and the walk in company over it. No condition.
  A rank for the judgement in company: trees; many of them, of which one is lowered. No condition.
  The walk in company: a region that asks the tape for its order. No condition.
  A worker's terms: its own blocks, what nobody writes, and its own places of one row that many write. No condition.
  Single operations of a worker in company. No condition.
  What a worker holds of the memory while it goes. No condition.
  The worker's drawn region in company: it reads, calls, and lays the result at its place. No condition.
-/
import Derived.Test.YtpigjhagdpeofaaSm6
import Derived.Conc.Company
import Derived.Conc.CompanyDraw
import Derived.Conc.CompanyMem

namespace Go.Proofs.Ytpigjhagdpeofaa.Sim
open Go Go.Conc
set_option linter.unusedVariables false

inductive WkG {I : Type} (P : Program) (m : Bool) (R : I → World → World → Prop) (D : I → I → World → World → Array Event → Prop) (S : I → Goroutine → World → Prop) : I → Goroutine → World → Prop
  | stop {i : I} {g : Goroutine} {w : World} (h : ∀ w1, R i w w1 → S i g w1) : WkG P m R D S i g w
  | step' {i : I} {g : Goroutine} {w : World} (hr : g.status = .running) (G' : World → Goroutine) (W' : World → World) (E' : World → Array Event) (J : World → I)
      (h : ∀ w1, R i w w1 → stepG P m g w1 = .go (G' w1) (W' w1) (E' w1) ∧ D i (J w1) w1 (W' w1) (E' w1)) (k : ∀ w1, R i w w1 → WkG P m R D S (J w1) (G' w1) (W' w1)) : WkG P m R D S i g w
structure TermsG {I : Type} (R : I → World → World → Prop) (D : I → I → World → World → Array Event → Prop) : Prop where
  refl : ∀ i w, R i w w
  trans : ∀ i a b c, R i a b → R i b c → R i a c
  idle : ∀ i w, D i i w w #[]
section
variable {I : Type} {P : Program} {m : Bool} {R : I → World → World → Prop} {D : I → I → World → World → Array Event → Prop} {S : I → Goroutine → World → Prop} {i : I} {g : Goroutine} {w w1 : World}
theorem WkG.step (hr : g.status = .running) (h : ∀ w1, R i w w1 → ∃ g' w' es j, stepG P m g w1 = .go g' w' es ∧ D i j w1 w' es ∧ WkG P m R D S j g' w') : WkG P m R D S i g w := by
  classical
  refine .step' hr (fun w1 => if h1 : R i w w1 then (h w1 h1).choose else g) (fun w1 => if h1 : R i w w1 then (h w1 h1).choose_spec.choose else w1) (fun w1 => if h1 : R i w w1 then (h w1 h1).choose_spec.choose_spec.choose else #[])
    (fun w1 => if h1 : R i w w1 then (h w1 h1).choose_spec.choose_spec.choose_spec.choose else i) (fun w1 h1 => ?_) (fun w1 h1 => ?_)
  · simp only [dif_pos h1]
    exact ⟨(h w1 h1).choose_spec.choose_spec.choose_spec.choose_spec.1, (h w1 h1).choose_spec.choose_spec.choose_spec.choose_spec.2.1⟩
  · simp only [dif_pos h1]
    exact (h w1 h1).choose_spec.choose_spec.choose_spec.choose_spec.2.2
theorem WkG.rely (T : TermsG R D) (h : WkG P m R D S i g w) (k : R i w w1) : WkG P m R D S i g w1 := by
  cases h with
  | stop h => exact .stop fun w2 k2 => h w2 (T.trans _ _ _ _ k k2)
  | step' hr G' W' E' M' h h2 => exact .step' hr G' W' E' M' (fun w2 k2 => h w2 (T.trans _ _ _ _ k k2)) fun w2 k2 => h2 w2 (T.trans _ _ _ _ k k2)
theorem WkG.bind {S2 : I → Goroutine → World → Prop} (h : WkG P m R D S i g w) (k : ∀ i g w, (∀ w1, R i w w1 → S i g w1) → WkG P m R D S2 i g w) : WkG P m R D S2 i g w := by
  induction h with
  | stop h => exact k _ _ _ h
  | step' hr G' W' E' M' h _ ih => exact .step' hr G' W' E' M' h ih
/-- A step that looks at no world. -/
theorem WkG.idle (T : TermsG R D) {g' : Goroutine} (hr : g.status = .running) (h : ∀ w, stepG P m g w = .go g' w #[]) (k : WkG P m R D S i g' w) : WkG P m R D S i g w :=
  .step hr fun w1 h1 => ⟨_, _, _, i, h w1, T.idle _ _, k.rely T h1⟩
/-- From a judgement of its own into one with a state. -/
theorem Wk.toG {Rd : Nat → Prop} {S0 : (Nat → Prop) → Goroutine → World → Prop} (Inv : (Nat → Prop) → I → World → Prop) (h1 : ∀ M i w w1, Inv M i w → R i w w1 → Rely M Rd w w1 ∧ Inv M i w1) (h2 : ∀ M M' i w w' es, Inv M i w → OwnS M M' Rd w w' es → ∃ j, D i j w w' es ∧ Inv M' j w')
    {M : Nat → Prop} (h : Wk P m Rd S0 M g w) : ∀ {i : I}, Inv M i w → WkG P m R D (fun i g w => ∃ M, Inv M i w ∧ S0 M g w) i g w := by
  induction h with
  | stop h => exact fun hi => .stop fun w1 k => ⟨_, (h1 _ _ _ _ hi k).2, h w1 (h1 _ _ _ _ hi k).1⟩
  | step' hr G' W' E' M' h _ ih =>
    intro i hi
    refine .step hr fun w1 k => ?_
    have a := h1 _ _ _ _ hi k
    obtain ⟨j, d, hj⟩ := h2 _ _ _ _ _ _ a.2 (h w1 a.1).2
    exact ⟨_, _, _, j, (h w1 a.1).1, d, ih w1 a.1 hj⟩
end

def thenG {I : Type} (K : Act → I → World → Prop) (Q : Exit → Act → I → World → Prop) : Exit → Act → I → World → Prop
  | .normal, a, i, w => K a i w
  | e, a, i, w => Q e a i w
def inBlockG {I : Type} (id : Nat) (Q : Exit → Act → I → World → Prop) : Exit → Act → I → World → Prop
  | .exit id', a, i, w => if id' = id then Q .normal a i w else Q (.exit id') a i w
  | e, a, i, w => Q e a i w
section
variable {I : Type} (P : Program) (m : Bool) (R : I → World → World → Prop) (D : I → I → World → World → Array Event → Prop)
def AfterG (S : I → Goroutine → World → Prop) (b : Frame) (k : List Item) (cs : List Frame) : Exit → Act → I → World → Prop
  | .normal, a, i, w => WkG P m R D S i (G (b.at a k) cs) w
  | .exit id, a, i, w => ∃ k', exitTo id k = some k' ∧ WkG P m R D S i (G (b.at a k') cs) w
  | .ret, a, i, w => ∀ todo, WkG P m R D S i (G { b.at a todo with mode := .returning } cs) w
  | _, _, _, _ => False
def wpG (fn : FuncId) (c : Code) (Q : Exit → Act → I → World → Prop) (a : Act) (i : I) (w : World) : Prop :=
  ∀ (b : Frame) (k : List Item) (cs : List Frame) (S : I → Goroutine → World → Prop), b.fn = fn → b.kind ≠ .early → (∀ e a' i' w', Q e a' i' w' → AfterG P m R D S b k cs e a' i' w') → WkG P m R D S i (G (b.at a (.code c :: k)) cs) w
def opsG (fn : FuncId) (ops : Array Oper) (todo : List Nat) (Q : Exit → Act → I → World → Prop) (a : Act) (i : I) (w : World) : Prop :=
  ∀ (b : Frame) (k : List Item) (cs : List Frame) (S : I → Goroutine → World → Prop), b.fn = fn → b.kind ≠ .early → (∀ e a' i' w', Q e a' i' w' → AfterG P m R D S b k cs e a' i' w') → WkG P m R D S i (G (b.at a (.inRegion ops todo :: k)) cs) w
end
section
variable {I : Type} {P : Program} {m : Bool} {R : I → World → World → Prop} {D : I → I → World → World → Array Event → Prop} {fn : FuncId} {Q : Exit → Act → I → World → Prop} {a : Act} {i : I} {w : World}
theorem AfterG.push {S : I → Goroutine → World → Prop} {b : Frame} {x : Item} {k : List Item} {cs : List Frame} {e : Exit} {a : Act} {i : I} {w : World} (hx : x.plain = true) (he : e ≠ .normal) (h : AfterG P m R D S b k cs e a i w) : AfterG P m R D S b (x :: k) cs e a i w := by
  cases e with
  | normal => exact absurd rfl he
  | exit id => obtain ⟨k', hk, hg⟩ := h; exact ⟨k', by cases x <;> simp_all [exitTo, Item.plain], hg⟩
  | ret => exact h
  | goto l => exact h
  | panic ch => exact h
  | outgrown => exact h
theorem wpG_mono {c : Code} {Q' : Exit → Act → I → World → Prop} (h : wpG P m R D fn c Q a i w) (hq : ∀ e a i w, Q e a i w → Q' e a i w) : wpG P m R D fn c Q' a i w :=
  fun b k cs S hb hk hc => h b k cs S hb hk fun e a' i' w' q => hc e a' i' w' (hq e a' i' w' q)
theorem wpG_rely (T : TermsG R D) {c : Code} {w1 : World} (h : wpG P m R D fn c Q a i w) (hr : R i w w1) : wpG P m R D fn c Q a i w1 := fun b k cs S hb hk hc => (h b k cs S hb hk hc).rely T hr
theorem wpG_skip (T : TermsG R D) (h : Q .normal a i w) : wpG P m R D fn .skip Q a i w := fun b k cs S _ _ hc => .idle T rfl (fun w => stepG_skip) (hc _ _ _ _ h)
theorem wpG_ret (T : TermsG R D) (h : Q .ret a i w) : wpG P m R D fn .ret Q a i w := fun b k cs S _ _ hc => .idle T rfl (fun w => stepG_ret') (hc _ _ _ _ h _)
theorem wpG_exit (T : TermsG R D) {id : Nat} (h : Q (.exit id) a i w) : wpG P m R D fn (.exit id) Q a i w := fun b k cs S _ _ hc => by
  obtain ⟨k', hk', hg⟩ := hc _ _ _ _ h
  exact .idle T rfl (fun w => stepG_exit hk') hg
theorem wpG_seq (T : TermsG R D) {x y : Code} (h : wpG P m R D fn x (thenG (fun a' i' w' => wpG P m R D fn y Q a' i' w') Q) a i w) : wpG P m R D fn (.seq x y) Q a i w := by
  intro b k cs S hb hk hc
  refine .idle T rfl (fun w => stepG_seq) (h b (.code y :: k) cs S hb hk fun e a' i' w' q => ?_)
  cases e with
  | normal => exact q b k cs S hb hk hc
  | exit id => exact (hc _ _ _ _ q).push rfl (by simp)
  | ret => exact (hc _ _ _ _ q).push (x := .code y) rfl (by simp)
  | goto l => exact hc _ _ _ _ q
  | panic ch => exact hc _ _ _ _ q
  | outgrown => exact hc _ _ _ _ q
theorem wpG_cond (T : TermsG R D) {c : Operand} {x y : Code} {t : Bool} (hc : a.eval c = .bool t) (h : wpG P m R D fn (if t then x else y) Q a i w) : wpG P m R D fn (.cond c x y) Q a i w :=
  fun b k cs S hb hk hq => .idle T rfl (fun w => stepG_cond hc) (h b k cs S hb hk hq)
theorem wpG_block (T : TermsG R D) {id : Nat} {c : Code} (h : wpG P m R D fn c (inBlockG id Q) a i w) : wpG P m R D fn (.block id c) Q a i w := by
  intro b k cs S hb hk hc
  refine .idle T rfl (fun w => stepG_block) (h b (.inBlock id :: k) cs S hb hk fun e a' i' w' q => ?_)
  cases e with
  | normal => exact .idle T rfl (fun w => stepG_inBlock) (hc _ _ _ _ q)
  | exit id' =>
    by_cases hid : id' = id
    · simp only [inBlockG, hid, if_true] at q
      exact ⟨k, by simp [exitTo, hid], hc _ _ _ _ q⟩
    · simp only [inBlockG, hid, if_false] at q
      obtain ⟨k', hk', hg⟩ := hc _ _ _ _ q
      have : (id == id') = false := by simp; exact fun h => hid h.symm
      exact ⟨k', by simp [exitTo, this, hk'], hg⟩
  | ret => exact hc _ _ _ _ q
  | goto l => exact hc _ _ _ _ q
  | panic ch => exact hc _ _ _ _ q
  | outgrown => exact hc _ _ _ _ q
theorem wpG_loop (T : TermsG R D) {c : Code} (J : Act → I → World → Prop) (μ : Act → Nat) (h0 : J a i w)
    (round : ∀ a i w, J a i w → wpG P m R D fn c (thenG (fun a' i' w' => J a' i' w' ∧ μ a' < μ a) Q) a i w) : wpG P m R D fn (.loop c) Q a i w := by
  intro b k cs S hb hk hc
  have key : ∀ N a i w, μ a ≤ N → J a i w → WkG P m R D S i (G (b.at a (.code c :: .inLoop c :: k)) cs) w := by
    intro N
    induction N with
    | zero =>
      intro a i w hμ hJ
      exact round a i w hJ b (.inLoop c :: k) cs S hb hk fun e a' i' w' q => by
        cases e with
        | normal => exact absurd q.2 (by omega)
        | exit id => exact (hc _ _ _ _ q).push rfl (by simp)
        | ret => exact (hc _ _ _ _ q).push (x := .inLoop c) rfl (by simp)
        | goto l => exact hc _ _ _ _ q
        | panic ch => exact hc _ _ _ _ q
        | outgrown => exact hc _ _ _ _ q
    | succ N ih =>
      intro a i w hμ hJ
      exact round a i w hJ b (.inLoop c :: k) cs S hb hk fun e a' i' w' q => by
        cases e with
        | normal => exact .idle T rfl (fun w => stepG_inLoop) (ih a' i' w' (by have := q.2; omega) q.1)
        | exit id => exact (hc _ _ _ _ q).push rfl (by simp)
        | ret => exact (hc _ _ _ _ q).push (x := .inLoop c) rfl (by simp)
        | goto l => exact hc _ _ _ _ q
        | panic ch => exact hc _ _ _ _ q
        | outgrown => exact hc _ _ _ _ q
  exact .idle T rfl (fun w => stepG_loop) (key _ a i w (Nat.le_refl _) h0)
theorem wpG_region (T : TermsG R D) {id : Nat} {ops : Array Oper} (h : opsG P m R D fn ops (List.range ops.size) Q a i w) : wpG P m R D fn (.region id ops false) Q a i w :=
  fun b k cs S hb hk hc => .idle T rfl (fun w => stepG_region) (h b k cs S hb hk hc)
theorem opsG_nil (T : TermsG R D) {ops : Array Oper} (h : Q .normal a i w) : opsG P m R D fn ops [] Q a i w := fun b k cs S _ _ hc => .idle T rfl (fun w => stepG_region_end) (hc _ _ _ _ h)
/-- One operation that yields a value. -/
theorem opsG_value {ops : Array Oper} {n : Nat} {rest : List Nat} {o : Oper} (ho : ops[n]? = some o) (hw : Region.wanted o (yielded ops a.tmps) = true)
    (h : ∀ w1, R i w w1 → ∃ v w' j, (execOp a.eval o).run P w1 = .ok (.value v) w' ∧ D i j w1 w' (seen P fn ((execOp a.eval o).events P w1 #[])) ∧ opsG P m R D fn ops rest Q (a.put o.dst v) j w') : opsG P m R D fn ops (n :: rest) Q a i w := by
  intro b k cs S hb hk hc
  refine .step rfl fun w1 h1 => ?_
  obtain ⟨v, w', j, e, d, q⟩ := h w1 h1
  exact ⟨_, _, _, j, stepG_value ho hw hk e, hb ▸ d, q b k cs S hb hk hc⟩
/-- One operation that yields nothing. -/
theorem opsG_none {ops : Array Oper} {n : Nat} {rest : List Nat} {o : Oper} (ho : ops[n]? = some o) (hw : Region.wanted o (yielded ops a.tmps) = true)
    (h : ∀ w1, R i w w1 → ∃ w' j, (execOp a.eval o).run P w1 = .ok .skip w' ∧ D i j w1 w' (seen P fn ((execOp a.eval o).events P w1 #[])) ∧ opsG P m R D fn ops rest Q (a.put o.dst undef) j w') : opsG P m R D fn ops (n :: rest) Q a i w := by
  intro b k cs S hb hk hc
  refine .step rfl fun w1 h1 => ?_
  obtain ⟨w', j, e, d, q⟩ := h w1 h1
  exact ⟨_, _, _, j, stepG_none ho hw hk e, hb ▸ d, q b k cs S hb hk hc⟩
/-- The callee on its way out; K: what holds behind its return. -/
def RetG (P : Program) (D : I → I → World → World → Array Event → Prop) (base : List Frame) (K : Value → I → World → Prop) (i : I) (g : Goroutine) (w : World) : Prop :=
  ∃ fr' fn' v w' j, g = G fr' base ∧ fr'.mode = .returning ∧ fr'.defers = [] ∧ fr'.kind = .normal ∧ P.funcs[fr'.fn]? = some fn' ∧ (results fn' fr'.tmps).run P w = .ok v w' ∧ D i j w w' (seen P fr'.fn ((results fn' fr'.tmps).events P w #[])) ∧ K v j w'
/-- A call: the callee, and back. -/
theorem opsG_call (T : TermsG R D) {ops : Array Oper} {n : Nat} {rest : List Nat} {o : Oper} (ho : ops[n]? = some o) (hw : Region.wanted o (yielded ops a.tmps) = true)
    (h : ∀ w1, R i w w1 → ∃ g vs w' j, (execOp a.eval o).run P w1 = .ok (.enter g vs) w' ∧ D i j w1 w' (seen P fn ((execOp a.eval o).events P w1 #[])) ∧
      ∀ base, WkG P m R D (RetG P D base (fun v i' w' => opsG P m R D fn ops rest Q (a.put o.dst v) i' w')) j (G (Frame.enter P g vs .normal) base) w') : opsG P m R D fn ops (n :: rest) Q a i w := by
  intro b k cs S hb hk hc
  refine .step rfl fun w1 h1 => ?_
  obtain ⟨g, vs, w', j, e, d, q⟩ := h w1 h1
  refine ⟨_, _, _, j, stepG_enter ho hw hk e, hb ▸ d, (q _).bind fun i2 g2 w2 hs => ?_⟩
  have hr : g2.status = .running := by
    obtain ⟨fr', _, _, _, _, rfl, _⟩ := hs w2 (T.refl _ _)
    rfl
  refine .step hr fun w3 h3 => ?_
  obtain ⟨fr', fn', v, w4, j4, rfl, h5, h6, h7, h8, h9, h10, h11⟩ := hs w3 h3
  refine ⟨G (b.at (a.put o.dst v) (.inRegion ops rest :: k)) cs, w4, _, j4, ?_, h10, h11 b k cs S hb hk hc⟩
  rw [← Option.bind_some (f := (·.dst)) (a := o), ← ho, ← Frame.finish_at]
  simp [G, stepG, unwind, doReturn, h5, h6, h7, h8, h9, GStep.after]
end
end Go.Proofs.Ytpigjhagdpeofaa.Sim

namespace Go.Proofs.Ytpigjhagdpeofaa.Sim
open Go Go.Conc
set_option linter.unusedVariables false

inductive Tr where
  | stop
  | step (f : World → Tr)
inductive Tr.Sub : Tr → Tr → Prop
  | mk (f : World → Tr) (w : World) : Tr.Sub (f w) (.step f)
theorem Tr.wf : WellFounded Tr.Sub := by
  refine ⟨fun t => ?_⟩
  induction t with
  | stop => exact ⟨_, fun y h => by cases h⟩
  | step f ih => exact ⟨_, fun y h => by cases h; exact ih _⟩
/-- One of the first n is lowered, the others stand. -/
def Low {α : Type} (r : α → α → Prop) (n : Nat) (q' q : Nat → α) : Prop := ∃ i, i < n ∧ r (q' i) (q i) ∧ ∀ j, j ≠ i → q' j = q j
theorem Low.acc {α : Type} {r : α → α → Prop} (wf : WellFounded r) : ∀ (n : Nat) (q : Nat → α), Acc (Low r n) q := by
  intro n
  induction n with
  | zero => exact fun q => ⟨_, fun q' ⟨i, hi, _⟩ => by omega⟩
  | succ n ihn =>
    have key : ∀ x, Acc r x → ∀ q : Nat → α, q n = x → Acc (Low r (n + 1)) q := by
      intro x hx
      induction hx with
      | intro x _ ih =>
        intro q hq
        have h := ihn q
        induction h with
        | intro q _ ih2 =>
          refine ⟨_, fun q' ⟨i, hi, hs, ho⟩ => ?_⟩
          by_cases e : i = n
          · subst e
            exact ih (q' i) (hq ▸ hs) q' rfl
          · exact ih2 q' ⟨i, by omega, hs, ho⟩ ((ho n fun e2 => e e2.symm).trans hq)
    exact fun q => key (q n) (wf.apply _) q rfl
theorem Low.wf {α : Type} {r : α → α → Prop} (wf : WellFounded r) (n : Nat) : WellFounded (Low r n) := ⟨Low.acc wf n⟩

section
variable {I : Type} (P : Program) (m : Bool) (R : I → World → World → Prop) (D : I → I → World → World → Array Event → Prop) (S : I → Goroutine → World → Prop)
def WkT : Tr → I → Goroutine → World → Prop
  | .stop, i, g, w => ∀ w1, R i w w1 → S i g w1
  | .step f, i, g, w => g.status = .running ∧ ∀ w1, R i w w1 → ∃ g' w' es j, stepG P m g w1 = .go g' w' es ∧ D i j w1 w' es ∧ WkT (f w1) j g' w'
variable {P m R D S} {i : I} {g : Goroutine} {w w1 : World}
theorem WkG.tree (h : WkG P m R D S i g w) : ∃ t, WkT P m R D S t i g w := by
  classical
  induction h with
  | stop h => exact ⟨.stop, h⟩
  | @step' i g w hr G' W' E' J h _ ih =>
    refine ⟨.step fun w1 => if h1 : R i w w1 then (ih w1 h1).choose else .stop, hr, fun w1 h1 => ⟨_, _, _, _, (h w1 h1).1, (h w1 h1).2, ?_⟩⟩
    simp only [dif_pos h1]
    exact (ih w1 h1).choose_spec
theorem WkT.rely (T : TermsG R D) {t : Tr} (h : WkT P m R D S t i g w) (k : R i w w1) : WkT P m R D S t i g w1 := by
  cases t with
  | stop => exact fun w2 k2 => h w2 (T.trans _ _ _ _ k k2)
  | step f => exact ⟨h.1, fun w2 k2 => h.2 w2 (T.trans _ _ _ _ k k2)⟩
end
end Go.Proofs.Ytpigjhagdpeofaa.Sim

namespace Go.Proofs.Ytpigjhagdpeofaa.Sim
open Go Go.Conc
set_option linter.unusedVariables false

section
variable {I : Type} {P : Program} {m : Bool} {R : I → World → World → Prop} {D : I → I → World → World → Array Event → Prop} {fn : FuncId} {ops : Array Oper} {Q : Exit → Act → I → World → Prop} {md : Region.Mode} {S : I → World → Prop}
theorem WkG.mono {S S2 : I → Goroutine → World → Prop} {i : I} {g : Goroutine} {w : World} (h : WkG P m R D S i g w) (k : ∀ i g w, S i g w → S2 i g w) : WkG P m R D S2 i g w :=
  h.bind fun _ _ _ h => .stop fun w1 h1 => k _ _ _ (h w1 h1)
theorem RetG.mono {base : List Frame} {K K' : Value → I → World → Prop} (hk : ∀ v i w, K v i w → K' v i w) {i : I} {g : Goroutine} {w : World} (h : RetG P D base K i g w) : RetG P D base K' i g w := by
  obtain ⟨fr', fn', v, w', j, h1, h2, h3, h4, h5, h6, h7, h8⟩ := h
  exact ⟨fr', fn', v, w', j, h1, h2, h3, h4, h5, h6, h7, hk _ _ _ h8⟩
def evG (P : Program) (fn : FuncId) (a : Act) (o : Oper) (w : World) : Array Event := seen P fn ((execOp a.eval o).events P w #[])
def uponG (P : Program) (m : Bool) (R : I → World → World → Prop) (D : I → I → World → World → Array Event → Prop) (fn : FuncId) (o : Oper) (a : Act) (i : I) (w : World) (es : Array Event) (K : Act → I → World → Prop) : Result Next → Prop
  | .ok (.value v) w' => ∃ j, D i j w w' es ∧ K (a.put o.dst v) j w'
  | .ok .skip w' => ∃ j, D i j w w' es ∧ K (a.put o.dst undef) j w'
  | .ok (.enter g vs) w' => ∃ j, D i j w w' es ∧ ∀ base, WkG P m R D (RetG P D base fun v i' w' => K (a.put o.dst v) i' w') j (G (Frame.enter P g vs .normal) base) w'
  | _ => False
theorem uponG_mono {o : Oper} {a : Act} {i : I} {w : World} {es : Array Event} {K K' : Act → I → World → Prop} (h : ∀ a i w, K a i w → K' a i w) {r : Result Next} (hh : uponG P m R D fn o a i w es K r) : uponG P m R D fn o a i w es K' r := by
  cases r with
  | halt x w' => exact hh
  | ok n w' =>
    cases n with
    | value v => obtain ⟨j, d, k⟩ := hh; exact ⟨j, d, h _ _ _ k⟩
    | skip => obtain ⟨j, d, k⟩ := hh; exact ⟨j, d, h _ _ _ k⟩
    | enter g vs => obtain ⟨j, d, k⟩ := hh; exact ⟨j, d, fun base => (k base).mono fun _ _ _ hr => hr.mono fun _ _ _ => h _ _ _⟩
    | _ => exact hh
def OpG (P : Program) (m : Bool) (R : I → World → World → Prop) (D : I → I → World → World → Array Event → Prop) (fn : FuncId) (ops : Array Oper) (n : Nat) (K : Act → I → World → Prop) (a : Act) (i : I) (w : World) : Prop :=
  match ops[n]? with
  | none => False
  | some o => if Region.wanted o (yielded ops a.tmps) then ∀ w1, R i w w1 → uponG P m R D fn o a i w1 (evG P fn a o w1) K ((execOp a.eval o).run P w1) else K (a.put o.dst undef) i w
theorem OpG_mono {n : Nat} {a : Act} {i : I} {w : World} {K K' : Act → I → World → Prop} (h : ∀ a i w, K a i w → K' a i w) (hh : OpG P m R D fn ops n K a i w) : OpG P m R D fn ops n K' a i w := by
  unfold OpG at *
  split
  · simp_all
  · rename_i o ho
    simp only [ho] at hh
    split
    · rename_i hw; simp only [hw, if_true] at hh; exact fun w1 h1 => uponG_mono h (hh w1 h1)
    · rename_i hw; simp only [hw] at hh; exact h _ _ _ hh
theorem opsG_unwanted (T : TermsG R D) {n : Nat} {rest : List Nat} {o : Oper} {a : Act} {i : I} {w : World} (ho : ops[n]? = some o) (hw : Region.wanted o (yielded ops a.tmps) = false)
    (h : opsG P m R D fn ops rest Q (a.put o.dst undef) i w) : opsG P m R D fn ops (n :: rest) Q a i w :=
  fun b k cs S hb hk hc => .idle T rfl (fun w => stepG_unwanted ho hw) (h b k cs S hb hk hc)
theorem opsG_of_opG (T : TermsG R D) {n : Nat} {rest : List Nat} {a : Act} {i : I} {w : World} (h : OpG P m R D fn ops n (fun a' i' w' => opsG P m R D fn ops rest Q a' i' w') a i w) : opsG P m R D fn ops (n :: rest) Q a i w := by
  unfold OpG at h
  split at h
  · exact h.elim
  · rename_i o ho
    split at h
    · rename_i hw
      intro b k cs S' hb hk hc
      refine .step rfl fun w1 h1 => ?_
      have hh := h w1 h1
      cases hr : (execOp a.eval o).run P w1 with
      | halt x w' => rw [hr] at hh; exact hh.elim
      | ok nx w' =>
        rw [hr] at hh
        cases nx with
        | value v => obtain ⟨j, d, q⟩ := hh; exact ⟨_, _, _, j, stepG_value ho hw hk hr, hb ▸ d, q b k cs S' hb hk hc⟩
        | skip => obtain ⟨j, d, q⟩ := hh; exact ⟨_, _, _, j, stepG_none ho hw hk hr, hb ▸ d, q b k cs S' hb hk hc⟩
        | enter g vs =>
          obtain ⟨j, d, q⟩ := hh
          refine ⟨_, _, _, j, stepG_enter ho hw hk hr, hb ▸ d, (q _).bind fun i2 g2 w2 hs => ?_⟩
          have hrun : g2.status = .running := by
            obtain ⟨fr', _, _, _, _, rfl, _⟩ := hs w2 (T.refl _ _)
            rfl
          refine .step hrun fun w3 h3 => ?_
          obtain ⟨fr', fn', v, w4, j4, rfl, h5, h6, h7, h8, h9, h10, h11⟩ := hs w3 h3
          refine ⟨G (b.at (a.put o.dst v) (.inRegion ops rest :: k)) cs, w4, _, j4, ?_, h10, h11 b k cs S' hb hk hc⟩
          rw [← Option.bind_some (f := (·.dst)) (a := o), ← ho, ← Frame.finish_at]
          simp [G, stepG, unwind, doReturn, h5, h6, h7, h8, h9, GStep.after]
        | _ => exact hh.elim
    · rename_i hw; exact opsG_unwanted T ho (by simpa using hw) h

/-- In every state and world that meet S operation o leaves v, and does nothing else. -/
def YieldsG (P : Program) (D : I → I → World → World → Array Event → Prop) (fn : FuncId) (ops : Array Oper) (S : I → World → Prop) (o : Oper) (v : Value) (a : Act) : Prop :=
  (Region.wanted o (yielded ops a.tmps) = true ∧ ∀ i w, S i w → (execOp a.eval o).run P w = .ok (.value v) w ∧ D i i w w (evG P fn a o w)) ∨ (Region.wanted o (yielded ops a.tmps) = false ∧ v = undef)
theorem YieldsG.of_same {o : Oper} {v : Value} {a a' : Act} (hy : YieldsG P D fn ops S o v a) (he : execOp a'.eval o = execOp a.eval o) (hw : Region.wanted o (yielded ops a'.tmps) = Region.wanted o (yielded ops a.tmps)) : YieldsG P D fn ops S o v a' := by
  unfold YieldsG evG at *
  rw [he, hw]
  exact hy
def AnyG (P : Program) (m : Bool) (R : I → World → World → Prop) (D : I → I → World → World → Array Event → Prop) (fn : FuncId) (md : Region.Mode) (ops : Array Oper) (Q : Exit → Act → I → World → Prop) (S : I → World → Prop) : Nat → Array Bool → Act → I → World → Prop
  | 0, listed, a, i, w => Region.ready md ops listed = [] ∧ Q .normal a i w
  | fuel + 1, listed, a, i, w => (Region.ready md ops listed = [] → Q .normal a i w) ∧
    ∀ n ∈ Region.ready md ops listed, OpG P m R D fn ops n (fun a' i' w' => S i' w' ∧ AnyG P m R D fn md ops Q S fuel (listed.setIfInBounds n true) a' i' w') a i w
theorem AnyG.rely (T : TermsG R D) (hSR : ∀ i x y, S i x → R i x y → S i y) (hQR : ∀ a i x y, Q .normal a i x → R i x y → Q .normal a i y) :
    ∀ (fuel : Nat) (listed : Array Bool) (a : Act) (i : I) (w w1 : World), AnyG P m R D fn md ops Q S fuel listed a i w → R i w w1 → AnyG P m R D fn md ops Q S fuel listed a i w1
  | 0, _, _, _, _, _, h, r => ⟨h.1, hQR _ _ _ _ h.2 r⟩
  | fuel + 1, listed, a, i, w, w1, h, r => ⟨fun e => hQR _ _ _ _ (h.1 e) r, fun n hn => by
      have := h.2 n hn
      unfold OpG at *
      split
      · simp_all
      · rename_i o ho
        simp only [ho] at this
        split
        · rename_i hw; simp only [hw, if_true] at this; exact fun w2 h2 => this w2 (T.trans _ _ _ _ r h2)
        · rename_i hw; simp only [hw] at this; exact ⟨hSR _ _ _ this.1 r, AnyG.rely T hSR hQR fuel _ _ _ _ _ this.2 r⟩⟩
theorem anyG_sound (T : TermsG R D) : ∀ (fuel t : Nat) (listed : Array Bool) (a : Act) (i : I) (w : World), AnyG P m R D fn md ops Q S fuel listed a i w → opsG P m R D fn ops (Region.linearise.go md ops fuel t listed []) Q a i w := by
  intro fuel
  induction fuel with
  | zero => intro t listed a i w h; simpa [Region.linearise.go] using opsG_nil T h.2
  | succ fuel ih =>
    intro t listed a i w h
    obtain ⟨h0, h1⟩ := h
    simp only [Region.linearise.go]
    change opsG P m R D fn ops (match (Region.ready md ops listed)[t % (Region.ready md ops listed).length]? with
      | some i => Region.linearise.go md ops fuel (t / (Region.ready md ops listed).length) (listed.setIfInBounds i true) [i]
      | none => [].reverse) Q a i w
    cases hi : (Region.ready md ops listed)[t % (Region.ready md ops listed).length]? with
    | none =>
      have hnil : Region.ready md ops listed = [] := by
        cases hr : Region.ready md ops listed with
        | nil => rfl
        | cons x xs =>
          rw [hr] at hi
          have hlt : t % (x :: xs).length < (x :: xs).length := Nat.mod_lt _ (by simp)
          simp at hi
          simp at hlt
          omega
      simpa using opsG_nil T (h0 hnil)
    | some n =>
      simp only []
      rw [linearise_go_acc, List.reverse_singleton, List.singleton_append]
      exact opsG_of_opG T (OpG_mono (fun a' i' w' x => ih _ _ a' i' w' x.2) (h1 n (List.mem_of_getElem? hi)))
theorem YieldsG.opG (hSR : ∀ i x y, S i x → R i x y → S i y) {n : Nat} {o : Oper} {v : Value} {a : Act} (hi : ops[n]? = some o) (hy : YieldsG P D fn ops S o v a)
    {K : Act → I → World → Prop} (hK : ∀ a i x y, K a i x → R i x y → K a i y) {i : I} {w : World} (hS : S i w) (h : K (a.put o.dst v) i w) : OpG P m R D fn ops n K a i w := by
  unfold OpG
  simp only [hi]
  rcases hy with ⟨hw, hv⟩ | ⟨hw, rfl⟩
  · simp only [hw, if_true]
    intro w1 h1
    rw [(hv i w1 (hSR _ _ _ hS h1)).1]
    exact ⟨i, (hv i w1 (hSR _ _ _ hS h1)).2, hK _ _ _ _ h h1⟩
  · simp only [hw, Bool.false_eq_true, if_false]; exact h
theorem OpG_putIf {j : Nat} {oi oj : Oper} {v : Value} (hj : ops[j]? = some oj) (hap : oi.apart ops oj = true) (hsi : ∀ cs b, oi.op ≠ .select cs b) (hsj : ∀ cs b, oj.op ≠ .select cs b) {K : Act → I → World → Prop} {a : Act} {i : I} {w : World}
    (hy : YieldsG P D fn ops S oi v a) (h : OpG P m R D fn ops j K (a.put oi.dst v) i w) : OpG P m R D fn ops j (fun a' i' w' => YieldsG P D fn ops S oi v a' ∧ K (a'.put oi.dst v) i' w') a i w := by
  obtain ⟨h1, h2, h3⟩ := Oper.apart_spec hap
  have keep : ∀ (a : Act), YieldsG P D fn ops S oi v a → ∀ u, YieldsG P D fn ops S oi v (a.put oj.dst u) := fun a hy u => hy.of_same (execOp_put oi hsi a oj.dst u h3) (wanted_put oi a oj.dst u h3)
  unfold OpG at *
  simp only [hj] at *
  rw [wanted_put oj a oi.dst v h1] at h
  split
  · rename_i hw
    simp only [hw, if_true] at h
    intro w1 hr1
    have h := h w1 hr1
    unfold evG at *
    rw [execOp_put oj hsj a oi.dst v h1] at h
    generalize (execOp a.eval oj).run P w1 = r at *
    cases r with
    | halt x w' => exact h.elim
    | ok n w' =>
      cases n with
      | value u => obtain ⟨j', d, q⟩ := h; exact ⟨j', d, keep a hy u, by rw [← Act.put_comm a v u h2]; exact q⟩
      | skip => obtain ⟨j', d, q⟩ := h; exact ⟨j', d, keep a hy _, by rw [← Act.put_comm a v undef h2]; exact q⟩
      | enter g vs => obtain ⟨j', d, q⟩ := h; exact ⟨j', d, fun base => (q base).mono fun _ _ _ hr => hr.mono fun u _ _ q => ⟨keep a hy u, by rw [← Act.put_comm a v u h2]; exact q⟩⟩
      | _ => exact h.elim
  · rename_i hw
    simp only [hw] at h
    exact ⟨keep a hy _, by rw [← Act.put_comm a v undef h2]; exact h⟩
theorem anyG_first (T : TermsG R D) (hSR : ∀ i x y, S i x → R i x y → S i y) (hQR : ∀ a i x y, Q .normal a i x → R i x y → Q .normal a i y) {n : Nat} {oi : Oper} {v : Value} (hi : ops[n]? = some oi)
    (hsel : ∀ (j : Nat) (o : Oper) cs b, ops[j]? = some o → o.op ≠ .select cs b) :
    ∀ (fuel : Nat) (listed : Array Bool) (a : Act) (i : I) (w : World),
      (∀ j oj, ops[j]? = some oj → j ≠ n → listed.getD j true = false → (∀ e ∈ oj.after, Region.binds md e = true → e.on ≠ n) → oi.apart ops oj = true) →
      n ∈ Region.ready md ops listed → YieldsG P D fn ops S oi v a → S i w →
      AnyG P m R D fn md ops Q S fuel (listed.setIfInBounds n true) (a.put oi.dst v) i w → AnyG P m R D fn md ops Q S (fuel + 1) listed a i w := by
  have hK : ∀ fuel listed, ∀ a i x y, (S i x ∧ AnyG P m R D fn md ops Q S fuel listed a i x) → R i x y → (S i y ∧ AnyG P m R D fn md ops Q S fuel listed a i y) :=
    fun fuel listed a i x y h r => ⟨hSR _ _ _ h.1 r, AnyG.rely T hSR hQR fuel listed a i x y h.2 r⟩
  intro fuel
  induction fuel with
  | zero =>
    intro listed a i w _ hr hy hS H
    refine ⟨fun h => (by rw [h] at hr; cases hr), fun j hj => ?_⟩
    by_cases hji : j = n
    · subst hji; exact hy.opG hSR hi (hK _ _) hS ⟨hS, H⟩
    · have := ready_mono hj hji
      rw [H.1] at this
      cases this
  | succ fuel ih =>
    intro listed a i w hfree hr hy hS H
    refine ⟨fun h => (by rw [h] at hr; cases hr), fun j hj => ?_⟩
    by_cases hji : j = n
    · subst hji; exact hy.opG hSR hi (hK _ _) hS ⟨hS, H⟩
    · have h1 := H.2 j (ready_mono hj hji)
      obtain ⟨hjun, oj, hoj, hall⟩ := mem_ready.1 hj
      have hnot : ∀ e ∈ oj.after, Region.binds md e = true → e.on ≠ n := fun e he hb heq => by
        have h1 := hall e he hb
        have h0 := (mem_ready.1 hr).1
        rw [heq] at h1
        rcases Nat.lt_or_ge n listed.size with h' | h'
        · simp [h'] at h0 h1; rw [h0] at h1; cases h1
        · simp [Array.getElem?_eq_none h'] at h1
      have h2 := OpG_putIf hoj (hfree j oj hoj hji hjun hnot) (fun cs b => hsel n oi cs b hi) (fun cs b => hsel j oj cs b hoj) hy h1
      have hfree' : ∀ k ok, ops[k]? = some ok → k ≠ n → (listed.setIfInBounds j true).getD k true = false →
          (∀ e ∈ ok.after, Region.binds md e = true → e.on ≠ n) → oi.apart ops ok = true := fun k ok hk hki hun hno => by
        refine hfree k ok hk hki ?_ hno
        by_cases hjk : j = k
        · subst hjk; exact hjun
        · rw [getD_set_ne true hjk] at hun; exact hun
      refine OpG_mono (fun a' i' w' h3 => ⟨h3.2.1, ih (listed.setIfInBounds j true) a' i' w' hfree' (ready_mono hr (Ne.symm hji)) h3.1 h3.2.1 ?_⟩) h2
      rw [Array.setIfInBounds_comm _ _ hji]
      exact h3.2.2
/-- Take number n first. -/
theorem anyG_take (T : TermsG R D) (hSR : ∀ i x y, S i x → R i x y → S i y) (hQR : ∀ a i x y, Q .normal a i x → R i x y → Q .normal a i y) {n : Nat} {oi : Oper} {v : Value} {fuel : Nat} {listed : Array Bool} {a : Act} {i : I} {w : World} (hi : ops[n]? = some oi)
    (hs : Region.noSelect ops = true) (hf : Region.free md ops listed n = true) (hr : (Region.ready md ops listed).contains n = true)
    (hy : YieldsG P D fn ops S oi v a) (hS : S i w) (h : AnyG P m R D fn md ops Q S fuel (listed.setIfInBounds n true) (a.put oi.dst v) i w) : AnyG P m R D fn md ops Q S (fuel + 1) listed a i w :=
  anyG_first T hSR hQR hi (Region.noSelect_spec hs) fuel listed a i w (Region.free_spec hi hf) (by simpa using hr) hy hS h
theorem anyG_all {rs : List Nat} {fuel : Nat} {listed : Array Bool} {a : Act} {i : I} {w : World} (hr : Region.ready md ops listed = rs) (hne : rs ≠ [])
    (h : ∀ n ∈ rs, OpG P m R D fn ops n (fun a' i' w' => S i' w' ∧ AnyG P m R D fn md ops Q S fuel (listed.setIfInBounds n true) a' i' w') a i w) : AnyG P m R D fn md ops Q S (fuel + 1) listed a i w :=
  ⟨fun h0 => absurd (hr ▸ h0) hne, hr ▸ h⟩
theorem anyG_done {listed : Array Bool} {a : Act} {i : I} {w : World} (hr : Region.ready md ops listed = []) (h : Q .normal a i w) : ∀ fuel, AnyG P m R D fn md ops Q S fuel listed a i w
  | 0 => ⟨hr, h⟩
  | _ + 1 => ⟨fun _ => h, fun i hi => by rw [hr] at hi; cases hi⟩
/-- A region that asks the tape. -/
theorem wpG_region_held (hd : ∀ i (w : World), D i i w { w with drawn := w.drawn + 1 } #[]) (T : TermsG R D) {id : Nat} {a : Act} {i : I} {w : World} (hm : P.follows .mixedOrders = true)
    (h : ∀ w1, R i w w1 → AnyG P m R D fn .any ops Q S ops.size (Array.replicate ops.size false) a i { w1 with drawn := w1.drawn + 1 }) : wpG P m R D fn (.region id ops true) Q a i w := by
  intro b k cs S' hb hk hc
  refine .step rfl fun w1 h1 => ⟨_, _, _, i, stepG_region_draw, hd i w1, ?_⟩
  simp only [Region.schedule, hm, Bool.true_or, if_true]
  exact anyG_sound T ops.size _ _ a i _ (h w1 h1) b k cs S' hb hk hc
end
end Go.Proofs.Ytpigjhagdpeofaa.Sim

namespace Go.Proofs.Ytpigjhagdpeofaa.Sim
open Go Go.Conc
set_option linter.unusedVariables false

/-- o: the block of the row that many write; mine: one's own places of it; Rd: what nobody writes. -/
structure RelyW (o : Nat) (mine Rd : Nat → Prop) (M : Nat → Prop) (w w1 : World) : Prop where
  rely : Rely M Rd w w1
  out : ∀ cs e fz, w.heap[o]? = some (.cells cs e fz) → ∃ cs', w1.heap[o]? = some (.cells cs' e fz) ∧ cs'.size = cs.size ∧ ∀ n, mine n → cs'[n]? = cs[n]?
structure OwnW (o : Nat) (mine Rd : Nat → Prop) (M M' : Nat → Prop) (w w' : World) (es : Array Event) : Prop where
  tape : w'.tape = w.tape
  os : w'.os = w.os
  output : w'.output = w.output
  size : w.heap.size ≤ w'.heap.size
  sub : ∀ c, M c → M' c
  new : ∀ c, M' c → M c ∨ (w.heap.size ≤ c ∧ c < w'.heap.size)
  keep : ∀ c, c < w.heap.size → ¬ M c → c ≠ o → w'.heap[c]? = w.heap[c]?
  out : ∀ cs e fz, w.heap[o]? = some (.cells cs e fz) → ∃ cs', w'.heap[o]? = some (.cells cs' e fz) ∧ cs'.size = cs.size ∧ ∀ n, ¬ mine n → cs'[n]? = cs[n]?
  fresh : ∀ c, w.heap.size ≤ c → c < w'.heap.size → M' c
  evs : ∀ e ∈ es, e = ⟨.mark .noRoom, false, true⟩ ∨ ∃ (a : Addr) (wr : Bool), e = ⟨.cell a, wr, false⟩ ∧ (M' a.block ∨ (wr = false ∧ Rd a.block) ∨ (a.block = o ∧ mine a.off))
section
variable {o : Nat} {mine Rd : Nat → Prop}
theorem RelyW.refl (M : Nat → Prop) (w : World) : RelyW o mine Rd M w w := ⟨Rely.refl _ _ _, fun cs e fz h => ⟨cs, h, rfl, fun _ _ => rfl⟩⟩
theorem RelyW.trans {M : Nat → Prop} {a b c : World} (h : RelyW o mine Rd M a b) (k : RelyW o mine Rd M b c) : RelyW o mine Rd M a c :=
  ⟨h.rely.trans k.rely, fun cs e fz ho => by
    obtain ⟨cs1, h1, h2, h3⟩ := h.out cs e fz ho
    obtain ⟨cs2, k1, k2, k3⟩ := k.out cs1 e fz h1
    exact ⟨cs2, k1, k2.trans h2, fun n hn => (k3 n hn).trans (h3 n hn)⟩⟩
theorem OwnW.same (M : Nat → Prop) {w w' : World} {es : Array Event} (ht : w'.tape = w.tape) (hos : w'.os = w.os) (hout : w'.output = w.output) (hh : w'.heap = w.heap)
    (he : ∀ e ∈ es, ∃ a : Addr, e = ⟨.cell a, false, false⟩ ∧ (M a.block ∨ Rd a.block ∨ (a.block = o ∧ mine a.off))) : OwnW o mine Rd M M w w' es :=
  ⟨ht, hos, hout, by rw [hh]; exact Nat.le_refl _, fun _ h => h, fun _ h => .inl h, fun _ _ _ _ => by rw [hh], fun cs e fz h => ⟨cs, by rw [hh]; exact h, rfl, fun _ _ => rfl⟩, fun c h1 h2 => by rw [hh] at h2; omega, fun e h => by
    obtain ⟨a, h1, h2⟩ := he e h
    refine .inr ⟨a, false, h1, ?_⟩
    rcases h2 with h2 | h2 | h2
    · exact .inl h2
    · exact .inr (.inl ⟨rfl, h2⟩)
    · exact .inr (.inr h2)⟩
theorem OwnW.terms : TermsG (RelyW o mine Rd) (OwnW o mine Rd) := ⟨RelyW.refl, fun _ _ _ _ h k => h.trans k, fun M w => OwnW.same M rfl rfl rfl rfl fun e he => by simp at he⟩
theorem OwnW.draw (M : Nat → Prop) (w : World) : OwnW o mine Rd M M w { w with drawn := w.drawn + 1 } #[] := OwnW.same M rfl rfl rfl rfl fun e he => by simp at he
/-- What stands behind a callee that owns nothing of ours. -/
structure Beside (o : Nat) (mine Rd : Nat → Prop) (Dr N : Nat → Prop) (w0 : World) (M i : Nat → Prop) (w : World) : Prop where
  eq : i = Or2 M N
  rd : ∀ c, Dr c → Rd c
  low : ∀ c, Rd c → c < w0.heap.size ∧ ¬ M c ∧ c ≠ o
  olow : o < w0.heap.size ∧ ¬ M o
  size : w0.heap.size ≤ w.heap.size
  keep : ∀ c, Rd c → w.heap[c]? = w0.heap[c]?
  out : ∀ cs e fz, w0.heap[o]? = some (.cells cs e fz) → ∃ cs', w.heap[o]? = some (.cells cs' e fz) ∧ cs'.size = cs.size ∧ ∀ n, mine n → cs'[n]? = cs[n]?
theorem Beside.rely {Dr N : Nat → Prop} {w0 : World} {M i : Nat → Prop} {w w1 : World} (h : Beside o mine Rd Dr N w0 M i w) (k : RelyW o mine Rd i w w1) : Rely M Dr w w1 ∧ Beside o mine Rd Dr N w0 M i w1 := by
  obtain ⟨rfl, h2, h3, h4, h5, h6, h7⟩ := h
  refine ⟨⟨k.rely.tape, k.rely.os, k.rely.output, k.rely.size, fun c hc hm => k.rely.keep c hc (hm.imp .inl (h2 c))⟩, rfl, h2, h3, h4, Nat.le_trans h5 k.rely.size, fun c hc => (k.rely.keep c (Nat.lt_of_lt_of_le (h3 c hc).1 h5) (.inr hc)).trans (h6 c hc), fun cs e fz ho => ?_⟩
  obtain ⟨cs1, a1, a2, a3⟩ := h7 cs e fz ho
  obtain ⟨cs2, b1, b2, b3⟩ := k.out cs1 e fz a1
  exact ⟨cs2, b1, b2.trans a2, fun n hn => (b3 n hn).trans (a3 n hn)⟩
theorem Beside.own {Dr N : Nat → Prop} {w0 : World} {M M' i : Nat → Prop} {w w' : World} {es : Array Event} (h : Beside o mine Rd Dr N w0 M i w) (k : OwnS M M' Dr w w' es) : ∃ j, OwnW o mine Rd i j w w' es ∧ Beside o mine Rd Dr N w0 M' j w' := by
  obtain ⟨rfl, h2, h3, h4, h5, h6, h7⟩ := h
  have off : ∀ c, c < w0.heap.size → ¬ M c → ¬ M' c := fun c hc hm hm' => by
    rcases k.new c hm' with h | h
    · exact hm h
    · omega
  have ho : w'.heap[o]? = w.heap[o]? := k.keep o (Nat.lt_of_lt_of_le h4.1 h5) h4.2
  refine ⟨Or2 M' N, ⟨k.tape, k.os, k.output, k.size, fun c hc => hc.imp (k.sub c) id, fun c hc => ?_, fun c hc hm _ => k.keep c hc fun h => hm (.inl h), fun cs e fz h => ⟨cs, ho.trans h, rfl, fun _ _ => rfl⟩, fun c h1 h2 => .inl (k.fresh c h1 h2), fun e he => ?_⟩,
    rfl, h2, fun c hc => ⟨(h3 c hc).1, off c (h3 c hc).1 (h3 c hc).2.1, (h3 c hc).2.2⟩, ⟨h4.1, off o h4.1 h4.2⟩, Nat.le_trans h5 k.size, fun c hc => (k.keep c (Nat.lt_of_lt_of_le (h3 c hc).1 h5) (h3 c hc).2.1).trans (h6 c hc), fun cs e fz h => ?_⟩
  · rcases hc with hc | hc
    · exact (k.new c hc).imp .inl id
    · exact .inl (.inr hc)
  · rcases k.evs e he with h | ⟨a, wr, a1, a2⟩
    · exact .inl h
    · refine .inr ⟨a, wr, a1, ?_⟩
      rcases a2 with a2 | ⟨a2, a3⟩
      · exact .inl (.inl a2)
      · exact .inr (.inl ⟨a2, h2 _ a3⟩)
  · obtain ⟨cs1, a1, a2, a3⟩ := h7 cs e fz h
    exact ⟨cs1, ho.trans a1, a2, a3⟩
/-- A callee's judgement, on the worker's terms; K: what holds behind its return. -/
theorem Wk.toW {P : Program} {m : Bool} {Dr N : Nat → Prop} {base : List Frame} {Post : Value → Prop} {g : Goroutine} {w w0 : World} {M i : Nat → Prop} (h : Wk P m Dr (SRet P Dr base Post) M g w) (hb : Beside o mine Rd Dr N w0 M i w)
    {K : Value → (Nat → Prop) → World → Prop} (hK : ∀ v M i w, Post v → Beside o mine Rd Dr N w0 M i w → K v i w) : WkG P m (RelyW o mine Rd) (OwnW o mine Rd) (RetG P (OwnW o mine Rd) base K) i g w := by
  have q := Wk.toG (R := RelyW o mine Rd) (D := OwnW o mine Rd) (fun M i w => Beside o mine Rd Dr N w0 M i w) (fun M i w w1 hi k => hi.rely k) (fun M M' i w w' es hi k => hi.own k) h hb
  refine q.bind fun i2 g2 w2 hs => .stop fun w3 h3 => ?_
  obtain ⟨M3, hb3, fr', fn, v, w4, M4, rfl, h5, h6, h7, h8, h9, h10, h11⟩ := hs w3 h3
  have h12 : OwnS M3 M4 Dr w3 w4 (seen P fr'.fn ((results fn fr'.tmps).events P w3 #[])) := ⟨h11.tape, h11.os, h11.output, h11.size, h11.sub, h11.new, h11.keep, h11.fresh, fun e he => h11.evs e (mem_seen he)⟩
  obtain ⟨j, d, hb4⟩ := hb3.own h12
  exact ⟨fr', fn, v, w4, j, rfl, h5, h6, h7, h8, h9, d, hK v M4 j w4 h10 hb4⟩
end
end Go.Proofs.Ytpigjhagdpeofaa.Sim

namespace Go.Proofs.Ytpigjhagdpeofaa.Sim
open Go Go.Conc
set_option linter.unusedVariables false
section
variable {P : Program} {m : Bool} {o : Nat} {mine Rd : Nat → Prop} {fn : FuncId} {ops : Array Oper} {Q : Exit → Act → (Nat → Prop) → World → Prop} {a : Act} {M : Nat → Prop} {w : World}
/-- An operation that looks at nothing, or reads what is its own or stands still. -/
theorem opsG_still {n : Nat} {rest : List Nat} {x : Oper} {v : Value} (ho : ops[n]? = some x) (hw : Region.wanted x (yielded ops a.tmps) = true)
    (hr : ∀ w1, RelyW o mine Rd M w w1 → (execOp a.eval x).run P w1 = .ok (.value v) w1) (he : ∀ w1, RelyW o mine Rd M w w1 → ∀ e ∈ (execOp a.eval x).events P w1 #[], ∃ b : Addr, e = ⟨.cell b, false, false⟩ ∧ (M b.block ∨ Rd b.block ∨ (b.block = o ∧ mine b.off)))
    (h : ∀ w1, RelyW o mine Rd M w w1 → opsG P m (RelyW o mine Rd) (OwnW o mine Rd) fn ops rest Q (a.put x.dst v) M w1) : opsG P m (RelyW o mine Rd) (OwnW o mine Rd) fn ops (n :: rest) Q a M w :=
  opsG_value ho hw fun w1 h1 => ⟨v, w1, M, hr w1 h1, OwnW.same M rfl rfl rfl rfl fun e h2 => he w1 h1 e (mem_seen h2), h w1 h1⟩
theorem RelyW.cell {w1 : World} (h : RelyW o mine Rd M w w1) {b : Addr} {v : Value} (hb : Rd b.block) (hc : w.cell? b = some v) : w1.cell? b = some v := by
  have hlt : b.block < w.heap.size := by
    unfold World.cell? at hc
    cases hx : w.heap[b.block]? with
    | none => rw [hx] at hc; cases hc
    | some _ => exact (Array.getElem?_eq_some_iff.1 hx).1
  unfold World.cell? at hc ⊢
  rw [h.rely.keep _ hlt (.inr hb)]
  exact hc
/-- A store into one's own place of the row that many write. -/
theorem OwnW.put {w : World} {n : Nat} {v : Value} (hn : mine n) {es : Array Event} (he : ∀ e ∈ es, e = ⟨.cell ⟨o, n, none⟩, true, false⟩) : OwnW o mine Rd M M w (w.setCell ⟨o, n, none⟩ v) es := by
  have hh : (w.setCell ⟨o, n, none⟩ v).heap.size = w.heap.size := by simp [World.setCell]
  refine ⟨rfl, rfl, rfl, Nat.le_of_eq hh.symm, fun _ h => h, fun _ h => .inl h, fun c hc _ ho => ?_, fun cs e fz h => ⟨cs.setIfInBounds n v, ?_, by simp, fun k hk => ?_⟩, fun c h1 h2 => by omega, fun e h => .inr ⟨⟨o, n, none⟩, true, he e h, .inr (.inr ⟨rfl, hn⟩)⟩⟩
  · simp only [World.setCell, Array.getElem?_modify]
    rw [if_neg (fun e => ho e.symm)]
  · simp only [World.setCell, Array.getElem?_modify, if_true, h]
    rfl
  · rw [Array.getElem?_setIfInBounds_ne]
    rintro rfl
    exact hk hn
theorem opsG_put {n k : Nat} {rest : List Nat} {x : Oper} {v : Value} (ho : ops[n]? = some x) (hw : Region.wanted x (yielded ops a.tmps) = true) (hn : mine k)
    (hr : ∀ w1, RelyW o mine Rd M w w1 → (execOp a.eval x).run P w1 = .ok .skip (w1.setCell ⟨o, k, none⟩ v)) (he : ∀ w1, RelyW o mine Rd M w w1 → ∀ e ∈ (execOp a.eval x).events P w1 #[], e = ⟨.cell ⟨o, k, none⟩, true, false⟩)
    (h : ∀ w1, RelyW o mine Rd M w w1 → opsG P m (RelyW o mine Rd) (OwnW o mine Rd) fn ops rest Q (a.put x.dst undef) M (w1.setCell ⟨o, k, none⟩ v)) : opsG P m (RelyW o mine Rd) (OwnW o mine Rd) fn ops (n :: rest) Q a M w :=
  opsG_none ho hw fun w1 h1 => ⟨_, M, hr w1 h1, OwnW.put hn fun e h2 => he w1 h1 e (mem_seen h2), h w1 h1⟩
end
/-- The first region of the worker: its number. -/
theorem w54_r0 {m : Bool} {o : Nat} {mine Rd : Nat → Prop} {M : Nat → Prop} {w : World} {Q : Exit → Act → (Nat → Prop) → World → Prop} {bw : Nat} {i : Int} (hb : Rd bw) (hc : w.cell? ⟨bw, 0, none⟩ = some (.int .i64 i)) (T : Array Value) (h0 : T[0]? = some (.pointer (some ⟨bw, 0, none⟩))) (h7 : 7 < T.size) (ops : Array Oper)
    (ho : ops[0]? = some { dst := some 7, op := .load 2 (.tmp 0), type := 2, pos := "", after := #[], guard := none }) (k : ∀ w1, RelyW o mine Rd M w w1 → opsG Try.prog m (RelyW o mine Rd) (OwnW o mine Rd) 54 ops [1] Q ((⟨T, []⟩ : Act).put (some 7) (.int .i64 i)) M w1) :
    opsG Try.prog m (RelyW o mine Rd) (OwnW o mine Rd) 54 ops [0, 1] Q ⟨T, []⟩ M w := by
  refine opsG_still (v := .int .i64 i) ho rfl (fun w1 h1 => ?_) (fun w1 h1 e he => ?_) fun w1 h1 => k w1 h1
  · have hc1 := h1.cell hb hc
    simp [go_sem, h0, hc1]
  · have hc1 := h1.cell hb hc
    simp [go_sem, h0, hc1] at he
    subst he
    exact ⟨_, rfl, .inr (.inl hb)⟩
end Go.Proofs.Ytpigjhagdpeofaa.Sim

namespace Go.Proofs.Ytpigjhagdpeofaa.Sim
open Go Go.Conc
set_option linter.unusedVariables false
/-- o: the row that many write, n places; k workers; r: one's own class; F: what is to lie there; i: all own places below it are done. -/
structure Sat (o n k r : Nat) (Rd : Nat → Prop) (F : Nat → Int) (w0 : World) (M : Nat → Prop) (w : World) (i : Nat) : Prop where
  rd : ∀ c, Rd c → c < w0.heap.size ∧ ¬ M c ∧ c ≠ o
  keep : ∀ c, Rd c → w.heap[c]? = w0.heap[c]?
  size : w0.heap.size ≤ w.heap.size
  olow : o < w0.heap.size ∧ ¬ M o
  out : ∃ cs, w.heap[o]? = some (.cells cs 2 (0, 0)) ∧ cs.size = n ∧ ∀ j, j < i → j % k = r → j < n → cs[j]? = some (.int .i64 (F j))
section
variable {o n k r : Nat} {Rd : Nat → Prop} {F : Nat → Int} {w0 w w1 : World} {M : Nat → Prop} {i : Nat}
theorem Sat.rely (h : Sat o n k r Rd F w0 M w i) (q : RelyW o (fun j => j % k = r) Rd M w w1) : Sat o n k r Rd F w0 M w1 i := by
  refine ⟨h.rd, fun c hc => (q.rely.keep c (Nat.lt_of_lt_of_le (h.rd c hc).1 h.size) (.inr hc)).trans (h.keep c hc), Nat.le_trans h.size q.rely.size, h.olow, ?_⟩
  obtain ⟨cs, a1, a2, a3⟩ := h.out
  obtain ⟨cs1, b1, b2, b3⟩ := q.out cs _ _ a1
  exact ⟨cs1, b1, b2.trans a2, fun j h1 h2 h3 => (b3 j h2).trans (a3 j h1 h2 h3)⟩
theorem Sat.cell (h : Sat o n k r Rd F w0 M w i) {b : Addr} {v : Value} (hb : Rd b.block) (hc : w0.cell? b = some v) : w.cell? b = some v := by
  unfold World.cell? at hc ⊢
  rw [h.keep _ hb]
  exact hc
theorem Sat.draw (h : Sat o n k r Rd F w0 M w i) : Sat o n k r Rd F w0 M { w with drawn := w.drawn + 1 } i := ⟨h.rd, h.keep, h.size, h.olow, h.out⟩
theorem Sat.put (h : Sat o n k r Rd F w0 M w i) (hi : i < n) (hr : i % k = r) : Sat o n k r Rd F w0 M (w.setCell ⟨o, i, none⟩ (.int .i64 (F i))) (i + k) := by
  obtain ⟨cs, a1, a2, a3⟩ := h.out
  refine ⟨h.rd, fun c hc => ?_, by simpa [World.setCell] using h.size, h.olow, cs.setIfInBounds i (.int .i64 (F i)), ?_, by simp [a2], fun j h1 h2 h3 => ?_⟩
  · rw [← h.keep c hc]
    simp only [World.setCell, Array.getElem?_modify]
    rw [if_neg (fun e => (h.rd c hc).2.2 e.symm)]
  · simp only [World.setCell, Array.getElem?_modify, if_true, a1]
    rfl
  · rw [Array.getElem?_setIfInBounds]
    by_cases e : i = j
    · subst e
      rw [if_pos rfl, if_pos (by omega)]
    · rw [if_neg e]
      refine a3 j ?_ h2 h3
      apply Classical.byContradiction
      intro hc
      have h5 := Nat.sub_mod_eq_zero_of_mod_eq (h2.trans hr.symm)
      have h6 : (j - i) % k = j - i := Nat.mod_eq_of_lt (by omega)
      omega
theorem Sat.cellO (h : Sat o n k r Rd F w0 M w i) {j : Nat} (hj : j < n) : ∃ v, w.cell? ⟨o, j, none⟩ = some v ∧ w.frozen? ⟨o, j, none⟩ = false := by
  obtain ⟨cs, a1, a2, a3⟩ := h.out
  have hlt : j < cs.size := by omega
  refine ⟨cs[j], ?_, ?_⟩
  · simp [World.cell?, a1, hlt]
  · simp [World.frozen?, a1]
end
end Go.Proofs.Ytpigjhagdpeofaa.Sim

namespace Go.Proofs.Ytpigjhagdpeofaa.Sim
open Go Go.Conc
set_option linter.unusedVariables false
theorem Sat.mono {o n k r : Nat} {Rd : Nat → Prop} {F : Nat → Int} {w0 w : World} {M : Nat → Prop} {i j : Nat} (h : Sat o n k r Rd F w0 M w i) (hj : j ≤ i) : Sat o n k r Rd F w0 M w j := by
  refine ⟨h.rd, h.keep, h.size, h.olow, ?_⟩
  obtain ⟨cs, a1, a2, a3⟩ := h.out
  exact ⟨cs, a1, a2, fun p hp => a3 p (by omega)⟩
theorem OpG.enter {I : Type} {P : Program} {m : Bool} {R : I → World → World → Prop} {D : I → I → World → World → Array Event → Prop} {fn : FuncId} {ops : Array Oper} {n : Nat} {K : Act → I → World → Prop} {a : Act} {i : I} {w : World} {o : Oper} (ho : ops[n]? = some o) (hw : Region.wanted o (yielded ops a.tmps) = true) {g : FuncId} {vs : Array Value}
    (hr : ∀ w1, R i w w1 → (execOp a.eval o).run P w1 = .ok (.enter g vs) w1) (he : ∀ w1, R i w w1 → D i i w1 w1 (evG P fn a o w1)) (h : ∀ w1, R i w w1 → ∀ base, WkG P m R D (RetG P D base fun v i' w' => K (a.put o.dst v) i' w') i (G (Frame.enter P g vs .normal) base) w1) : OpG P m R D fn ops n K a i w := by
  unfold OpG
  simp only [ho, hw, if_true]
  intro w1 h1
  rw [hr w1 h1]
  exact ⟨i, he w1 h1, h w1 h1⟩
theorem OpG.skip {I : Type} {P : Program} {m : Bool} {R : I → World → World → Prop} {D : I → I → World → World → Array Event → Prop} {fn : FuncId} {ops : Array Oper} {n : Nat} {K : Act → I → World → Prop} {a : Act} {i : I} {w : World} {o : Oper} (ho : ops[n]? = some o) (hw : Region.wanted o (yielded ops a.tmps) = true)
    (h : ∀ w1, R i w w1 → ∃ w' j, (execOp a.eval o).run P w1 = .ok .skip w' ∧ D i j w1 w' (evG P fn a o w1) ∧ K (a.put o.dst undef) j w') : OpG P m R D fn ops n K a i w := by
  unfold OpG
  simp only [ho, hw, if_true]
  intro w1 h1
  obtain ⟨w', j, hr, hd, hk⟩ := h w1 h1
  rw [hr]
  exact ⟨j, hd, hk⟩
/-- Where an operation of a region stands in the Go text. -/
def placed (ops : Array Oper) (k : Nat) : String := match ops[k]? with | some o => o.pos | none => ""
/-- What is asked of the function that is handed over: a call of it is entered, and lists nothing. -/
structure Ent (f : FuncId) : Prop where
  run : ∀ args w, (callFunc f args).run Try.prog w = .ok (.enter f args) w
  evs : ∀ args w es, (callFunc f args).events Try.prog w es = es
def o7 (ps : String) : Oper := { dst := some 22, op := .call { callee := .value (.tmp 17), args := #[.tmp 21], argTypes := #[2] }, type := 2, pos := ps, after := #[{ on := 2, ground := Ground.data }, { on := 6, ground := Ground.data }], guard := none }
def o9 (ps : String) : Oper := { dst := none, op := .store 2 (.tmp 23) (.tmp 22), type := 0, pos := ps, after := #[{ on := 8, ground := Ground.data }, { on := 7, ground := Ground.data }, { on := 7, ground := Ground.chain }, { on := 0, ground := Ground.phase }, { on := 1, ground := Ground.phase }, { on := 2, ground := Ground.phase }, { on := 3, ground := Ground.phase }, { on := 4, ground := Ground.phase }, { on := 5, ground := Ground.phase }, { on := 6, ground := Ground.phase }, { on := 7, ground := Ground.phase }], guard := none }
theorem w54_op7 {ps : String} {m : Bool} {o n k r : Nat} {Rd : Nat → Prop} {F L : Nat → Int} {M : Nat → Prop} {w0 w : World} {i : Nat} {f : FuncId} {caps : Array Value} {ops : Array Oper} {K : Act → (Nat → Prop) → World → Prop} {a : Act} (ho : ops[7]? = some (o7 ps)) (h17 : a.tmps[17]? = some (.func (.func f) #[] caps)) (h21 : a.tmps[21]? = some (.int .i64 (L i)))
    (hs : Sat o n k r Rd F w0 M w i) (hE : Ent f)
    (hcall : ∀ base M w, Sat o n k r Rd F w0 M w i → WkG Try.prog m (RelyW o (fun j => j % k = r) Rd) (OwnW o (fun j => j % k = r) Rd) (RetG Try.prog (OwnW o (fun j => j % k = r) Rd) base fun v M' w' => v = .int .i64 (F i) ∧ Sat o n k r Rd F w0 M' w' i) M (G (Frame.enter Try.prog f (#[.int .i64 (L i)] ++ caps) .normal) base) w)
    (hK : ∀ M3 w3, Sat o n k r Rd F w0 M3 w3 i → K (a.put (some 22) (.int .i64 (F i))) M3 w3) : OpG Try.prog m (RelyW o (fun j => j % k = r) Rd) (OwnW o (fun j => j % k = r) Rd) 54 ops 7 K a M w := by
  refine OpG.enter ho rfl (g := f) (vs := #[.int .i64 (L i)] ++ caps) (fun w1 h1 => ?_) (fun w1 h1 => OwnW.same M rfl rfl rfl rfl fun e he => ?_) fun w1 h1 base => ?_
  · simp [o7, go_sem, h17, h21, hE.run]
  · replace he := mem_seen he
    simp [o7, go_sem, h17, h21, hE.evs] at he
  refine (hcall base M w1 (hs.rely h1)).mono fun M2 g2 w2 h2 => h2.mono fun v M3 w3 h3 => ?_
  obtain ⟨rfl, h3⟩ := h3
  exact hK M3 w3 h3
theorem w54_op9 {ps : String} {m : Bool} {o n k r : Nat} {Rd : Nat → Prop} {F : Nat → Int} {M : Nat → Prop} {w0 w : World} {i : Nat} {ops : Array Oper} {K : Act → (Nat → Prop) → World → Prop} {a : Act} (ho : ops[9]? = some (o9 ps)) (h23 : a.tmps[23]? = some (.pointer (some ⟨o, i, none⟩))) (h22 : a.tmps[22]? = some (.int .i64 (F i)))
    (hs : Sat o n k r Rd F w0 M w i) (hlt : i < n) (hi : i % k = r)
    (hK : ∀ w3, Sat o n k r Rd F w0 M w3 (i + k) → K a M w3) : OpG Try.prog m (RelyW o (fun j => j % k = r) Rd) (OwnW o (fun j => j % k = r) Rd) 54 ops 9 K a M w := by
  refine OpG.skip ho rfl fun w1 h1 => ?_
  have hs1 := hs.rely h1
  obtain ⟨v, hv, hz⟩ := hs1.cellO hlt
  refine ⟨w1.setCell ⟨o, i, none⟩ (.int .i64 (F i)), M, ?_, OwnW.put (mine := fun j => j % k = r) hi fun e he => ?_, hK _ (hs1.put hlt hi)⟩
  · simp [o9, go_sem, h22, h23, hv, hz]
  · replace he := mem_seen he
    simp [o9, go_sem, h22, h23, hv, hz] at he
    exact he
noncomputable def R54 : Code := match Try.f54.body with | some (.seq (.seq _ (.block _ (.loop (.seq _ (.seq (.block _ r) _))))) _) => r | _ => .skip
set_option maxRecDepth 100000 in
theorem w54_r3 {m : Bool} {o n k r : Nat} {Rd : Nat → Prop} {F L : Nat → Int} {M : Nat → Prop} {w0 w : World} {bw bl bk bh bo bd gl cl co i : Nat} {f : FuncId} {caps : Array Value} {Q : Exit → Act → (Nat → Prop) → World → Prop}
    (hn : n < 1000000000) (dl : Rd bl) (dh : Rd bh) (dO : Rd bo) (dg : Rd gl)
    (c_l : w0.cell? ⟨bl, 0, none⟩ = some (.slice (some ⟨gl, 0, none⟩) n cl)) (ch : w0.cell? ⟨bh, 0, none⟩ = some (.func (.func f) #[] caps)) (cO : w0.cell? ⟨bo, 0, none⟩ = some (.slice (some ⟨o, 0, none⟩) n co)) (cL : ∀ j, j < n → w0.cell? ⟨gl, j, none⟩ = some (.int .i64 (L j)))
    (hlt : i < n) (hi : i % k = r) (hs : Sat o n k r Rd F w0 M w i) (hE : Ent f)
    (hcall : ∀ base M w, Sat o n k r Rd F w0 M w i → WkG Try.prog m (RelyW o (fun j => j % k = r) Rd) (OwnW o (fun j => j % k = r) Rd) (RetG Try.prog (OwnW o (fun j => j % k = r) Rd) base fun v M' w' => v = .int .i64 (F i) ∧ Sat o n k r Rd F w0 M' w' i) M (G (Frame.enter Try.prog f (#[.int .i64 (L i)] ++ caps) .normal) base) w)
    (hQr : ∀ a M x y, Q .normal a M x → RelyW o (fun j => j % k = r) Rd M x y → Q .normal a M y) (u7 u8 u9 u10 u11 u12 u13 u14 u15 u16 u17 u18 u19 u20 u21 u22 u23 u24 : Value)
    (hQ : ∀ M w, Sat o n k r Rd F w0 M w (i + k) → Q .normal ⟨(#[.pointer (some ⟨bw, 0, none⟩), .pointer (some ⟨bl, 0, none⟩), .pointer (some ⟨bk, 0, none⟩), .pointer (some ⟨bh, 0, none⟩), .pointer (some ⟨bo, 0, none⟩), .pointer (some ⟨bd, 0, none⟩), .int .i64 (i : Nat), u7, u8, u9, u10, u11, u12, u13, u14, .slice (some ⟨o, 0, none⟩) n co, .int .i64 (i : Nat), .func (.func f) #[] caps, .slice (some ⟨gl, 0, none⟩) n cl, .int .i64 (i : Nat), .pointer (some ⟨gl, i, none⟩), .int .i64 (L i), .int .i64 (F i), .pointer (some ⟨o, i, none⟩), u24] : Array Value), []⟩ M w) :
    wpG Try.prog m (RelyW o (fun j => j % k = r) Rd) (OwnW o (fun j => j % k = r) Rd) 54 R54 Q ⟨(#[.pointer (some ⟨bw, 0, none⟩), .pointer (some ⟨bl, 0, none⟩), .pointer (some ⟨bk, 0, none⟩), .pointer (some ⟨bh, 0, none⟩), .pointer (some ⟨bo, 0, none⟩), .pointer (some ⟨bd, 0, none⟩), .int .i64 (i : Nat), u7, u8, u9, u10, u11, u12, u13, u14, u15, u16, u17, u18, u19, u20, u21, u22, u23, u24] : Array Value), []⟩ M w := by
  have T0 := OwnW.terms (o := o) (mine := fun j => j % k = r) (Rd := Rd)
  show wpG _ _ _ _ _ (.region 3 _ true) _ _ _ _
  refine wpG_region_held (S := fun M w => Sat o n k r Rd F w0 M w i) OwnW.draw T0 (by kernel_rfl) fun w1 h1 => ?_
  replace hs := (hs.rely h1).draw
  refine anyG_take T0 (fun _ _ _ h q => h.rely q) hQr (n := 0) (v := .slice (some ⟨o, 0, none⟩) n co) rfl (by kernel_rfl) (by kernel_rfl) (by kernel_rfl) (.inl ⟨rfl, fun M2 w2 h2 => ⟨?_, OwnW.same M2 rfl rfl rfl rfl fun e he => ?_⟩⟩) hs ?_
  · have hc1 := h2.cell dO cO; simp [go_sem, hc1]
  · replace he := mem_seen he
    have hc1 := h2.cell dO cO
    simp [go_sem, hc1] at he
    subst he
    exact ⟨_, rfl, .inr (.inl dO)⟩
  show AnyG Try.prog m _ _ 54 _ _ Q _ _ _ ⟨(#[.pointer (some ⟨bw, 0, none⟩), .pointer (some ⟨bl, 0, none⟩), .pointer (some ⟨bk, 0, none⟩), .pointer (some ⟨bh, 0, none⟩), .pointer (some ⟨bo, 0, none⟩), .pointer (some ⟨bd, 0, none⟩), .int .i64 (i : Nat), u7, u8, u9, u10, u11, u12, u13, u14, .slice (some ⟨o, 0, none⟩) n co, u16, u17, u18, u19, u20, u21, u22, u23, u24] : Array Value), []⟩ _ _
  refine anyG_take T0 (fun _ _ _ h q => h.rely q) hQr (n := 1) (v := .int .i64 (i : Nat)) rfl (by kernel_rfl) (by kernel_rfl) (by kernel_rfl) (.inl ⟨rfl, fun M2 w2 h2 => ⟨?_, OwnW.same M2 rfl rfl rfl rfl fun e he => ?_⟩⟩) hs ?_
  · simp [go_sem]
  · replace he := mem_seen he
    simp [go_sem] at he
  show AnyG Try.prog m _ _ 54 _ _ Q _ _ _ ⟨(#[.pointer (some ⟨bw, 0, none⟩), .pointer (some ⟨bl, 0, none⟩), .pointer (some ⟨bk, 0, none⟩), .pointer (some ⟨bh, 0, none⟩), .pointer (some ⟨bo, 0, none⟩), .pointer (some ⟨bd, 0, none⟩), .int .i64 (i : Nat), u7, u8, u9, u10, u11, u12, u13, u14, .slice (some ⟨o, 0, none⟩) n co, .int .i64 (i : Nat), u17, u18, u19, u20, u21, u22, u23, u24] : Array Value), []⟩ _ _
  refine anyG_take T0 (fun _ _ _ h q => h.rely q) hQr (n := 2) (v := .func (.func f) #[] caps) rfl (by kernel_rfl) (by kernel_rfl) (by kernel_rfl) (.inl ⟨rfl, fun M2 w2 h2 => ⟨?_, OwnW.same M2 rfl rfl rfl rfl fun e he => ?_⟩⟩) hs ?_
  · have hc1 := h2.cell dh ch; simp [go_sem, hc1]
  · replace he := mem_seen he
    have hc1 := h2.cell dh ch
    simp [go_sem, hc1] at he
    subst he
    exact ⟨_, rfl, .inr (.inl dh)⟩
  show AnyG Try.prog m _ _ 54 _ _ Q _ _ _ ⟨(#[.pointer (some ⟨bw, 0, none⟩), .pointer (some ⟨bl, 0, none⟩), .pointer (some ⟨bk, 0, none⟩), .pointer (some ⟨bh, 0, none⟩), .pointer (some ⟨bo, 0, none⟩), .pointer (some ⟨bd, 0, none⟩), .int .i64 (i : Nat), u7, u8, u9, u10, u11, u12, u13, u14, .slice (some ⟨o, 0, none⟩) n co, .int .i64 (i : Nat), .func (.func f) #[] caps, u18, u19, u20, u21, u22, u23, u24] : Array Value), []⟩ _ _
  refine anyG_take T0 (fun _ _ _ h q => h.rely q) hQr (n := 3) (v := .slice (some ⟨gl, 0, none⟩) n cl) rfl (by kernel_rfl) (by kernel_rfl) (by kernel_rfl) (.inl ⟨rfl, fun M2 w2 h2 => ⟨?_, OwnW.same M2 rfl rfl rfl rfl fun e he => ?_⟩⟩) hs ?_
  · have hc1 := h2.cell dl c_l; simp [go_sem, hc1]
  · replace he := mem_seen he
    have hc1 := h2.cell dl c_l
    simp [go_sem, hc1] at he
    subst he
    exact ⟨_, rfl, .inr (.inl dl)⟩
  show AnyG Try.prog m _ _ 54 _ _ Q _ _ _ ⟨(#[.pointer (some ⟨bw, 0, none⟩), .pointer (some ⟨bl, 0, none⟩), .pointer (some ⟨bk, 0, none⟩), .pointer (some ⟨bh, 0, none⟩), .pointer (some ⟨bo, 0, none⟩), .pointer (some ⟨bd, 0, none⟩), .int .i64 (i : Nat), u7, u8, u9, u10, u11, u12, u13, u14, .slice (some ⟨o, 0, none⟩) n co, .int .i64 (i : Nat), .func (.func f) #[] caps, .slice (some ⟨gl, 0, none⟩) n cl, u19, u20, u21, u22, u23, u24] : Array Value), []⟩ _ _
  refine anyG_take T0 (fun _ _ _ h q => h.rely q) hQr (n := 4) (v := .int .i64 (i : Nat)) rfl (by kernel_rfl) (by kernel_rfl) (by kernel_rfl) (.inl ⟨rfl, fun M2 w2 h2 => ⟨?_, OwnW.same M2 rfl rfl rfl rfl fun e he => ?_⟩⟩) hs ?_
  · simp [go_sem]
  · replace he := mem_seen he
    simp [go_sem] at he
  show AnyG Try.prog m _ _ 54 _ _ Q _ _ _ ⟨(#[.pointer (some ⟨bw, 0, none⟩), .pointer (some ⟨bl, 0, none⟩), .pointer (some ⟨bk, 0, none⟩), .pointer (some ⟨bh, 0, none⟩), .pointer (some ⟨bo, 0, none⟩), .pointer (some ⟨bd, 0, none⟩), .int .i64 (i : Nat), u7, u8, u9, u10, u11, u12, u13, u14, .slice (some ⟨o, 0, none⟩) n co, .int .i64 (i : Nat), .func (.func f) #[] caps, .slice (some ⟨gl, 0, none⟩) n cl, .int .i64 (i : Nat), u20, u21, u22, u23, u24] : Array Value), []⟩ _ _
  refine anyG_take T0 (fun _ _ _ h q => h.rely q) hQr (n := 5) (v := .pointer (some ⟨gl, i, none⟩)) rfl (by kernel_rfl) (by kernel_rfl) (by kernel_rfl) (.inl ⟨rfl, fun M2 w2 h2 => ⟨?_, OwnW.same M2 rfl rfl rfl rfl fun e he => ?_⟩⟩) hs ?_
  · have hc1 := hlt; simp [go_sem, hc1]
  · replace he := mem_seen he
    have hc1 := hlt
    simp [go_sem, hc1] at he
  show AnyG Try.prog m _ _ 54 _ _ Q _ _ _ ⟨(#[.pointer (some ⟨bw, 0, none⟩), .pointer (some ⟨bl, 0, none⟩), .pointer (some ⟨bk, 0, none⟩), .pointer (some ⟨bh, 0, none⟩), .pointer (some ⟨bo, 0, none⟩), .pointer (some ⟨bd, 0, none⟩), .int .i64 (i : Nat), u7, u8, u9, u10, u11, u12, u13, u14, .slice (some ⟨o, 0, none⟩) n co, .int .i64 (i : Nat), .func (.func f) #[] caps, .slice (some ⟨gl, 0, none⟩) n cl, .int .i64 (i : Nat), .pointer (some ⟨gl, i, none⟩), u21, u22, u23, u24] : Array Value), []⟩ _ _
  refine anyG_take T0 (fun _ _ _ h q => h.rely q) hQr (n := 6) (v := .int .i64 (L i)) rfl (by kernel_rfl) (by kernel_rfl) (by kernel_rfl) (.inl ⟨rfl, fun M2 w2 h2 => ⟨?_, OwnW.same M2 rfl rfl rfl rfl fun e he => ?_⟩⟩) hs ?_
  · have hc1 := h2.cell (b := ⟨gl, i, none⟩) dg (cL i hlt); simp [go_sem, hc1]
  · replace he := mem_seen he
    have hc1 := h2.cell (b := ⟨gl, i, none⟩) dg (cL i hlt)
    simp [go_sem, hc1] at he
    subst he
    exact ⟨_, rfl, .inr (.inl dg)⟩
  show AnyG Try.prog m _ _ 54 _ _ Q _ _ _ ⟨(#[.pointer (some ⟨bw, 0, none⟩), .pointer (some ⟨bl, 0, none⟩), .pointer (some ⟨bk, 0, none⟩), .pointer (some ⟨bh, 0, none⟩), .pointer (some ⟨bo, 0, none⟩), .pointer (some ⟨bd, 0, none⟩), .int .i64 (i : Nat), u7, u8, u9, u10, u11, u12, u13, u14, .slice (some ⟨o, 0, none⟩) n co, .int .i64 (i : Nat), .func (.func f) #[] caps, .slice (some ⟨gl, 0, none⟩) n cl, .int .i64 (i : Nat), .pointer (some ⟨gl, i, none⟩), .int .i64 (L i), u22, u23, u24] : Array Value), []⟩ _ _
  refine anyG_all (rs := [7]) (by kernel_rfl) (by simp) fun x hx => ?_
  simp at hx
  subst hx
  refine w54_op7 rfl rfl rfl hs hE hcall fun M3 w3 h3 => ?_
  refine ⟨h3, ?_⟩
  show AnyG Try.prog m _ _ 54 _ _ Q _ _ _ ⟨(#[.pointer (some ⟨bw, 0, none⟩), .pointer (some ⟨bl, 0, none⟩), .pointer (some ⟨bk, 0, none⟩), .pointer (some ⟨bh, 0, none⟩), .pointer (some ⟨bo, 0, none⟩), .pointer (some ⟨bd, 0, none⟩), .int .i64 (i : Nat), u7, u8, u9, u10, u11, u12, u13, u14, .slice (some ⟨o, 0, none⟩) n co, .int .i64 (i : Nat), .func (.func f) #[] caps, .slice (some ⟨gl, 0, none⟩) n cl, .int .i64 (i : Nat), .pointer (some ⟨gl, i, none⟩), .int .i64 (L i), .int .i64 (F i), u23, u24] : Array Value), []⟩ _ _
  clear hs
  have hs := h3
  refine anyG_take T0 (fun _ _ _ h q => h.rely q) hQr (n := 8) (v := .pointer (some ⟨o, i, none⟩)) rfl (by kernel_rfl) (by kernel_rfl) (by kernel_rfl) (.inl ⟨rfl, fun M2 w2 h2 => ⟨?_, OwnW.same M2 rfl rfl rfl rfl fun e he => ?_⟩⟩) hs ?_
  · have hc1 := hlt; simp [go_sem, hc1]
  · replace he := mem_seen he
    have hc1 := hlt
    simp [go_sem, hc1] at he
  show AnyG Try.prog m _ _ 54 _ _ Q _ _ _ ⟨(#[.pointer (some ⟨bw, 0, none⟩), .pointer (some ⟨bl, 0, none⟩), .pointer (some ⟨bk, 0, none⟩), .pointer (some ⟨bh, 0, none⟩), .pointer (some ⟨bo, 0, none⟩), .pointer (some ⟨bd, 0, none⟩), .int .i64 (i : Nat), u7, u8, u9, u10, u11, u12, u13, u14, .slice (some ⟨o, 0, none⟩) n co, .int .i64 (i : Nat), .func (.func f) #[] caps, .slice (some ⟨gl, 0, none⟩) n cl, .int .i64 (i : Nat), .pointer (some ⟨gl, i, none⟩), .int .i64 (L i), .int .i64 (F i), .pointer (some ⟨o, i, none⟩), u24] : Array Value), []⟩ _ _
  refine anyG_all (rs := [9]) (by kernel_rfl) (by simp) fun x hx => ?_
  simp at hx
  subst hx
  refine w54_op9 rfl rfl rfl hs hlt hi fun w4 h4 => ⟨h4.mono (by omega), ?_⟩
  exact anyG_done (by kernel_rfl) (hQ _ _ h4) _
end Go.Proofs.Ytpigjhagdpeofaa.Sim
