/-
  Two goroutines alike up to a renaming of blocks, one alone, one in company: each step of the one is matched by a step of the other. No condition.
  The lone goroutine's step: what it can be, and that it hangs on the answers that it takes alone. No condition.
  The machine of one goroutine: what never comes back. No condition.
  A goroutine in company, told by what it owns: the judgement, and how two alike worlds bear the others' doing. No condition.
  From a contract of the goroutine alone, on every tape, to the judgement in company. No condition.
  From a contract of the goroutine alone to the judgement in company: the bar. No condition.
  The judgement in company: one after the other, and beside what it does not touch. No condition.
  The bar's first state, from a contract of the goroutine alone; the two judgements of a run's end. No condition.
-/
import Derived.Test.YtpigjhagdpeofaaSm2
import Derived.Calls

namespace Go.Proofs.Ytpigjhagdpeofaa.Sim
open Go Go.Conc
set_option linter.unusedVariables false
variable {X : Ctx} {r : Ren}

theorem stepG_not {P : Program} {main : Bool} {b : Frame} {a : Act} {k : List Item} {cs : List Frame} {w : World} {ops : Array Oper} {i : Nat} {rest : List Nat} (h : ((ops[i]?).map (Region.wanted · (yielded ops a.tmps))).getD false = false) :
    stepG P main (G (b.at a (.inRegion ops (i :: rest) :: k)) cs) w = .go (G (b.at (a.put ((ops[i]?).bind (·.dst)) undef) (.inRegion ops rest :: k)) cs) w := by
  rw [← Frame.finish_at]
  have h' := h
  simp only [Frame.at] at *
  simp [G, stepG, stepG.exec, h']
theorem stepG_draw {P : Program} {main : Bool} {b : Frame} {a : Act} {k : List Item} {cs : List Frame} {w : World} {ops : Array Oper} {id : Nat} :
    stepG P main (G (b.at a (.code (.region id ops true) :: k)) cs) w = .go (G (b.at a (.inRegion ops (Region.schedule (P.follows .mixedOrders) ops (w.tape w.drawn (.order b.fn id))) :: k)) cs) { w with drawn := w.drawn + 1 } := by
  simp [G, stepG, stepG.exec, Frame.at, choose, Sem.run, Question.forced, Question.cut]

set_option maxHeartbeats 1000000 in
theorem step_run {sp : FuncId} (hO : Ords X sp) {ml mc : Bool} {lb base cs cs' : List Frame} {fr fr' : Frame} {wl wc : World} (h : Fr X r fr fr') (m1 : fr.mode = .run) (m2 : fr'.mode = .run) (hs : Stk X r lb base cs cs')
    (hw : WRel X r wl wc) (ht : wl.tape = wc.tape) (hd : wl.drawn = wc.drawn) {fr1 : Frame} {cs1 : List Frame} {wl1 : World} {es : Array Event} (hg0 : stepG X.Q ml (G fr cs) wl = .go (G fr1 cs1) wl1 es) :
    (∃ ch, fr1 = { fr with mode := .panicking ch } ∧ cs1 = cs) ∨
      ∃ r2 fr1' cs1' wc1 es', stepG X.P mc (G fr' cs') wc = .go (G fr1' cs1') wc1 es' ∧ Nexts X sp lb base r wc fr1 cs1 wl1 r2 fr1' cs1' wc1 es' := by
  have e1 := h.at1 m1
  have e2 := h.at2 m2
  have hi := h.items
  have hg : stepG X.Q ml (G (fr.at ⟨fr.tmps, []⟩ fr.todo) cs) wl = .go (G fr1 cs1) wl1 es := by rw [← e1]; exact hg0
  have comp : ∀ {x : GStep}, stepG X.P mc (G (fr'.at ⟨fr'.tmps, []⟩ fr.todo) cs') wc = x → stepG X.P mc (G fr' cs') wc = x := by
    intro x hx
    rw [← e2] at hx
    exact hx
  -- a move of control to another list of things to do
  have ctl : ∀ {todo : List Item}, todo.all (okItem X fr.fn) = true → GStep.go (G (fr.at ⟨fr.tmps, []⟩ todo) cs) wl #[] = .go (G fr1 cs1) wl1 es → stepG X.P mc (G (fr'.at ⟨fr'.tmps, []⟩ fr.todo) cs') wc = .go (G (fr'.at ⟨fr'.tmps, []⟩ todo) cs') wc #[] →
      ∃ r2 fr1' cs1' wc1 es', stepG X.P mc (G fr' cs') wc = .go (G fr1' cs1') wc1 es' ∧ Nexts X sp lb base r wc fr1 cs1 wl1 r2 fr1' cs1' wc1 es' := by
    intro todo hit hl hc
    obtain ⟨rfl, rfl, rfl⟩ := G_inj hl
    exact ⟨r, _, cs', wc, #[], comp hc, Nexts.ctl hs hw ht hd (h.to hit) (.inl ⟨rfl, rfl⟩)⟩
  have ret : ∀ {todo : List Item}, todo.all (okItem X fr.fn) = true → GStep.go (G { fr.at ⟨fr.tmps, []⟩ todo with mode := .returning } cs) wl #[] = .go (G fr1 cs1) wl1 es → stepG X.P mc (G (fr'.at ⟨fr'.tmps, []⟩ fr.todo) cs') wc = .go (G { fr'.at ⟨fr'.tmps, []⟩ todo with mode := .returning } cs') wc #[] →
      ∃ r2 fr1' cs1' wc1 es', stepG X.P mc (G fr' cs') wc = .go (G fr1' cs1') wc1 es' ∧ Nexts X sp lb base r wc fr1 cs1 wl1 r2 fr1' cs1' wc1 es' := by
    intro todo hit hl hc
    obtain ⟨rfl, rfl, rfl⟩ := G_inj hl
    exact ⟨r, _, cs', wc, #[], comp hc, Nexts.ctl hs hw ht hd (h.ret hit) (.inr ⟨rfl, rfl⟩)⟩
  cases htodo : fr.todo with
  | nil =>
    rw [htodo] at hg comp ctl ret hi
    rw [stepG_end] at hg
    exact .inr (ret hi hg stepG_end)
  | cons it k =>
    rw [htodo] at hg comp ctl ret hi
    simp only [List.all_cons, Bool.and_eq_true] at hi
    obtain ⟨hi1, hi2⟩ := hi
    cases it with
    | inBlock id => rw [stepG_inBlock] at hg; exact .inr (ctl hi2 hg stepG_inBlock)
    | inScope b => cases hi1
    | inLoop b =>
      rw [stepG_inLoop] at hg
      exact .inr (ctl (by simp only [List.all_cons, Bool.and_eq_true]; exact ⟨hi1, hi1, hi2⟩) hg stepG_inLoop)
    | inRangeFunc l => cases hi1
    | endRangeFunc l => cases hi1
    | beginRound => cases hi1
    | call d a b c => cases hi1
    | code c =>
      cases c with
      | skip => rw [stepG_skip] at hg; exact .inr (ctl hi2 hg stepG_skip)
      | ret => rw [stepG_ret'] at hg; exact .inr (ret (by simp only [List.all_cons, Bool.and_eq_true]; exact ⟨hi1, hi2⟩) hg stepG_ret')
      | seq a b =>
        have hab : okCode X fr.fn a = true ∧ okCode X fr.fn b = true := by simpa [okItem, okCode] using hi1
        rw [stepG_seq] at hg
        exact .inr (ctl (by simp only [List.all_cons, Bool.and_eq_true]; exact ⟨hab.1, hab.2, hi2⟩) hg stepG_seq)
      | block id b => rw [stepG_block] at hg; exact .inr (ctl (by simp only [List.all_cons, Bool.and_eq_true]; exact ⟨hi1, rfl, hi2⟩) hg stepG_block)
      | loop b => rw [stepG_loop] at hg; exact .inr (ctl (by simp only [List.all_cons, Bool.and_eq_true]; exact ⟨hi1, hi1, hi2⟩) hg stepG_loop)
      | exit id =>
        cases hx : exitTo id k with
        | none =>
          simp [G, stepG, stepG.exec, Frame.at, hx] at hg
        | some k' => rw [stepG_exit hx] at hg; exact .inr (ctl (exitTo_items hx hi2) hg (stepG_exit hx))
      | cond c a b =>
        have hab : (opOK X c = true ∧ okCode X fr.fn a = true) ∧ okCode X fr.fn b = true := by simpa [okItem, okCode] using hi1
        have hev := (h.tm.op hab.1.1).1
        have ea : (⟨fr.tmps, []⟩ : Act).eval c = ev fr.tmps c := by cases c <;> rfl
        have ea' : (⟨fr'.tmps, []⟩ : Act).eval c = ev fr'.tmps c := by cases c <;> rfl
        by_cases hb : ∃ t, ev fr.tmps c = .bool t
        · obtain ⟨t, hb⟩ := hb
          rw [hb] at hev
          have hb' := hev.bool_inv
          rw [stepG_cond (ea.trans hb)] at hg
          exact .inr (ctl (by simp only [List.all_cons, Bool.and_eq_true]; exact ⟨by cases t <;> first | exact hab.2 | exact hab.1.2, hi2⟩) hg (stepG_cond (ea'.trans hb')))
        · exfalso
          have e3 : (fr.at ⟨fr.tmps, []⟩ (.code (.cond c a b) :: k)).eval c = ev fr.tmps c := by cases c <;> rfl
          simp only [Frame.at] at e3
          simp only [G, stepG, stepG.exec, Frame.at] at hg
          rw [e3] at hg
          cases hv : ev fr.tmps c <;> first
            | exact hb ⟨_, hv⟩
            | (rw [hv] at hg; simp at hg)
      | region id ops draw =>
        cases draw with
        | false => rw [stepG_region] at hg; exact .inr (ctl (by simp only [List.all_cons, Bool.and_eq_true]; exact ⟨hi1, hi2⟩) hg stepG_region)
        | true =>
          rw [stepG_draw] at hg
          obtain ⟨rfl, rfl, rfl⟩ := G_inj hg
          have hsch : Region.schedule (X.Q.follows .mixedOrders) ops (wl.tape wl.drawn (.order fr.fn id)) = Region.schedule (X.P.follows .mixedOrders) ops (wc.tape wc.drawn (.order fr'.fn id)) := by
            rw [ht, hd, h.fn]
            rfl
          rw [hsch]
          refine .inr ⟨r, _, cs', { wc with drawn := wc.drawn + 1 }, #[], comp stepG_draw, Ren.Le.refl _, .ord (h.to (by simp only [List.all_cons, Bool.and_eq_true]; exact ⟨hi1, hi2⟩)) (.inl ⟨rfl, rfl⟩), hs, ⟨hw.dom, hw.inj, hw.sh, hw.obj, hw.fz, hw.old, hw.oldr, hw.low⟩, ht, by simp [hd], ⟨rfl, rfl, rfl, Nat.le_succ _, Nat.le_refl _, fun _ _ _ => rfl, fun c h1 h2 => absurd h2 (Nat.not_lt.2 h1)⟩, New.refl, fun e he => by simp at he⟩
      | rangeFunc a b c d => cases hi1
      | scope a => cases hi1
      | label l => cases hi1
      | goto l => cases hi1
      | refuse y => cases hi1
    | inRegion ops todo =>
      cases todo with
      | nil => rw [stepG_region_end] at hg; exact .inr (ctl hi2 hg stepG_region_end)
      | cons i rest =>
        have hy : yielded ops fr.tmps = yielded ops fr'.tmps := yielded_eq h.tm ops
        have hits : (Item.inRegion ops rest :: k).all (okItem X fr.fn) = true := by
          simp only [List.all_cons, Bool.and_eq_true]
          exact ⟨hi1, hi2⟩
        by_cases hwn : ((ops[i]?).map (Region.wanted · (yielded ops fr.tmps))).getD false = false
        · rw [stepG_not (a := ⟨fr.tmps, []⟩) hwn] at hg
          obtain ⟨rfl, rfl, rfl⟩ := G_inj hg
          rw [hy] at hwn
          exact .inr ⟨r, _, cs', wc, #[], comp (stepG_not (a := ⟨fr'.tmps, []⟩) hwn), Nexts.ctl hs hw ht hd (h.put htodo VRel.undef fun o _ => InCls.undef _) (.inl ⟨rfl, rfl⟩)⟩
        · obtain ⟨o, ho, hwo⟩ : ∃ o, ops[i]? = some o ∧ Region.wanted o (yielded ops fr.tmps) = true := by
            cases hx : ops[i]? with
            | none => rw [hx] at hwn; simp at hwn
            | some o => rw [hx] at hwn; exact ⟨o, rfl, by simpa using hwn⟩
          have hwo' : Region.wanted o (yielded ops fr'.tmps) = true := by rw [← hy]; exact hwo
          have hok : okOp X fr.fn (dcl X fr.fn o) o.op = true := Array.all_eq_true_iff_forall_mem.1 hi1 o (Array.mem_of_getElem? ho)
          have hk1 : fr.kind ≠ .early := by rw [h.kind]; intro e; cases e
          have hk2 : fr'.kind ≠ .early := by rw [h.kind']; intro e; cases e
          have ea : (⟨fr.tmps, []⟩ : Act).eval = ev fr.tmps := by funext c; cases c <;> rfl
          have ea' : (⟨fr'.tmps, []⟩ : Act).eval = ev fr'.tmps := by funext c; cases c <;> rfl
          cases hr : (execOp (ev fr.tmps) o).run X.Q wl with
          | halt y w2 =>
            rw [stepG_oper (a := ⟨fr.tmps, []⟩) ho hwo, ea] at hg
            obtain ⟨ch, h1, h2⟩ := apply_halt hO.fol hO.ready hr (by rfl) hg
            refine .inl ⟨ch, ?_, h2⟩
            rw [h1, ← htodo, ← e1]
          | ok nx w2 =>
            obtain ⟨s2, nx', wc2, q⟩ := SR.op hO.good h.tm (o := o) hok r (Ren.Le.refl _) wl wc hw ht hd nx w2 hr
            have hfr2 := h.mono q.le
            have hs2 := hs.mono q.le
            have hev : ∀ e ∈ listed X.P fr'.fn ⟨fr'.tmps, []⟩ o wc, Ev X s2 e := fun e he => by
              unfold listed at he
              rw [ea'] at he
              exact q.evs e (mem_seen he)
            cases q.val with
            | value hv hc =>
              rw [stepG_value (a := ⟨fr.tmps, []⟩) ho hwo hk1 (by rw [ea]; exact hr)] at hg
              obtain ⟨rfl, rfl, rfl⟩ := G_inj hg
              have e3 := hfr2.put htodo hv (fun o' ho' => by rw [ho] at ho'; cases ho'; exact hc)
              rw [ho] at e3
              exact .inr ⟨s2, _, cs', wc2, _, comp (stepG_value (a := ⟨fr'.tmps, []⟩) ho hwo' hk2 (by rw [ea']; exact q.run)), q.le, .ord e3 (.inl ⟨rfl, rfl⟩), hs2, q.rel, q.tape, q.drawn, q.gu, q.new, hev⟩
            | skip =>
              rw [stepG_none (a := ⟨fr.tmps, []⟩) ho hwo hk1 (by rw [ea]; exact hr)] at hg
              obtain ⟨rfl, rfl, rfl⟩ := G_inj hg
              have e3 := hfr2.put htodo (VRel.undef (ok := X.ok)) (fun o' ho' => InCls.undef _)
              rw [ho] at e3
              exact .inr ⟨s2, _, cs', wc2, _, comp (stepG_none (a := ⟨fr'.tmps, []⟩) ho hwo' hk2 (by rw [ea']; exact q.run)), q.le, .ord e3 (.inl ⟨rfl, rfl⟩), hs2, q.rel, q.tape, q.drawn, q.gu, q.new, hev⟩
            | enter hg2 ha hc hlo hz =>
              rename_i g vs vs'
              rw [stepG_enter (a := ⟨fr.tmps, []⟩) ho hwo hk1 (by rw [ea]; exact hr)] at hg
              obtain ⟨rfl, rfl, rfl⟩ := G_inj hg
              refine .inr ⟨s2, _, _, wc2, _, comp (stepG_enter (a := ⟨fr'.tmps, []⟩) ho hwo' hk2 (by rw [ea']; exact q.run)), q.le, ?_, ?_, q.rel, q.tape, q.drawn, q.gu, q.new, hev⟩
              · by_cases hsp : g = sp
                · subst hsp
                  exact .special ha hg2 hz
                · obtain ⟨fn, c, hord, hb, hcode⟩ := hO.ord g hg2 hsp
                  have hl : X.Q.funcs[g]? = some fn := hord.lone
                  rw [enter_at vs hl hb, enter_at vs' hord.comp hb]
                  refine .ord ⟨rfl, ⟨fn, hord⟩, rfl, ?_, rfl, rfl, rfl, rfl, rfl, rfl, ?_⟩ (.inl ⟨rfl, rfl⟩)
                  · simp [Frame.at, Conc.base, okItem, hcode]
                  · refine ⟨?_, fun j x hx => ?_⟩
                    · show ARel X.ok s2 (vs ++ Array.replicate (fn.ntmps - vs.size) undef) (vs' ++ Array.replicate (fn.ntmps - vs'.size) undef)
                      rw [← ha.1]
                      exact ha.append (ARel.replicate _ VRel.undef)
                    · have hx' : (vs ++ Array.replicate (fn.ntmps - vs.size) undef)[j]? = some x := hx
                      rw [Array.getElem?_append] at hx'
                      split at hx'
                      · exact hc j x hx'
                      · rw [Array.getElem?_replicate] at hx'
                        split at hx'
                        · cases hx'; exact InCls.undef _
                        · cases hx'
              · refine .cons ?_ hs2
                rw [← htodo, ← e1, ← e2]
                exact ⟨hfr2, m1, m2, ops, i, rest, k, htodo, fun o' ho' => by rw [ho] at ho'; cases ho'; exact hlo⟩
    | _ => cases hi1
end Go.Proofs.Ytpigjhagdpeofaa.Sim

namespace Go.Proofs.Ytpigjhagdpeofaa.Sim
open Go Go.Conc
set_option linter.unusedVariables false
variable {X : Ctx} {r : Ren}

def BadG (g : Goroutine) : Prop := g.status = .blocked ∨ g.status = .waiting ∨ (g.status = .running ∧ ∃ d f, g.dying = some d ∧ d.fatal = some f ∧ d.calling = false)
structure RtG (p : Program) (m : Bool) (g g1 : Goroutine) (w w1 : World) : Prop where
  tape : w1.tape = w.tape
  drawn : w.drawn ≤ w1.drawn
  run : ∀ T K, (∀ j q, j < w1.drawn - w.drawn → T (K + j) q = w.tape (w.drawn + j) q) → ∃ es, stepG p m g (tp w T K) = .go g1 (tp w1 T (K + (w1.drawn - w.drawn))) es
theorem RtG.same {p : Program} {m : Bool} {g g1 : Goroutine} {w : World} (h : ∀ w, stepG p m g w = .go g1 w #[]) : RtG p m g g1 w w :=
  ⟨rfl, Nat.le_refl _, fun T K _ => ⟨#[], by rw [h, Nat.sub_self, Nat.add_zero]⟩⟩
/-- What a lone step can be. -/
inductive LS (X : Ctx) (ml : Bool) (fr : Frame) (cs : List Frame) (w : World) : Prop
  | ended {o : Outcome} {w1 : World} {es : Array Event} (h : stepG X.Q ml (G fr cs) w = .ended o w1 es) : LS X ml fr cs w
  | bad {g1 : Goroutine} {w1 : World} {es : Array Event} (h : stepG X.Q ml (G fr cs) w = .go g1 w1 es) (b : BadG g1) : LS X ml fr cs w
  | pan {ch : List PanicEntry} {w1 : World} {es : Array Event} (h : stepG X.Q ml (G fr cs) w = .go (G { fr with mode := .panicking ch } cs) w1 es) (hl : ch.length = 1) : LS X ml fr cs w
  | go {fr1 : Frame} {cs1 : List Frame} {w1 : World} {es : Array Event} (h : stepG X.Q ml (G fr cs) w = .go (G fr1 cs1) w1 es) (hm : ∀ ch, fr1.mode ≠ .panicking ch) (rt : RtG X.Q ml (G fr cs) (G fr1 cs1) w w1) : LS X ml fr cs w

theorem apply_halt_all (hfol : X.P.follows .staticDataAhead = true) (hrd : ∀ g, X.Q.stepOf g = none) {fr : Frame} {cs : List Frame} {s : Sem Next} {w w' : World} {h : Halt} (hr : s.run X.Q w = .halt h w') (hm : fr.mode = .run) :
    (∃ o w1 es, stepG.apply X.Q true fr cs none s w = .ended o w1 es) ∨ (∃ g1 w1 es, stepG.apply X.Q true fr cs none s w = .go g1 w1 es ∧ BadG g1) ∨ ∃ ch w1 es, stepG.apply X.Q true fr cs none s w = .go (G { fr with mode := .panicking ch } cs) w1 es ∧ ch.length = 1 := by
  have hq : X.Q.follows .staticDataAhead = true := hfol
  have e : ∃ es : Array Event, True := ⟨#[], trivial⟩
  unfold stepG.apply
  simp only [Sem.runT_eq, hr, if_true]
  cases h with
  | panic v => exact .inr (.inr ⟨_, _, _, by simp only [GStep.after, G, Frame.raise, hm]; rfl, rfl⟩)
  | goexit => exact .inr (.inr ⟨_, _, _, by simp only [GStep.after, G, Frame.raise, hm]; rfl, rfl⟩)
  | unsupported u =>
    cases u <;> first
      | exact .inl ⟨_, _, _, rfl⟩
      | (simp only [early, hq, hrd, GStep.after]; exact .inl ⟨_, _, _, rfl⟩)
  | blocked => exact .inr (.inl ⟨_, _, _, rfl, .inl rfl⟩)
  | waiting => exact .inr (.inl ⟨_, _, _, rfl, .inr (.inl rfl)⟩)
  | exit c => exact .inl ⟨_, _, _, rfl⟩
  | fatal m =>
    have key : ∀ (w2 : World) es', (∃ o w1 es, GStep.after es' (endFatal X.Q fr cs none m w2) = .ended o w1 es) ∨ (∃ g1 w1 es, GStep.after es' (endFatal X.Q fr cs none m w2) = .go g1 w1 es ∧ BadG g1) := by
      intro w2 es'
      unfold endFatal
      dsimp only
      generalize Sem.run X.Q _ w2 = rr
      cases rr with
      | ok a w3 => obtain ⟨a, b⟩ := a; exact .inr ⟨_, _, _, rfl, .inr (.inr ⟨rfl, _, _, rfl, rfl, rfl⟩)⟩
      | halt h w3 => cases h <;> exact .inl ⟨_, _, _, rfl⟩
    rcases key w' (seen X.Q fr.fn (if (fr.kind == CallKind.early) = true then #[] else s.events X.Q w #[])) with h | h
    · exact .inl h
    · exact .inr (.inl h)
  | throw m => exact .inr (.inl ⟨_, _, _, rfl, .inr (.inr ⟨rfl, _, _, rfl, rfl, rfl⟩)⟩)
  | stuck s => exact .inl ⟨_, _, _, rfl⟩

set_option maxHeartbeats 1000000 in
theorem lone_step {sp : FuncId} (hO : Ords X sp) {ml : Bool} {cs : List Frame} {fr fr' : Frame} {wl wc : World} (h : Fr X r fr fr') (m1 : fr.mode = .run)
    (hw : WRel X r wl wc) (ht : wl.tape = wc.tape) (hd : wl.drawn = wc.drawn) : LS X ml fr cs wl := by
  have e1 := h.at1 m1
  have hi := h.items
  have ctl : ∀ {todo : List Item}, (∀ w, stepG X.Q ml (G (fr.at ⟨fr.tmps, []⟩ fr.todo) cs) w = .go (G (fr.at ⟨fr.tmps, []⟩ todo) cs) w #[]) → LS X ml fr cs wl := by
    intro todo hl
    rw [← e1] at hl
    exact .go (hl wl) (fun ch e => by cases e) (RtG.same hl)
  have ret : ∀ {todo : List Item}, (∀ w, stepG X.Q ml (G (fr.at ⟨fr.tmps, []⟩ fr.todo) cs) w = .go (G { fr.at ⟨fr.tmps, []⟩ todo with mode := .returning } cs) w #[]) → LS X ml fr cs wl := by
    intro todo hl
    rw [← e1] at hl
    exact .go (hl wl) (fun ch e => by cases e) (RtG.same hl)
  have lft : ∀ {x : GStep} {w : World}, stepG X.Q ml (G (fr.at ⟨fr.tmps, []⟩ fr.todo) cs) w = x → stepG X.Q ml (G fr cs) w = x := by
    intro x w hx
    rw [← e1] at hx
    exact hx
  cases htodo : fr.todo with
  | nil => rw [htodo] at ret; exact ret fun w => stepG_end
  | cons it k =>
    rw [htodo] at ctl ret hi lft
    simp only [List.all_cons, Bool.and_eq_true] at hi
    obtain ⟨hi1, hi2⟩ := hi
    cases it with
    | inBlock id => exact ctl fun w => stepG_inBlock
    | inScope b => cases hi1
    | inLoop b => exact ctl fun w => stepG_inLoop
    | inRangeFunc l => cases hi1
    | endRangeFunc l => cases hi1
    | beginRound => cases hi1
    | call d a b c => cases hi1
    | code c =>
      cases c with
      | skip => exact ctl fun w => stepG_skip
      | ret => exact ret fun w => stepG_ret'
      | seq a b => exact ctl fun w => stepG_seq
      | block id b => exact ctl fun w => stepG_block
      | loop b => exact ctl fun w => stepG_loop
      | exit id =>
        cases hx : exitTo id k with
        | none => exact .ended (lft (w := wl) (by simp [G, stepG, stepG.exec, Frame.at, hx]; exact ⟨rfl, rfl, rfl⟩))
        | some k' => exact ctl fun w => stepG_exit hx
      | cond c a b =>
        have ea : (⟨fr.tmps, []⟩ : Act).eval c = ev fr.tmps c := by cases c <;> rfl
        by_cases hb : ∃ t, ev fr.tmps c = .bool t
        · obtain ⟨t, hb⟩ := hb
          exact ctl fun w => stepG_cond (ea.trans hb)
        · have e3 : (fr.at ⟨fr.tmps, []⟩ (.code (.cond c a b) :: k)).eval c = ev fr.tmps c := by cases c <;> rfl
          simp only [Frame.at] at e3
          obtain ⟨o, w1, es, hh⟩ : ∃ o w1 es, stepG X.Q ml (G (fr.at ⟨fr.tmps, []⟩ (.code (.cond c a b) :: k)) cs) wl = .ended o w1 es := by
            simp only [G, stepG, stepG.exec, Frame.at]
            rw [e3]
            generalize ev fr.tmps c = v at hb
            cases v with
            | bool t => exact absurd ⟨t, rfl⟩ hb
            | _ => exact ⟨_, _, _, rfl⟩
          exact .ended (lft hh)
      | region id ops draw =>
        cases draw with
        | false => exact ctl fun w => stepG_region
        | true =>
          refine .go (lft stepG_draw) (fun ch e => by cases e) ⟨rfl, Nat.le_succ _, fun T K ha => ⟨#[], ?_⟩⟩
          have e2 : wl.drawn + 1 - wl.drawn = 1 := by omega
          have := ha 0 (.order fr.fn id) (by show 0 < wl.drawn + 1 - wl.drawn; omega)
          simp only [Nat.add_zero] at this
          rw [lft stepG_draw]
          show GStep.go (G (fr.at _ (.inRegion ops (Region.schedule _ ops (T K (.order fr.fn id))) :: k)) cs) _ #[] = _
          rw [this]
          show _ = GStep.go _ (tp _ T (K + (wl.drawn + 1 - wl.drawn))) #[]
          rw [e2]
          rfl
      | rangeFunc a b c d => cases hi1
      | scope a => cases hi1
      | label l => cases hi1
      | goto l => cases hi1
      | refuse y => cases hi1
    | inRegion ops todo =>
      cases todo with
      | nil => exact ctl fun w => stepG_region_end
      | cons i rest =>
        by_cases hwn : ((ops[i]?).map (Region.wanted · (yielded ops fr.tmps))).getD false = false
        · have hl : ∀ w, stepG X.Q ml (G fr cs) w = _ := fun w => lft (stepG_not (a := ⟨fr.tmps, []⟩) hwn)
          exact .go (hl wl) (fun ch e => by cases e) (RtG.same hl)
        · obtain ⟨o, ho, hwo⟩ : ∃ o, ops[i]? = some o ∧ Region.wanted o (yielded ops fr.tmps) = true := by
            cases hx : ops[i]? with
            | none => rw [hx] at hwn; simp at hwn
            | some o => rw [hx] at hwn; exact ⟨o, rfl, by simpa using hwn⟩
          have hok : okOp X fr.fn (dcl X fr.fn o) o.op = true := Array.all_eq_true_iff_forall_mem.1 hi1 o (Array.mem_of_getElem? ho)
          have hk1 : fr.kind ≠ .early := by rw [h.kind]; intro e; cases e
          have ea : (⟨fr.tmps, []⟩ : Act).eval = ev fr.tmps := by funext c; cases c <;> rfl
          have eap : stepG X.Q ml (G fr cs) wl = stepG.apply X.Q true fr cs none (execOp (ev fr.tmps) o) wl := by
            rw [lft (stepG_oper (a := ⟨fr.tmps, []⟩) ho hwo), ea, ← htodo, ← e1]
          cases hr : (execOp (ev fr.tmps) o).run X.Q wl with
          | halt y w2 =>
            rcases apply_halt_all hO.fol hO.ready (cs := cs) hr m1 with ⟨_, _, _, q⟩ | ⟨_, _, _, q, b⟩ | ⟨_, _, _, q, hl⟩
            · exact .ended (eap.trans q)
            · exact .bad (eap.trans q) b
            · exact .pan (eap.trans q) hl
          | ok nx w2 =>
            obtain ⟨s2, nx', wc2, q⟩ := SR.op hO.good h.tm (o := o) hok r (Ren.Le.refl _) wl wc hw ht hd nx w2 hr
            have hrt := q.rt
            cases q.val with
            | value hv hc =>
              refine .go (lft (stepG_value (a := ⟨fr.tmps, []⟩) ho hwo hk1 (by rw [ea]; exact hr))) (fun ch e => by cases e) ⟨hrt.tape, hrt.drawn, fun T K ha => ⟨_, lft (stepG_value (a := ⟨fr.tmps, []⟩) ho hwo hk1 (by rw [ea]; exact hrt.run T K ha))⟩⟩
            | skip =>
              refine .go (lft (stepG_none (a := ⟨fr.tmps, []⟩) ho hwo hk1 (by rw [ea]; exact hr))) (fun ch e => by cases e) ⟨hrt.tape, hrt.drawn, fun T K ha => ⟨_, lft (stepG_none (a := ⟨fr.tmps, []⟩) ho hwo hk1 (by rw [ea]; exact hrt.run T K ha))⟩⟩
            | enter hg2 ha2 hc hlo hz =>
              refine .go (lft (stepG_enter (a := ⟨fr.tmps, []⟩) ho hwo hk1 (by rw [ea]; exact hr))) (fun ch e => by cases e) ⟨hrt.tape, hrt.drawn, fun T K ha => ⟨_, lft (stepG_enter (a := ⟨fr.tmps, []⟩) ho hwo hk1 (by rw [ea]; exact hrt.run T K ha))⟩⟩
    | _ => cases hi1

/-- On the way out. -/
theorem lone_back {ml : Bool} {c : Frame} {cs : List Frame} {fr fr' : Frame} {wl wc : World} (h : Fr X r fr fr') (m1 : fr.mode = .returning) (hc : c.mode = .run)
    (hw : WRel X r wl wc) (ht : wl.tape = wc.tape) (hd : wl.drawn = wc.drawn) : LS X ml fr (c :: cs) wl := by
  obtain ⟨fn, hord⟩ := h.ord
  have hf : X.Q.funcs[fr.fn]? = some fn := hord.lone
  have step : ∀ {w w2 : World} {v : Value}, (results fn fr.tmps).run X.Q w = .ok v w2 → ∃ es, stepG X.Q ml (G fr (c :: cs)) w = .go (G (c.finish v) cs) w2 es := by
    intro w w2 v hr
    exact ⟨_, by simp [G, stepG, unwind, doReturn, m1, h.defers, h.kind, hf, hr, GStep.after]; rfl⟩
  have hcm : ∀ v, (c.finish v).mode = .run := by
    intro v
    unfold Frame.finish
    split <;> exact hc
  cases hr : (results fn fr.tmps).run X.Q wl with
  | ok v w2 =>
    obtain ⟨s2, v', wc2, q⟩ := SR.results hord.res h.tm r (Ren.Le.refl _) wl wc hw ht hd v w2 hr
    obtain ⟨es, hs⟩ := step hr
    exact .go hs (fun ch e => by rw [hcm] at e; cases e) ⟨q.rt.tape, q.rt.drawn, fun T K ha => step (q.rt.run T K ha)⟩
  | halt y w2 =>
    cases y <;> exact .ended (by simp [G, stepG, unwind, m1, h.defers, hf, hr, GStep.after]; exact ⟨rfl, rfl, rfl⟩)
end Go.Proofs.Ytpigjhagdpeofaa.Sim

namespace Go.Proofs.Ytpigjhagdpeofaa.Sim
open Go Go.Conc
set_option linter.unusedVariables false
variable {X : Ctx} {r : Ren}

def one (g : Goroutine) (w : World) : Machine := { world := w, gs := #[g], rest := { timers := #[], alone := none, slice := none } }
theorem lone_one (fr : Frame) (cs : List Frame) (w : World) : Go.lone fr cs w = one (G fr cs) w := rfl
theorem one_running {P : Program} {g : Goroutine} {w : World} (h : g.status = .running) : stepT P (one g w) = runT P (one g w) 0 := by
  simp [stepT, move, ask, askOn, one, runnable_eq, due, ahead, Goroutine.canRun, h, List.range_succ, choose, pure, Sem.run, Question.forced]
theorem one_go {P : Program} {g g1 : Goroutine} {w w1 : World} {es : Array Event} (h : g.status = .running) (hs : stepG P true g w = .go g1 w1 es) : step P (one g w) = .next (one g1 w1) := by
  rw [step, one_running h]
  simp [runT, one, Array.swapAt!, hs]
theorem one_ended {P : Program} {g : Goroutine} {w w1 : World} {o : Outcome} {es : Array Event} (h : g.status = .running) (hs : stepG P true g w = .ended o w1 es) : step P (one g w) = .ended o w1 := by
  rw [step, one_running h]
  simp [runT, one, Array.swapAt!, hs]
theorem one_blocked {P : Program} {g : Goroutine} {w : World} (h : g.status = .blocked) : ∃ o w', step P (one g w) = .ended o w' := by
  simp [step, stepT, move, ask, askOn, one, runnable_eq, due, ahead, Goroutine.canRun, h, List.range_succ, pure]
  generalize endWith w _ _ _ = z
  cases z <;> exact ⟨_, _, rfl⟩
theorem one_waiting {P : Program} {g : Goroutine} {w : World} (h : g.status = .waiting) : step P (one g w) = .next (one g w) := by
  simp [step, stepT, move, ask, askOn, one, runnable_eq, due, ahead, Goroutine.canRun, h, List.range_succ, pure]
theorem one_dying {P : Program} {g : Goroutine} {w : World} (h : g.status = .running) {d : Dying} {f : Fatal} (h1 : g.dying = some d) (h2 : d.fatal = some f) (h3 : d.calling = false) :
    (∃ o w1 es, stepG P true g w = .ended o w1 es) ∨ ∃ g1 w1 es, stepG P true g w = .go g1 w1 es ∧ BadG g1 := by
  obtain ⟨fr, cs, st, dy, of_⟩ := g
  obtain ⟨td, tx, ca, pe, re, ha, fa⟩ := d
  simp only at h h1 h2 h3
  subst h1; subst h2; subst h3
  unfold stepG
  simp only [die, writeOn]
  split
  · exact .inl ⟨_, _, _, rfl⟩
  · split
    · exact .inr ⟨_, _, _, rfl, .inr (.inr ⟨rfl, _, _, rfl, rfl, rfl⟩)⟩
    · exact .inr ⟨_, _, _, rfl, .inl rfl⟩
    · exact .inl ⟨_, _, _, rfl⟩
    · exact .inl ⟨_, _, _, rfl⟩
theorem bad_step {P : Program} {g : Goroutine} {w : World} (h : BadG g) : (∃ o w', step P (one g w) = .ended o w') ∨ ∃ g' w', step P (one g w) = .next (one g' w') ∧ BadG g' := by
  rcases h with h | h | ⟨h, d, f, h1, h2, h3⟩
  · exact .inl (one_blocked h)
  · exact .inr ⟨g, w, one_waiting h, .inr (.inl h)⟩
  · rcases one_dying (P := P) (w := w) h h1 h2 h3 with ⟨o, w1, es, q⟩ | ⟨g1, w1, es, q, b⟩
    · exact .inl ⟨_, _, one_ended h q⟩
    · exact .inr ⟨_, _, one_go h q, b⟩
theorem bad_never {P : Program} : ∀ (n : Nat) {g : Goroutine} {w : World} {fr : Frame} {cs : List Frame} {w' : World}, BadG g → runN P n (one g w) ≠ .next (Go.lone fr cs w') := by
  intro n
  induction n with
  | zero =>
    intro g w fr cs w' hb e
    simp only [runN, lone_one, one, Stepped.next.injEq, Machine.mk.injEq, Array.mk.injEq, List.cons.injEq] at e
    have e2 : g = G fr cs := by simpa using e.2.1
    subst e2
    rcases hb with h | h | ⟨_, d, f, h, _⟩ <;> cases h
  | succ n ih =>
    intro g w fr cs w' hb e
    rcases bad_step (P := P) (w := w) hb with ⟨o, w1, q⟩ | ⟨g1, w1, q, b⟩
    · rw [runN, q] at e; cases e
    · rw [runN, q] at e; exact ih b e

/-- A goroutine that unwinds: it never comes to a frame on its way out in peace; the last frame below is one at which a panic ends the run. -/
theorem pan_never {P : Program} {c0 : Frame} (hc1 : ∀ ch w, ∃ o w1 es, stepG P true (G { c0 with mode := .panicking ch } []) w = .ended o w1 es) (hc2 : c0.mode = .run) :
    ∀ (n : Nat) {cs : List Frame} {fr : Frame} {ch : List PanicEntry} {w : World} {fr2 : Frame} {w2 : World}, fr.mode = .panicking ch → fr.defers = [] → fr.catches P = false →
      (∀ c ∈ cs, c.defers = [] ∧ c.mode = .run ∧ ∀ ch, ({ c with mode := .panicking ch } : Frame).catches P = false) → fr2.mode = .returning → runN P n (Go.lone fr (cs ++ [c0]) w) ≠ .next (Go.lone fr2 [c0] w2) := by
  intro n
  induction n with
  | zero =>
    intro cs fr ch w fr2 w2 hm hd hk hcs hm2 e
    simp only [runN, lone_one, one, Stepped.next.injEq, Machine.mk.injEq] at e
    have e2 : fr = fr2 := by
      have := e.2.1
      simp [G] at this
      exact this.1
    subst e2
    rw [hm] at hm2
    cases hm2
  | succ n ih =>
    intro cs fr ch w fr2 w2 hm hd hk hcs hm2 e
    cases cs with
    | nil =>
      have hs : stepG P true (G fr ([] ++ [c0])) w = .go (G { c0 with mode := .panicking ch } []) w #[] := by
        simp [G, stepG, unwind, hm, hd, hk, Frame.raise, hc2]
      have hs2 := hc1 ch w
      rw [runN, lone_one, one_go rfl hs] at e
      obtain ⟨o, w1, es, hs2⟩ := hs2
      cases n with
      | zero =>
        simp only [runN, lone_one, one, Stepped.next.injEq, Machine.mk.injEq] at e
        have := e.2.1
        simp [G] at this
      | succ n =>
        simp only at e
        rw [runN, one_ended rfl hs2] at e
        cases e
    | cons c cs =>
      obtain ⟨h1, h2, h3⟩ := hcs c (by simp)
      have hs : stepG P true (G fr ((c :: cs) ++ [c0])) w = .go (G { c with mode := .panicking ch } (cs ++ [c0])) w #[] := by
        simp [G, stepG, unwind, hm, hd, hk, Frame.raise, h2]
      rw [runN, lone_one, one_go rfl hs] at e
      exact ih (fr := { c with mode := .panicking ch }) (ch := ch) rfl h1 (h3 ch) (fun c' hc' => hcs c' (List.mem_cons_of_mem _ hc')) hm2 e

/-- The frame that is laid below: a run that comes to it ends. -/
def c0 : Frame := { fn := 0, tmps := #[], todo := [.code (.refuse "")], defers := [{ target := .nil, args := #[] }], mode := .run, kind := .normal }
theorem c0_pan {P : Program} (ch : List PanicEntry) (w : World) : ∃ o w1 es, stepG P true (G { c0 with mode := .panicking ch } []) w = .ended o w1 es := by
  simp [G, stepG, unwind, c0, callDeferred]
theorem c0_fin {P : Program} (v : Value) (w : World) : ∃ o w1 es, stepG P true (G (c0.finish v) []) w = .ended o w1 es := by
  simp [G, stepG, stepG.exec, c0, Frame.finish]
end Go.Proofs.Ytpigjhagdpeofaa.Sim

namespace Go.Proofs.Ytpigjhagdpeofaa.Sim
open Go Go.Conc
set_option linter.unusedVariables false
variable {X : Ctx} {r : Ren}

/-- What the others may have done: what one owns (M) and what nobody writes (Rd) stands. -/
structure Rely (M Rd : Nat → Prop) (w w1 : World) : Prop where
  tape : w1.tape = w.tape
  os : w1.os = w.os
  output : w1.output = w.output
  size : w.heap.size ≤ w1.heap.size
  keep : ∀ c, c < w.heap.size → (M c ∨ Rd c) → w1.heap[c]? = w.heap[c]?
theorem Rely.refl (M Rd : Nat → Prop) (w : World) : Rely M Rd w w := ⟨rfl, rfl, rfl, Nat.le_refl _, fun _ _ _ => rfl⟩
theorem Rely.trans {M Rd : Nat → Prop} {a b c : World} (h : Rely M Rd a b) (k : Rely M Rd b c) : Rely M Rd a c :=
  ⟨k.tape.trans h.tape, k.os.trans h.os, k.output.trans h.output, Nat.le_trans h.size k.size, fun d hd hm => (k.keep d (Nat.lt_of_lt_of_le hd h.size) hm).trans (h.keep d hd hm)⟩
/-- An own step: it turns what it owns, and owns what it makes. -/
structure OwnS (M M' Rd : Nat → Prop) (w w' : World) (es : Array Event) : Prop where
  tape : w'.tape = w.tape
  os : w'.os = w.os
  output : w'.output = w.output
  size : w.heap.size ≤ w'.heap.size
  sub : ∀ c, M c → M' c
  new : ∀ c, M' c → M c ∨ (w.heap.size ≤ c ∧ c < w'.heap.size)
  keep : ∀ c, c < w.heap.size → ¬ M c → w'.heap[c]? = w.heap[c]?
  fresh : ∀ c, w.heap.size ≤ c → c < w'.heap.size → M' c
  evs : ∀ e ∈ es, e = ⟨.mark .noRoom, false, true⟩ ∨ ∃ (a : Addr) (wr : Bool), e = ⟨.cell a, wr, false⟩ ∧ (M' a.block ∨ (wr = false ∧ Rd a.block))
inductive Wk (P : Program) (m : Bool) (Rd : Nat → Prop) (S : (Nat → Prop) → Goroutine → World → Prop) : (Nat → Prop) → Goroutine → World → Prop
  | stop {M : Nat → Prop} {g : Goroutine} {w : World} (h : ∀ w1, Rely M Rd w w1 → S M g w1) : Wk P m Rd S M g w
  | step' {M : Nat → Prop} {g : Goroutine} {w : World} (hr : g.status = .running) (G' : World → Goroutine) (W' : World → World) (E' : World → Array Event) (M' : World → Nat → Prop)
      (h : ∀ w1, Rely M Rd w w1 → stepG P m g w1 = .go (G' w1) (W' w1) (E' w1) ∧ OwnS M (M' w1) Rd w1 (W' w1) (E' w1)) (k : ∀ w1, Rely M Rd w w1 → Wk P m Rd S (M' w1) (G' w1) (W' w1)) : Wk P m Rd S M g w
section
variable {P : Program} {m : Bool} {Rd : Nat → Prop} {S S' : (Nat → Prop) → Goroutine → World → Prop} {M : Nat → Prop} {g : Goroutine} {w w1 : World}
theorem Wk.step (hr : g.status = .running)
    (h : ∀ w1, Rely M Rd w w1 → ∃ g' w' es M', stepG P m g w1 = .go g' w' es ∧ OwnS M M' Rd w1 w' es ∧ Wk P m Rd S M' g' w') : Wk P m Rd S M g w := by
  classical
  refine .step' hr (fun w1 => if h1 : Rely M Rd w w1 then (h w1 h1).choose else g) (fun w1 => if h1 : Rely M Rd w w1 then (h w1 h1).choose_spec.choose else w1) (fun w1 => if h1 : Rely M Rd w w1 then (h w1 h1).choose_spec.choose_spec.choose else #[])
    (fun w1 => if h1 : Rely M Rd w w1 then (h w1 h1).choose_spec.choose_spec.choose_spec.choose else M) (fun w1 h1 => ?_) (fun w1 h1 => ?_)
  · simp only [dif_pos h1]
    exact ⟨(h w1 h1).choose_spec.choose_spec.choose_spec.choose_spec.1, (h w1 h1).choose_spec.choose_spec.choose_spec.choose_spec.2.1⟩
  · simp only [dif_pos h1]
    exact (h w1 h1).choose_spec.choose_spec.choose_spec.choose_spec.2.2
theorem Wk.rely (h : Wk P m Rd S M g w) (k : Rely M Rd w w1) : Wk P m Rd S M g w1 := by
  cases h with
  | stop h => exact .stop fun w2 k2 => h w2 (k.trans k2)
  | step' hr G' W' E' M' h h2 => exact .step' hr G' W' E' M' (fun w2 k2 => h w2 (k.trans k2)) fun w2 k2 => h2 w2 (k.trans k2)
end

def Mine (X : Ctx) (r : Ren) (c : Nat) : Prop := ∃ b, X.n0 ≤ b ∧ r b = some (c, 0)
def RdX (X : Ctx) (c : Nat) : Prop := ∃ b s, b < X.n0 ∧ X.r0 b = some (c, s)
theorem WRel.own {wl wc : World} (hw : WRel X r wl wc) {b c s : Nat} (h : r b = some (c, s)) : Mine X r c ∨ RdX X c := by
  by_cases hb : X.n0 ≤ b
  · have := hw.sh _ _ _ hb h
    subst this
    exact .inl ⟨b, hb, h⟩
  · have hb : b < X.n0 := by omega
    exact .inr ⟨b, s, hb, by rw [← hw.oldr b hb]; exact h⟩
theorem WRel.rely {wl wc w1 : World} (hw : WRel X r wl wc) (k : Rely (Mine X r) (RdX X) wc w1) : WRel X r wl w1 := by
  refine ⟨fun b x h => ⟨(hw.dom b x h).1, Nat.lt_of_lt_of_le (hw.dom b x h).2 k.size⟩, hw.inj, hw.sh, fun b c s h => ?_, hw.fz, hw.old, hw.oldr, hw.low⟩
  have e := k.keep c (hw.dom b _ h).2 (hw.own h)
  obtain ⟨cs, e0, fz, h1, h2⟩ := (hw.obj b c s h).ex
  refine ⟨cs, e0, fz, h1, fun i x hx => ?_⟩
  rw [e]
  exact h2 i x hx
theorem WRel.tp {wl wc : World} (hw : WRel X r wl wc) (T T' : Nat → Question → Nat) (K K' : Nat) : WRel X r (Sim.tp wl T K) (Sim.tp wc T' K') := ⟨hw.dom, hw.inj, hw.sh, hw.obj, hw.fz, hw.old, hw.oldr, hw.low⟩
theorem WRel.tpl {wl wc : World} (hw : WRel X r wl wc) (T : Nat → Question → Nat) (K : Nat) : WRel X r (Sim.tp wl T K) wc := ⟨hw.dom, hw.inj, hw.sh, hw.obj, hw.fz, hw.old, hw.oldr, hw.low⟩
theorem Nexts.own {sp : FuncId} {lb base : List Frame} {wc : World} {fr1 : Frame} {cs1 : List Frame} {wl wl1 : World} {r2 : Ren} {fr1' : Frame} {cs1' : List Frame} {wc1 : World} {es : Array Event} (hw : WRel X r wl wc) (n : Nexts X sp lb base r wc fr1 cs1 wl1 r2 fr1' cs1' wc1 es) :
    OwnS (Mine X r) (Mine X r2) (RdX X) wc wc1 es := by
  refine ⟨n.gu.tape, n.gu.os, n.gu.output, n.gu.size, fun c ⟨b, hb, h⟩ => ⟨b, hb, n.le _ _ h⟩, fun c ⟨b, hb, h⟩ => ?_, fun c hc hm => ?_, fun c h1 h2 => ?_, fun e he => ?_⟩
  · rcases n.new b _ h with h' | h'
    · exact .inl ⟨b, hb, h'⟩
    · exact .inr ⟨h', (n.rel.dom _ _ h).2⟩
  · refine n.gu.keep c hc fun b hb h => ?_
    rcases n.new b _ h with h' | h'
    · exact hm ⟨b, hb, h'⟩
    · have : wc.heap.size ≤ c := h'
      omega
  · exact n.gu.fresh c h1 h2
  · rcases n.evs e he with h | ⟨a, wr, b, s, h1, h2, h3⟩
    · exact .inl h
    · refine .inr ⟨a, wr, h1, ?_⟩
      rcases n.rel.own h2 with h | h
      · exact .inl h
      · cases wr with
        | false => exact .inr ⟨rfl, h⟩
        | true =>
          have hb := h3 rfl
          have := n.rel.sh _ _ _ hb h2
          subst this
          exact .inl ⟨b, hb, h2⟩

/-- Back to the caller. -/
theorem step_ret {sp : FuncId} {ml mc : Bool} {lb base : List Frame} {c c' : Frame} {cs cs' : List Frame} {fr fr' : Frame} {wl wc : World} (h : Fr X r fr fr') (m1 : fr.mode = .returning) (m2 : fr'.mode = .returning)
    (hs : Stk X r lb base (c :: cs) (c' :: cs')) (hc : Cal X r c c') (hs2 : Stk X r lb base cs cs') (hw : WRel X r wl wc) (ht : wl.tape = wc.tape) (hd : wl.drawn = wc.drawn) {fr1 : Frame} {cs1 : List Frame} {wl1 : World} {es : Array Event} (hg : stepG X.Q ml (G fr (c :: cs)) wl = .go (G fr1 cs1) wl1 es) :
    ∃ r2 fr1' cs1' wc1 es', stepG X.P mc (G fr' (c' :: cs')) wc = .go (G fr1' cs1') wc1 es' ∧ Nexts X sp lb base r wc fr1 cs1 wl1 r2 fr1' cs1' wc1 es' := by
  obtain ⟨fn, hord⟩ := h.ord
  have hf : X.Q.funcs[fr.fn]? = some fn := hord.lone
  have hf' : X.P.funcs[fr'.fn]? = some fn := by rw [h.fn]; exact hord.comp
  cases hr : (results fn fr.tmps).run X.Q wl with
  | halt y w2 =>
    exfalso
    have : ∃ o w1 es, stepG X.Q ml (G fr (c :: cs)) wl = .ended o w1 es := by
      cases y <;> exact ⟨_, _, _, by simp [G, stepG, unwind, m1, h.defers, hf, hr, GStep.after]; exact ⟨rfl, rfl, rfl⟩⟩
    obtain ⟨o, w1, es, q⟩ := this
    rw [q] at hg
    cases hg
  | ok v w2 =>
    obtain ⟨s2, v', wc2, q⟩ := SR.results hord.res h.tm r (Ren.Le.refl _) wl wc hw ht hd v w2 hr
    have hl : ∃ es, stepG X.Q ml (G fr (c :: cs)) wl = .go (G (c.finish v) cs) w2 es := ⟨_, by simp [G, stepG, unwind, doReturn, m1, h.defers, h.kind, hf, hr, GStep.after]; rfl⟩
    obtain ⟨es1, hl⟩ := hl
    rw [hl] at hg
    obtain ⟨rfl, rfl, rfl⟩ := G_inj hg
    obtain ⟨ops, i, rest, k, hat, hlo⟩ := hc.at_
    have hput := (hc.alike.mono q.le).put hat q.val.1 (fun o ho => InCls.lo (hlo o ho) q.val.2)
    have e1 : c.finish v = c.at ((⟨c.tmps, []⟩ : Act).put ((ops[i]?).bind (·.dst)) v) (.inRegion ops rest :: k) := by
      conv => lhs; rw [hc.alike.at1 hc.run, hat]
      rw [Frame.finish_at]
    have e2 : c'.finish v' = c'.at ((⟨c'.tmps, []⟩ : Act).put ((ops[i]?).bind (·.dst)) v') (.inRegion ops rest :: k) := by
      conv => lhs; rw [hc.alike.at2 hc.run', hat]
      rw [Frame.finish_at]
    refine ⟨s2, c'.finish v', cs', wc2, seen X.P fr'.fn ((results fn fr'.tmps).events X.P wc #[]), ?_, q.le, ?_, hs2.mono q.le, q.rel, q.tape, q.drawn, q.gu, q.new, fun e he => q.evs e (mem_seen he)⟩
    · simp [G, stepG, unwind, doReturn, m2, h.defers', h.kind', hf', q.run, GStep.after]
    · rw [e1, e2]
      exact .ord hput (.inl ⟨rfl, rfl⟩)
end Go.Proofs.Ytpigjhagdpeofaa.Sim

namespace Go.Proofs.Ytpigjhagdpeofaa.Sim
open Go Go.Conc
set_option linter.unusedVariables false
variable {X : Ctx} {r : Ren}

/-- The machine of one comes to the last frame above 'c0', as T says. -/
def Reach (X : Ctx) (T : Frame → World → Prop) (fr : Frame) (cs : List Frame) (w : World) : Prop := ∃ n fr2 w2, runN X.Q n (Go.lone fr cs w) = .next (Go.lone fr2 [c0] w2) ∧ T fr2 w2
def HH (X : Ctx) (T : Frame → World → Prop) (fr : Frame) (cs : List Frame) (w : World) (K : Nat) (pre : Nat → Question → Nat) : Prop := ∀ U : Nat → Question → Nat, (∀ i, i < K → U i = pre i) → Reach X T fr cs (tp w U K)

theorem lone_inj {fr fr2 : Frame} {cs cs2 : List Frame} {w w2 : World} (h : Go.lone fr cs w = Go.lone fr2 cs2 w2) : fr = fr2 ∧ cs = cs2 ∧ w = w2 := by
  simp only [lone_one, one, Machine.mk.injEq] at h
  have h2 := h.2.1
  simp [G] at h2
  exact ⟨h2.1, h2.2, h.1⟩
theorem Reach.cases {T : Frame → World → Prop} {fr : Frame} {cs : List Frame} {w : World} (h : Reach X T fr cs w) : (cs = [c0] ∧ T fr w) ∨ ∃ n fr2 w2 m, step X.Q (Go.lone fr cs w) = .next m ∧ runN X.Q n m = .next (Go.lone fr2 [c0] w2) ∧ T fr2 w2 := by
  obtain ⟨n, fr2, w2, h1, h2⟩ := h
  cases n with
  | zero =>
    simp only [runN, Stepped.next.injEq] at h1
    obtain ⟨rfl, rfl, rfl⟩ := lone_inj h1
    exact .inl ⟨rfl, h2⟩
  | succ n =>
    rw [runN] at h1
    cases hs : step X.Q (Go.lone fr cs w) with
    | ended o w' => rw [hs] at h1; cases h1
    | next m => rw [hs] at h1; exact .inr ⟨n, fr2, w2, m, rfl, h1, h2⟩
/-- The last frame on its way out: it is where the run was to come. -/
theorem Reach.base {T : Frame → World → Prop} {fr fr' : Frame} {w : World} (h : Fr X r fr fr') (hm : fr.mode = .returning) (hr : Reach X T fr [c0] w) : T fr w := by
  rcases hr.cases with ⟨_, h1⟩ | ⟨n, fr2, w2, m, h1, h2, h3⟩
  · exact h1
  · exfalso
    obtain ⟨fn, hord⟩ := h.ord
    have hf : X.Q.funcs[fr.fn]? = some fn := hord.lone
    cases hres : (results fn fr.tmps).run X.Q w with
    | halt y w2 =>
      have : ∃ o w1 es, stepG X.Q true (G fr [c0]) w = .ended o w1 es := by
        cases y <;> exact ⟨_, _, _, by simp [G, stepG, unwind, hm, h.defers, hf, hres, GStep.after]; exact ⟨rfl, rfl, rfl⟩⟩
      obtain ⟨o, w1, es, q⟩ := this
      rw [lone_one, one_ended rfl q] at h1
      cases h1
    | ok v w3 =>
      have hl : ∃ es, stepG X.Q true (G fr [c0]) w = .go (G (c0.finish v) []) w3 es := ⟨_, by simp [G, stepG, unwind, doReturn, hm, h.defers, h.kind, hf, hres, GStep.after]; rfl⟩
      obtain ⟨es, hl⟩ := hl
      rw [lone_one, one_go rfl hl] at h1
      cases h1
      cases n with
      | zero =>
        simp only [runN, Stepped.next.injEq] at h2
        have := (lone_inj (fr := c0.finish v) (cs := []) (w := w3) h2).2.1
        cases this
      | succ n =>
        obtain ⟨o, w1, es, q⟩ := c0_fin (P := X.Q) v w3
        rw [runN, one_ended rfl q] at h2
        cases h2

/-- On the way out nothing panics. -/
theorem ret_pan {ml : Bool} {c : Frame} {cs : List Frame} {fr fr' : Frame} {wl : World} (h : Fr X r fr fr') (m1 : fr.mode = .returning) (hc : c.mode = .run)
    {ch : List PanicEntry} {w1 : World} {es : Array Event} : stepG X.Q ml (G fr (c :: cs)) wl ≠ .go (G { fr with mode := .panicking ch } (c :: cs)) w1 es := by
  obtain ⟨fn, hord⟩ := h.ord
  have hf : X.Q.funcs[fr.fn]? = some fn := hord.lone
  intro q
  cases hr : (results fn fr.tmps).run X.Q wl with
  | ok v w2 =>
    have hl : ∃ es, stepG X.Q ml (G fr (c :: cs)) wl = .go (G (c.finish v) cs) w2 es := ⟨_, by simp [G, stepG, unwind, doReturn, m1, h.defers, h.kind, hf, hr, GStep.after]; rfl⟩
    obtain ⟨es1, hl⟩ := hl
    rw [hl] at q
    have := congrArg (fun l => l.length) (G_inj q).2.1
    simp at this
  | halt y w2 =>
    have : ∃ o w1 es, stepG X.Q ml (G fr (c :: cs)) wl = .ended o w1 es := by
      cases y <;> exact ⟨_, _, _, by simp [G, stepG, unwind, m1, h.defers, hf, hr, GStep.after]; exact ⟨rfl, rfl, rfl⟩⟩
    obtain ⟨o, w1, es, hh⟩ := this
    rw [hh] at q
    cases q

structure Bar (X : Ctx) (sp : FuncId) (mc : Bool) (base : List Frame) (T : Frame → World → Prop) (S : (Nat → Prop) → Goroutine → World → Prop) : Prop where
  ords : Ords X sp
  tape : ∀ fr w U K, T fr (tp w U K) → T fr w
  mode : ∀ fr w, T fr w → fr.mode ≠ .run
  stop : ∀ r fr fr' wl wc, Fr X r fr fr' → fr.mode = .returning → fr'.mode = .returning → WRel X r wl wc → T fr wl → Wk X.P mc (RdX X) S (Mine X r) (G fr' base) wc
  spec : ∀ r vs vs' cs cs' wl wc K pre, X.ok sp = true → ARel X.ok r vs vs' → Stk X r [c0] base cs cs' → WRel X r wl wc → HH X T (Frame.enter X.Q sp vs .normal) cs wl K pre → Wk X.P mc (RdX X) S (Mine X r) (G (Frame.enter X.P sp vs' .normal) cs') wc
  pan : ∀ r fr fr' cs cs' wl wc ch w1 es n fr2 w2, Fr X r fr fr' → fr.mode = .run → Stk X r [c0] base cs cs' → WRel X r wl wc → wl.tape = wc.tape → wl.drawn = wc.drawn →
    stepG X.Q true (G fr cs) wl = .go (G { fr with mode := .panicking ch } cs) w1 es → runN X.Q n (Go.lone { fr with mode := .panicking ch } cs w1) = .next (Go.lone fr2 [c0] w2) → T fr2 w2 → False

/-- One state of a run that would not end. -/
structure Si where
  r : Ren
  fr : Frame
  cs : List Frame
  wl : World
  fr' : Frame
  cs' : List Frame
  wc : World
  K : Nat
  pre : Nat → Question → Nat
structure Inv (X : Ctx) (mc : Bool) (base : List Frame) (T : Frame → World → Prop) (S : (Nat → Prop) → Goroutine → World → Prop) (s : Si) : Prop where
  alike : Fr X s.r s.fr s.fr'
  modes : (s.fr.mode = .run ∧ s.fr'.mode = .run) ∨ (s.fr.mode = .returning ∧ s.fr'.mode = .returning)
  stk : Stk X s.r [c0] base s.cs s.cs'
  rel : WRel X s.r s.wl s.wc
  hh : HH X T s.fr s.cs s.wl s.K s.pre
  no : ¬ Wk X.P mc (RdX X) S (Mine X s.r) (G s.fr' s.cs') s.wc
structure Lk (X : Ctx) (s t : Si) : Prop where
  le : s.K ≤ t.K
  pre : ∀ i, i < s.K → t.pre i = s.pre i
  step : ∀ U : Nat → Question → Nat, (∀ i, i < t.K → U i = t.pre i) → Go.step X.Q (Go.lone s.fr s.cs (tp s.wl U s.K)) = .next (Go.lone t.fr t.cs (tp t.wl U t.K))

set_option maxHeartbeats 1000000 in
theorem bar_next {sp : FuncId} {mc : Bool} {base : List Frame} {T : Frame → World → Prop} {S : (Nat → Prop) → Goroutine → World → Prop} (hB : Bar X sp mc base T S) {s : Si} (hI : Inv X mc base T S s) :
    ¬ (s.cs = [c0] ∧ T s.fr s.wl) ∧ ∃ t, Inv X mc base T S t ∧ Lk X s t := by
  obtain ⟨r, fr, cs, wl, fr', cs', wc, K, pre⟩ := s
  obtain ⟨h, m, hs, hw, hH, hn⟩ := hI
  dsimp only at h m hs hw hH hn ⊢
  have hnt : ¬ (cs = [c0] ∧ T fr wl) := by
    rintro ⟨rfl, ht⟩
    have hm : fr.mode = .returning ∧ fr'.mode = .returning := m.resolve_left fun q => hB.mode _ _ ht q.1
    have e : cs' = base := by
      cases hs with
      | nil => rfl
      | cons hc k =>
        have := hc.alike.defers
        cases this
    subst e
    exact hn (hB.stop r fr fr' wl wc h hm.1 hm.2 hw ht)
  refine ⟨hnt, ?_⟩
  -- the others' doing at which it fails
  obtain ⟨w1, hk, hno⟩ : ∃ w1, Rely (Mine X r) (RdX X) wc w1 ∧ ∀ g' w' es M', stepG X.P mc (G fr' cs') w1 = .go g' w' es → OwnS (Mine X r) M' (RdX X) w1 w' es → ¬ Wk X.P mc (RdX X) S M' g' w' := by
    apply Classical.byContradiction
    intro hc
    refine hn (.step rfl fun w1 hk => ?_)
    apply Classical.byContradiction
    intro hc2
    exact hc ⟨w1, hk, fun g' w' es M' a b c => hc2 ⟨g', w', es, M', a, b, c⟩⟩
  have hw1 := hw.rely hk
  -- the tape
  let U0 : Nat → Question → Nat := fun i => if i < K then pre i else w1.tape (w1.drawn + (i - K))
  have hU0 : ∀ i, i < K → U0 i = pre i := fun i hi => by show (if i < K then _ else _) = _; rw [if_pos hi]
  have hU1 : ∀ j, U0 (K + j) = w1.tape (w1.drawn + j) := fun j => by
    show (if K + j < K then _ else _) = _
    rw [if_neg (by omega), Nat.add_sub_cancel_left]
  have hR := hH U0 hU0
  have hwf : WRel X r (tp wl U0 K) (tp w1 U0 K) := hw1.tp _ _ _ _
  have hcase : ¬ (cs = [c0] ∧ T fr (tp wl U0 K)) := fun q => hnt ⟨q.1, hB.tape _ _ _ _ q.2⟩
  obtain ⟨n, fr2, w2, m0, q1, q2, q3⟩ := hR.cases.resolve_left hcase
  -- the lone step
  have hLS : LS X true fr cs (tp wl U0 K) := by
    rcases m with ⟨m1, m2⟩ | ⟨m1, m2⟩
    · exact lone_step hB.ords h m1 hwf rfl rfl
    · cases hs with
      | nil => exact absurd ⟨rfl, Reach.base h m1 hR⟩ hcase
      | cons hc k => exact lone_back h m1 hc.run hwf rfl rfl
  cases hLS with
  | ended q => rw [lone_one, one_ended rfl q] at q1; cases q1
  | bad q b =>
    rw [lone_one, one_go rfl q] at q1
    cases q1
    exact absurd q2 (bad_never n b)
  | pan q hl =>
    rw [lone_one, one_go rfl q] at q1
    cases q1
    rcases m with ⟨m1, m2⟩ | ⟨m1, m2⟩
    · exact (hB.pan r fr fr' cs cs' _ _ _ _ _ n fr2 w2 h m1 hs hwf rfl rfl q q2 q3).elim
    · -- on the way out nothing panics
      cases hs with
      | nil => exact absurd ⟨rfl, Reach.base h m1 hR⟩ hcase
      | cons hc k => exact (ret_pan h m1 hc.run q).elim
  | go q hm rt =>
    rename_i fr1 cs1 wl1 es
    have e0 : ∀ V J, tp (tp wl U0 K) V J = tp wl V J := fun _ _ => rfl
    have hdr : K ≤ wl1.drawn := rt.drawn
    -- the same step at the company's own tape
    obtain ⟨es2, q4⟩ := rt.run w1.tape w1.drawn fun j qq hj => by
      show w1.tape (w1.drawn + j) qq = U0 (K + j) qq
      rw [hU1]
    rw [e0] at q4
    have hwa : WRel X r (tp wl w1.tape w1.drawn) w1 := hw1.tpl _ _
    have fin : ∀ {r2 : Ren} {fr1' : Frame} {cs1' : List Frame} {wc1 : World} {es' : Array Event}, stepG X.P mc (G fr' cs') w1 = .go (G fr1' cs1') wc1 es' → Nexts X sp [c0] base r w1 fr1 cs1 (tp wl1 w1.tape (w1.drawn + (wl1.drawn - (tp wl U0 K).drawn))) r2 fr1' cs1' wc1 es' →
        ∃ t, Inv X mc base T S t ∧ Lk X ⟨r, fr, cs, wl, fr', cs', wc, K, pre⟩ t := by
      intro r2 fr1' cs1' wc1 es' hc nx
      have hno1 := hno _ _ _ _ hc (nx.own hwa)
      have hrel : WRel X r2 wl1 wc1 := nx.rel.tpl wl1.tape wl1.drawn
      have hstep : ∀ U : Nat → Question → Nat, (∀ i, i < wl1.drawn → U i = U0 i) → Go.step X.Q (Go.lone fr cs (tp wl U K)) = .next (Go.lone fr1 cs1 (tp wl1 U wl1.drawn)) := by
        intro U hU
        obtain ⟨es3, q5⟩ := rt.run U K fun j qq hj => by
          show U (K + j) qq = U0 (K + j) qq
          have hj' : j < wl1.drawn - K := hj
          rw [hU (K + j) (by omega)]
        have ek : K + (wl1.drawn - (tp wl U0 K).drawn) = wl1.drawn := by
          show K + (wl1.drawn - K) = wl1.drawn
          omega
        rw [e0, ek] at q5
        rw [lone_one, one_go rfl q5]
        rfl
      have hH1 : HH X T fr1 cs1 wl1 wl1.drawn U0 := by
        intro U hU
        have hr2 := hH U fun i hi => by rw [hU i (by omega), hU0 i hi]
        rcases hr2.cases with ⟨a, b⟩ | ⟨n', fr3, w3, m3, a, b, c⟩
        · exact absurd ⟨a, hB.tape _ _ _ _ b⟩ hnt
        · rw [hstep U hU] at a
          cases a
          exact ⟨n', fr3, w3, b, c⟩
      have htop := nx.top
      generalize hfr1 : fr1 = f1 at htop
      generalize hfr1' : fr1' = f1' at htop
      cases htop with
      | ord hf hmo =>
        subst hfr1; subst hfr1'
        exact ⟨⟨r2, fr1, cs1, wl1, fr1', cs1', wc1, wl1.drawn, U0⟩, ⟨hf, hmo, nx.stk, hrel, hH1, hno1⟩, ⟨hdr, hU0, hstep⟩⟩
      | special ha hok hz =>
        subst hfr1; subst hfr1'
        exact absurd (hB.spec r2 _ _ cs1 cs1' wl1 wc1 wl1.drawn U0 hok ha nx.stk hrel hH1) hno1
    rcases m with ⟨m1, m2⟩ | ⟨m1, m2⟩
    · rcases step_run (mc := mc) hB.ords h m1 m2 hs hwa rfl rfl q4 with ⟨ch, a, b⟩ | ⟨r2, fr1', cs1', wc1, es', a, b⟩
      · exact absurd (by rw [a]) (hm ch)
      · exact fin a b
    · cases hs with
      | nil => exact absurd ⟨rfl, Reach.base h m1 hR⟩ hcase
      | cons hc k =>
        obtain ⟨r2, fr1', cs1', wc1, es', a, b⟩ := step_ret (sp := sp) (mc := mc) h m1 m2 (.cons hc k) hc k hwa rfl rfl q4
        exact fin a b
end Go.Proofs.Ytpigjhagdpeofaa.Sim

namespace Go.Proofs.Ytpigjhagdpeofaa.Sim
open Go Go.Conc
set_option linter.unusedVariables false
variable {X : Ctx}

section
variable {mc : Bool} {base : List Frame} {T : Frame → World → Prop} {S : (Nat → Prop) → Goroutine → World → Prop} (nx : ∀ s, Inv X mc base T S s → ∃ t, Inv X mc base T S t ∧ Lk X s t)
noncomputable def chain (s0 : Si) (h0 : Inv X mc base T S s0) : Nat → { s : Si // Inv X mc base T S s }
  | 0 => ⟨s0, h0⟩
  | n + 1 => ⟨(nx (chain s0 h0 n).1 (chain s0 h0 n).2).choose, (nx (chain s0 h0 n).1 (chain s0 h0 n).2).choose_spec.1⟩
theorem chain_lk (s0 : Si) (h0 : Inv X mc base T S s0) (n : Nat) : Lk X (chain nx s0 h0 n).1 (chain nx s0 h0 (n + 1)).1 := (nx (chain nx s0 h0 n).1 (chain nx s0 h0 n).2).choose_spec.2
end
/-- A sequence of linked states: one tape for all. -/
theorem one_tape (f : Nat → Si) (hl : ∀ n, Lk X (f n) (f (n + 1))) : ∃ U : Nat → Question → Nat, ∀ n i, i < (f n).K → U i = (f n).pre i := by
  classical
  have le : ∀ n m, n ≤ m → (f n).K ≤ (f m).K ∧ ∀ i, i < (f n).K → (f m).pre i = (f n).pre i := by
    intro n m h
    induction h with
    | refl => exact ⟨Nat.le_refl _, fun i _ => rfl⟩
    | step h ih => exact ⟨Nat.le_trans ih.1 (hl _).le, fun i hi => ((hl _).pre i (Nat.lt_of_lt_of_le hi ih.1)).trans (ih.2 i hi)⟩
  refine ⟨fun i => if h : ∃ n, i < (f n).K then (f h.choose).pre i else fun _ => 0, fun n i hi => ?_⟩
  have hx : ∃ n, i < (f n).K := ⟨n, hi⟩
  simp only [dif_pos hx]
  rcases Nat.le_total hx.choose n with h | h
  · exact ((le _ _ h).2 i hx.choose_spec).symm
  · exact (le _ _ h).2 i hi
theorem chain_run (f : Nat → Si) (hl : ∀ n, Lk X (f n) (f (n + 1))) {U : Nat → Question → Nat} (hU : ∀ n i, i < (f n).K → U i = (f n).pre i) (a : Nat) :
    ∀ n, runN X.Q n (Go.lone (f a).fr (f a).cs (tp (f a).wl U (f a).K)) = .next (Go.lone (f (a + n)).fr (f (a + n)).cs (tp (f (a + n)).wl U (f (a + n)).K)) := by
  intro n
  induction n generalizing a with
  | zero => rfl
  | succ n ih =>
    rw [runN, (hl a).step U (hU (a + 1))]
    have := ih (a + 1)
    rw [show a + 1 + n = a + (n + 1) by omega] at this
    exact this

/-- The bar: what the goroutine does alone, on every tape, it does in company. -/
theorem bar {sp : FuncId} {mc : Bool} {base : List Frame} {T : Frame → World → Prop} {S : (Nat → Prop) → Goroutine → World → Prop} (hB : Bar X sp mc base T S) {r : Ren} {fr fr' : Frame} {cs cs' : List Frame} {wl wc : World} {K : Nat} {pre : Nat → Question → Nat}
    (h : Fr X r fr fr') (m : (fr.mode = .run ∧ fr'.mode = .run) ∨ (fr.mode = .returning ∧ fr'.mode = .returning)) (hs : Stk X r [c0] base cs cs') (hw : WRel X r wl wc) (hh : HH X T fr cs wl K pre) :
    Wk X.P mc (RdX X) S (Mine X r) (G fr' cs') wc := by
  apply Classical.byContradiction
  intro hn
  have nx : ∀ s, Inv X mc base T S s → ∃ t, Inv X mc base T S t ∧ Lk X s t := fun s hI => (bar_next hB hI).2
  let s0 : Si := ⟨r, fr, cs, wl, fr', cs', wc, K, pre⟩
  have h0 : Inv X mc base T S s0 := ⟨h, m, hs, hw, hh, hn⟩
  let f : Nat → Si := fun n => (chain nx s0 h0 n).1
  have hl : ∀ n, Lk X (f n) (f (n + 1)) := chain_lk nx s0 h0
  obtain ⟨U, hU⟩ := one_tape f hl
  obtain ⟨n, fr2, w2, q1, q2⟩ := hh U fun i hi => hU 0 i hi
  have q3 := chain_run f hl hU 0 n
  have q4 : runN X.Q n (Go.lone fr cs (tp wl U K)) = _ := q3
  rw [q4] at q1
  simp only [Stepped.next.injEq] at q1
  obtain ⟨e1, e2, e3⟩ := lone_inj q1
  rw [Nat.zero_add] at e1 e2 e3
  exact (bar_next hB (chain nx s0 h0 n).2).1 ⟨e2, hB.tape _ _ U _ (by rw [show (chain nx s0 h0 n).1.fr = fr2 from e1]; rw [show tp (chain nx s0 h0 n).1.wl U (f n).K = w2 from e3]; exact q2)⟩
end Go.Proofs.Ytpigjhagdpeofaa.Sim

namespace Go.Proofs.Ytpigjhagdpeofaa.Sim
open Go Go.Conc
set_option linter.unusedVariables false
variable {P : Program} {m : Bool}

theorem Wk.bind {Rd : Nat → Prop} {S S2 : (Nat → Prop) → Goroutine → World → Prop} {M : Nat → Prop} {g : Goroutine} {w : World} (h : Wk P m Rd S M g w)
    (k : ∀ M g w, (∀ w1, Rely M Rd w w1 → S M g w1) → Wk P m Rd S2 M g w) : Wk P m Rd S2 M g w := by
  induction h with
  | stop h => exact k _ _ _ h
  | step' hr G' W' E' M' h _ ih => exact .step' hr G' W' E' M' h ih
theorem Wk.mono {Rd : Nat → Prop} {S S2 : (Nat → Prop) → Goroutine → World → Prop} {M : Nat → Prop} {g : Goroutine} {w : World} (h : Wk P m Rd S M g w) (k : ∀ M g w, S M g w → S2 M g w) : Wk P m Rd S2 M g w :=
  h.bind fun _ _ _ h => .stop fun w1 h1 => k _ _ _ (h w1 h1)

def Or2 (M N : Nat → Prop) (c : Nat) : Prop := M c ∨ N c
theorem Rely.less {M N Rd Rd2 : Nat → Prop} {w w1 : World} (h : Rely (Or2 M N) Rd2 w w1) (hrd : ∀ c, Rd c → Rd2 c ∨ N c) : Rely M Rd w w1 :=
  ⟨h.tape, h.os, h.output, h.size, fun c hc hm => h.keep c hc (by
    rcases hm with hm | hm
    · exact .inl (.inl hm)
    · rcases hrd c hm with hm | hm
      · exact .inr hm
      · exact .inl (.inr hm))⟩
/-- What is read and what is one's own besides: Z. -/
structure Apart (Rd Rd2 N M Z : Nat → Prop) (w0 w : World) : Prop where
  z : ∀ c, Z c → Rd2 c ∨ N c
  off : ∀ c, Z c → ¬ M c
  nz : ∀ c, N c → Z c
  low : ∀ c, Z c → c < w0.heap.size
  size : w0.heap.size ≤ w.heap.size
  keep : ∀ c, Z c → w.heap[c]? = w0.heap[c]?
theorem Apart.rely {Rd Rd2 N M Z : Nat → Prop} {w0 w w1 : World} (h : Apart Rd Rd2 N M Z w0 w) (k : Rely (Or2 M N) Rd2 w w1) : Apart Rd Rd2 N M Z w0 w1 :=
  ⟨h.z, h.off, h.nz, h.low, Nat.le_trans h.size k.size, fun c hc => (k.keep c (Nat.lt_of_lt_of_le (h.low c hc) h.size) (by
    rcases h.z c hc with h1 | h1
    · exact .inr h1
    · exact .inl (.inr h1))).trans (h.keep c hc)⟩
theorem Apart.own {Rd Rd2 N M M' Z : Nat → Prop} {w0 w w1 : World} {es : Array Event} (h : Apart Rd Rd2 N M Z w0 w) (k : OwnS M M' Rd w w1 es) : Apart Rd Rd2 N M' Z w0 w1 :=
  ⟨h.z, fun c hc hm => by
    rcases k.new c hm with h1 | h1
    · exact h.off c hc h1
    · have := h.low c hc
      have := h.size
      omega, h.nz, h.low, Nat.le_trans h.size k.size, fun c hc => (k.keep c (Nat.lt_of_lt_of_le (h.low c hc) h.size) (h.off c hc)).trans (h.keep c hc)⟩
theorem OwnS.more {Rd Rd2 N M M' : Nat → Prop} {w w1 : World} {es : Array Event} (k : OwnS M M' Rd w w1 es) (hrd : ∀ c, Rd c → Rd2 c ∨ N c) : OwnS (Or2 M N) (Or2 M' N) Rd2 w w1 es := by
  refine ⟨k.tape, k.os, k.output, k.size, fun c hc => hc.imp (k.sub c) id, fun c hc => ?_, fun c hc hm => k.keep c hc fun h => hm (.inl h), fun c h1 h2 => .inl (k.fresh c h1 h2), fun e he => ?_⟩
  · rcases hc with hc | hc
    · exact (k.new c hc).imp .inl id
    · exact .inl (.inr hc)
  · rcases k.evs e he with h | ⟨a, wr, h1, h2⟩
    · exact .inl h
    · refine .inr ⟨a, wr, h1, ?_⟩
      rcases h2 with h2 | ⟨h2, h3⟩
      · exact .inl (.inl h2)
      · rcases hrd _ h3 with h3 | h3
        · exact .inr ⟨h2, h3⟩
        · exact .inl (.inr h3)
/-- The judgement beside what it does not touch. -/
theorem Wk.frame {Rd Rd2 N Z : Nat → Prop} {S : (Nat → Prop) → Goroutine → World → Prop} {M : Nat → Prop} {g : Goroutine} {w w0 : World} (h : Wk P m Rd S M g w) (hrd : ∀ c, Rd c → Rd2 c ∨ N c) (ha : Apart Rd Rd2 N M Z w0 w) :
    Wk P m Rd2 (fun M2 g w => ∃ M', M2 = Or2 M' N ∧ S M' g w ∧ Apart Rd Rd2 N M' Z w0 w) (Or2 M N) g w := by
  induction h with
  | stop h => exact .stop fun w1 h1 => ⟨_, rfl, h w1 (h1.less hrd), ha.rely h1⟩
  | step' hr G' W' E' M' h _ ih =>
    exact .step' hr G' W' E' (fun w1 => Or2 (M' w1) N) (fun w1 h1 => ⟨(h w1 (h1.less hrd)).1, (h w1 (h1.less hrd)).2.more hrd⟩) (fun w1 h1 => ih w1 (h1.less hrd) ((ha.rely h1).own (h w1 (h1.less hrd)).2))
end Go.Proofs.Ytpigjhagdpeofaa.Sim

namespace Go.Proofs.Ytpigjhagdpeofaa.Sim
open Go Go.Conc
set_option linter.unusedVariables false
variable {X : Ctx} {r : Ren}

theorem HH.of_calls {f : FuncId} {args : Array Value} {w : World} {K : Nat} {pre : Nat → Question → Nat} {R : Ending → World → Prop} {T : Frame → World → Prop}
    (h : ∀ U : Nat → Question → Nat, (∀ i, i < K → U i = pre i) → Calls X.Q f args (tp w U K) R) (hT : ∀ e w' fr, R e w' → fr.leaving X.Q w' e → e ≠ .outgrown ∧ T fr w') :
    HH X T (Frame.enter X.Q f args .normal) [c0] w K pre := by
  intro U hU
  obtain ⟨e, w', fr, hR, hc, hf, hl⟩ := h U hU [c0]
  obtain ⟨he, ht⟩ := hT e w' fr hR hl
  cases e with
  | outgrown => exact absurd rfl he
  | returned v => obtain ⟨n, hn⟩ := hc; exact ⟨n, fr, w', hn, ht⟩
  | panicked ch => obtain ⟨n, hn⟩ := hc; exact ⟨n, fr, w', hn, ht⟩

/-- A judgement that does not look at the answers to come. -/
def Blind (T0 : Frame → World → Prop) (fr : Frame) (w : World) : Prop := ∃ U K, T0 fr (tp w U K)
theorem Blind.of {T0 : Frame → World → Prop} {fr : Frame} {w : World} (h : T0 fr w) : Blind T0 fr w := ⟨w.tape, w.drawn, h⟩
theorem Blind.tape {T0 : Frame → World → Prop} {fr : Frame} {w : World} {U : Nat → Question → Nat} {K : Nat} (h : Blind T0 fr (tp w U K)) : Blind T0 fr w := by
  obtain ⟨V, L, h⟩ := h
  exact ⟨V, L, h⟩
/-- It has returned, with a value of which Post holds. -/
def TRet (X : Ctx) (Post : Value → Prop) (fr : Frame) (w : World) : Prop := ∃ v, fr.leaving X.Q w (.returned v) ∧ Post v

theorem Stk.split {base : List Frame} {cs cs' : List Frame} (h : Stk X r [c0] base cs cs') : ∃ ds, cs = ds ++ [c0] ∧ ∀ c ∈ ds, c.defers = [] ∧ c.mode = .run ∧ ∀ ch, ({ c with mode := .panicking ch } : Frame).catches X.Q = false := by
  induction h with
  | nil => exact ⟨[], rfl, fun c hc => by simp at hc⟩
  | cons hc k ih =>
    rename_i fr fr' cs cs'
    obtain ⟨ds, e, h⟩ := ih
    refine ⟨fr :: ds, by rw [e]; rfl, fun c hc' => ?_⟩
    rcases List.mem_cons.1 hc' with rfl | h1
    · exact ⟨hc.alike.defers, hc.run, fun ch => by
        obtain ⟨fn, ho⟩ := hc.alike.ord
        have hf : X.Q.funcs[c.fn]? = some fn := ho.lone
        simp [Frame.catches, hf]⟩
    · exact h c h1
theorem no_pan {base : List Frame} {cs cs' : List Frame} {fr fr' fr2 : Frame} {w w2 : World} {ch : List PanicEntry} {n : Nat} (h : Fr X r fr fr') (hs : Stk X r [c0] base cs cs') (hm : fr2.mode = .returning) :
    runN X.Q n (Go.lone { fr with mode := .panicking ch } cs w) ≠ .next (Go.lone fr2 [c0] w2) := by
  obtain ⟨ds, rfl, hd⟩ := hs.split
  obtain ⟨fn, ho⟩ := h.ord
  have hf : X.Q.funcs[fr.fn]? = some fn := ho.lone
  exact pan_never c0_pan rfl n rfl h.defers (by simp [Frame.catches, hf]) hd hm

theorem own_of {s : Ren} {wl' wc wc' : World} {es : Array Event} {wl : World} (hw : WRel X r wl wc) (hl : r.Le s) (hgu : Gu X s wc wc') (hn : New r s wc) (hr : WRel X s wl' wc') (he : ∀ e ∈ es, Ev X s e) : OwnS (Mine X r) (Mine X s) (RdX X) wc wc' es := by
  refine ⟨hgu.tape, hgu.os, hgu.output, hgu.size, fun c ⟨b, hb, h⟩ => ⟨b, hb, hl _ _ h⟩, fun c ⟨b, hb, h⟩ => ?_, fun c hc hm => ?_, fun c h1 h2 => hgu.fresh c h1 h2, fun e h' => ?_⟩
  · rcases hn b _ h with h' | h'
    · exact .inl ⟨b, hb, h'⟩
    · exact .inr ⟨h', (hr.dom _ _ h).2⟩
  · refine hgu.keep c hc fun b hb h => ?_
    rcases hn b _ h with h' | h'
    · exact hm ⟨b, hb, h'⟩
    · have : wc.heap.size ≤ c := h'
      omega
  · rcases he e h' with h | ⟨a, wr, b, s', h1, h2, h3⟩
    · exact .inl h
    · refine .inr ⟨a, wr, h1, ?_⟩
      rcases hr.own h2 with h | h
      · exact .inl h
      · cases wr with
        | false => exact .inr ⟨rfl, h⟩
        | true =>
          have hb := h3 rfl
          have := hr.sh _ _ _ hb h2
          subst this
          exact .inl ⟨b, hb, h2⟩

/-- The end in company: the frame on its way out, its result. -/
def SRet (P : Program) (Rd : Nat → Prop) (base : List Frame) (Post : Value → Prop) (M : Nat → Prop) (g : Goroutine) (w : World) : Prop :=
  ∃ fr' fn v w' M', g = G fr' base ∧ fr'.mode = .returning ∧ fr'.defers = [] ∧ fr'.kind = .normal ∧ P.funcs[fr'.fn]? = some fn ∧ (results fn fr'.tmps).run P w = .ok v w' ∧ Post v ∧ OwnS M M' Rd w w' ((results fn fr'.tmps).events P w #[])
theorem VRel.of_flat {ok : FuncId → Bool} {v v' : Value} (h : VRel ok r v v') (hf : Sim.flat v = true) : v' = v := by
  cases h with
  | flat h => rfl
  | _ => simp [Sim.flat] at hf

theorem bar_of_ret {sp : FuncId} {mc : Bool} {base : List Frame} (hO : Ords X sp) (hsp : X.ok sp = false) {Post : Value → Prop} (hflat : ∀ v, Post v → flat v = true) : Bar X sp mc base (Blind (TRet X Post)) (SRet X.P (RdX X) base Post) where
  ords := hO
  tape := fun fr w U K h => Blind.tape h
  mode := fun fr w ⟨U, K, v, h, _⟩ e => by
    have := h.1
    rw [e] at this
    cases this
  stop := by
    rintro r fr fr' wl wc h m1 m2 hw ⟨U, K, v, ⟨_, _, _, fn, hf, hr⟩, hp⟩
    refine .stop fun w1 k => ?_
    have hw1 := hw.rely k
    obtain ⟨fn2, hord⟩ := h.ord
    have hf2 : X.Q.funcs[fr.fn]? = some fn2 := hord.lone
    have e : fn2 = fn := Option.some.inj (hf2.symm.trans hf)
    subst e
    have hf' : X.P.funcs[fr'.fn]? = some fn2 := by rw [h.fn]; exact hord.comp
    have hr2 : ∀ T J, (results fn2 fr.tmps).run X.Q (tp wl T J) = .ok v (tp wl T J) := by
      obtain ⟨s2, v', wc2, q⟩ := SR.results hord.res h.tm r (Ren.Le.refl _) (tp wl U K) (tp w1 U K) (hw1.tp _ _ _ _) rfl rfl v _ hr
      intro T J
      have := q.rt.run T J fun j qq hj => by
        have e : (tp wl U K).drawn - (tp wl U K).drawn = 0 := Nat.sub_self _
        rw [e] at hj
        exact absurd hj (Nat.not_lt_zero _)
      have e : (tp wl U K).drawn - (tp wl U K).drawn = 0 := Nat.sub_self _
      rw [e] at this
      exact this
    obtain ⟨s2, v', wc2, q⟩ := SR.results hord.res h.tm r (Ren.Le.refl _) (tp wl w1.tape w1.drawn) w1 (hw1.tpl _ _) rfl rfl v _ (hr2 _ _)
    have e := VRel.of_flat q.val.1 (hflat v hp)
    subst e
    exact ⟨fr', fn2, v', wc2, Mine X s2, rfl, m2, h.defers', h.kind', hf', q.run, hp, own_of hw1 q.le q.gu q.new q.rel q.evs⟩
  spec := fun r vs vs' cs cs' wl wc K pre hx => by rw [hsp] at hx; cases hx
  pan := fun r fr fr' cs cs' wl wc ch w1 es n fr2 w2 h hm hs hw ht hd hg hrun ⟨U, K, v, hl, _⟩ => no_pan h hs hl.1 hrun
/-- The bar for a call that ends by a return of a flat value (no pointer, no function). -/
theorem bar_ret {sp : FuncId} {mc : Bool} {base : List Frame} (hO : Ords X sp) (hsp : X.ok sp = false) {f : FuncId} {args args' : Array Value} {wl wc : World} {Post : Value → Prop} (hflat : ∀ v, Post v → flat v = true)
    (hf : Fr X r (Frame.enter X.Q f args .normal) (Frame.enter X.P f args' .normal)) (hw : WRel X r wl wc)
    (h : ∀ U : Nat → Question → Nat, Calls X.Q f args (tp wl U 0) fun e _ => ∃ v, e = .returned v ∧ Post v) :
    Wk X.P mc (RdX X) (SRet X.P (RdX X) base Post) (Mine X r) (G (Frame.enter X.P f args' .normal) base) wc := by
  refine bar (K := 0) (pre := fun _ _ => 0) (bar_of_ret hO hsp hflat) hf (.inl ⟨rfl, rfl⟩) .nil hw (HH.of_calls (fun U _ => h U) ?_)
  rintro e w' fr ⟨v, rfl, hp⟩ hl
  exact ⟨(fun e => by cases e), Blind.of ⟨v, hl, hp⟩⟩

/-- Back in the caller. -/
theorem Wk.ret {P : Program} {m : Bool} {Rd : Nat → Prop} {base : List Frame} {c : Frame} {cs : List Frame} {Post : Value → Prop} {S : (Nat → Prop) → Goroutine → World → Prop} {M : Nat → Prop} {g : Goroutine} {w : World}
    (h : ∀ w1, Rely M Rd w w1 → SRet P Rd (c :: cs) Post M g w1) (k : ∀ v w' M', Post v → (∃ w1 es, Rely M Rd w w1 ∧ OwnS M M' Rd w1 w' es) → Wk P m Rd S M' (G (c.finish v) cs) w') : Wk P m Rd S M g w := by
  have hr : g.status = .running := by
    obtain ⟨fr', fn, v, w', M', rfl, _⟩ := h w (Rely.refl _ _ _)
    rfl
  refine .step hr fun w1 h1 => ?_
  obtain ⟨fr', fn, v, w', M', rfl, h2, h3, h4, h5, h6, h7, h8⟩ := h w1 h1
  have hs : stepG P m (G fr' (c :: cs)) w1 = .go (G (c.finish v) cs) w' (seen P fr'.fn ((results fn fr'.tmps).events P w1 #[])) := by
    simp [G, stepG, unwind, doReturn, h2, h3, h4, h5, h6, GStep.after]
  have ho : OwnS M M' Rd w1 w' (seen P fr'.fn ((results fn fr'.tmps).events P w1 #[])) := ⟨h8.tape, h8.os, h8.output, h8.size, h8.sub, h8.new, h8.keep, h8.fresh, fun e he => h8.evs e (mem_seen he)⟩
  exact ⟨_, _, _, M', hs, ho, k v w' M' h7 ⟨w1, _, h1, ho⟩⟩
end Go.Proofs.Ytpigjhagdpeofaa.Sim
