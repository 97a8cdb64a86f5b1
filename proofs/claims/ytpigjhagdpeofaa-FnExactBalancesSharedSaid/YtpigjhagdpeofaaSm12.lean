/-
  From the judgement of goroutine 0 between calls of impl.shared to the run's end: no race, all handed over, the others only leave. No condition.
  The law's own end, alone: it returned true, or it told what a call of impl.shared was handed. How a run comes there. No condition.
  A call of impl.shared met by the lone law: it goes on in both, behind the call. No condition.
  A call of impl.shared met by the lone law: it goes on in both, behind the call; the bar for a law. No condition.
  The bar for a law: what it does alone, on every tape, over the second program, it does in company. No condition.
  A law, whole: from its contract alone over the second program to a good run of the program itself. No condition.
  A list told by its rule, and running sums by kind. No program in sight. No condition.
  The second program's impl.shared as the functions meet it that call it: a row of its own, or a told call. No condition.
  Slices of structs of integers: a list of records is its length and its cells, one after another. No program in sight. No condition.
  toEntryS gives a copy in new memory, whose row holds no more than the copy. Condition: fewer than 1000000000 records.
  What an own block of the lone law's memory is in company. No condition.
-/
import Derived.Test.YtpigjhagdpeofaaSm11
import Derived.Test.YtpigjhagdpeofaaSm4
import Derived.Laws.OwnMore
import Derived.Laws.IdiomCopy
import Derived.Test.YtpigjhagdpeofaaSm5
import Derived.Test.YtpigjhagdpeofaaProg

namespace Go.Proofs.Ytpigjhagdpeofaa.Sim
open Go Go.Conc
set_option linter.unusedVariables false
/-- What is kept of the world in which the run began; all that is one's own, or read, is there. -/
structure Kp (w0 : World) (Rd M : Nat → Prop) (w : World) : Prop where
  low : ∀ c, M c ∨ Rd c → c < w.heap.size
  tape : w.tape = w0.tape
  os : w.os = w0.os
  output : w.output = w0.output
  size : w0.heap.size ≤ w.heap.size
  keep : ∀ c, c < w0.heap.size → ¬ M c ∧ w.heap[c]? = w0.heap[c]?
structure Kw (w0 w : World) : Prop where
  tape : w.tape = w0.tape
  os : w.os = w0.os
  output : w.output = w0.output
  size : w0.heap.size ≤ w.heap.size
  keep : ∀ c, c < w0.heap.size → w.heap[c]? = w0.heap[c]?
section
variable {P : Program} {w0 : World} {Rd : Nat → Prop} {Post : Value → Prop}
/-- The run ends well. -/
def ResW (P : Program) (w0 : World) (Post : Value → Prop) (m : Machine) (t : Trace) : Prop :=
  ∃ N last o w' t', runNT P (N + 1) m t = (.ended o w', t') ∧ runN P N m = .next last ∧ Go.step P last = .ended o w' ∧ Conc.Good P (fun v w' => Post v ∧ Kw w0 w') last o w' t'
/-- It is about to return. -/
def SE (P : Program) (Rd : Nat → Prop) (Post : Value → Prop) (M : Nat → Prop) (g : Goroutine) (w : World) : Prop :=
  g.status = .running ∧ ∃ v, stepG P true g w = .ended (.done v) w #[] ∧ Post v
def EndOK (P : Program) (w0 : World) (Rd : Nat → Prop) (Post : Value → Prop) (M : Nat → Prop) (g : Goroutine) (w : World) : Prop :=
  g.status = .running ∧ ∀ gs t sl, Bsd P gs g w t → Kp w0 Rd M w → ResW P w0 Post (crowd gs w sl) t
def RL (Rd : Nat → Prop) (M : Nat → Prop) (w w1 : World) : Prop := Rely M Rd w w1
def DL (Rd : Nat → Prop) (M M' : Nat → Prop) (w w' : World) (es : Array Event) : Prop := OwnS M M' Rd w w' es
theorem DL.terms : TermsG (RL Rd) (DL Rd) := ⟨fun M w => Rely.refl _ _ _, fun M a b c h k => Rely.trans h k, fun M w => ⟨rfl, rfl, rfl, Nat.le_refl _, fun _ h => h, fun _ h => .inl h, fun _ _ _ => rfl, fun c h1 h2 => by omega, fun e he => by simp at he⟩⟩
theorem RL.at (M : Nat → Prop) (w : World) (d : Nat) : RL Rd M w (w.at d) := ⟨rfl, rfl, rfl, Nat.le_refl _, fun _ _ _ => rfl⟩
theorem Kp.at {M : Nat → Prop} {w : World} (h : Kp w0 Rd M w) (d : Nat) : Kp w0 Rd M (w.at d) := ⟨h.low, h.tape, h.os, h.output, h.size, h.keep⟩
theorem Kp.own {M M' : Nat → Prop} {w w' : World} {es : Array Event} (h : Kp w0 Rd M w) (d : OwnS M M' Rd w w' es) : Kp w0 Rd M' w' := by
  refine ⟨fun c hc => ?_, d.tape.trans h.tape, d.os.trans h.os, d.output.trans h.output, Nat.le_trans h.size d.size, fun c hc => ⟨fun hm => ?_, (d.keep c (Nat.lt_of_lt_of_le hc h.size) (h.keep c hc).1).trans (h.keep c hc).2⟩⟩
  · rcases hc with hc | hc
    · rcases d.new c hc with h1 | h1
      · exact Nat.lt_of_lt_of_le (h.low c (.inl h1)) d.size
      · exact h1.2
    · exact Nat.lt_of_lt_of_le (h.low c (.inr hc)) d.size
  · rcases d.new c hm with h1 | h1
    · exact (h.keep c hc).1 h1
    · have := h.size; omega
theorem Kp.evs {M M' : Nat → Prop} {w w' : World} {es : Array Event} (h : Kp w0 Rd M w) (d : OwnS M M' Rd w w' es) : ∀ e ∈ es, EvC (fun _ _ => True) w'.heap.size e := by
  intro e he
  have h' := h.own d
  rcases d.evs e he with h1 | ⟨a, wr, h1, h2⟩
  · exact .inl h1
  · refine .inr ⟨a, wr, h1, trivial, ?_⟩
    rcases h2 with h2 | h2
    · exact h'.low _ (.inl h2)
    · exact h'.low _ (.inr h2.2)
theorem Kp.done {M : Nat → Prop} {w w' : World} {n o : Nat} {F : Nat → Int} (h : Kp w0 Rd M w) (d : Done33 n F w o w') : Kp w0 Rd (fun y => M y ∨ y = o) w' := by
  have hlo := d.lo
  have hsz := d.size
  obtain ⟨cs, hr, _⟩ := d.row
  have ho := lt_of_some hr
  refine ⟨fun c hc => ?_, d.tape.trans h.tape, d.os.trans h.os, d.output.trans h.output, Nat.le_trans h.size d.size, fun c hc => ⟨fun hm => ?_, (d.keep c (Nat.lt_of_lt_of_le hc h.size)).trans (h.keep c hc).2⟩⟩
  · rcases hc with (hc | rfl) | hc
    · have := h.low c (.inl hc); omega
    · exact ho
    · have := h.low c (.inr hc); omega
  · rcases hm with hm | rfl
    · exact (h.keep c hc).1 hm
    · have := h.size; omega
theorem ResW.after {m m' : Machine} {t t' : Trace} {N : Nat} (h : runNT P N m t = (.next m', t')) (k : ResW P w0 Post m' t') : ResW P w0 Post m t := by
  obtain ⟨N', last, o, w', t2, h1, h2, h3, h4⟩ := k
  refine ⟨N + N', last, o, w', t2, ?_, ?_, h3, h4⟩
  · rw [Nat.add_assoc, runNT_add, h]; exact h1
  · rw [runN_add, ← runNT_fst P _ _ t, h]; exact h2
theorem Bsd.leavers {gs : Array Goroutine} {g : Goroutine} {w : World} {t : Trace} (h : Bsd P gs g w t) : ∃ q, Leavers P t gs q := by
  have hq : ∀ x, ∃ q, ∀ h, 0 < x → gs[x]? = some h → QuitsIn P q h := by
    intro x
    cases hx : gs[x]? with
    | none => exact ⟨0, fun h _ e => by cases e⟩
    | some y =>
      by_cases h0 : 0 < x
      · obtain ⟨q, hq⟩ := h.rest x y h0 hx
        exact ⟨q, fun h _ e => by cases e; exact hq⟩
      · exact ⟨0, fun h h1 => absurd h1 h0⟩
  refine ⟨fun x => (hq x).choose, fun i g hi hg => ?_, fun j _ => h.words.deaf j t.size⟩
  have e : Deaf t i = 0 := h.words.deaf i t.size
  rw [e]
  exact QuitsD.of_quitsIn ((hq i).choose_spec g hi hg)
theorem SE.ok {M : Nat → Prop} {g : Goroutine} {w : World} (h : ∀ w1, Rely M Rd w w1 → SE P Rd Post M g w1) : EndOK P w0 Rd Post M g w := by
  refine ⟨(h w (Rely.refl _ _ _)).1, fun gs t sl hb hk => ?_⟩
  obtain ⟨q, hL⟩ := hb.leavers
  have hG : Goes P true AtRel (fun _ _ _ => False) (AtEnd P (fun _ => False) w.heap.size (fun v w' => Post v ∧ Kw w0 w')) 0 g w := by
    intro w1 h1
    obtain ⟨d, rfl⟩ := h1
    obtain ⟨hr, v, hs, hp⟩ := h (w.at d) (RL.at M w d)
    exact ⟨hr, v, #[], hs, fun e he => by simp at he, hp, hk.tape, hk.os, hk.output, hk.size, fun c hc => (hk.keep c hc).2⟩
  exact beside_ends (fun _ _ _ h => h.elim) hb.zero hL hb.past hG
theorem resOfWkG {M : Nat → Prop} {g : Goroutine} {w : World} (h : WkG P true (RL Rd) (DL Rd) (EndOK P w0 Rd Post) M g w) {gs : Array Goroutine} {t : Trace} {sl : Option (Nat × Nat)} (hb : Bsd P gs g w t) (hk : Kp w0 Rd M w) : ResW P w0 Post (crowd gs w sl) t := by
  obtain ⟨N, gs', g', w', sl', t', M', r, _, b, k, s⟩ := h.bsd (J := fun M w => Kp w0 Rd M w) (C := fun _ _ => True) (sl := sl) DL.terms RL.at (fun M w d h => h.at d) (fun M M' w w' es h d => ⟨h.own d, d.size, h.evs d⟩) (fun _ _ _ h => h.1) hb hk
  exact ResW.after r (s.2 gs' t' sl' b k)
end
theorem Wp.toG {w0 : World} {Rd : Nat → Prop} {Post : Value → Prop} {n : Nat} {F : Nat → Int} {M : Nat → Prop} {g : Goroutine} {w : World} (h : Wp Try.prog Rd n F (SE Try.prog Rd Post) M g w) (h2 : 2 ≤ w0.heap.size) : WkG Try.prog true (RL Rd) (DL Rd) (EndOK Try.prog w0 Rd Post) M g w := by
  induction h with
  | stop h => exact .stop fun w1 h1 => SE.ok fun w2 h2 => h w2 (Rely.trans h1 h2)
  | step' hr G' W' E' M' h _ ih => exact .step' hr G' W' E' M' h ih
  | @call M g w cf cs gl cl k al f caps L D hal hg hn hk0 hk8 hf _ ih =>
    subst hg
    refine .stop fun w1 h1 => ⟨rfl, fun gs t sl hb hk => ?_⟩
    obtain ⟨c1, c2, c3, c4⟩ := hf w1 h1 (Nat.le_trans h2 hk.size) fun c hc => by
      apply Classical.byContradiction
      intro hlt
      exact (hk.keep c (by omega)).1 hc
    obtain ⟨N, gs', w', sl', t', o, r, b, d⟩ := shared33 (k := k) (cl := cl) (sl := sl) hn hk0 hk8 hb c1 hal c2 c3 c4
    exact ResW.after r (resOfWkG (ih w1 h1 o w' d) b (hk.done d))
theorem Wp.ends {w0 : World} {Rd : Nat → Prop} {Post : Value → Prop} {n : Nat} {F : Nat → Int} {M : Nat → Prop} {g : Goroutine} {w : World} (h : Wp Try.prog Rd n F (SE Try.prog Rd Post) M g w) (h2 : 2 ≤ w0.heap.size) {gs : Array Goroutine} {t : Trace} {sl : Option (Nat × Nat)} (hb : Bsd Try.prog gs g w t) (hk : Kp w0 Rd M w) : ResW Try.prog w0 Post (crowd gs w sl) t :=
  resOfWkG (h.toG h2) hb hk
end Go.Proofs.Ytpigjhagdpeofaa.Sim

namespace Go.Proofs.Ytpigjhagdpeofaa.Sim
open Go Go.Conc
set_option linter.unusedVariables false
/-- T: what is said where the law's own frame ends. -/
inductive TL (f0 : FuncId) (PreL : World → Value → Value → Value → Prop) (fr : Frame) (w : World) : Prop
  | ret (hm : fr.mode = .returning) (hd : fr.defers = []) (hk : fr.kind = .normal) (hf : fr.fn = f0) {fn : Func} {t : Tmp} (h1 : Sq.prog.funcs[fr.fn]? = some fn) (h2 : fn.results = #[.tmp t]) (h3 : fr.tmps.getD t undef = .bool true)
  | told {x : PanicEntry} {ch : List PanicEntry} (hm : fr.mode = .panicking (x :: ch)) (hl : ch.length = 1) (hd : fr.defers = []) (hf : fr.fn = f0) {fn : Func} (h1 : Sq.prog.funcs[fr.fn]? = some fn) {va vb vc : Value} {e0 : TypeId} (h2 : w.heap[2]? = some (.cells #[.int .i64 1, .func (.func 33) #[] #[va, vb, vc]] e0 (0, 0))) (h3 : PreL w va vb vc)
theorem catches_no {P : Program} {fr : Frame} {fn : Func} (h : P.funcs[fr.fn]? = some fn) : fr.catches P = false := by simp [Frame.catches, h]
theorem pan_step {P : Program} {fr : Frame} {ch : List PanicEntry} {w : World} (hm : fr.mode = .panicking ch) (hd : fr.defers = []) (hc : fr.catches P = false) :
    ∃ o w2, Go.step P (Go.lone fr [c0] w) = .next (Go.lone { c0 with mode := .panicking ch } [] w) ∧ Go.step P (Go.lone { c0 with mode := .panicking ch } [] w) = .ended o w2 := by
  have s1 : stepG P true (G fr [c0]) w = .go (G { c0 with mode := .panicking ch } []) w #[] := by
    simp [G, stepG, unwind, hm, hd, hc, Frame.raise, c0]
  obtain ⟨o, w1, es, s2⟩ := c0_pan (P := P) ch w
  exact ⟨o, w1, by rw [lone_one, one_go rfl s1]; rfl, by rw [lone_one, one_ended rfl s2]⟩
theorem TL.fin {f0 : FuncId} {PreL : World → Value → Value → Value → Prop} {fr : Frame} {w : World} (h : TL f0 PreL fr w) : ∃ x w1 o w2, Go.step Sq.prog (Go.lone fr [c0] w) = .next (Go.lone x [] w1) ∧ Go.step Sq.prog (Go.lone x [] w1) = .ended o w2 := by
  cases h with
  | ret hm hd hk hf h1 h2 h3 =>
    rename_i fn t
    have hl : fr.leaving Sq.prog w (.returned (.bool true)) := ⟨hm, hd, hk, fn, h1, by rw [results_tmp h2, h3]⟩
    obtain ⟨o, w1, es, s2⟩ := c0_fin (P := Sq.prog) (.bool true) w
    exact ⟨_, _, o, w1, step_leave_returned hl, by rw [lone_one, one_ended rfl s2]⟩
  | told hm hl hd hf h1 h2 h3 =>
    obtain ⟨o, w2, s1, s2⟩ := pan_step (w := w) hm hd (catches_no h1)
    exact ⟨_, _, o, w2, s1, s2⟩
theorem runN_one {P : Program} {i : Nat} {m m' : Machine} (h : runN P i m = .next m') {x : Stepped} (hs : Go.step P m' = x) : runN P (i + 1) m = x := by
  rw [runN_add, h]
  show runN P 1 m' = x
  simp only [runN, hs]
  cases x <;> rfl
/-- Two places from which a run ends behind two steps are one. -/
theorem last_two {P : Program} {m m1 m2 : Machine} {i j : Nat} {a b : Machine} {o o' : Outcome} {w w' : World} (h1 : runN P i m = .next m1) (a1 : Go.step P m1 = .next a) (a2 : Go.step P a = .ended o w) (h2 : runN P j m = .next m2) (b1 : Go.step P m2 = .next b) (b2 : Go.step P b = .ended o' w') : i = j := by
  have x1 := runN_one h1 a1
  have x2 := runN_one x1 a2
  have y1 := runN_one h2 b1
  have y2 := runN_one y1 b2
  rcases Nat.lt_trichotomy i j with h | h | h
  · have := runN_past x2 (j := j + 1) (by omega)
    rw [y1] at this
    cases this
  · exact h
  · have := runN_past y2 (j := i + 1) (by omega)
    rw [x1] at this
    cases this
theorem unwind_to {P : Program} {ch : List PanicEntry} {w : World} : ∀ {ds : List Frame} {fr : Frame}, fr.mode = .panicking ch → fr.defers = [] → fr.catches P = false → (∀ c ∈ ds, c.defers = [] ∧ c.mode = .run ∧ ∀ ch, ({ c with mode := .panicking ch } : Frame).catches P = false) →
    ∃ j frE, runN P j (Go.lone fr (ds ++ [c0]) w) = .next (Go.lone frE [c0] w) ∧ frE.mode = .panicking ch ∧ frE.defers = [] ∧ frE.catches P = false ∧ (ds = [] → frE.fn = fr.fn) := by
  intro ds
  induction ds with
  | nil => exact fun {fr} hm hd hc _ => ⟨0, fr, rfl, hm, hd, hc, fun _ => rfl⟩
  | cons c ds ih =>
    intro fr hm hd hc h
    obtain ⟨h1, h2, h3⟩ := h c (by simp)
    have s1 : stepG P true (G fr ((c :: ds) ++ [c0])) w = .go (G { c with mode := .panicking ch } (ds ++ [c0])) w #[] := by
      simp [G, stepG, unwind, hm, hd, hc, Frame.raise, h2]
    obtain ⟨j, frE, a1, a2, a3, a4, _⟩ := ih (fr := { c with mode := .panicking ch }) rfl h1 (h3 ch) (fun c' hc' => h c' (List.mem_cons_of_mem _ hc'))
    refine ⟨j + 1, frE, ?_, a2, a3, a4, fun e => by cases e⟩
    rw [runN, lone_one, one_go rfl s1]
    exact a1
/-- A goroutine that unwinds keeps its panic. -/
theorem unwind_keeps {P : Program} {ch : List PanicEntry} {w w2 : World} {j : Nat} {ds : List Frame} {fr fr2 : Frame} (hm : fr.mode = .panicking ch) (hd : fr.defers = []) (hc : fr.catches P = false) (h : ∀ c ∈ ds, c.defers = [] ∧ c.mode = .run ∧ ∀ ch, ({ c with mode := .panicking ch } : Frame).catches P = false)
    (hr : runN P j (Go.lone fr (ds ++ [c0]) w) = .next (Go.lone fr2 [c0] w2)) {x : Frame} {w1 w3 : World} {o : Outcome} (a1 : Go.step P (Go.lone fr2 [c0] w2) = .next (Go.lone x [] w1)) (a2 : Go.step P (Go.lone x [] w1) = .ended o w3) : fr2.mode = .panicking ch ∧ w2 = w := by
  obtain ⟨i, frE, b1, b2, b3, b4, _⟩ := unwind_to (w := w) hm hd hc h
  obtain ⟨o', w', s1, s2⟩ := pan_step (w := w) b2 b3 b4
  have e := last_two hr a1 a2 b1 s1 s2
  subst e
  rw [hr] at b1
  simp only [Stepped.next.injEq] at b1
  obtain ⟨rfl, _, rfl⟩ := lone_inj b1
  exact ⟨b2, rfl⟩
theorem HH.of_calls2 {X : Ctx} {f : FuncId} {args : Array Value} {w : World} {K : Nat} {pre : Nat → Question → Nat} {R : Ending → World → Prop} {T : Frame → World → Prop}
    (h : ∀ U : Nat → Question → Nat, (∀ i, i < K → U i = pre i) → Calls X.Q f args (tp w U K) R) (hT : ∀ e w' fr, R e w' → fr.fn = f → fr.leaving X.Q w' e → e ≠ .outgrown ∧ T fr w') :
    HH X T (Frame.enter X.Q f args .normal) [c0] w K pre := by
  intro U hU
  obtain ⟨e, w', fr, hR, hc, hf, hl⟩ := h U hU [c0]
  obtain ⟨he, ht⟩ := hT e w' fr hR hf hl
  cases e with
  | outgrown => exact absurd rfl he
  | returned v => obtain ⟨n, hn⟩ := hc; exact ⟨n, fr, w', hn, ht⟩
  | panicked ch => obtain ⟨n, hn⟩ := hc; exact ⟨n, fr, w', hn, ht⟩
end Go.Proofs.Ytpigjhagdpeofaa.Sim

namespace Go.Proofs.Ytpigjhagdpeofaa.Sim
open Go Go.Conc
set_option linter.unusedVariables false
def letter : Obj := .cells #[.int .i64 0, .nilFunc] 58 (0, 0)
def orc (n : Nat) (F : Nat → Int) : Obj := .cells (Sq.rowF n F) 2 (0, 0)
noncomputable abbrev XL (n : Nat) (F : Nat → Int) (hl : List Obj) (r0 : Ren) : Ctx := Sq.ctx (Sq.h (letter :: orc n F :: hl)) r0 Sq.lawFns
/-- What the telling call's words give of the company's memory. -/
def PreOK (X : Ctx) (n : Nat) (F : Nat → Int) (PreL : World → Value → Value → Value → Prop) : Prop :=
  ∀ (r : Ren) (wl wc : World) (va vb vc va' vb' vc' : Value) (U : Nat → Question → Nat) (K : Nat), WRel X r wl wc → VRel X.ok r va va' → VRel X.ok r vb vb' → VRel X.ok r vc vc' → PreL (Sq.panW va vb vc (tp wl U K)) va vb vc →
    ∃ (al al' : Option Addr) (gl cl k : Nat) (f : FuncId) (caps caps' : Array Value) (L : Nat → Int) (D : Nat → Prop), va = .slice al n cl ∧ vb = .int .i64 (k : Nat) ∧ vc = .func (.func f) #[] caps ∧ va' = .slice al' n cl ∧ (0 < n → al' = some ⟨gl, 0, none⟩) ∧ vb' = .int .i64 (k : Nat) ∧ vc' = .func (.func f) #[] caps' ∧ 0 < k ∧ k ≤ 8 ∧
      ∀ w1, Rely (Mine X r) (RdX X) wc w1 → 2 ≤ w1.heap.size → (∀ c, Mine X r c → 2 ≤ c) → gl < w1.heap.size ∧ (∀ j, j < n → w1.cell? ⟨gl, j, none⟩ = some (.int .i64 (L j))) ∧ Clo f caps' n F L D w1 ∧ ∀ y, D y → y < w1.heap.size
section
variable {n : Nat} {F : Nat → Int} {hl : List Obj} {r0 : Ren} {PreL : World → Value → Value → Value → Prop} {f0 : FuncId}
theorem two_old {r : Ren} {wl wc : World} (hw : WRel (XL n F hl r0) r wl wc) : wl.heap[2]? = some letter ∧ wl.heap[3]? = some (orc n F) ∧ 4 ≤ wl.heap.size := by
  have hn : (XL n F hl r0).n0 = hl.length + 4 := by
    show (Sq.h (letter :: orc n F :: hl)).size = _
    simp [Sq.h]
  refine ⟨?_, ?_, ?_⟩
  · have := hw.old 2 (by omega)
    rw [this]
    rfl
  · have := hw.old 3 (by omega)
    rw [this]
    rfl
  · have := hw.low
    omega
/-- Step one: the call tells. -/
theorem told33 {r : Ren} {va vb vc : Value} {cs cs' : List Frame} {wl wc : World} {K : Nat} {pre : Nat → Question → Nat} (hf0 : f0 ≠ 33) (hs : Stk (XL n F hl r0) r [c0] [] cs cs') (hw : WRel (XL n F hl r0) r wl wc)
    (hH : HH (XL n F hl r0) (TL f0 PreL) (Frame.enter Sq.prog 33 #[va, vb, vc] .normal) cs wl K pre) :
    (∃ c cs1 c' cs1', cs = c :: cs1 ∧ cs' = c' :: cs1' ∧ Cal (XL n F hl r0) r c c' ∧ Stk (XL n F hl r0) r [c0] [] cs1 cs1') ∧ ∃ U, PreL (Sq.panW va vb vc (tp wl U K)) va vb vc := by
  obtain ⟨h2, h3, h4⟩ := two_old hw
  let U : Nat → Question → Nat := fun i => if i < K then pre i else fun _ => 1
  have hU : ∀ i, i < K → U i = pre i := fun i hi => by show (if i < K then _ else _) = _; rw [if_pos hi]
  have hUK : ∀ q, U K q = 1 := fun q => by show (if K < K then pre K else fun _ => 1) q = 1; rw [if_neg (Nat.lt_irrefl _)]
  obtain ⟨j, fr2, w2, q1, q2⟩ := hH U hU
  obtain ⟨e, w', fr, ⟨⟨x, ch, rfl, hl1⟩, rfl, hlet⟩, ⟨i1, hi1⟩, hfn, hlv⟩ := Sq.pan33 (va := va) (vb := vb) (vc := vc) (w := tp wl U K) (cs := #[.int .i64 0, .nilFunc]) (e0 := 58) hUK h2 rfl cs
  obtain ⟨hm, hd, fn, hfn2⟩ := hlv
  obtain ⟨ds, rfl, hds⟩ := hs.split
  obtain ⟨x1, w1, o, w3, t1, t2⟩ := q2.fin
  obtain ⟨i2, frE, a1, a2, a3, a4, a5⟩ := unwind_to (P := Sq.prog) (w := Sq.panW va vb vc (tp wl U K)) hm hd (catches_no hfn2) hds
  obtain ⟨o', w4, s1, s2⟩ := pan_step (w := Sq.panW va vb vc (tp wl U K)) a2 a3 a4
  have hrun : runN Sq.prog (i1 + i2) (Go.lone (Frame.enter Sq.prog 33 #[va, vb, vc] .normal) (ds ++ [c0]) (tp wl U K)) = .next (Go.lone frE [c0] (Sq.panW va vb vc (tp wl U K))) := by
    rw [runN_add, hi1]
    exact a1
  have ej := last_two q1 t1 t2 hrun s1 s2
  subst ej
  have q1' : runN Sq.prog (i1 + i2) (Go.lone (Frame.enter Sq.prog 33 #[va, vb, vc] .normal) (ds ++ [c0]) (tp wl U K)) = .next (Go.lone fr2 [c0] w2) := q1
  rw [hrun] at q1'
  simp only [Stepped.next.injEq] at q1'
  obtain ⟨rfl, _, rfl⟩ := lone_inj q1'
  have hdne : ds ≠ [] := by
    rintro rfl
    have := a5 rfl
    rw [hfn] at this
    cases q2 with
    | ret _ _ _ hf => exact hf0 (hf.symm.trans this)
    | told _ _ _ hf => exact hf0 (hf.symm.trans this)
  refine ⟨?_, U, ?_⟩
  · generalize hcs : ds ++ [c0] = cs at hs
    cases hs with
    | nil =>
      cases ds with
      | nil => exact absurd rfl hdne
      | cons d ds =>
        have := congrArg List.length hcs
        simp at this
    | cons hc k => exact ⟨_, _, _, _, rfl, rfl, hc, k⟩
  · cases q2 with
    | ret hm' => rw [a2] at hm'; cases hm'
    | told hm' hl' hd' hf' h1' h2' h3' =>
      rw [hlet] at h2'
      simp only [Option.some.injEq, Obj.cells.injEq, Array.mk.injEq, List.cons.injEq, Value.func.injEq, true_and, and_true] at h2'
      obtain ⟨⟨rfl, rfl, rfl⟩, _⟩ := h2'
      exact h3'
end
end Go.Proofs.Ytpigjhagdpeofaa.Sim

namespace Go.Proofs.Ytpigjhagdpeofaa.Sim
open Go Go.Conc
set_option linter.unusedVariables false
section
variable {n : Nat} {F : Nat → Int} {hl : List Obj} {r0 : Ren} {PreL : World → Value → Value → Value → Prop} {f0 : FuncId}
def ext1 (r : Ren) (b o : Nat) : Ren := fun x => if x = b then some (o, 0) else r x
theorem ext1_le {r : Ren} {b o : Nat} (h : r b = none) : r.Le (ext1 r b o) := fun x y hx => by
  unfold ext1
  rw [if_neg (fun e => by rw [e, h] at hx; cases hx)]
  exact hx
theorem goW_old {w : World} {b : Nat} (h : b < w.heap.size) : (Sq.goW n F w).heap[b]? = w.heap[b]? := by
  show ((w.heap.push _).push _)[b]? = _
  rw [Array.getElem?_push, if_neg (by simp; omega), Array.getElem?_push, if_neg (by omega)]
theorem goW_row {w : World} : (Sq.goW n F w).heap[w.heap.size + 1]? = some (.cells (Sq.rowF n F) 2 (0, 0)) := by
  show ((w.heap.push _).push _)[w.heap.size + 1]? = _
  rw [Array.getElem?_push, if_pos (by simp)]
theorem goW_size {w : World} : (Sq.goW n F w).heap.size = w.heap.size + 2 := by
  show ((w.heap.push _).push _).size = _
  simp
theorem rel_go {X : Ctx} {r : Ren} {wl w1 w' : World} {o : Nat} (hw : WRel X r wl w1) (hd : Done33 n F w1 o w') : WRel X (ext1 r (wl.heap.size + 1) o) (Sq.goW n F wl) w' ∧ r.Le (ext1 r (wl.heap.size + 1) o) ∧ Mine X (ext1 r (wl.heap.size + 1) o) = fun y => Mine X r y ∨ y = o := by
  have hnone : r (wl.heap.size + 1) = none := by
    cases h : r (wl.heap.size + 1) with
    | none => rfl
    | some x => have := (hw.dom _ _ h).1; omega
  have hle := ext1_le (o := o) hnone
  have hlow := hw.low
  have hlo := hd.lo
  obtain ⟨cs, hrow, hcs⟩ := hd.row
  have ho := lt_of_some hrow
  have hsz := hd.size
  have inv : ∀ {b : Nat} {x : Nat × Nat}, ext1 r (wl.heap.size + 1) o b = some x → (b = wl.heap.size + 1 ∧ x = (o, 0)) ∨ (b ≠ wl.heap.size + 1 ∧ r b = some x) := by
    intro b x h
    unfold ext1 at h
    split at h
    · rename_i e; cases h; exact .inl ⟨e, rfl⟩
    · rename_i e; exact .inr ⟨e, h⟩
  refine ⟨⟨fun b x h => ?_, fun b b' c s s' hb h h' => ?_, fun b c s hb h => ?_, fun b c s h => ?_, fun b x hb h i v hv => ?_, fun b hb => ?_, fun b hb => ?_, by rw [goW_size]; omega⟩, hle, ?_⟩
  · rw [goW_size]
    rcases inv h with ⟨rfl, rfl⟩ | ⟨_, h⟩
    · exact ⟨by omega, ho⟩
    · have := hw.dom b x h
      exact ⟨by omega, by omega⟩
  · rcases inv h with ⟨rfl, e1⟩ | ⟨hne, h⟩
    · cases e1
      rcases inv h' with ⟨rfl, _⟩ | ⟨_, h'⟩
      · rfl
      · have := (hw.dom _ _ h').2
        simp only at this
        omega
    · rcases inv h' with ⟨rfl, e1⟩ | ⟨_, h'⟩
      · cases e1
        have := (hw.dom _ _ h).2
        simp only at this
        omega
      · exact hw.inj b b' c s s' hb h h'
  · rcases inv h with ⟨rfl, e1⟩ | ⟨_, h⟩
    · cases e1; rfl
    · exact hw.sh b c s hb h
  · rcases inv h with ⟨rfl, e1⟩ | ⟨_, h⟩
    · cases e1
      refine ⟨Sq.rowF n F, 2, (0, 0), goW_row, fun i x hx => ?_⟩
      have hi : i < n := by
        have := (Array.getElem?_eq_some_iff.1 hx).1
        simpa [Sq.rowF] using this
      rw [Sq.rowF_at hi] at hx
      cases hx
      refine ⟨.int _ _, cs, 2, (0, 0), hrow, fun _ => rfl, .int .i64 (F i), ?_, .flat rfl⟩
      rw [Nat.zero_add]
      have := hd.val i hi
      simp only [World.cell?, hrow, Option.isSome_none, Bool.false_eq_true, if_false] at this
      exact this
    · obtain ⟨cs0, e0, fz0, h1, h2⟩ := (hw.obj b c s h).ex
      have hb := (hw.dom b _ h).1
      have hc := (hw.dom b _ h).2
      refine ⟨cs0, e0, fz0, by rw [goW_old hb]; exact h1, fun i x hx => ?_⟩
      obtain ⟨np, cs', e', fz', h3, h4, y, hy, hv⟩ := h2 i x hx
      exact ⟨np, cs', e', fz', by rw [hd.keep c hc]; exact h3, h4, y, hy, hv.mono hle⟩
  · have hb2 : b < wl.heap.size := by omega
    rcases inv h with ⟨rfl, _⟩ | ⟨_, h⟩
    · omega
    · have e := goW_old (n := n) (F := F) hb2
      have h1 := hw.fz b x hb h i v (by
        unfold World.cell? at hv ⊢
        rw [← e]
        exact hv)
      unfold World.frozen? at h1 ⊢
      rw [e]
      exact h1
  · rw [goW_old (by omega)]
    exact hw.old b hb
  · unfold ext1
    rw [if_neg (by omega)]
    exact hw.oldr b hb
  · funext y
    refine propext ⟨fun ⟨b, hb, h⟩ => ?_, fun h => ?_⟩
    · rcases inv h with ⟨rfl, e1⟩ | ⟨_, h⟩
      · cases e1; exact .inr rfl
      · exact .inl ⟨b, hb, h⟩
    · rcases h with ⟨b, hb, h⟩ | rfl
      · exact ⟨b, hb, hle _ _ h⟩
      · exact ⟨wl.heap.size + 1, by omega, by unfold ext1; rw [if_pos rfl]⟩

/-- The call: it goes on in both. -/
theorem spec_gen {X : Ctx} {T : Frame → World → Prop} (hfin : ∀ fr w, T fr w → ∃ x w1 o w2, Go.step X.Q (Go.lone fr [c0] w) = .next (Go.lone x [] w1) ∧ Go.step X.Q (Go.lone x [] w1) = .ended o w2) (hn : n < 1000000000) (hPre : PreOK X n F PreL)
    (hgo : ∀ (al : Option Addr) (cl : Nat) (k : Int) (f : FuncId) (caps : Array Value) (w : World), 3 < w.heap.size → (∀ q, w.tape w.drawn q = 0) → (∀ p, p < n → w.cell? ⟨3, p, none⟩ = some (.int .i64 (F p))) → Calls X.Q 33 #[.slice al n cl, .int .i64 k, .func (.func f) #[] caps] w fun e w' => e = .returned (.slice (some ⟨w.heap.size + 1, 0, none⟩) n n) ∧ w' = Sq.goW n F w) {S : (Nat → Prop) → Goroutine → World → Prop} (r : Ren) (vs vs' : Array Value) (cs cs' : List Frame) (wl wc : World) (K : Nat) (pre : Nat → Question → Nat) (hz : vs.size = 3) (ha : ARel X.ok r vs vs')
    (hs : Stk X r [c0] [] cs cs') (hw : WRel X r wl wc) (htold : ∀ va vb vc, vs = #[va, vb, vc] → (∃ c cs1 c' cs1', cs = c :: cs1 ∧ cs' = c' :: cs1' ∧ Cal X r c c' ∧ Stk X r [c0] [] cs1 cs1') ∧ ∃ U, PreL (Sq.panW va vb vc (tp wl U K)) va vb vc) (h3 : wl.heap[3]? = some (orc n F))
    (hH : HH X T (Frame.enter X.Q 33 vs .normal) cs wl K pre)
    (hno : ¬ Wp X.P (RdX X) n F S (Mine X r) (G (Frame.enter X.P 33 vs' .normal) cs') wc) :
    ∃ t, Inv2 X [] n F T S t ∧ Lk2 X ⟨r, Frame.enter X.Q 33 vs .normal, cs, wl, Frame.enter X.P 33 vs' .normal, cs', wc, K, pre⟩ t := by
  obtain ⟨va, vb, vc, rfl⟩ : ∃ a b c, vs = #[a, b, c] := by
    obtain ⟨l⟩ := vs
    match l, hz with
    | [a, b, c], _ => exact ⟨a, b, c, rfl⟩
  obtain ⟨va', vb', vc', rfl⟩ : ∃ a b c, vs' = #[a, b, c] := by
    have hz' : vs'.size = 3 := ha.1.symm.trans hz
    obtain ⟨l⟩ := vs'
    match l, hz' with
    | [a, b, c], _ => exact ⟨a, b, c, rfl⟩
  obtain ⟨⟨c, cs1, c', cs1', rfl, rfl, hc, hs1⟩, U1, hpre⟩ := htold va vb vc rfl
  obtain ⟨al, al', gl, cl, k, f, caps, caps', L, D, rfl, rfl, rfl, rfl, hal, rfl, rfl, hk0, hk8, hf⟩ := hPre r wl wc va vb vc va' vb' vc' U1 K hw (ha.2 0 _ _ rfl rfl) (ha.2 1 _ _ rfl rfl) (ha.2 2 _ _ rfl rfl) hpre
  -- in company it fails behind the call
  obtain ⟨w1, hk, o, w', hd, hno'⟩ : ∃ w1, Rely (Mine X r) (RdX X) wc w1 ∧ ∃ o w', Done33 n F w1 o w' ∧ ¬ Wp X.P (RdX X) n F S (fun y => Mine X r y ∨ y = o) (G (c'.finish (.slice (some ⟨o, 0, none⟩) n n)) cs1') w' := by
    apply Classical.byContradiction
    intro hcon
    refine hno (.call hal rfl hn hk0 hk8 hf fun w1 h1 o w' hd => ?_)
    apply Classical.byContradiction
    intro hx
    exact hcon ⟨w1, h1, o, w', hd, hx⟩
  have hw1 := hw.rely hk
  obtain ⟨hrel, hle, hmine⟩ := rel_go hw1 hd
  have hor : ∀ U : Nat → Question → Nat, ∀ p, p < n → (tp wl U K).cell? ⟨3, p, none⟩ = some (.int .i64 (F p)) := fun U p hp => by
    show World.cell? wl ⟨3, p, none⟩ = _
    simp only [World.cell?, h3, orc, Option.isSome_none, Bool.false_eq_true, if_false]
    exact Sq.rowF_at hp
  let U0 : Nat → Question → Nat := fun i => if i < K then pre i else fun _ => 0
  have hU0 : ∀ i, i < K → U0 i = pre i := fun i hi => by show (if i < K then _ else _) = _; rw [if_pos hi]
  have hU0K : ∀ q, U0 K q = 0 := fun q => by show (if K < K then pre K else fun _ => 0) q = 0; rw [if_neg (Nat.lt_irrefl _)]
  have hrun : ∀ U : Nat → Question → Nat, (∀ i, i < K + 1 → U i = U0 i) → ∃ j, 0 < j ∧ runN X.Q j (Go.lone (Frame.enter X.Q 33 #[.slice al n cl, .int .i64 (k : Nat), .func (.func f) #[] caps] .normal) (c :: cs1) (tp wl U K)) = .next (Go.lone (c.finish (.slice (some ⟨wl.heap.size + 1, 0, none⟩) n n)) cs1 (tp (Sq.goW n F wl) U (K + 1))) := by
    intro U hU
    obtain ⟨e, w2, fr, ⟨rfl, rfl⟩, ⟨i1, hi1⟩, hfn, hlv⟩ := hgo al cl (k : Nat) f caps (tp wl U K) (Array.getElem?_eq_some_iff.1 h3).1 (fun q => by show U K q = 0; rw [hU K (by omega)]; exact hU0K q) (hor U) (c :: cs1)
    have hst := step_leave_returned (c := c) (cs := cs1) hlv
    exact ⟨i1 + 1, Nat.succ_pos _, runN_one hi1 hst⟩
  obtain ⟨ops, i, rest, kk, hat, hlo⟩ := hc.at_
  have hv : VRel X.ok (ext1 r (wl.heap.size + 1) o) (.slice (some ⟨wl.heap.size + 1, 0, none⟩) n n) (.slice (some ⟨o, 0, none⟩) n n) := by
    have := VRel.slice (ok := X.ok) (r := ext1 r (wl.heap.size + 1) o) (a := ⟨wl.heap.size + 1, 0, none⟩) (c := o) (s := 0) (l := n) (k := n) (by unfold ext1; rw [if_pos rfl])
    simpa using this
  have hput := (hc.alike.mono hle).put hat hv (fun o ho => InCls.lo (hlo o ho) (.slice _ _ _))
  have e1 : c.finish (.slice (some ⟨wl.heap.size + 1, 0, none⟩) n n) = c.at ((⟨c.tmps, []⟩ : Act).put ((ops[i]?).bind (·.dst)) (.slice (some ⟨wl.heap.size + 1, 0, none⟩) n n)) (.inRegion ops rest :: kk) := by
    conv => lhs; rw [hc.alike.at1 hc.run, hat]
    rw [Frame.finish_at]
  have e2 : c'.finish (.slice (some ⟨o, 0, none⟩) n n) = c'.at ((⟨c'.tmps, []⟩ : Act).put ((ops[i]?).bind (·.dst)) (.slice (some ⟨o, 0, none⟩) n n)) (.inRegion ops rest :: kk) := by
    conv => lhs; rw [hc.alike.at2 hc.run', hat]
    rw [Frame.finish_at]
  rw [← e1, ← e2] at hput
  have m1 : (c.finish (.slice (some ⟨wl.heap.size + 1, 0, none⟩) n n)).mode = .run := by rw [e1]; rfl
  have m2 : (c'.finish (.slice (some ⟨o, 0, none⟩) n n)).mode = .run := by rw [e2]; rfl
  refine ⟨⟨ext1 r (wl.heap.size + 1) o, c.finish (.slice (some ⟨wl.heap.size + 1, 0, none⟩) n n), cs1, Sq.goW n F wl, c'.finish (.slice (some ⟨o, 0, none⟩) n n), cs1', w', K + 1, U0⟩, ⟨hput, .inl ⟨m1, m2⟩, hs1.mono hle, hrel, fun U hU => ?_, ?_⟩, ⟨Nat.le_succ _, hU0, fun U hU => hrun U hU⟩⟩
  · obtain ⟨j, hj, hrunj⟩ := hrun U hU
    obtain ⟨j2, fr2, w2, q1, q2⟩ := hH U fun i hi => (hU i (Nat.lt_succ_of_lt hi)).trans (hU0 i hi)
    have q1' : runN X.Q j2 (Go.lone (Frame.enter X.Q 33 #[.slice al n cl, .int .i64 (k : Nat), .func (.func f) #[] caps] .normal) (c :: cs1) (tp wl U K)) = .next (Go.lone fr2 [c0] w2) := q1
    obtain ⟨x1, w3, o3, w4, t1, t2⟩ := hfin _ _ q2
    rcases Nat.lt_or_ge j2 j with hlt | hge
    · exfalso
      have y1 := runN_one q1' t1
      have y2 := runN_one y1 t2
      by_cases he : j = j2 + 1
      · subst he
        rw [hrunj] at y1
        simp only [Stepped.next.injEq] at y1
        obtain ⟨_, e, _⟩ := lone_inj y1
        subst e
        cases hs1
      · have := runN_past y2 (j := j) (by omega)
        rw [hrunj] at this
        cases this
    · refine ⟨j2 - j, fr2, w2, ?_, q2⟩
      have e : j2 = j + (j2 - j) := by omega
      rw [e, runN_add, hrunj] at q1'
      exact q1'
  · show ¬ Wp X.P (RdX X) n F S (Mine X (ext1 r (wl.heap.size + 1) o)) _ _
    rw [hmine]
    exact hno'
end
end Go.Proofs.Ytpigjhagdpeofaa.Sim

namespace Go.Proofs.Ytpigjhagdpeofaa.Sim
open Go Go.Conc
set_option linter.unusedVariables false
section
variable {n : Nat} {F : Nat → Int} {hl : List Obj} {r0 : Ren} {PreL : World → Value → Value → Value → Prop} {f0 : FuncId}
/-- The law's results lie in a slot; it is no part of the start-up. -/
structure LawFn (f0 : FuncId) : Prop where
  ne : f0 ≠ 33
  res : ∀ fn, Sq.prog.funcs[f0]? = some fn → ∃ t, fn.results = #[.tmp t]
  ini : Try.prog.inits.idxOf? f0 = none
theorem stop_law {X : Ctx} (hP : X.P = Try.prog) (hF : X.Q = Sq.prog) (hf0 : LawFn f0) {r : Ren} {fr fr' : Frame} {wl wc : World} (h : Fr X r fr fr') (m1 : fr.mode = .returning) (m2 : fr'.mode = .returning) (ht : TL f0 PreL fr wl) :
    Wp X.P (RdX X) n F (SE X.P (RdX X) (fun v => v = .bool true)) (Mine X r) (G fr' []) wc := by
  cases ht with
  | told hm => rw [m1] at hm; cases hm
  | ret hm hd hk hf h1 h2 h3 =>
    rename_i fn t
    obtain ⟨fn2, hord⟩ := h.ord
    have hl : Sq.prog.funcs[fr.fn]? = some fn2 := by rw [← hF]; exact hord.lone
    have e : fn2 = fn := Option.some.inj (hl.symm.trans h1)
    subst e
    have hc : X.P.funcs[fr'.fn]? = some fn2 := by rw [h.fn]; exact hord.comp
    have hi : X.P.inits.idxOf? fr'.fn = none := by rw [h.fn, hf, hP]; exact hf0.ini
    have hv : fr'.tmps.getD t undef = .bool true := by
      have := h.tm.1.getD t (x := undef) (y := undef) VRel.undef
      rw [h3] at this
      exact VRel.of_flat this rfl
    refine .stop fun w1 k => ⟨rfl, .bool true, ?_, rfl⟩
    have hr : ∀ w, (results fn2 fr'.tmps).run X.P w = .ok (.bool true) w := fun w => by rw [results_tmp h2, hv]
    have he : ∀ w, (results fn2 fr'.tmps).events X.P w #[] = #[] := fun w => events_results_tmp h2 _ _
    have hdef := h.defers'
    have hkd := h.kind'
    simp [G, stepG, unwind, doReturn, m2, hdef, hkd, hc, hr, he, hi, GStep.after, seen]
theorem pan_law {X : Ctx} (hF : X.Q = Sq.prog) {r : Ren} {fr fr' : Frame} {cs cs' : List Frame} {w1 w2 : World} {ch : List PanicEntry} {j : Nat} {fr2 : Frame} (h : Fr X r fr fr') (hs : Stk X r [c0] [] cs cs') (hl : ch.length = 1)
    (hrun : runN X.Q j (Go.lone { fr with mode := .panicking ch } cs w1) = .next (Go.lone fr2 [c0] w2)) (ht : TL f0 PreL fr2 w2) : False := by
  obtain ⟨ds, rfl, hds⟩ := hs.split
  obtain ⟨fn, hord⟩ := h.ord
  have hq : X.Q.funcs[fr.fn]? = some fn := hord.lone
  obtain ⟨x, w3, o, w4, t1, t2⟩ := ht.fin
  rw [← hF] at t1 t2
  obtain ⟨e1, _⟩ := unwind_keeps (P := X.Q) (fr := { fr with mode := .panicking ch }) rfl h.defers (catches_no hq) hds hrun t1 t2
  cases ht with
  | ret hm => rw [e1] at hm; cases hm
  | told hm hl' =>
    rw [e1] at hm
    cases hm
    simp at hl
    subst hl
    cases hl'
theorem bar_law {X : Ctx} (hP : X.P = Try.prog) (hF : X.Q = Sq.prog) (hO : Ords X 33) (hn : n < 1000000000) (hf0 : LawFn f0) (hPre : PreOK X n F PreL) (hblind : ∀ w U K va vb vc, PreL (tp w U K) va vb vc → PreL w va vb vc) (h3 : ∀ r wl wc, WRel X r wl wc → wl.heap[3]? = some (orc n F))
    (hgo : ∀ (al : Option Addr) (cl : Nat) (k : Int) (f : FuncId) (caps : Array Value) (w : World), 3 < w.heap.size → (∀ q, w.tape w.drawn q = 0) → (∀ p, p < n → w.cell? ⟨3, p, none⟩ = some (.int .i64 (F p))) → Calls X.Q 33 #[.slice al n cl, .int .i64 k, .func (.func f) #[] caps] w fun e w' => e = .returned (.slice (some ⟨w.heap.size + 1, 0, none⟩) n n) ∧ w' = Sq.goW n F w)
    (htold : ∀ r va vb vc cs cs' wl wc K pre, Stk X r [c0] [] cs cs' → WRel X r wl wc → HH X (TL f0 PreL) (Frame.enter X.Q 33 #[va, vb, vc] .normal) cs wl K pre → (∃ c cs1 c' cs1', cs = c :: cs1 ∧ cs' = c' :: cs1' ∧ Cal X r c c' ∧ Stk X r [c0] [] cs1 cs1') ∧ ∃ U, PreL (Sq.panW va vb vc (tp wl U K)) va vb vc) :
    Bar2 X [] n F (TL f0 PreL) (SE X.P (RdX X) (fun v => v = .bool true)) where
  ords := hO
  tape := fun fr w U K h => by
    cases h with
    | ret hm hd hk hf h1 h2 h3 => exact .ret hm hd hk hf h1 h2 h3
    | told hm hl hd hf h1 h2 h3 => exact .told hm hl hd hf h1 h2 (hblind _ _ _ _ _ _ h3)
  mode := fun fr w h e => by
    cases h with
    | ret hm => rw [hm] at e; cases e
    | told hm => rw [hm] at e; cases e
  fin := fun fr w h => by
    obtain ⟨x, w1, o, w2, t1, t2⟩ := h.fin
    rw [← hF] at t1 t2
    exact ⟨2, o, w2, by simp only [runN, t1, t2]⟩
  stop := fun r fr fr' wl wc h m1 m2 hw ht => stop_law hP hF hf0 h m1 m2 ht
  spec := fun r vs vs' cs cs' wl wc K pre _ hz ha hs hw hH hno => spec_gen (hfin := fun fr w h => by rw [hF]; exact h.fin) hn hPre hgo r vs vs' cs cs' wl wc K pre hz ha hs hw (fun va vb vc e => htold r va vb vc cs cs' wl wc K pre hs hw (by rw [← e]; exact hH)) (h3 r wl wc hw) hH hno
  pan := fun r fr fr' cs cs' wl wc ch w1 es j fr2 w2 h hm hs hw ht hd hl hg hrun hT => pan_law hF h hs hl hrun hT
end
end Go.Proofs.Ytpigjhagdpeofaa.Sim

namespace Go.Proofs.Ytpigjhagdpeofaa.Sim
open Go Go.Conc
set_option linter.unusedVariables false
/-- The lone law's memory: the letter box, the oracle, and all that is there, frozen. -/
def loneL (n : Nat) (F : Nat → Int) (W : World) : List Obj := letter :: orc n F :: Sq.rest W
def lone0 (n : Nat) (F : Nat → Int) (W : World) : World := { W with heap := Sq.h (loneL n F W) }
open Classical in
noncomputable def lren (D : Nat → Prop) : Ren := fun b => if 4 ≤ b ∧ D (b - 2) then some (b - 2, 0) else none
theorem lren_iff {D : Nat → Prop} {b c s : Nat} : lren D b = some (c, s) ↔ 4 ≤ b ∧ D (b - 2) ∧ c = b - 2 ∧ s = 0 := by
  unfold lren
  by_cases h : 4 ≤ b ∧ D (b - 2)
  · rw [if_pos h]
    constructor
    · intro e; cases e; exact ⟨h.1, h.2, rfl, rfl⟩
    · rintro ⟨_, _, rfl, rfl⟩; rfl
  · rw [if_neg h]
    constructor
    · intro e; cases e
    · rintro ⟨h1, h2, _⟩; exact absurd ⟨h1, h2⟩ h
structure LRead (W : World) (D : Nat → Prop) : Prop where
  two : 2 ≤ W.heap.size
  low : ∀ c, D c → 2 ≤ c
  row : ∀ c, D c → ∃ cs e fz, W.heap[c]? = some (.cells cs e fz) ∧ ∀ (i : Nat) x, cs[i]? = some x → NP x ∧ flat x = true
section
variable {n : Nat} {F : Nat → Int} {W : World} {D : Nat → Prop}
theorem lone_size (h : 2 ≤ W.heap.size) : (Sq.h (loneL n F W)).size = W.heap.size + 2 := by
  simp only [Sq.h, loneL, Sq.rest, List.size_toArray, List.length_cons, List.length_map, List.length_drop, Array.length_toList]
  omega
theorem lone_at {b : Nat} (h : 4 ≤ b) : (Sq.h (loneL n F W))[b]? = (W.heap[b - 2]?).map Sq.frz := by
  obtain ⟨b, rfl⟩ : ∃ k, b = k + 4 := ⟨b - 4, by omega⟩
  simp only [Sq.h, loneL, Sq.rest, List.getElem?_toArray, List.getElem?_cons_succ, List.getElem?_map, List.getElem?_drop, Array.getElem?_toList]
  rw [show b + 4 - 2 = 2 + b by omega]
theorem LRead.lt (h : LRead W D) {c : Nat} (hc : D c) : c < W.heap.size := by
  obtain ⟨cs, e, fz, h1, _⟩ := h.row c hc
  exact (Array.getElem?_eq_some_iff.1 h1).1
theorem lone_rel (h : LRead W D) : WRel (XL n F (Sq.rest W) (lren D)) (lren D) (lone0 n F W) W := by
  have hn : (XL n F (Sq.rest W) (lren D)).n0 = W.heap.size + 2 := lone_size h.two
  have hs : (lone0 n F W).heap.size = W.heap.size + 2 := lone_size h.two
  refine ⟨fun b x hx => ?_, fun b b' c s s' hb hx => ?_, fun b c s hb hx => ?_, fun b c s hx => ?_, fun b x hb hx i v hv => ?_, fun b hb => rfl, fun b hb => rfl, ?_⟩
  · obtain ⟨c, s⟩ := x
    obtain ⟨h1, h2, rfl, rfl⟩ := lren_iff.1 hx
    have := h.lt h2
    exact ⟨by rw [hs]; omega, this⟩
  · obtain ⟨h1, h2, rfl, rfl⟩ := lren_iff.1 hx
    have := h.lt h2
    omega
  · exact (lren_iff.1 hx).2.2.2
  · obtain ⟨h1, h2, rfl, rfl⟩ := lren_iff.1 hx
    obtain ⟨cs, e, fz, h3, h4⟩ := h.row _ h2
    refine ⟨cs, e, (0, cs.size), by show (Sq.h (loneL n F W))[b]? = _; rw [lone_at h1, h3]; rfl, fun i x hx => ⟨(h4 i x hx).1, cs, e, fz, h3, fun hb => ?_, x, by rw [Nat.zero_add]; exact hx, .flat (h4 i x hx).2⟩⟩
    have := h.lt h2
    omega
  · obtain ⟨c, s⟩ := x
    obtain ⟨h1, h2, rfl, rfl⟩ := lren_iff.1 hx
    obtain ⟨cs, e, fz, h3, h4⟩ := h.row _ h2
    have e1 : (lone0 n F W).heap[b]? = some (.cells cs e (0, cs.size)) := by show (Sq.h (loneL n F W))[b]? = _; rw [lone_at h1, h3]; rfl
    have hlt : i < cs.size := by
      simp only [World.cell?, e1] at hv
      exact (Array.getElem?_eq_some_iff.1 (by simpa using hv)).1
    simp [World.frozen?, e1, hlt]
  · show (Sq.h (loneL n F W)).size ≤ (Sq.h (loneL n F W)).size
    exact Nat.le_refl _
/-- How the lone law ends. -/
def LawR (PreL : World → Value → Value → Value → Prop) (e : Ending) (w : World) : Prop :=
  e = .returned (.bool true) ∨ ∃ x ch va vb vc e0, e = .panicked (x :: ch) ∧ ch.length = 1 ∧ w.heap[2]? = some (.cells #[.int .i64 1, .func (.func 33) #[] #[va, vb, vc]] e0 (0, 0)) ∧ PreL w va vb vc
theorem law_hh {X : Ctx} (hF : X.Q = Sq.prog) {PreL : World → Value → Value → Value → Prop} {f0 : FuncId} (hf0 : LawFn f0) {args : Array Value} {wl : World} (hK : ∀ U : Nat → Question → Nat, Calls X.Q f0 args (tp wl U 0) (LawR PreL)) : HH X (TL f0 PreL) (Frame.enter X.Q f0 args .normal) [c0] wl 0 (fun _ _ => 0) := by
  refine HH.of_calls2 (fun U _ => hK U) fun e w' fr hR hf hl => ?_
  rw [hF] at hl
  rcases hR with rfl | ⟨x, ch, va, vb, vc, e0, rfl, h1, h2, h3⟩
  · obtain ⟨hm, hd, hk, fn, hfn, hr⟩ := hl
    obtain ⟨t, ht⟩ := hf0.res fn (by rw [← hf]; exact hfn)
    rw [results_tmp ht] at hr
    simp only [Result.ok.injEq, and_true] at hr
    exact ⟨(fun e => by cases e), .ret hm hd hk hf hfn ht hr⟩
  · obtain ⟨hm, hd, fn, hfn⟩ := hl
    exact ⟨(fun e => by cases e), .told hm h1 hd hf hfn h2 h3⟩
/-- The law's run. -/
theorem law_run {PreL : World → Value → Value → Value → Prop} {f0 : FuncId} {args args' : Array Value} (hn : n < 1000000000) (hf0 : LawFn f0) (hok : Sq.mem Sq.lawFns f0 = true) (hR : LRead W D) (ha : ARel (Sq.mem Sq.lawFns) (lren D) args args')
    (hcls : ∀ (i : Nat) x, args[i]? = some x → InCls (XL n F (Sq.rest W) (lren D)) (Sq.cl f0 i) x) (hPre : PreOK (XL n F (Sq.rest W) (lren D)) n F PreL) (hblind : ∀ w U K va vb vc, PreL (tp w U K) va vb vc → PreL w va vb vc)
    (hK : ∀ U : Nat → Question → Nat, Calls Sq.prog f0 args (tp (lone0 n F W) U 0) (LawR PreL)) : ResW Try.prog W (fun v => v = .bool true) (solo (G (Frame.enter Try.prog f0 args' .normal) []) W) #[] := by
  have hw := lone_rel (n := n) (F := F) hR
  have hO : Ords (XL n F (Sq.rest W) (lren D)) 33 := Sq.ords_law (loneL n F W) (lren D)
  have hH := law_hh (X := XL n F (Sq.rest W) (lren D)) rfl hf0 hK
  have hB : Bar2 (XL n F (Sq.rest W) (lren D)) [] n F (TL f0 PreL) (SE Try.prog (RdX (XL n F (Sq.rest W) (lren D))) (fun v => v = .bool true)) :=
    bar_law rfl rfl hO hn hf0 hPre hblind (fun r wl wc hw => (two_old hw).2.1) (fun al cl k f caps w h3 ht hor => Sq.go33 hn h3 ht hor) (fun r va vb vc cs cs' wl wc K pre hs hw hH => told33 hf0.ne hs hw hH)
  have key := bar2 hB (Sim.Fr.enter hO hok hf0.ne ha hcls) (.inl ⟨rfl, rfl⟩) .nil hw hH
  have hmine : ∀ c, ¬ Mine (XL n F (Sq.rest W) (lren D)) (lren D) c := fun c ⟨b, hb, hx⟩ => by
    have h1 := (hw.dom b _ hx).1
    have h2 : (lone0 n F W).heap.size = W.heap.size + 2 := lone_size hR.two
    have h3 : (XL n F (Sq.rest W) (lren D)).n0 = W.heap.size + 2 := lone_size hR.two
    omega
  refine Wp.ends key (w0 := W) hR.two ⟨rfl, fun x h hx hg => ?_, past_nil.mono (Nat.zero_le _), fun op ho => by simp at ho⟩ ⟨fun c hc => ?_, rfl, rfl, rfl, Nat.le_refl _, fun c _ => ⟨hmine c, rfl⟩⟩
  · have : x < 1 := by simpa using (Array.getElem?_eq_some_iff.1 hg).1
    omega
  · rcases hc with hc | ⟨b, s, hb, hx⟩
    · exact absurd hc (hmine c)
    · exact (hw.dom b _ hx).2
end
end Go.Proofs.Ytpigjhagdpeofaa.Sim

namespace Go.Proofs.Ytpigjhagdpeofaa
open Go.RowKit
set_option linter.unusedVariables false

/-- h 0, h 1, .. h (k - 1). -/
def tab (h : Nat → Int) : Nat → List Int
  | 0 => []
  | k + 1 => tab h k ++ [h k]
theorem tab_length (h : Nat → Int) (k : Nat) : (tab h k).length = k := by
  induction k with
  | zero => rfl
  | succ k ih => simp [tab, ih]
theorem tab_get (h : Nat → Int) (n i : Nat) (hi : i < n) : (tab h n).getD i 0 = h i := by
  induction n with
  | zero => omega
  | succ n ih =>
    have hl := tab_length h n
    by_cases e : i < n
    · rw [tab, List.getD_eq_getElem?_getD, List.getElem?_append_left (by omega), ← List.getD_eq_getElem?_getD]; exact ih e
    · obtain rfl : i = n := by omega
      rw [tab, List.getD_eq_getElem?_getD, List.getElem?_append_right (by omega), hl, Nat.sub_self]; rfl
theorem tab_congr (h h' : Nat → Int) (n : Nat) (e : ∀ i, i < n → h i = h' i) : tab h n = tab h' n := by
  induction n with
  | zero => rfl
  | succ n ih => rw [tab, tab, ih (fun i hi => e i (by omega)), e n (by omega)]
theorem tab_set (h h' : Nat → Int) (n j : Nat) (hj : j < n) (e : ∀ i, i < n → i ≠ j → h i = h' i) : (tab h n).set j (h' j) = tab h' n := by
  induction n with
  | zero => omega
  | succ n ih =>
    have hl := tab_length h n
    by_cases e1 : j < n
    · rw [tab, tab, List.set_append_left _ _ (by omega), ih e1 (fun i hi => e i (by omega)), e n (by omega) (by omega)]
    · obtain rfl : j = n := by omega
      rw [tab, tab, List.set_append_right _ _ (by omega), hl, Nat.sub_self, tab_congr h h' j (fun i hi => e i (by omega) (by omega))]; rfl
theorem tab_rep (n : Nat) (h : Nat → Int) (e : ∀ i, h i = 0) : List.replicate n 0 = tab h n := by
  induction n with
  | zero => rfl
  | succ n ih => rw [List.replicate_succ', ih, tab, e n]
end Go.Proofs.Ytpigjhagdpeofaa

namespace Go.Proofs.Ytpigjhagdpeofaa
open Go.RowKit Go.Proofs.Ytpigjhagdpeofaa.Sim
set_option linter.unusedVariables false
theorem Sq.rowF_tab (n : Nat) (F : Nat → Int) : (Sq.rowF n F).toList = (tab F n).map (Value.int .i64) := by
  refine List.ext_getElem? fun i => ?_
  by_cases h : i < n
  · rw [Array.getElem?_toList, Sq.rowF_at h, List.getElem?_map]
    have hl : i < (tab F n).length := by rw [tab_length]; exact h
    rw [List.getElem?_eq_getElem hl]
    have := tab_get F n i h
    rw [List.getD_eq_getElem?_getD, List.getElem?_eq_getElem hl] at this
    simp only [Option.getD_some] at this
    rw [this]
    rfl
  · rw [List.getElem?_eq_none (by simp [Sq.rowF]; omega), List.getElem?_eq_none (by rw [List.length_map, tab_length]; omega)]
theorem Sq.goW_own {n : Nat} {F : Nat → Int} {w : World} (hn : n < 1000000000) : Own 2 (Sq.goW n F w) w.heap.size (.slice (some ⟨w.heap.size + 1, 0, none⟩) n n) (tab F n) := by
  refine ⟨by simp, .inr ⟨w.heap.size + 1, n, Sq.rowF n F, by rw [tab_length], by omega, ?_, by rw [tab_length]; exact Nat.le_refl _, ?_, by simp [Sq.rowF], ?_⟩⟩
  · show ((w.heap.push _).push _)[w.heap.size + 1]? = _
    rw [Array.getElem?_push, if_pos (by simp)]
  · have : (1000000000 : Nat) ≤ maxLen := by decide
    omega
  · rw [tab_length, Nat.mul_one, List.take_of_length_le (by simp [Sq.rowF]), Sq.rowF_tab]
theorem Sq.goW_below {n : Nat} {F : Nat → Int} {w : World} : Below w.heap.size w (Sq.goW n F w) := by
  refine ⟨rfl, rfl, rfl, by simp [Sq.goW]; omega, fun b hb => ?_⟩
  show ((w.heap.push _).push _)[b]? = _
  rw [Array.getElem?_push, if_neg (by simp; omega), Array.getElem?_push, if_neg (by omega)]
theorem Sq.panW_old {va vb vc : Value} {w : World} {b : Nat} (hb : b < w.heap.size) (h2 : b ≠ 2) : (Sq.panW va vb vc w).heap[b]? = w.heap[b]? := by
  show (((Sq.coinW w).setCell ⟨2, 1, none⟩ _).setCell ⟨2, 0, none⟩ _).heap[b]? = _
  simp only [World.setCell, Array.getElem?_modify]
  rw [if_neg (fun e => h2 e.symm), if_neg (fun e => h2 e.symm)]
  have := Sq.coin_old hb
  exact this
/-- What is told. -/
def Told (Pre : World → Value → Value → Value → Prop) (e : Ending) (w' : World) : Prop :=
  ∃ x ch va vb vc e0, e = .panicked (x :: ch) ∧ ch.length = 1 ∧ w'.heap[2]? = some (.cells #[.int .i64 1, .func (.func 33) #[] #[va, vb, vc]] e0 (0, 0)) ∧ Pre w' va vb vc
/-- A world with a letter box, and the oracle's row. -/
structure Sat2 (n : Nat) (F : Nat → Int) (w : World) : Prop where
  box : ∃ cs e0, w.heap[2]? = some (.cells cs e0 (0, 0)) ∧ cs.size = 2
  orc : ∀ p, p < n → w.cell? ⟨3, p, none⟩ = some (.int .i64 (F p))
  low : 3 < w.heap.size
theorem Sat2.below {n : Nat} {F : Nat → Int} {w w' : World} (h : Sat2 n F w) (hb : Below w.heap.size w w') : Sat2 n F w' := by
  have h3 := h.low
  refine ⟨?_, fun p hp => ?_, Nat.lt_of_lt_of_le h3 hb.size⟩
  · rw [hb.block 2 (by omega)]; exact h.box
  · rw [← h.orc p hp]
    unfold World.cell?
    rw [hb.block 3 h3]
theorem Sq.sh33 {n cl gl : Nat} {k : Int} {f : FuncId} {caps : Array Value} {F : Nat → Int} {w : World} {Pre : World → Value → Value → Value → Prop} (hn : n < 1000000000) (hs : Sat2 n F w)
    (hPre : ∀ w', (∀ b, b ≠ 2 → b < w.heap.size → w'.heap[b]? = w.heap[b]?) → Pre w' (.slice (some ⟨gl, 0, none⟩) n cl) (.int .i64 k) (.func (.func f) #[] caps)) :
    Calls Sq.prog 33 #[.slice (some ⟨gl, 0, none⟩) n cl, .int .i64 k, .func (.func f) #[] caps] w fun e w' => (∃ v, e = .returned v ∧ Own 2 w' w.heap.size v (tab F n) ∧ Below w.heap.size w w') ∨ Told Pre e w' := by
  obtain ⟨cs, e0, hb, hcs⟩ := hs.box
  refine (Sq.any33 hn hs.low hs.orc hb hcs).mono ?_
  rintro e w' (⟨rfl, rfl⟩ | ⟨⟨x, ch, rfl, hl⟩, rfl, hlet⟩)
  · exact .inl ⟨_, rfl, Sq.goW_own hn, Sq.goW_below⟩
  · exact .inr ⟨x, ch, _, _, _, e0, rfl, hl, hlet, hPre _ fun b h1 h2 => Sq.panW_old h2 h1⟩
end Go.Proofs.Ytpigjhagdpeofaa

namespace Go.Proofs.Ytpigjhagdpeofaa
open Go.RowKit
set_option linter.unusedVariables false

/-- So many records; their fields in a row. -/
structure Rec where
  length : Nat
  f : Nat → Int

/-- The cells of a slice of records of k integers. -/
def RowC (w : World) (g off n k : Nat) (f : Nat → Int) : Prop := ∀ i, i < n → ∀ j, j < k → w.cell? ⟨g, off + i * k + j, none⟩ = some (.int .i64 (f (i * k + j)))
theorem RowC.below {w w' : World} {g off n k : Nat} {f : Nat → Int} (h : RowC w g off n k f) (hb : Below w.heap.size w w') : RowC w' g off n k f :=
  fun i hi j hj => Below.cellOf hb rfl (h i hi j hj)
theorem RowC.c0 {w : World} {g n k : Nat} {f : Nat → Int} (h : RowC w g 0 n k f) (i : Nat) (hi : i < n) (hk : 0 < k) : w.cell? ⟨g, i * k, none⟩ = some (.int .i64 (f (i * k))) := by
  have := h i hi 0 hk; rwa [Nat.zero_add, Nat.add_zero] at this
theorem RowC.cs {w : World} {g n k : Nat} {f : Nat → Int} (h : RowC w g 0 n k f) (i j : Nat) (hi : i < n) (hj : j < k) : w.cell? ⟨g, i * k + j, none⟩ = some (.int .i64 (f (i * k + j))) := by
  have := h i hi j hj; rwa [Nat.zero_add] at this
/-- Whether all of the first n are so. -/
def allB (P : Nat → Bool) : Nat → Bool
  | 0 => true
  | k + 1 => allB P k && P k
theorem allB_false {P : Nat → Bool} {n : Nat} (k : Nat) (hk : k < n) (h : P k = false) : allB P n = false := by
  induction n with
  | zero => omega
  | succ n ih =>
    by_cases e : k < n
    · simp [allB, ih e]
    · obtain rfl : k = n := by omega
      simp [allB, h]
theorem allB_succ {P : Nat → Bool} {k : Nat} (h1 : allB P k = true) (h2 : P k = true) : allB P (k + 1) = true := by simp [allB, h1, h2]
theorem allB_iff {P : Nat → Bool} {n : Nat} : allB P n = true ↔ ∀ i, i < n → P i = true := by
  induction n with
  | zero => simp [allB]
  | succ n ih =>
    simp only [allB, Bool.and_eq_true, ih]
    constructor
    · rintro ⟨h1, h2⟩ i hi
      rcases Nat.lt_succ_iff_lt_or_eq.1 hi with h3 | rfl
      · exact h1 i h3
      · exact h2
    · exact fun h => ⟨fun i hi => h i (by omega), h n (by omega)⟩
/-- A slice of records that came in. -/
def InR (k : Nat) (w : World) (v : Value) (X : Rec) : Prop :=
  ∃ a cap, v = .slice a X.length cap ∧ X.length ≤ maxLen ∧ (X.length ≠ 0 → ∃ g off, a = some ⟨g, off, none⟩ ∧ RowC w g off X.length k X.f)
theorem InR.below {k : Nat} {w w' : World} {v : Value} {X : Rec} (h : InR k w v X) (hb : Below w.heap.size w w') : InR k w' v X := by
  obtain ⟨a, cap, hv, hm, h⟩ := h
  exact ⟨a, cap, hv, hm, fun hx => by obtain ⟨g, off, ha, hi⟩ := h hx; exact ⟨g, off, ha, hi.below hb⟩⟩
/-- A slice of records in the call's own memory, not nil. -/
def RowR (k : Nat) (w : World) (B : Nat) (v : Value) (X : Rec) : Prop :=
  ∃ g, v = .slice (some ⟨g, 0, none⟩) X.length X.length ∧ B ≤ g ∧ g < w.heap.size ∧ X.length < 1000000000 ∧ RowC w g 0 X.length k X.f ∧ ∀ i, w.frozen? ⟨g, i, none⟩ = false
theorem RowR.lt {k : Nat} {w : World} {B : Nat} {v : Value} {X : Rec} (h : RowR k w B v X) : ∀ b, v.ownBlock = some b → B ≤ b ∧ b < w.heap.size := by
  obtain ⟨g, rfl, h1, h2, _⟩ := h
  intro b hb
  cases hb
  exact ⟨h1, h2⟩
theorem RowR.below {k : Nat} {w w' : World} {B : Nat} {v : Value} {X : Rec} (h : RowR k w B v X) (hb : Below w.heap.size w w') : RowR k w' B v X := by
  obtain ⟨g, rfl, h1, h2, h3, h4, h5⟩ := h
  refine ⟨g, rfl, h1, Nat.lt_of_lt_of_le h2 hb.size, h3, h4.below hb, fun i => ?_⟩
  rw [hb.frozen h2]
  exact h5 i

/-- Cells that are there and may be written. -/
def There (w : World) (g m : Nat) : Prop := g < w.heap.size ∧ (∀ i, i < m → (w.cell? ⟨g, i, none⟩).isSome = true) ∧ ∀ i, w.frozen? ⟨g, i, none⟩ = false
theorem There.below {w w' : World} {g m : Nat} (h : There w g m) (hb : Below w.heap.size w w') : There w' g m :=
  ⟨Nat.lt_of_lt_of_le h.1 hb.size, fun i hi => by rw [hb.cell h.1]; exact h.2.1 i hi, fun i => by rw [hb.frozen h.1]; exact h.2.2 i⟩
theorem There.set {w : World} {g m : Nat} (h : There w g m) (i : Nat) (v : Value) : There (w.setCell ⟨g, i, none⟩ v) g m := by
  refine ⟨by simpa using h.1, fun j hj => ?_, fun j => by rw [World.frozen?_setCell]; exact h.2.2 j⟩
  obtain ⟨x, hx⟩ := Option.isSome_iff_exists.1 (h.2.1 j hj)
  by_cases e : i = j
  · subst e; rw [World.cell?_setCell_same _ _ _ hx]; rfl
  · rw [World.cell?_setCell_other _ _ _ _ (by intro h; cases h; exact e rfl)]; exact h.2.1 j hj
/-- The first m cells of a block. -/
def CellsTo (w : World) (g m : Nat) (f : Nat → Int) : Prop := ∀ i, i < m → w.cell? ⟨g, i, none⟩ = some (.int .i64 (f i))
theorem CellsTo.below {w w' : World} {g m : Nat} {f : Nat → Int} (h : CellsTo w g m f) (hb : Below w.heap.size w w') : CellsTo w' g m f := fun i hi => Below.cellOf hb rfl (h i hi)
theorem CellsTo.set {w : World} {g v M : Nat} {f : Nat → Int} (h : CellsTo w g v f) (ht : There w g M) (hv : v < M) : CellsTo (w.setCell ⟨g, v, none⟩ (.int .i64 (f v))) g (v + 1) f := by
  intro i hi
  by_cases e : v = i
  · subst e
    obtain ⟨x, hx⟩ := Option.isSome_iff_exists.1 (ht.2.1 v hv)
    rw [World.cell?_setCell_same _ _ _ hx]
  · rw [World.cell?_setCell_other _ _ _ _ (by intro h; cases h; exact e rfl)]; exact h i (by omega)
theorem CellsTo.row {w : World} {g n k : Nat} {f : Nat → Int} (h : CellsTo w g (n * k) f) : RowC w g 0 n k f := by
  intro i hi j hj
  have : i * k + j < n * k := by
    have : (i + 1) * k ≤ n * k := Nat.mul_le_mul_right k (by omega)
    rw [Nat.add_mul] at this
    omega
  have := h (i * k + j) this
  rwa [← Nat.zero_add (i * k + j), ← Nat.add_assoc] at this ⊢
theorem There.at {w : World} {g m : Nat} (h : There w g m) (i : Nat) (hi : i < m) : ∃ x, w.cell? ⟨g, i, none⟩ = some x := Option.isSome_iff_exists.1 (h.2.1 i hi)
theorem wpList_mkR {P : Program} (w : World) {ops : Array Oper} {rest : List Oper} {o : Oper} {a : Act} {Q : Exit → Act → World → Prop}
    (hg : o.guard = none) (l c : Operand) (t : TypeId) (hop : o.op = Op.makeSlice t l c)
    (E : TypeId) (z : Value) (size bytes : Nat) (hi : (P.info? E).map (fun i => (i.zero, i.size, i.bytes)) = some (some z, size, bytes)) (hby : bytes ≤ 100) (ht : P.underlying t = some (.slice E))
    (kl kc : IntKind) (L C : Int) (n : Nat) (hl : a.eval l = .int kl L) (hc : a.eval c = .int kc C) (hL : L = (n : Int)) (hC : C = (n : Int)) (hn : n < 1000000000)
    (hK : ∀ w', There w' w.heap.size (n * size) → Below w.heap.size w w' → wpList P ops Q rest (a.put o.dst (.slice (some ⟨w.heap.size, 0, none⟩) n n)) w') :
    wpList P ops Q (o :: rest) a w := by
  obtain ⟨i0, hi0, hz0, hz1, hz2⟩ := info_parts hi
  have hb : i0.bytes * n ≤ 281474976710656 := by
    rw [hz2]
    have : bytes * n ≤ 100 * n := Nat.mul_le_mul_right n hby
    omega
  refine wpList_make_full w hg l c t hop w.heap.size E i0 z size ht hi0 hz0 hz1 kl kc L C n hl hc hL hC hb (by unfold maxLen; omega) (Nat.le_refl _) fun w' hown hgr => hK w' ⟨(World.ownsRow.lt hown _ rfl).2, fun i hi => ?_, fun i => World.ownsRow.frozenAt hown i⟩ ((Below.refl _ _).grown hgr (Nat.le_refl _) (fun k hk => by cases hk))
  have hlen := hown.1
  have := World.ownsRow.cells hown rfl i _ (List.getElem?_eq_getElem (by omega))
  have e1 : (⟨w.heap.size, 0, none⟩ : Addr).add i = ⟨w.heap.size, i, none⟩ := by unfold Addr.add; split <;> simp_all
  rw [e1] at this
  rw [this]
  rfl
end Go.Proofs.Ytpigjhagdpeofaa

namespace Go.Proofs.Ytpigjhagdpeofaa
open Go.RowKit
set_option linter.unusedVariables false
/-- A block is a row of just m cells. -/
def Full (w : World) (g m : Nat) : Prop := ∃ cs e fz, w.heap[g]? = some (.cells cs e fz) ∧ cs.size = m
theorem Full.below {w w' : World} {g m B : Nat} (h : Full w g m) (hb : Below B w w') (hg : g < B) : Full w' g m := by
  obtain ⟨cs, e, fz, h1, h2⟩ := h
  exact ⟨cs, e, fz, by rw [hb.block g hg, h1], h2⟩
theorem Full.lt {w : World} {g m : Nat} (h : Full w g m) : g < w.heap.size := by
  obtain ⟨cs, e, fz, h1, h2⟩ := h
  exact (Array.getElem?_eq_some_iff.1 h1).1
theorem Full.set {w : World} {g m : Nat} (h : Full w g m) (b i : Nat) (v : Value) : Full (w.setCell ⟨b, i, none⟩ v) g m := by
  obtain ⟨cs, e, fz, h1, h2⟩ := h
  by_cases hb : b = g
  · subst hb
    refine ⟨cs.setIfInBounds i v, e, fz, ?_, by rw [Array.size_setIfInBounds]; exact h2⟩
    simp only [World.setCell, Array.getElem?_modify, if_true, h1]
    rfl
  · refine ⟨cs, e, fz, ?_, h2⟩
    simp only [World.setCell, Array.getElem?_modify]
    rw [if_neg hb]
    exact h1
theorem full_owns {w : World} {B g n size : Nat} {E : TypeId} {xs : List Value} (h : w.ownsRow B E size (.slice (some ⟨g, 0, none⟩) n n) n xs) : Full w g (n * size) := by
  obtain ⟨_, h2⟩ := h
  rcases h2 with ⟨h2, _⟩ | ⟨g', cap, cur, hv, _, hg, _, _, hs, _⟩
  · cases h2
  · cases hv
    exact ⟨cur, E, _, hg, hs⟩
def RowF (k : Nat) (w : World) (B : Nat) (v : Value) (X : Rec) : Prop := RowR k w B v X ∧ ∀ g, v.ownBlock = some g → Full w g (X.length * k)
theorem RowF.below {k : Nat} {w w' : World} {B : Nat} {v : Value} {X : Rec} (h : RowF k w B v X) (hb : Below w.heap.size w w') : RowF k w' B v X :=
  ⟨h.1.below hb, fun g hg => (h.2 g hg).below hb (h.1.lt g hg).2⟩
theorem wpList_mkF {P : Program} (w : World) {ops : Array Oper} {rest : List Oper} {o : Oper} {a : Act} {Q : Exit → Act → World → Prop}
    (hg : o.guard = none) (l c : Operand) (t : TypeId) (hop : o.op = Op.makeSlice t l c)
    (E : TypeId) (z : Value) (size bytes : Nat) (hi : (P.info? E).map (fun i => (i.zero, i.size, i.bytes)) = some (some z, size, bytes)) (hby : bytes ≤ 100) (ht : P.underlying t = some (.slice E))
    (kl kc : IntKind) (L C : Int) (n : Nat) (hl : a.eval l = .int kl L) (hc : a.eval c = .int kc C) (hL : L = (n : Int)) (hC : C = (n : Int)) (hn : n < 1000000000)
    (hK : ∀ w', There w' w.heap.size (n * size) → Full w' w.heap.size (n * size) → Below w.heap.size w w' → wpList P ops Q rest (a.put o.dst (.slice (some ⟨w.heap.size, 0, none⟩) n n)) w') :
    wpList P ops Q (o :: rest) a w := by
  obtain ⟨i0, hi0, hz0, hz1, hz2⟩ := info_parts hi
  have hb : i0.bytes * n ≤ 281474976710656 := by
    rw [hz2]
    have : bytes * n ≤ 100 * n := Nat.mul_le_mul_right n hby
    omega
  refine wpList_make_full w hg l c t hop w.heap.size E i0 z size ht hi0 hz0 hz1 kl kc L C n hl hc hL hC hb (by unfold maxLen; omega) (Nat.le_refl _) fun w' hown hgr => hK w' ⟨(World.ownsRow.lt hown _ rfl).2, fun i hi => ?_, fun i => World.ownsRow.frozenAt hown i⟩ (full_owns hown) ((Below.refl _ _).grown hgr (Nat.le_refl _) (fun k hk => by cases hk))
  have hlen := hown.1
  have := World.ownsRow.cells hown rfl i _ (List.getElem?_eq_getElem (by omega))
  have e1 : (⟨w.heap.size, 0, none⟩ : Addr).add i = ⟨w.heap.size, i, none⟩ := by unfold Addr.add; split <;> simp_all
  rw [e1] at this
  rw [this]
  rfl
theorem toEntry_anyF (a b c d : Int) (w : World) :
    Calls Sq.prog 29 #[.agg #[.int .i64 a, .int .i64 b, .int .i64 c, .int .i64 d]] w fun e w' => e = .returned (.agg #[.int .i64 a, .int .i64 b, .int .i64 c, .int .i64 d]) ∧ Below w.heap.size w w' := by
  go_enter Sq.func29, Sq.ntmps29
  go_wp2
  go_returns
  exact ⟨rfl, by go_grown⟩

set_option maxRecDepth 8000 in
set_option maxHeartbeats 400000 in
theorem toEntryS_coreF (n cap g off : Nat) (f : Nat → Int) (w : World) (hn : n < 1000000000) (hI : RowC w g off n 4 f) :
    Calls Sq.prog 8 #[.slice (some ⟨g, off, none⟩) n cap] w fun e w' => ∃ v, e = .returned v ∧ RowF 4 w' w.heap.size v ⟨n, f⟩ ∧ Below w.heap.size w w' := by
  go_enter Sq.func8, Sq.ntmps8
  go_wp2_with (first | (at_make; refine wpList_mkF _ rfl _ _ 27 rfl 52 (.agg #[.int .i64 0, .int .i64 0, .int .i64 0, .int .i64 0]) 4 32 (by kernel_rfl) (by decide) Sq.underlying27 _ _ _ _ n rfl rfl rfl rfl hn ?_; intro w1 hth hfu hb))
  go_loopw [4] (fun i wr => ∃ k : Nat, k ≤ n ∧ i = .int .i64 k ∧ There wr w.heap.size (n * 4) ∧ CellsTo wr w.heap.size (k * 4) f ∧ Full wr w.heap.size (n * 4) ∧ Below w.heap.size w wr) (fun i _ => n - (intOf i).toNat)
  case atStart => exact ⟨0, Nat.zero_le _, rfl, hth, fun i hi => absurd hi (by omega), hfu, hb⟩
  case round =>
    obtain ⟨k, hk, rfl, ht, hr, hf0, hbr⟩ := hrel
    by_cases hlt : k < n
    · have hc0 := Below.cellOf hbr rfl (hI k hlt 0 (by decide))
      have hc1 := Below.cellOf hbr rfl (hI k hlt 1 (by decide))
      have hc2 := Below.cellOf hbr rfl (hI k hlt 2 (by decide))
      have hc3 := Below.cellOf hbr rfl (hI k hlt 3 (by decide))
      rw [Nat.add_zero] at hc0
      go_wp2_with (first | (go_at_call 29; refine (toEntry_anyF _ _ _ _ _).mono ?_; rintro e w2 ⟨rfl, hb2⟩; have ht2 := ht.below hb2; have hr2 := hr.below hb2; have hf2 := hf0.below hb2 hf0.lt; obtain ⟨x0, y0⟩ := ht2.at (k * 4) (by omega); obtain ⟨x1, y1⟩ := ht2.at (k * 4 + 1) (by omega); obtain ⟨x2, y2⟩ := ht2.at (k * 4 + 2) (by omega); obtain ⟨x3, y3⟩ := ht2.at (k * 4 + 3) (by omega); have z0 := ht2.2.2 (k * 4); have z1 := ht2.2.2 (k * 4 + 1); have z2 := ht2.2.2 (k * 4 + 2); have z3 := ht2.2.2 (k * 4 + 3); clear ht))
      go_roundw
      have s0 : CellsTo (w2.setCell ⟨w.heap.size, k * 4, none⟩ (.int .i64 (f (k * 4)))) w.heap.size (k * 4 + 1) f := hr2.set ht2 (by omega)
      have t0 := ht2.set (k * 4) (.int .i64 (f (k * 4)))
      have s1 := s0.set (v := k * 4 + 1) t0 (by omega)
      have t1 := t0.set (k * 4 + 1) (.int .i64 (f (k * 4 + 1)))
      have s2 := s1.set (v := k * 4 + 2) t1 (by omega)
      have t2 := t1.set (k * 4 + 2) (.int .i64 (f (k * 4 + 2)))
      have s3 := s2.set (v := k * 4 + 3) t2 (by omega)
      have t3 := t2.set (k * 4 + 3) (.int .i64 (f (k * 4 + 3)))
      case rel => exact ⟨k + 1, by omega, by go_num, t3, by rw [show (k + 1) * 4 = k * 4 + 4 by omega]; exact s3, (((hf2.set _ _ _).set _ _ _).set _ _ _).set _ _ _, (((((hbr.trans (hb2.mono hbr.size)).setCell (Nat.le_refl _) _).setCell (Nat.le_refl _) _).setCell (Nat.le_refl _) _).setCell (Nat.le_refl _) _)⟩
      case measure => simp [intOf]; omega
    · obtain rfl : k = n := by omega
      go_wp2
      go_ret
      exact ⟨_, rfl, ⟨⟨w.heap.size, rfl, Nat.le_refl _, ht.1, hn, hr.row, ht.2.2⟩, fun g hg => by cases hg; exact hf0⟩, hbr⟩

theorem toEntryS_noneF (a : Option Addr) (cap : Nat) (f : Nat → Int) (w : World) :
    Calls Sq.prog 8 #[.slice a 0 cap] w fun e w' => ∃ v, e = .returned v ∧ RowF 4 w' w.heap.size v ⟨0, f⟩ ∧ Below w.heap.size w w' := by
  go_enter Sq.func8, Sq.ntmps8
  go_wp2_with (first | (at_make; refine wpList_mkF _ rfl _ _ 27 rfl 52 (.agg #[.int .i64 0, .int .i64 0, .int .i64 0, .int .i64 0]) 4 32 (by kernel_rfl) (by decide) Sq.underlying27 _ _ _ _ 0 rfl rfl rfl rfl (by decide) ?_; intro w1 hth hfu hb))
  go_rounds 1
  go_ret
  exact ⟨_, rfl, ⟨⟨w.heap.size, rfl, Nat.le_refl _, hth.1, by show (0 : Nat) < 1000000000; decide, fun i hi => absurd hi (Nat.not_lt_zero _), hth.2.2⟩, fun g hg => by cases hg; exact hfu⟩, hb⟩

theorem to_eF {w : World} {v : Value} {X : Rec} (h : InR 4 w v X) (hn : X.length < 1000000000) :
    Calls Sq.prog 8 #[v] w (fun e w' => ∃ v, e = .returned v ∧ RowF 4 w' w.heap.size v X ∧ Below w.heap.size w w') := by
  obtain ⟨a, cap, rfl, _, ha⟩ := h
  obtain ⟨n, f⟩ := X
  by_cases h0 : n = 0
  · subst h0; exact toEntryS_noneF a cap f w
  · obtain ⟨g, off, rfl, hI⟩ := ha h0
    exact toEntryS_coreF n cap g off f w hn hI
end Go.Proofs.Ytpigjhagdpeofaa

namespace Go.Proofs.Ytpigjhagdpeofaa.Sim
open Go Go.Conc
set_option linter.unusedVariables false
section
variable {X : Ctx} {r : Ren} {wl wc : World} {ok : FuncId → Bool}
theorem VRel.slice_inv {b l k : Nat} {v : Value} (h : VRel ok r (.slice (some ⟨b, 0, none⟩) l k) v) : ∃ c s, r b = some (c, s) ∧ v = .slice (some ⟨c, s, none⟩) l k := by
  cases h with
  | flat h => cases h
  | slice h => exact ⟨_, _, h, rfl⟩
theorem VRel.ptr_inv {b : Nat} {v : Value} (h : VRel ok r (.pointer (some ⟨b, 0, none⟩)) v) : ∃ c s, r b = some (c, s) ∧ v = .pointer (some ⟨c, s, none⟩) := by
  cases h with
  | flat h => cases h
  | ptr h => exact ⟨_, _, h, rfl⟩
theorem VRel.fun_inv {f : FuncId} {cs : Array Value} {v : Value} (h : VRel ok r (.func (.func f) #[] cs) v) : ∃ ds, ARel ok r cs ds ∧ v = .func (.func f) #[] ds := by
  cases h with
  | flat h => cases h
  | @func f fs gs cs ds hf h1 h2 h3 h4 =>
    obtain rfl : gs = #[] := Array.eq_empty_of_size_eq_zero h1.symm
    exact ⟨ds, ⟨h3, h4⟩, rfl⟩
theorem ARel.one {x : Value} {ds : Array Value} (h : ARel ok r #[x] ds) : ∃ y, ds = #[y] ∧ VRel ok r x y := by
  obtain ⟨l⟩ := ds
  match l, h.1 with
  | [y], _ => exact ⟨y, rfl, h.2 0 x y rfl rfl⟩
theorem ARel.two {x x2 : Value} {ds : Array Value} (h : ARel ok r #[x, x2] ds) : ∃ y y2, ds = #[y, y2] ∧ VRel ok r x y ∧ VRel ok r x2 y2 := by
  obtain ⟨l⟩ := ds
  match l, h.1 with
  | [y, y2], _ => exact ⟨y, y2, rfl, h.2 0 x y rfl rfl, h.2 1 x2 y2 rfl rfl⟩
theorem WRel.ownCell (hw : WRel X r wl wc) {b c : Nat} (h : r b = some (c, 0)) {i : Nat} {v : Value} (hv : wl.cell? ⟨b, i, none⟩ = some v) : NP v ∧ ∃ y, wc.cell? ⟨c, i, none⟩ = some y ∧ VRel X.ok r v y := by
  obtain ⟨cs, e, fz, h1, h2⟩ := (hw.obj b c 0 h).ex
  simp only [World.cell?, h1, Option.isSome_none, Bool.false_eq_true, if_false] at hv
  obtain ⟨np, cs', e', fz', h3, _, y, hy, hr⟩ := h2 i v hv
  refine ⟨np, y, ?_, hr⟩
  rw [Nat.zero_add] at hy
  simp only [World.cell?, h3, Option.isSome_none, Bool.false_eq_true, if_false]
  exact hy
theorem WRel.ownInt (hw : WRel X r wl wc) {b c : Nat} (h : r b = some (c, 0)) {i : Nat} {k : IntKind} {n : Int} (hv : wl.cell? ⟨b, i, none⟩ = some (.int k n)) : wc.cell? ⟨c, i, none⟩ = some (.int k n) := by
  obtain ⟨_, y, hy, hr⟩ := hw.ownCell h hv
  rw [hr.int_inv] at hy
  exact hy
/-- What Sq.Read asks of a row of which so many cells are known. -/
theorem read_row {w1 : World} {c m : Nat} {l : List Nat} {D : Nat → Prop} {g : Nat → Value} (hc : c < w1.heap.size) (h : ∀ i, i < m → w1.cell? ⟨c, i, none⟩ = some (g i)) (hg : ∀ i, i < m → NP (g i) ∧ VRel (Sq.mem l) (Sq.ren D) (g i) (g i)) :
    ∃ o, w1.heap[c]? = some o ∧ (m = 0 ∨ ∃ cs e fz, o = .cells cs e fz ∧ ∀ (i : Nat) x, i < m → cs[i]? = some x → NP x ∧ VRel (Sq.mem l) (Sq.ren D) x x) := by
  refine ⟨_, Array.getElem?_eq_getElem hc, ?_⟩
  by_cases h0 : m = 0
  · exact .inl h0
  refine .inr ?_
  have h1 := h 0 (by omega)
  unfold World.cell? at h1
  rw [show ((⟨c, 0, none⟩ : Addr).block) = c from rfl, Array.getElem?_eq_getElem hc] at h1
  generalize he : w1.heap[c] = o at h1
  cases o with
  | cells cs e fz =>
    refine ⟨cs, e, fz, rfl, fun i x hi hx => ?_⟩
    have h2 := h i hi
    simp only [World.cell?, Array.getElem?_eq_getElem hc, he, Option.isSome_none, Bool.false_eq_true, if_false] at h2
    rw [h2] at hx
    cases hx
    exact hg i hi
  | _ => cases h1
/-- The told call's memory, but for the letter box. -/
theorem panW_cell {va vb vc : Value} {U : Nat → Question → Nat} {K b i : Nat} (hb : b < wl.heap.size) (h2 : b ≠ 2) : (Sq.panW va vb vc (tp wl U K)).cell? ⟨b, i, none⟩ = wl.cell? ⟨b, i, none⟩ := by
  unfold World.cell?
  rw [show (Sq.panW va vb vc (tp wl U K)).heap[b]? = wl.heap[b]? from Sq.panW_old (w := tp wl U K) hb h2]
end
end Go.Proofs.Ytpigjhagdpeofaa.Sim
