/-
  Values and worlds that are alike up to a renaming of blocks; what one operation does in both. No condition.
  Two worlds alike up to a renaming of blocks; an entry of the model run in both. No condition.
  Two worlds alike up to a renaming of blocks: a load, a store, a new row, a draw. No condition.
  Two worlds alike up to a renaming of blocks: new rows, draws, whole variables. No condition.
  Two worlds alike up to a renaming of blocks: the operations, one by one. No condition.
  Two worlds alike up to a renaming of blocks: the operations, on. No condition.
-/
import Derived.Conc.Events
import Derived.Conc.Own
import Derived.Laws.World
import Derived.Laws.Small

namespace Go.Proofs.Ytpigjhagdpeofaa.Sim
open Go
set_option linter.unusedVariables false

/-- A renaming: of a lone block, the block in company and the shift of its places. -/
abbrev Ren := Nat → Option (Nat × Nat)
def Ren.Le (r s : Ren) : Prop := ∀ b x, r b = some x → s b = some x
theorem Ren.Le.refl (r : Ren) : r.Le r := fun _ _ h => h
theorem Ren.Le.trans {r s t : Ren} (h : r.Le s) (k : s.Le t) : r.Le t := fun b x e => k b x (h b x e)

def flat : Value → Bool
  | .bool _ | .int _ _ | .float _ _ | .complex _ _ _ | .string _ | .nilFunc | .nilIface | .pointer none | .slice none _ _ => true
  | _ => false

inductive VRel (ok : FuncId → Bool) (r : Ren) : Value → Value → Prop
  | flat {v : Value} (h : flat v = true) : VRel ok r v v
  | ptr {a : Addr} {c s : Nat} (h : r a.block = some (c, s)) : VRel ok r (.pointer (some a)) (.pointer (some ⟨c, s + a.off, a.spot⟩))
  | slice {a : Addr} {c s l k : Nat} (h : r a.block = some (c, s)) : VRel ok r (.slice (some a) l k) (.slice (some ⟨c, s + a.off, a.spot⟩) l k)
  | func {f : FuncId} {fs gs cs ds : Array Value} (hf : ok f = true) (h1 : fs.size = gs.size) (h2 : ∀ (i : Nat) x y, fs[i]? = some x → gs[i]? = some y → VRel ok r x y)
      (h3 : cs.size = ds.size) (h4 : ∀ (i : Nat) x y, cs[i]? = some x → ds[i]? = some y → VRel ok r x y) : VRel ok r (.func (.func f) fs cs) (.func (.func f) gs ds)
  | agg {cs ds : Array Value} (h1 : cs.size = ds.size) (h2 : ∀ (i : Nat) x y, cs[i]? = some x → ds[i]? = some y → VRel ok r x y) : VRel ok r (.agg cs) (.agg ds)
  | tuple {cs ds : Array Value} (h1 : cs.size = ds.size) (h2 : ∀ (i : Nat) x y, cs[i]? = some x → ds[i]? = some y → VRel ok r x y) : VRel ok r (.tuple cs) (.tuple ds)

/-- Rows of values. -/
def ARel (ok : FuncId → Bool) (r : Ren) (cs ds : Array Value) : Prop := cs.size = ds.size ∧ ∀ (i : Nat) x y, cs[i]? = some x → ds[i]? = some y → VRel ok r x y

section
variable {ok : FuncId → Bool} {r s : Ren}
theorem VRel.mono (hl : r.Le s) {v w : Value} (h : VRel ok r v w) : VRel ok s v w := by
  induction h with
  | flat h => exact .flat h
  | ptr h => exact .ptr (hl _ _ h)
  | slice h => exact .slice (hl _ _ h)
  | func hf h1 _ h3 _ i2 i4 => exact .func hf h1 i2 h3 i4
  | agg h1 _ i2 => exact .agg h1 i2
  | tuple h1 _ i2 => exact .tuple h1 i2
theorem ARel.mono (hl : r.Le s) {v w : Array Value} (h : ARel ok r v w) : ARel ok s v w := ⟨h.1, fun i x y a b => (h.2 i x y a b).mono hl⟩
theorem VRel.int (k : IntKind) (n : Int) : VRel ok r (.int k n) (.int k n) := .flat rfl
theorem VRel.bool (b : Bool) : VRel ok r (.bool b) (.bool b) := .flat rfl
theorem ARel.nil : ARel ok r #[] #[] := ⟨rfl, fun i x y h => by simp at h⟩
theorem ARel.get {cs ds : Array Value} (h : ARel ok r cs ds) {i : Nat} {x : Value} (hx : cs[i]? = some x) : ∃ y, ds[i]? = some y ∧ VRel ok r x y := by
  obtain ⟨hlt, rfl⟩ := Array.getElem?_eq_some_iff.1 hx
  have hlt' : i < ds.size := h.1 ▸ hlt
  exact ⟨ds[i], Array.getElem?_eq_getElem hlt', h.2 i _ _ hx (Array.getElem?_eq_getElem hlt')⟩
theorem ARel.getD {cs ds : Array Value} (h : ARel ok r cs ds) (i : Nat) {x y : Value} (hd : VRel ok r x y) : VRel ok r (cs.getD i x) (ds.getD i y) := by
  by_cases hlt : i < cs.size
  · have hlt' : i < ds.size := h.1 ▸ hlt
    have := h.2 i cs[i] ds[i] (Array.getElem?_eq_getElem hlt) (Array.getElem?_eq_getElem hlt')
    simpa [Array.getD, hlt, hlt'] using this
  · have hlt' : ¬ i < ds.size := h.1 ▸ hlt
    simpa [Array.getD, hlt, hlt'] using hd
theorem ARel.push {cs ds : Array Value} (h : ARel ok r cs ds) {x y : Value} (hx : VRel ok r x y) : ARel ok r (cs.push x) (ds.push y) := by
  refine ⟨by simp [h.1], fun i u v hu hv => ?_⟩
  rw [Array.getElem?_push] at hu hv
  rw [← h.1] at hv
  split at hu
  · rename_i e
    rw [if_pos e] at hv
    cases hu; cases hv; exact hx
  · rename_i e
    rw [if_neg e] at hv
    exact h.2 i u v hu hv
theorem ARel.append {cs ds cs' ds' : Array Value} (h : ARel ok r cs ds) (h' : ARel ok r cs' ds') : ARel ok r (cs ++ cs') (ds ++ ds') := by
  refine ⟨by simp [h.1, h'.1], fun i u v hu hv => ?_⟩
  rw [Array.getElem?_append] at hu hv
  rw [← h.1] at hv
  split at hu
  · rename_i e
    rw [if_pos e] at hv
    exact h.2 i u v hu hv
  · rename_i e
    rw [if_neg e] at hv
    exact h'.2 _ u v hu hv
theorem ARel.set {cs ds : Array Value} (h : ARel ok r cs ds) {x y : Value} (hx : VRel ok r x y) (i : Nat) : ARel ok r (cs.setIfInBounds i x) (ds.setIfInBounds i y) := by
  refine ⟨by simp [h.1], fun j u v hu hv => ?_⟩
  rw [Array.getElem?_setIfInBounds] at hu hv
  rw [← h.1] at hv
  split at hu
  · rename_i e
    rw [if_pos e] at hv
    split at hu
    · rename_i e2
      rw [if_pos e2] at hv
      cases hu; cases hv; exact hx
    · cases hu
  · rename_i e
    rw [if_neg e] at hv
    exact h.2 j u v hu hv
theorem ARel.replicate (n : Nat) {x y : Value} (hx : VRel ok r x y) : ARel ok r (Array.replicate n x) (Array.replicate n y) := by
  refine ⟨by simp, fun j u v hu hv => ?_⟩
  rw [Array.getElem?_replicate] at hu hv
  split at hu
  · rename_i e
    rw [if_pos e] at hv
    cases hu; cases hv; exact hx
  · cases hu
theorem ARel.map {α : Type} {f g : α → Value} (h : ∀ a, VRel ok r (f a) (g a)) (xs : Array α) : ARel ok r (xs.map f) (xs.map g) := by
  refine ⟨by simp, fun j u v hu hv => ?_⟩
  rw [Array.getElem?_map] at hu hv
  cases hx : xs[j]? with
  | none => rw [hx] at hu; cases hu
  | some a =>
    rw [hx] at hu hv
    simp only [Option.map_some, Option.some.injEq] at hu hv
    subst hu; subst hv
    exact h a
theorem ARel.extract {cs ds : Array Value} (h : ARel ok r cs ds) (a b : Nat) : ARel ok r (cs.extract a b) (ds.extract a b) := by
  refine ⟨by simp [h.1], fun j u v hu hv => ?_⟩
  rw [Array.getElem?_extract] at hu hv
  rw [← h.1] at hv
  split at hu
  · rename_i e
    rw [if_pos e] at hv
    exact h.2 _ u v hu hv
  · cases hu
theorem VRel.cells {v w : Value} (h : VRel ok r v w) : ARel ok r v.cells w.cells := by
  cases h with
  | agg h1 h2 => exact ⟨h1, h2⟩
  | flat h =>
    have e : v.cells = #[v] := by cases v <;> first | rfl | cases h
    rw [e]
    exact ARel.nil.push (.flat h)
  | ptr h => exact ARel.nil.push (.ptr h)
  | slice h => exact ARel.nil.push (.slice h)
  | func hf h1 h2 h3 h4 => exact ARel.nil.push (.func hf h1 h2 h3 h4)
  | tuple h1 h2 => exact ARel.nil.push (.tuple h1 h2)
theorem VRel.undef : VRel ok r undef undef := .tuple rfl (fun i x y h => by simp at h)
end
end Go.Proofs.Ytpigjhagdpeofaa.Sim

namespace Go.Proofs.Ytpigjhagdpeofaa.Sim
open Go
set_option linter.unusedVariables false

/-- No pointer, no function: what may lie in memory. -/
inductive NP : Value → Prop
  | bool (b : Bool) : NP (.bool b)
  | int (k : IntKind) (n : Int) : NP (.int k n)
  | slice (a : Option Addr) (l k : Nat) : NP (.slice a l k)
  | agg {cs : Array Value} (h : ∀ (i : Nat) x, cs[i]? = some x → NP x) : NP (.agg cs)
  | tuple {cs : Array Value} (h : ∀ (i : Nat) x, cs[i]? = some x → NP x) : NP (.tuple cs)

/-- What stands fixed: the program in company, the lone program's functions (its tables are the same), the first blocks of the lone world (never written by what is let by) and their places in company, which functions may be called. -/
structure Ctx where
  P : Program
  F : Array Func
  h0 : Array Obj
  r0 : Ren
  ok : FuncId → Bool
  /-- What a slot may hold: 0: whatever; 1: no pointer, no function; k + 2: a function of k parameters. -/
  cl : FuncId → Nat → Nat
  prm : FuncId → Nat
def Ctx.n0 (X : Ctx) : Nat := X.h0.size
def Ctx.Q (X : Ctx) : Program := { toTables := X.P.toTables, funcs := X.F }

variable {X : Ctx}

structure ORel (X : Ctx) (r : Ren) (b s : Nat) (o o' : Option Obj) : Prop where
  ex : ∃ cs e fz, o = some (.cells cs e fz) ∧ ∀ (i : Nat) x, cs[i]? = some x → NP x ∧
    ∃ cs' e' fz', o' = some (.cells cs' e' fz') ∧ (X.n0 ≤ b → fz' = (0, 0)) ∧ ∃ y, cs'[s + i]? = some y ∧ VRel X.ok r x y

structure WRel (X : Ctx) (r : Ren) (wl wc : World) : Prop where
  dom : ∀ b x, r b = some x → b < wl.heap.size ∧ x.1 < wc.heap.size
  inj : ∀ b b' c s s', X.n0 ≤ b → r b = some (c, s) → r b' = some (c, s') → b' = b
  sh : ∀ b c s, X.n0 ≤ b → r b = some (c, s) → s = 0
  obj : ∀ b c s, r b = some (c, s) → ORel X r b s wl.heap[b]? wc.heap[c]?
  fz : ∀ b x, b < X.n0 → r b = some x → ∀ (i : Nat) v, wl.cell? ⟨b, i, none⟩ = some v → wl.frozen? ⟨b, i, none⟩ = true
  old : ∀ b, b < X.n0 → wl.heap[b]? = X.h0[b]?
  oldr : ∀ b, b < X.n0 → r b = X.r0 b
  low : X.n0 ≤ wl.heap.size

/-- The company's world behind a stretch of one's own. -/
structure Gu (X : Ctx) (r : Ren) (w w' : World) : Prop where
  tape : w'.tape = w.tape
  os : w'.os = w.os
  output : w'.output = w.output
  drawn : w.drawn ≤ w'.drawn
  size : w.heap.size ≤ w'.heap.size
  keep : ∀ c, c < w.heap.size → (∀ b, X.n0 ≤ b → r b ≠ some (c, 0)) → w'.heap[c]? = w.heap[c]?
  fresh : ∀ c, w.heap.size ≤ c → c < w'.heap.size → ∃ b, X.n0 ≤ b ∧ r b = some (c, 0)
theorem Gu.refl (r : Ren) (w : World) : Gu X r w w := ⟨rfl, rfl, rfl, Nat.le_refl _, Nat.le_refl _, fun _ _ _ => rfl, fun c h h' => by omega⟩
theorem Gu.trans {r s : Ren} (hl : r.Le s) {a b c : World} (h : Gu X r a b) (k : Gu X s b c) : Gu X s a c := by
  refine ⟨k.tape.trans h.tape, k.os.trans h.os, k.output.trans h.output, Nat.le_trans h.drawn k.drawn, Nat.le_trans h.size k.size, fun d hd hn => ?_, fun d h1 h2 => ?_⟩
  · rw [k.keep d (Nat.lt_of_lt_of_le hd h.size) hn, h.keep d hd fun b hb e => hn b hb (hl _ _ e)]
  · by_cases hd : d < b.heap.size
    · obtain ⟨x, hx, e⟩ := h.fresh d h1 hd
      exact ⟨x, hx, hl _ _ e⟩
    · exact k.fresh d (by omega) h2

/-- What an own step may list. -/
def Ev (X : Ctx) (r : Ren) (e : Event) : Prop :=
  e = ⟨.mark .noRoom, false, true⟩ ∨ ∃ (a : Addr) (wr : Bool) (b s : Nat), e = ⟨.cell a, wr, false⟩ ∧ r b = some (a.block, s) ∧ (wr = true → X.n0 ≤ b)
theorem Ev.mono {r s : Ren} (hl : r.Le s) {e : Event} (h : Ev X r e) : Ev X s e := by
  rcases h with h | ⟨a, wr, b, k, h1, h2, h3⟩
  · exact .inl h
  · exact .inr ⟨a, wr, b, k, h1, hl _ _ h2, h3⟩

/-- What is newly named is newly made. -/
def New (r s : Ren) (w : World) : Prop := ∀ b x, s b = some x → r b = some x ∨ w.heap.size ≤ x.1
theorem New.refl {r : Ren} {w : World} : New r r w := fun _ _ h => .inl h
/-- The world with another tape. -/
def tp (w : World) (T : Nat → Question → Nat) (K : Nat) : World := { w with tape := T, drawn := K }
/-- The lone run hangs on the answers that it takes, and on no other. -/
structure Rt (p : Program) {α : Type} (e : Sem α) (a : α) (w w' : World) : Prop where
  tape : w'.tape = w.tape
  drawn : w.drawn ≤ w'.drawn
  run : ∀ T K, (∀ j q, j < w'.drawn - w.drawn → T (K + j) q = w.tape (w.drawn + j) q) → e.run p (tp w T K) = .ok a (tp w' T (K + (w'.drawn - w.drawn)))
theorem Rt.same {p : Program} {α : Type} {e : Sem α} {a : α} {w : World} (h : ∀ w, e.run p w = .ok a w) : Rt p e a w w :=
  ⟨rfl, Nat.le_refl _, fun T K _ => by rw [h, Nat.sub_self, Nat.add_zero]⟩
theorem Rt.still {p : Program} {α : Type} {e : Sem α} {a : α} {w w' : World} (h1 : w'.tape = w.tape) (h2 : w'.drawn = w.drawn) (h : ∀ T K, e.run p (tp w T K) = .ok a (tp w' T K)) : Rt p e a w w' :=
  ⟨h1, Nat.le_of_eq h2.symm, fun T K _ => by rw [h, h2, Nat.sub_self, Nat.add_zero]⟩
theorem Rt.bind {p : Program} {α β : Type} {e : Sem α} {f : α → Sem β} {a : α} {b : β} {w w1 w2 : World} (h : Rt p e a w w1) (k : Rt p (f a) b w1 w2) : Rt p (e >>= f) b w w2 := by
  have h1 := h.drawn
  have h2 := k.drawn
  refine ⟨k.tape.trans h.tape, Nat.le_trans h1 h2, fun T K ha => ?_⟩
  rw [Sem.run_bind, h.run T K (fun j q hj => ha j q (by omega)), Result.andThen_ok, k.run T _ (fun j q hj => ?_)]
  · rw [Nat.add_assoc, show w1.drawn - w.drawn + (w2.drawn - w1.drawn) = w2.drawn - w.drawn by omega]
  · have := ha (w1.drawn - w.drawn + j) q (by omega)
    rw [Nat.add_assoc, this, h.tape]
    congr 1
    omega
structure After (X : Ctx) {α β : Type} (A : Ren → α → β → Prop) (r : Ren) (wl wc wl' : World) (a : α) (e : Sem α) (t : Sem β) (s : Ren) (b : β) (wc' : World) : Prop where
  le : r.Le s
  run : t.run X.P wc = .ok b wc'
  rel : WRel X s wl' wc'
  tape : wl'.tape = wc'.tape
  drawn : wl'.drawn = wc'.drawn
  val : A s a b
  gu : Gu X s wc wc'
  new : New r s wc
  evs : ∀ e ∈ t.events X.P wc #[], Ev X s e
  rt : Rt X.Q e a wl wl'
  rtc : Rt X.P t b wc wc'

/-- The entry s, run alone, and t, run in company: if s comes to a value so does t, and all is alike behind them. -/
def SR (X : Ctx) {α β : Type} (A : Ren → α → β → Prop) (r : Ren) (s : Sem α) (t : Sem β) : Prop :=
  ∀ r1, r.Le r1 → ∀ wl wc, WRel X r1 wl wc → wl.tape = wc.tape → wl.drawn = wc.drawn → ∀ a wl', s.run X.Q wl = .ok a wl' →
    ∃ s2 b wc', After X A r1 wl wc wl' a s t s2 b wc'

section
variable {α β γ δ : Type} {A : Ren → α → β → Prop} {B : Ren → γ → δ → Prop} {r : Ren}
theorem SR.mono {r' : Ren} (hl : r.Le r') {s : Sem α} {t : Sem β} (h : SR X A r s t) : SR X A r' s t := fun r1 h1 => h r1 (hl.trans h1)
theorem SR.weaken {A' : Ren → α → β → Prop} {s : Sem α} {t : Sem β} (h : SR X A r s t) (k : ∀ r', r.Le r' → ∀ a b, A r' a b → A' r' a b) : SR X A' r s t := by
  intro r1 h1 wl wc hw ht hd a wl' hr
  obtain ⟨s2, b, wc', q⟩ := h r1 h1 wl wc hw ht hd a wl' hr
  exact ⟨s2, b, wc', q.le, q.run, q.rel, q.tape, q.drawn, k _ (h1.trans q.le) _ _ q.val, q.gu, q.new, q.evs, q.rt, q.rtc⟩
theorem SR.pure {a : α} {b : β} (h : ∀ r', r.Le r' → A r' a b) : SR X A r (Pure.pure a) (Pure.pure b) := by
  intro r1 h1 wl wc hw ht hd x wl' hr
  simp only [Sem.run_pure, Result.ok.injEq] at hr
  obtain ⟨rfl, rfl⟩ := hr
  exact ⟨r1, b, wc, Ren.Le.refl _, rfl, hw, ht, hd, h _ h1, Gu.refl _ _, New.refl, fun e he => (by simp at he), Rt.same fun _ => rfl, Rt.same fun _ => rfl⟩
theorem SR.halt {h : Halt} {t : Sem β} : SR X A r (Sem.halt h) t := fun r1 h1 wl wc hw ht hd a wl' hr => by simp at hr
theorem SR.stuck {y : String} {t : Sem β} : SR X A r (stuck y) t := SR.halt
theorem SR.unsupported {y : Unsupported} {t : Sem β} : SR X A r (unsupported y) t := SR.halt
theorem SR.bind {s : Sem α} {t : Sem β} {f : α → Sem γ} {g : β → Sem δ} (h : SR X A r s t) (k : ∀ r', r.Le r' → ∀ a b, A r' a b → SR X B r' (f a) (g b)) : SR X B r (s >>= f) (t >>= g) := by
  intro r1 h1 wl wc hw ht hd c wl' hr
  rw [Sem.run_bind] at hr
  cases hs : s.run X.Q wl with
  | halt y w => rw [hs] at hr; simp at hr
  | ok a w1 =>
    rw [hs, Result.andThen_ok] at hr
    obtain ⟨s2, b, wc1, q⟩ := h r1 h1 wl wc hw ht hd a w1 hs
    obtain ⟨s3, d, wc2, q2⟩ := k s2 (h1.trans q.le) a b q.val s2 (Ren.Le.refl _) w1 wc1 q.rel q.tape q.drawn c wl' hr
    refine ⟨s3, d, wc2, q.le.trans q2.le, ?_, q2.rel, q2.tape, q2.drawn, q2.val, q.gu.trans q2.le q2.gu, fun b x hb => (q2.new b x hb).elim (fun h => q.new b x h) (fun h => .inr (Nat.le_trans q.gu.size h)), fun e he => ?_, q.rt.bind q2.rt, q.rtc.bind q2.rtc⟩
    · rw [Sem.run_bind, q.run, Result.andThen_ok, q2.run]
    · rw [Sem.events_bind, q.run, Result.evThen_ok, Sem.events_acc] at he
      rcases Array.mem_append.1 he with he | he
      · exact (q.evs e he).mono q2.le
      · exact q2.evs e he
/-- An entry that looks at the tables alone. -/
theorem SR.table {s : Sem α} (h : ∀ w x w', s.run X.Q w = .ok x w' → w' = w ∧ (∀ w2, s.run X.P w2 = .ok x w2) ∧ ∀ w2, s.run X.Q w2 = .ok x w2) (h3 : ∀ w, s.events X.P w #[] = #[]) : SR X (fun _ a b => a = b) r s s := by
  intro r1 hr1 wl wc hw ht hd a wl' hr
  obtain ⟨rfl, h2⟩ := h _ _ _ hr
  exact ⟨r1, a, wc, Ren.Le.refl _, h2.1 wc, hw, ht, hd, rfl, Gu.refl _ _, New.refl, fun e he => (by rw [h3] at he; simp at he), Rt.same h2.2, Rt.same h2.1⟩
theorem SR.typeInfo (t : TypeId) : SR X (fun _ a b => a = b) r (typeInfo t) (typeInfo t) := by
  refine SR.table (fun w x w' h => ?_) (fun w => by simp)
  have e : ∀ w, (Go.typeInfo t).run X.Q w = match X.P.info? t with | some i => .ok i w | none => .halt (.stuck "no such type") w := by
    intro w
    simp only [Go.typeInfo, Sem.run_bind, run_program, Result.andThen_ok, show X.Q.info? t = X.P.info? t from rfl]
    cases X.P.info? t <;> rfl
  have e2 : ∀ w2, (Go.typeInfo t).run X.P w2 = match X.P.info? t with | some i => .ok i w2 | none => .halt (.stuck "no such type") w2 := by
    intro w2
    simp only [Go.typeInfo, Sem.run_bind, run_program, Result.andThen_ok]
    cases X.P.info? t <;> rfl
  rw [e] at h
  cases hi : X.P.info? t with
  | none => rw [hi] at h; simp at h
  | some i =>
    rw [hi] at h
    simp only [Result.ok.injEq] at h
    obtain ⟨rfl, rfl⟩ := h
    exact ⟨rfl, fun w2 => by rw [e2, hi], fun w2 => by rw [e, hi]⟩
theorem SR.underlying (t : TypeId) : SR X (fun _ a b => a = b ∧ X.P.underlying t = some a) r (underlying t) (underlying t) := by
  intro r1 hr1 wl wc hw ht hd a wl' hr
  have e : ∀ wl, (Go.underlying t).run X.Q wl = match X.P.underlying t with | some i => .ok i wl | none => .halt (.stuck "no such type") wl := by
    intro wl
    simp only [Go.underlying, Sem.run_bind, run_program, Result.andThen_ok, show X.Q.underlying t = X.P.underlying t from rfl]
    cases X.P.underlying t <;> rfl
  have e2 : ∀ w2, (Go.underlying t).run X.P w2 = match X.P.underlying t with | some i => .ok i w2 | none => .halt (.stuck "no such type") w2 := by
    intro w2
    simp only [Go.underlying, Sem.run_bind, run_program, Result.andThen_ok]
    cases X.P.underlying t <;> rfl
  rw [e] at hr
  cases hi : X.P.underlying t with
  | none => rw [hi] at hr; simp at hr
  | some i =>
    rw [hi] at hr
    simp only [Result.ok.injEq] at hr
    obtain ⟨rfl, rfl⟩ := hr
    exact ⟨r1, i, wc, Ren.Le.refl _, by rw [e2, hi], hw, ht, hd, ⟨rfl, rfl⟩, Gu.refl _ _, New.refl, fun e he => (by simp at he), (Rt.same fun w => by rw [e, hi]), Rt.same fun w => by rw [e2, hi]⟩
theorem SR.sizeOf (t : TypeId) : SR X (fun _ a b => a = b) r (sizeOf t) (sizeOf t) := by
  unfold Go.sizeOf
  exact SR.bind (SR.typeInfo t) fun r' _ a b e => SR.pure fun _ _ => by rw [e]
theorem SR.isAgg (t : TypeId) : SR X (fun _ a b => a = b) r (isAgg t) (isAgg t) := by
  unfold Go.isAgg
  refine SR.bind (SR.underlying t) fun r' _ a b e => ?_
  obtain ⟨rfl, _⟩ := e
  split <;> exact SR.pure fun _ _ => rfl
theorem SR.zeroValue (t : TypeId) : SR X (fun _ a b => a = b ∧ ∃ i, X.P.info? t = some i ∧ i.zero = some a) r (zeroValue t) (zeroValue t) := by
  intro r1 hr1 wl wc hw ht hd a wl' hr
  obtain ⟨y1, y2, e⟩ : ∃ y1 y2 : Halt, ∀ (p : Program) w, p.info? t = X.P.info? t → (Go.zeroValue t).run p w = match X.P.info? t with | some i => (match i.zero with | some v => .ok v w | none => .halt y1 w) | none => .halt y2 w := by
    have k1 : ∃ y2 : Halt, ∀ (p : Program) (w : World), p.info? t = none → (Go.zeroValue t).run p w = .halt y2 w := by
      refine Exists.intro ?y2 ?k
      case k =>
        intro p w hp
        simp only [Go.zeroValue, Go.typeInfo, Sem.run_bind, run_program, Result.andThen_ok, hp]
        exact rfl
    have k2 : ∃ y1 : Halt, ∀ (p : Program) (w : World) i, p.info? t = some i → i.zero = none → (Go.zeroValue t).run p w = .halt y1 w := by
      refine Exists.intro ?y1 ?k
      case k =>
        intro p w i hp hz
        simp only [Go.zeroValue, Go.typeInfo, Sem.run_bind, run_program, Result.andThen_ok, hp, Sem.run_pure, hz]
        exact rfl
    obtain ⟨y2, k1⟩ := k1
    obtain ⟨y1, k2⟩ := k2
    refine ⟨y1, y2, fun p w hp => ?_⟩
    cases hi : X.P.info? t with
    | none => exact k1 p w (hp.trans hi)
    | some i =>
      cases hz : i.zero with
      | none => simp only [hz]; exact k2 p w i (hp.trans hi) hz
      | some v => simp only [Go.zeroValue, Go.typeInfo, Sem.run_bind, run_program, Result.andThen_ok, hp, hi, Sem.run_pure, hz]
  rw [e X.Q wl rfl] at hr
  cases hi : X.P.info? t with
  | none => rw [hi] at hr; simp at hr
  | some i =>
    simp only [hi] at hr
    cases hz : i.zero with
    | none => simp only [hz] at hr; cases hr
    | some v =>
      simp only [hz, Result.ok.injEq] at hr
      obtain ⟨rfl, rfl⟩ := hr
      exact ⟨r1, v, wc, Ren.Le.refl _, by simp only [e X.P wc rfl, hi, hz], hw, ht, hd, ⟨rfl, i, rfl, hz⟩, Gu.refl _ _, New.refl, fun e he => (by simp at he), (Rt.same fun w => by simp only [e X.Q w rfl, hi, hz]), Rt.same fun w => by simp only [e X.P w rfl, hi, hz]⟩
end
end Go.Proofs.Ytpigjhagdpeofaa.Sim

namespace Go.Proofs.Ytpigjhagdpeofaa.Sim
open Go
set_option linter.unusedVariables false
variable {X : Ctx}

/-- Places. -/
def PRel (r : Ren) (a a' : Addr) : Prop := ∃ s, r a.block = some (a'.block, s) ∧ a' = ⟨a'.block, s + a.off, a.spot⟩
theorem PRel.mono {r s : Ren} (hl : r.Le s) {a a' : Addr} (h : PRel r a a') : PRel s a a' := let ⟨k, h1, h2⟩ := h; ⟨k, hl _ _ h1, h2⟩
theorem PRel.ptr {r : Ren} {a a' : Addr} (h : PRel r a a') : VRel X.ok r (.pointer (some a)) (.pointer (some a')) := by
  obtain ⟨s, h1, h2⟩ := h
  rw [h2]
  exact .ptr h1
theorem PRel.slice {r : Ren} {a a' : Addr} (h : PRel r a a') (l k : Nat) : VRel X.ok r (.slice (some a) l k) (.slice (some a') l k) := by
  obtain ⟨s, h1, h2⟩ := h
  rw [h2]
  exact .slice h1
theorem PRel.of_ptr {r : Ren} {a : Addr} {v : Value} (h : VRel X.ok r (.pointer (some a)) v) : ∃ a', v = .pointer (some a') ∧ PRel r a a' := by
  cases h with
  | flat h => cases h
  | ptr h => exact ⟨_, rfl, _, h, rfl⟩
theorem PRel.of_slice {r : Ren} {a : Addr} {l k : Nat} {v : Value} (h : VRel X.ok r (.slice (some a) l k) v) : ∃ a', v = .slice (some a') l k ∧ PRel r a a' := by
  cases h with
  | flat h => cases h
  | slice h => exact ⟨_, rfl, _, h, rfl⟩
theorem PRel.add {r : Ren} {a a' : Addr} (h : PRel r a a') (n : Nat) : PRel r (a.add n) (a'.add n) := by
  obtain ⟨s, h1, h2⟩ := h
  unfold Addr.add
  split
  · exact ⟨s, h1, h2⟩
  · refine ⟨s, h1, ?_⟩
    rw [h2]
    simp [Nat.add_assoc]

section
variable {r : Ren}
theorem cell?_cells {w : World} {a : Addr} {v : Value} (h : w.cell? a = some v) : a.spot = none ∧ ∃ cs e fz, w.heap[a.block]? = some (.cells cs e fz) ∧ cs[a.off]? = some v := by
  unfold World.cell? at h
  split at h
  · rename_i cs e fz hb
    split at h
    · cases h
    · rename_i hs
      exact ⟨by simpa using hs, cs, e, fz, hb, h⟩
  · cases h
theorem cell?_of {w : World} {a : Addr} {v : Value} {cs : Array Value} {e : TypeId} {fz : Nat × Nat} (hs : a.spot = none) (hb : w.heap[a.block]? = some (.cells cs e fz)) (hv : cs[a.off]? = some v) : w.cell? a = some v := by
  unfold World.cell?
  rw [hb]
  simp [hs, hv]

/-- A cell that is there alone is there in company. -/
theorem WRel.cell {wl wc : World} (hw : WRel X r wl wc) {a a' : Addr} (h : PRel r a a') {v : Value} (hv : wl.cell? a = some v) :
    NP v ∧ ∃ v', wc.cell? a' = some v' ∧ VRel X.ok r v v' ∧ (X.n0 ≤ a.block → wc.frozen? a' = false) := by
  obtain ⟨s, h1, h2⟩ := h
  obtain ⟨hs, cs, e, fz, hb, hc⟩ := cell?_cells hv
  obtain ⟨cs0, e0, fz0, hb0, ho⟩ := (hw.obj _ _ _ h1).ex
  rw [hb] at hb0
  simp only [Option.some.injEq, Obj.cells.injEq] at hb0
  obtain ⟨rfl, rfl, rfl⟩ := hb0
  obtain ⟨np, cs', e', fz', hb', hf, y, hy, hr⟩ := ho _ _ hc
  refine ⟨np, y, ?_, hr, fun hn => ?_⟩
  · rw [h2]
    exact cell?_of (by simpa using hs) hb' hy
  · rw [h2]
    unfold World.frozen?
    rw [hb', hf hn]
    simp
theorem far_never {P : Program} {w : World} {a : Addr} {cs : Array Value} {e : TypeId} {fz : Nat × Nat} (hb : w.heap[a.block]? = some (.cells cs e fz)) (m : Bool) : ∃ h, w.farLoad P a m = .error h := by
  unfold World.farLoad
  rw [hb]
  exact ⟨_, rfl⟩
theorem farStore_never {P : Program} {w : World} {a : Addr} {v : Value} {cs : Array Value} {e : TypeId} {fz : Nat × Nat} (hb : w.heap[a.block]? = some (.cells cs e fz)) (m : Bool) : ∃ h, w.farStore P a v m = .error h := by
  unfold World.farStore
  rw [hb]
  exact ⟨_, rfl⟩

theorem SR.load {a a' : Addr} (h : PRel r a a') : SR X (fun r' v v' => VRel X.ok r' v v' ∧ NP v) r (load a) (load a') := by
  intro r1 hr1 wl wc hw ht hd v wl' hr
  have h1 := h.mono hr1
  rw [run_load] at hr
  cases hc : wl.cell? a with
  | none =>
    rw [hc] at hr
    obtain ⟨s, h2, _⟩ := h1
    obtain ⟨cs, e, fz, hb, _⟩ := (hw.obj _ _ _ h2).ex
    obtain ⟨x, hx⟩ := far_never (P := X.Q) (a := a) hb (Mode.plain == .atomic)
    simp only [hx] at hr
    cases hr
  | some x =>
    rw [hc] at hr
    simp only [Result.ok.injEq] at hr
    obtain ⟨rfl, rfl⟩ := hr
    obtain ⟨np, v', hv', hv, _⟩ := hw.cell h1 hc
    refine ⟨r1, v', wc, Ren.Le.refl _, by rw [run_load, hv'], hw, ht, hd, ⟨hv, np⟩, Gu.refl _ _, New.refl, fun e he => ?_, (Rt.still rfl rfl fun T K => by rw [run_load, show (tp wl T K).cell? a = wl.cell? a from rfl, hc]), Rt.still rfl rfl fun T K => by rw [run_load, show (tp wc T K).cell? a' = wc.cell? a' from rfl, hv']⟩
    rw [events_load, hv'] at he
    simp only [List.push_toArray, List.nil_append, List.mem_toArray, List.mem_cons, List.not_mem_nil, or_false] at he
    obtain ⟨s, h2, h3⟩ := h1
    exact .inr ⟨a', false, a.block, s, by rw [he]; rfl, h2, fun h => by cases h⟩

theorem heap_setCell (w : World) (a : Addr) (v : Value) (b : Nat) : (w.setCell a v).heap[b]? = if a.block = b then (w.heap[b]?).map (fun | .cells c elem frozen => .cells (if a.spot.isSome then c else c.setIfInBounds a.off v) elem frozen | o => o) else w.heap[b]? := by
  unfold World.setCell
  simp only [Array.getElem?_modify]
  rfl

theorem VRel.oneCell {v v' : Value} (h : VRel X.ok r v v') (ho : v.oneCell' = true) : v'.oneCell' = true := by
  cases h <;> first | exact ho | rfl

theorem SR.store {a a' : Addr} {v v' : Value} (h : PRel r a a') (hv : VRel X.ok r v v') (np : NP v) : SR X (fun _ _ _ => True) r (store a v) (store a' v') := by
  intro r1 hr1 wl wc hw ht hd u wl' hr
  have h1 := h.mono hr1
  have hv1 := hv.mono hr1
  by_cases ho : v.oneCell' = true
  · have ho' := hv1.oneCell ho
    rw [run_store _ _ _ _ _ ho] at hr
    cases hc : wl.cell? a with
    | none =>
      obtain ⟨s, h2, _⟩ := h1
      obtain ⟨cs, e, fz, hb, _⟩ := (hw.obj _ _ _ h2).ex
      obtain ⟨x, hx⟩ := farStore_never (P := X.Q) (a := a) (v := v) hb (Mode.plain == .atomic)
      simp only [hc, hx] at hr
      cases hr
    | some x =>
      simp only [hc] at hr
      cases hf : wl.frozen? a with
      | true => simp [hf] at hr
      | false =>
        simp only [hf, Bool.false_eq_true, if_false, Result.ok.injEq] at hr
        obtain ⟨_, rfl⟩ := hr
        obtain ⟨_, x', hx', _, hfz⟩ := hw.cell h1 hc
        obtain ⟨hs, cs, e, fz, hb, hcs⟩ := cell?_cells hc
        have hn : X.n0 ≤ a.block := by
          obtain ⟨s, h2', _⟩ := h1
          refine Nat.le_of_not_lt fun hlt => ?_
          have ea : a = ⟨a.block, a.off, none⟩ := by
            have e3 : a = ⟨a.block, a.off, a.spot⟩ := rfl
            rw [hs] at e3
            exact e3
          have := hw.fz _ _ hlt h2' a.off x (by rw [← ea]; exact hc)
          rw [← ea, hf] at this
          cases this
        obtain ⟨s, h2, h3⟩ := h1
        have hs0 := hw.sh _ _ _ hn h2
        subst hs0
        have hs' : a'.spot = none := by rw [h3]; exact hs
        have hoff : a'.off = a.off := by rw [h3]; simp
        refine ⟨r1, (), wc.setCell a' v', Ren.Le.refl _, ?_, ?_, ?_, ?_, trivial, ?_, New.refl, fun ev he => ?_, Rt.still rfl rfl fun T K => ?_, Rt.still rfl rfl fun T K => ?_⟩
        · rw [run_store _ _ _ _ _ ho']
          simp [hx', hfz hn]
        · refine ⟨fun b x hb => ?_, hw.inj, hw.sh, fun b c s' hb' => ?_, fun b x0 hb hrb i w hc' => ?_, fun g hg => ?_, hw.oldr, ?_⟩
          · have := hw.dom b x hb
            simpa [World.setCell] using this
          · have hob := hw.obj b c s' hb'
            by_cases hbb : b = a.block
            · subst hbb
              have e1 : c = a'.block := by rw [h2] at hb'; simpa using (congrArg (fun o => (o.getD (0,0)).1) hb').symm
              have e2 : s' = 0 := hw.sh _ _ _ hn hb'
              subst e1; subst e2
              obtain ⟨cs0, e0, fz0, hb0, hob⟩ := hob.ex
              rw [hb] at hb0
              simp only [Option.some.injEq, Obj.cells.injEq] at hb0
              obtain ⟨rfl, rfl, rfl⟩ := hb0
              obtain ⟨_, cs', e', fz', hb'', hff, y, hy, _⟩ := hob _ _ hcs
              refine ⟨cs.setIfInBounds a.off v, e, fz, ?_, fun i z hz => ?_⟩
              · rw [heap_setCell, if_pos rfl, hb]
                simp [hs]
              · have hcell : (wc.setCell a' v').heap[a'.block]? = some (.cells (cs'.setIfInBounds a'.off v') e' fz') := by
                  rw [heap_setCell, if_pos rfl, hb'']
                  simp [hs']
                rw [Array.getElem?_setIfInBounds] at hz
                split at hz
                · rename_i hi
                  split at hz
                  · cases hz
                    refine ⟨np, _, e', fz', hcell, hff, v', ?_, hv1⟩
                    rw [Array.getElem?_setIfInBounds, hoff, if_pos (by omega), if_pos ?_]
                    have := (Array.getElem?_eq_some_iff.1 hy).1
                    omega
                  · cases hz
                · rename_i hi
                  obtain ⟨np', cs2, e2, fz2, hb2, hf2, y2, hy2, hr2⟩ := hob _ _ hz
                  rw [hb''] at hb2
                  simp only [Option.some.injEq, Obj.cells.injEq] at hb2
                  obtain ⟨rfl, rfl, rfl⟩ := hb2
                  refine ⟨np', _, e', fz', hcell, hff, y2, ?_, hr2⟩
                  rw [Array.getElem?_setIfInBounds, hoff, if_neg (by omega)]
                  exact hy2
            · have hcc : c ≠ a'.block := fun e => hbb (hw.inj _ _ _ _ _ hn h2 (e ▸ hb'))
              obtain ⟨cs0, e0, fz0, hb0, hob⟩ := hob.ex
              refine ⟨cs0, e0, fz0, ?_, fun i z hz => ?_⟩
              · rw [heap_setCell, if_neg (fun e => hbb e.symm)]
                exact hb0
              · obtain ⟨np', cs2, e2, fz2, hb2, hr2⟩ := hob _ _ hz
                refine ⟨np', cs2, e2, fz2, ?_, hr2⟩
                rw [heap_setCell, if_neg (fun e => hcc e.symm)]
                exact hb2
          · have hne : b ≠ a.block := by omega
            have e1 : (wl.setCell a v).heap[b]? = wl.heap[b]? := by rw [heap_setCell, if_neg (fun e => hne e.symm)]
            have := hw.fz b x0 hb hrb i w (by unfold World.cell? at hc' ⊢; simp only [e1] at hc'; exact hc')
            unfold World.frozen? at this ⊢
            simp only [e1]
            exact this
          · have hne : g ≠ a.block := by omega
            rw [heap_setCell, if_neg (fun e => hne e.symm)]
            exact hw.old g hg
          · have := hw.low
            simpa [World.setCell] using this
        · exact ht
        · exact hd
        · refine ⟨rfl, rfl, rfl, Nat.le_refl _, by simp [World.setCell], fun c hc' hno => ?_, fun c h1 h2' => ?_⟩
          · rw [heap_setCell, if_neg]
            intro e
            exact hno _ hn (by rw [h2, e])
          · simp [World.setCell] at h2'
            omega
        · rw [events_store _ _ _ _ _ _ ho'] at he
          simp only [hx', hfz hn, Bool.false_eq_true, if_false] at he
          simp at he
          exact .inr ⟨a', true, a.block, 0, by rw [he]; rfl, h2, fun _ => hn⟩
        · rw [run_store _ _ _ _ _ ho, show (tp wl T K).cell? a = wl.cell? a from rfl, show (tp wl T K).frozen? a = wl.frozen? a from rfl, hc, hf]
          rfl
        · rw [run_store _ _ _ _ _ ho', show (tp wc T K).cell? a' = wc.cell? a' from rfl, show (tp wc T K).frozen? a' = wc.frozen? a' from rfl, hx', hfz hn]
          rfl
  · have : ∀ w, ∃ h, (Go.store a v).run X.Q w = .halt h w := by
      intro w
      cases v <;> first | exact absurd rfl ho | exact ⟨_, rfl⟩
    obtain ⟨y, hy⟩ := this wl
    rw [hy] at hr
    cases hr
end
end Go.Proofs.Ytpigjhagdpeofaa.Sim

namespace Go.Proofs.Ytpigjhagdpeofaa.Sim
open Go
set_option linter.unusedVariables false
variable {X : Ctx} {r : Ren}

theorem SR.never {α β : Type} {A : Ren → α → β → Prop} {s : Sem α} {t : Sem β} (h : ∀ w a w', s.run X.Q w ≠ .ok a w') : SR X A r s t :=
  fun r1 h1 wl wc hw ht hd a wl' hr => absurd hr (h wl a wl')

theorem SR.choose (q : Question) : SR X (fun _ a b => a = b) r (choose q) (choose q) := by
  intro r1 hr1 wl wc hw ht hd a wl' hr
  rw [run_choose] at hr
  by_cases hf : q.forced = true
  · rw [if_pos hf] at hr
    simp only [Result.ok.injEq] at hr
    obtain ⟨rfl, rfl⟩ := hr
    exact ⟨r1, 0, wc, Ren.Le.refl _, by rw [run_choose, if_pos hf], hw, ht, hd, rfl, Gu.refl _ _, New.refl, fun e he => (by rw [events_choose] at he; simp at he), (Rt.same fun w => by rw [run_choose, if_pos hf]), Rt.same fun w => by rw [run_choose, if_pos hf]⟩
  · have key : ∀ (p : Program) (w : World), Rt p (Go.choose q) (q.cut (w.tape w.drawn q)) w { w with drawn := w.drawn + 1 } := by
      intro p w
      refine ⟨rfl, Nat.le_succ _, fun T K ha => ?_⟩
      have e1 : w.drawn + 1 - w.drawn = 1 := by omega
      have := ha 0 q (by show 0 < w.drawn + 1 - w.drawn; omega)
      simp only [Nat.add_zero] at this
      rw [run_choose, if_neg hf]
      show Result.ok (q.cut (T K q)) _ = Result.ok _ _
      rw [this]
      show Result.ok _ _ = Result.ok _ (tp _ T (K + (w.drawn + 1 - w.drawn)))
      rw [e1]
      rfl
    rw [if_neg hf] at hr
    simp only [Result.ok.injEq] at hr
    obtain ⟨rfl, rfl⟩ := hr
    refine ⟨r1, q.cut (wc.tape wc.drawn q), { wc with drawn := wc.drawn + 1 }, Ren.Le.refl _, by rw [run_choose, if_neg hf], ⟨hw.dom, hw.inj, hw.sh, hw.obj, hw.fz, hw.old, hw.oldr, hw.low⟩, ht, by simp [hd], by rw [ht, hd], ⟨rfl, rfl, rfl, Nat.le_succ _, Nat.le_refl _, fun _ _ _ => rfl, fun c h1 h2 => absurd h2 (Nat.not_lt.2 h1)⟩, New.refl, fun e he => (by rw [events_choose] at he; simp at he), key X.Q wl, ?_⟩
    exact key X.P wc

theorem SR.askRoom (n : Nat) : SR X (fun _ _ _ => True) r (askRoom n) (askRoom n) := by
  intro r1 hr1 wl wc hw ht hd a wl' hr
  rw [run_askRoom] at hr
  simp only [Result.ok.injEq] at hr
  obtain ⟨_, rfl⟩ := hr
  refine ⟨r1, (), wc, Ren.Le.refl _, run_askRoom .., hw, ht, hd, trivial, Gu.refl _ _, New.refl, fun e he => ?_, (Rt.same fun w => run_askRoom ..), Rt.same fun w => run_askRoom ..⟩
  unfold Go.askRoom at he
  split at he
  · rw [events_mark] at he
    simp at he
    exact .inl he
  · simp at he

def Ren.with (r : Ren) (b c : Nat) : Ren := fun k => if k = b then some (c, 0) else r k
theorem Ren.with_le {r : Ren} {b c : Nat} (h : ∀ x, r b ≠ some x) : r.Le (r.with b c) := by
  intro k x hx
  unfold Ren.with
  rw [if_neg (fun e : k = b => h x (by rw [← e]; exact hx))]
  exact hx

theorem SR.newRow (elem : TypeId) {cs ds : Array Value} (h : ARel X.ok r cs ds) (np : ∀ (i : Nat) x, cs[i]? = some x → NP x) : SR X PRel r (newRow elem cs) (newRow elem ds) := by
  intro r1 hr1 wl wc hw ht hd a wl' hr
  have hl : (Go.newRow elem cs).run X.Q wl = .ok ⟨wl.heap.size, 0, none⟩ { wl with heap := wl.heap.push (.cells cs elem) } := by
    simp only [Go.newRow, Sem.run_bind, run_newObj, Result.andThen_ok, Sem.run_pure]
  rw [hl] at hr
  simp only [Result.ok.injEq] at hr
  obtain ⟨rfl, rfl⟩ := hr
  have hno : ∀ x, r1 wl.heap.size ≠ some x := fun x hx => Nat.lt_irrefl _ (hw.dom _ _ hx).1
  have hle := Ren.with_le (c := wc.heap.size) hno
  have hnew : (r1.with wl.heap.size wc.heap.size) wl.heap.size = some (wc.heap.size, 0) := by unfold Ren.with; rw [if_pos rfl]
  have hold : ∀ {b x}, (r1.with wl.heap.size wc.heap.size) b = some x → (b = wl.heap.size ∧ x = (wc.heap.size, 0)) ∨ (b ≠ wl.heap.size ∧ r1 b = some x) := by
    intro b x hx
    unfold Ren.with at hx
    split at hx
    · rename_i e
      exact .inl ⟨e, by simpa using hx.symm⟩
    · rename_i e
      exact .inr ⟨e, hx⟩
  have hlow := hw.low
  refine ⟨r1.with wl.heap.size wc.heap.size, ⟨wc.heap.size, 0, none⟩, { wc with heap := wc.heap.push (.cells ds elem) }, hle, ?_, ?_, ht, hd, ⟨0, hnew, rfl⟩, ?_, fun b x hb => ?_, fun e he => ?_, Rt.still rfl rfl fun T K => ?_, Rt.still rfl rfl fun T K => ?_⟩
  · simp only [Go.newRow, Sem.run_bind, run_newObj, Result.andThen_ok, Sem.run_pure]
  · refine ⟨fun b x hx => ?_, fun b b' c s s' hn hb hb' => ?_, fun b c s hn hb => ?_, fun b c s hb => ?_, fun b x hb hxb i v hv => ?_, fun g hg => ?_, fun b hb => ?_, ?_⟩
    · rcases hold hx with ⟨rfl, rfl⟩ | ⟨_, h1⟩
      · simp
      · have := hw.dom _ _ h1
        simp only [Array.size_push]
        omega
    · rcases hold hb with ⟨rfl, e⟩ | ⟨h1, h2⟩ <;> rcases hold hb' with ⟨rfl, e'⟩ | ⟨h1', h2'⟩
      · rfl
      · cases e
        have := (hw.dom _ _ h2').2
        simp at this
      · cases e'
        have := (hw.dom _ _ h2).2
        simp at this
      · exact hw.inj _ _ _ _ _ hn h2 h2'
    · rcases hold hb with ⟨rfl, e⟩ | ⟨h1, h2⟩
      · cases e; rfl
      · exact hw.sh _ _ _ hn h2
    · rcases hold hb with ⟨rfl, e⟩ | ⟨h1, h2⟩
      · cases e
        refine ⟨cs, elem, (0, 0), by simp, fun i x hx => ⟨np i x hx, ds, elem, (0, 0), by simp, fun _ => rfl, ?_⟩⟩
        obtain ⟨y, hy, hxy⟩ := h.get hx
        exact ⟨y, by simpa using hy, (hxy.mono hr1).mono hle⟩
      · obtain ⟨hb1, hc1⟩ := hw.dom _ _ h2
        obtain ⟨cs0, e0, fz0, hb0, hob⟩ := (hw.obj _ _ _ h2).ex
        refine ⟨cs0, e0, fz0, by rw [Array.getElem?_push, if_neg (by omega)]; exact hb0, fun i x hx => ?_⟩
        obtain ⟨np', cs', e', fz', hb', hf, y, hy, hxy⟩ := hob _ _ hx
        have hc1' : c < wc.heap.size := hc1
        exact ⟨np', cs', e', fz', by rw [Array.getElem?_push, if_neg (by omega)]; exact hb', hf, y, hy, hxy.mono hle⟩
    · have e1 : (wl.heap.push (Obj.cells cs elem))[b]? = wl.heap[b]? := by rw [Array.getElem?_push, if_neg (by omega)]
      have hrb : r1 b = some x := by
        rcases hold hxb with ⟨rfl, _⟩ | ⟨_, h⟩
        · omega
        · exact h
      have := hw.fz b x hb hrb i v (by unfold World.cell? at hv ⊢; simp only [e1] at hv; exact hv)
      unfold World.frozen? at this ⊢
      simp only [e1]
      exact this
    · rw [Array.getElem?_push, if_neg (by omega)]
      exact hw.old g hg
    · unfold Ren.with
      rw [if_neg (by omega)]
      exact hw.oldr b hb
    · simp only [Array.size_push]
      omega
  · refine ⟨rfl, rfl, rfl, Nat.le_refl _, by simp, fun c hc hno' => ?_, fun c h1 h2 => ?_⟩
    · simp only [Array.getElem?_push]
      rw [if_neg (by omega)]
    · simp only [Array.size_push] at h2
      obtain rfl : c = wc.heap.size := by omega
      exact ⟨_, hlow, hnew⟩
  · rcases hold hb with ⟨_, rfl⟩ | ⟨_, h1⟩
    · exact .inr (Nat.le_refl _)
    · exact .inl h1
  · simp [Go.newRow] at he
  · simp only [Go.newRow, Sem.run_bind, run_newObj, Result.andThen_ok, Sem.run_pure]
    rfl
  · simp only [Go.newRow, Sem.run_bind, run_newObj, Result.andThen_ok, Sem.run_pure]
    rfl

theorem SR.newVar (elem : TypeId) {v v' : Value} (h : VRel X.ok r v v') (np : NP v) : SR X PRel r (newVar elem v) (newVar elem v') := by
  unfold Go.newVar
  refine SR.newRow elem h.cells fun i x hx => ?_
  cases np with
  | agg h' => exact h' i x hx
  | bool b => simp [Value.cells] at hx; cases i <;> simp at hx; subst hx; exact .bool b
  | int k n => simp [Value.cells] at hx; cases i <;> simp at hx; subst hx; exact .int k n
  | slice a l k => simp [Value.cells] at hx; cases i <;> simp at hx; subst hx; exact .slice a l k
  | tuple h' => simp [Value.cells] at hx; cases i <;> simp at hx; subst hx; exact .tuple h'

/-- Rows of values fit to lie in memory. -/
def NPs (cs : Array Value) : Prop := ∀ (i : Nat) x, cs[i]? = some x → NP x
theorem NPs.push {cs : Array Value} (h : NPs cs) {x : Value} (hx : NP x) : NPs (cs.push x) := by
  intro i y hy
  rw [Array.getElem?_push] at hy
  split at hy
  · cases hy; exact hx
  · exact h i y hy
theorem NPs.nil : NPs #[] := fun i x h => by simp at h
theorem NPs.append {cs ds : Array Value} (h : NPs cs) (k : NPs ds) : NPs (cs ++ ds) := by
  intro i y hy
  rw [Array.getElem?_append] at hy
  split at hy
  · exact h i y hy
  · exact k _ y hy

theorem SR.loadCellsFrom {n : Nat} : ∀ {r : Ren} {a a' : Addr} {i : Nat} {acc acc' : Array Value}, PRel r a a' → ARel X.ok r acc acc' → NPs acc →
    SR X (fun r' v v' => ARel X.ok r' v v' ∧ NPs v) r (loadCellsFrom a i n acc) (loadCellsFrom a' i n acc') := by
  induction n with
  | zero => intro r a a' i acc acc' h ha hn; exact SR.pure fun r' hl => ⟨ha.mono hl, hn⟩
  | succ n ih =>
    intro r a a' i acc acc' h ha hn
    unfold Go.loadCellsFrom
    exact SR.bind (SR.load (h.add i)) fun r' hl v v' hv => ih (h.mono hl) ((ha.mono hl).push hv.1) (hn.push hv.2)
theorem SR.loadCells {a a' : Addr} (h : PRel r a a') (n : Nat) : SR X (fun r' v v' => ARel X.ok r' v v' ∧ NPs v) r (loadCells a n) (loadCells a' n) := SR.loadCellsFrom h ARel.nil NPs.nil
theorem SR.storeCells {vs : List Value} : ∀ {r : Ren} {a a' : Addr} {vs' : List Value} {i : Nat}, PRel r a a' → vs.length = vs'.length → (∀ (j : Nat) x y, vs[j]? = some x → vs'[j]? = some y → VRel X.ok r x y ∧ NP x) →
    SR X (fun _ _ _ => True) r (storeCells a vs i) (storeCells a' vs' i) := by
  induction vs with
  | nil =>
    intro r a a' vs' i h hl hv
    obtain rfl : vs' = [] := List.length_eq_zero_iff.1 hl.symm
    exact SR.pure fun _ _ => trivial
  | cons v vs ih =>
    intro r a a' vs' i h hl hv
    cases vs' with
    | nil => simp at hl
    | cons v' vs' =>
      unfold Go.storeCells
      obtain ⟨h1, h2⟩ := hv 0 v v' rfl rfl
      exact SR.bind (SR.store (h.add i) h1 h2) fun r' hl' _ _ _ => ih (h.mono hl') (by simpa using hl) fun j x y hx hy => (hv (j + 1) x y (by simpa using hx) (by simpa using hy)).imp (fun q => q.mono hl') id
theorem SR.loadVar (t : TypeId) {a a' : Addr} (h : PRel r a a') : SR X (fun r' v v' => VRel X.ok r' v v' ∧ NP v) r (loadVar t a) (loadVar t a') := by
  unfold Go.loadVar
  refine SR.bind (SR.isAgg t) fun r1 h1 b b' e => ?_
  subst e
  cases b
  · exact SR.load (h.mono h1)
  · refine SR.bind (SR.sizeOf t) fun r2 h2 n n' e => ?_
    subst e
    exact SR.bind (SR.loadCells ((h.mono h1).mono h2) n) fun r3 h3 v v' hv => SR.pure fun r4 h4 => ⟨.agg (hv.1.mono h4).1 (hv.1.mono h4).2, .agg hv.2⟩
theorem NP.cells {v : Value} (np : NP v) : NPs v.cells := by
  cases np with
  | agg h' => exact h'
  | bool b => exact NPs.nil.push (.bool b)
  | int k n => exact NPs.nil.push (.int k n)
  | slice a l k => exact NPs.nil.push (.slice a l k)
  | tuple h' => exact NPs.nil.push (.tuple h')
theorem SR.storeVar (t : TypeId) {a a' : Addr} (h : PRel r a a') {v v' : Value} (hv : VRel X.ok r v v') (np : NP v) : SR X (fun _ _ _ => True) r (storeVar t a v) (storeVar t a' v') := by
  have hc := hv.cells
  unfold Go.storeVar
  refine SR.bind (SR.sizeOf t) fun r1 h1 n n' e => ?_
  subst e
  have key : SR X (fun _ _ _ => True) r1 (Go.storeCells a v.cells.toList) (Go.storeCells a' v'.cells.toList) := SR.storeCells (h.mono h1) (by simpa using hc.1) fun j x y hx hy => ⟨(hc.2 j x y (by simpa using hx) (by simpa using hy)).mono h1, np.cells j x (by simpa using hx)⟩
  rw [← hc.1]
  split
  · exact SR.bind (SR.stuck (A := fun _ _ _ => True)) fun _ h' _ _ _ => key.mono h'
  · exact key
end Go.Proofs.Ytpigjhagdpeofaa.Sim

namespace Go.Proofs.Ytpigjhagdpeofaa.Sim
open Go
set_option linter.unusedVariables false
variable {X : Ctx} {r : Ren}

/-! ### what never comes to a value -/
def Never {α : Type} (p : Program) (s : Sem α) : Prop := ∀ w a w', s.run p w ≠ .ok a w'
theorem Never.halt {α : Type} {p : Program} {h : Halt} : Never p (Sem.halt h : Sem α) := fun w a w' e => by simp at e
theorem Never.right {α β : Type} {p : Program} {s : Sem α} {f : α → Sem β} (h : ∀ a, Never p (f a)) : Never p (s >>= f) := by
  intro w b w' e
  rw [Sem.run_bind] at e
  cases hs : s.run p w with
  | halt y w1 => rw [hs] at e; simp at e
  | ok a w1 => rw [hs, Result.andThen_ok] at e; exact h a _ _ _ e
theorem Never.left {α β : Type} {p : Program} {s : Sem α} {f : α → Sem β} (h : Never p s) : Never p (s >>= f) := by
  intro w b w' e
  rw [Sem.run_bind] at e
  cases hs : s.run p w with
  | halt y w1 => rw [hs] at e; simp at e
  | ok a w1 => exact absurd hs (h _ _ _)
theorem Never.ite {α : Type} {p : Program} {c : Prop} [Decidable c] {s t : Sem α} (h : Never p s) (k : Never p t) : Never p (if c then s else t) := by split <;> assumption
theorem never_runtimePanic {α : Type} (p : Program) (e : RuntimeError) : Never p (runtimePanic e : Sem α) := by
  unfold runtimePanic
  refine Never.right fun q => ?_
  cases e <;> first
    | exact Never.halt
    | exact Never.right fun _ => Never.right fun _ => Never.halt
theorem never_boundsPanic {α : Type} (p : Program) (k : IntKind) (x y : Int) (c : BoundsCode) : Never p (boundsPanic k x y c : Sem α) := by
  unfold boundsPanic
  dsimp only
  split <;> exact Never.right fun _ => never_runtimePanic p _
theorem never_panic (p : Program) (x : Value) : Never p (Instr.panic x) := by
  unfold Instr.panic
  cases x <;> first
    | exact Never.halt
    | exact Never.right fun a => Never.ite Never.halt (never_runtimePanic p _)
theorem SR.no {α β : Type} {A : Ren → α → β → Prop} {s : Sem α} {t : Sem β} (h : Never X.Q s) : SR X A r s t := SR.never h

/-! ### small looks at values -/
theorem VRel.int_inv {k : IntKind} {n : Int} {v : Value} (h : VRel X.ok r (.int k n) v) : v = .int k n := by cases h; rfl
theorem VRel.bool_inv {b : Bool} {v : Value} (h : VRel X.ok r (.bool b) v) : v = .bool b := by cases h; rfl
theorem SR.asIntOf {v v' : Value} (h : VRel X.ok r v v') : SR X (fun _ a b => a = b) r (asIntOf v) (asIntOf v') := by
  cases v <;> first
    | exact SR.stuck
    | (rw [h.int_inv]; exact SR.pure fun _ _ => rfl)
    | (rename_i a; cases a <;> first | exact SR.stuck | exact SR.unsupported)
theorem SR.asInt {v v' : Value} (h : VRel X.ok r v v') : SR X (fun _ a b => a = b) r (asInt v) (asInt v') := by
  unfold Go.asInt
  exact SR.bind (SR.asIntOf h) fun _ _ a b e => SR.pure fun _ _ => by rw [e]
theorem SR.asBool {v v' : Value} (h : VRel X.ok r v v') : SR X (fun _ a b => a = b) r (asBool v) (asBool v') := by
  cases v <;> first
    | exact SR.stuck
    | (rw [h.bool_inv]; exact SR.pure fun _ _ => rfl)
theorem SR.sureAddr {v v' : Value} (h : VRel X.ok r v v') : SR X PRel r (Instr.sureAddr v) (Instr.sureAddr v') := by
  cases v <;> first
    | exact SR.stuck
    | (rename_i a
       cases a with
       | none => exact SR.stuck
       | some a =>
         obtain ⟨a', rfl, h1⟩ := PRel.of_ptr h
         exact SR.pure fun _ hl => h1.mono hl)

/-- A value that is the same on both sides and may lie in memory. -/
def leaf : Value → Bool
  | .bool _ | .int _ _ | .slice none _ _ => true
  | _ => false
theorem leaf_v {v : Value} (h : leaf v = true) : VRel X.ok r v v ∧ NP v := by
  cases v <;> first
    | (cases h; done)
    | exact ⟨.flat rfl, .bool _⟩
    | exact ⟨.flat rfl, .int _ _⟩
    | (rename_i a l k; cases a <;> first | (cases h; done) | exact ⟨.flat rfl, .slice _ _ _⟩)
/-- .. or a row of such. -/
def zB : Value → Bool
  | .agg cs => cs.all leaf
  | v => leaf v
theorem zB_v {v : Value} (h : zB v = true) : VRel X.ok r v v ∧ NP v := by
  cases v with
  | agg cs =>
    have h' : ∀ (i : Nat) x, cs[i]? = some x → leaf x = true := fun i x hx => by
      have := Array.all_eq_true_iff_forall_mem.1 h x (Array.mem_of_getElem? hx)
      exact this
    exact ⟨.agg rfl fun i x y hx hy => by rw [hx] at hy; cases hy; exact (leaf_v (h' i x hx)).1, .agg fun i x hx => (leaf_v (X := X) (r := r) (h' i x hx)).2⟩
  | _ => exact leaf_v h
def zOK (P : Program) (t : TypeId) : Bool := match P.info? t with
  | some i => match i.zero with
    | some v => zB v
    | none => false
  | none => false
theorem SR.zero {t : TypeId} (h : zOK X.P t = true) : SR X (fun r' v v' => VRel X.ok r' v v' ∧ NP v) r (Go.zeroValue t) (Go.zeroValue t) := by
  refine (SR.zeroValue t).weaken fun r' hl a b e => ?_
  obtain ⟨rfl, i, hi, hz⟩ := e
  unfold zOK at h
  rw [hi] at h
  simp only [hz] at h
  exact zB_v h

/-! ### the operations -/
theorem SR.alloc {t : TypeId} (h : zOK X.P t = true) : SR X (fun r' v v' => VRel X.ok r' v v') r (Instr.alloc t true (.tuple #[])) (Instr.alloc t true (.tuple #[])) := by
  unfold Instr.alloc
  refine SR.bind (SR.zero h) fun r1 h1 z z' hz => ?_
  exact SR.bind (SR.newVar t hz.1 hz.2) fun r2 h2 a a' ha => SR.pure fun r3 h3 => (ha.mono h3).ptr
theorem SR.box {t : TypeId} {v v' : Value} (h : VRel X.ok r v v') (np : NP v) : SR X (fun r' v v' => VRel X.ok r' v v') r (Instr.box t v) (Instr.box t v') := by
  unfold Instr.box
  exact SR.bind (SR.newVar t h np) fun r2 h2 a a' ha => SR.pure fun r3 h3 => (ha.mono h3).ptr
theorem SR.loadAt (t : TypeId) {v v' : Value} (h : VRel X.ok r v v') : SR X (fun r' v v' => VRel X.ok r' v v' ∧ NP v) r (Instr.loadAt t v) (Instr.loadAt t v') := by
  unfold Instr.loadAt
  exact SR.bind (SR.sureAddr h) fun r1 h1 a a' ha => SR.loadVar t ha
theorem SR.storeAt (t : TypeId) {v v' x x' : Value} (h : VRel X.ok r v v') (hx : VRel X.ok r x x') (np : NP x) : SR X (fun _ _ _ => True) r (Instr.storeAt t v x) (Instr.storeAt t v' x') := by
  unfold Instr.storeAt
  exact SR.bind (SR.sureAddr h) fun r1 h1 a a' ha => SR.storeVar t ha (hx.mono h1) np

/-- An entry over plain values alone: it comes to the same value in every world. -/
theorem SR.closed {s : Sem Value} (h : ∀ w x w', s.run X.Q w = .ok x w' → w' = w ∧ leaf x = true ∧ (∀ w2, s.run X.P w2 = .ok x w2) ∧ ∀ w2, s.run X.Q w2 = .ok x w2) (h3 : ∀ w, s.events X.P w #[] = #[]) : SR X (fun r' v v' => VRel X.ok r' v v' ∧ NP v) r s s := by
  intro r1 hr1 wl wc hw ht hd a wl' hr
  obtain ⟨rfl, hl, h2⟩ := h _ _ _ hr
  exact ⟨r1, a, wc, Ren.Le.refl _, h2.1 wc, hw, ht, hd, leaf_v hl, Gu.refl _ _, New.refl, fun e he => (by rw [h3] at he; simp at he), Rt.same h2.2, Rt.same h2.1⟩
/-- .. a pure value, or none. -/
def Plain (s : Sem Value) : Prop := (∃ v, leaf v = true ∧ s = Pure.pure v) ∨ ∀ p, Never p s
theorem Plain.sr {s : Sem Value} (h : Plain s) : SR X (fun r' v v' => VRel X.ok r' v v' ∧ NP v) r s s := by
  rcases h with ⟨v, hl, rfl⟩ | h
  · exact SR.pure fun _ _ => leaf_v hl
  · exact SR.no (h _)
theorem Plain.pure {v : Value} (h : leaf v = true) : Plain (Pure.pure v) := .inl ⟨v, h, rfl⟩
theorem Plain.halt {h : Halt} : Plain (Sem.halt h) := .inr fun _ => Never.halt
theorem Plain.ite {c : Prop} [Decidable c] {s t : Sem Value} (h : Plain s) (k : Plain t) : Plain (if c then s else t) := by split <;> assumption
theorem plain_intop (op : BinOp) (t : TypeId) (k k' : IntKind) (a b : Int) : Plain (binOp op t (.int k a) (.int k' b)) := by
  unfold binOp
  cases op <;> dsimp only <;> (try refine Plain.ite Plain.halt ?_) <;>
    (first | unfold Op.shift | unfold Op.intArith | unfold Op.intDiv | unfold Op.intBits | unfold Op.intCmp) <;> dsimp only <;>
    (repeat' first
      | exact Plain.pure rfl
      | exact Plain.halt
      | exact .inr fun p => never_runtimePanic p _
      | refine Plain.ite ?_ ?_)
theorem Never.jp {α β : Type} {p : Program} {s : Sem α} {f : α → Sem β} (h : ∀ a, Never p (f a)) : Never p (s.bind f) := Never.right h

/-- Which types '==' and '!=' are let by at. -/
def eqOK (P : Program) (op : BinOp) (t : TypeId) : Bool := match op with
  | .eql | .neq => match P.underlying t with
    | some .bool | some (.int _) => true
    | _ => false
  | _ => true
theorem never_equal_int {p : Program} {t : TypeId} {v w : Value} (h : p.underlying t = some .bool ∨ ∃ k, p.underlying t = some (.int k)) (hv : NP v) (hw : NP w) (hno : ¬ (∃ a b, v = .bool a ∧ w = .bool b)) (hno2 : ¬ (∃ k a k' b, v = .int k a ∧ w = .int k' b)) : Never p (Op.equal t v w) := by
  show Never p (Op.equalIn (9999 + 1) t v w)
  unfold Op.equalIn
  intro wd a wd' e
  have hu : ∀ d, p.underlying t = some d → (underlying t).run p wd = .ok d wd := fun d hd => by simp only [Go.underlying, Sem.run_bind, run_program, Result.andThen_ok, hd]; rfl
  rw [Sem.run_bind] at e
  rcases h with h | ⟨k, h⟩
  · rw [hu _ h, Result.andThen_ok] at e
    cases hv <;> cases hw <;> first
      | (exact absurd ⟨_, _, rfl, rfl⟩ hno)
      | (revert e; exact Never.halt (p := p) _ _ _)
  · rw [hu _ h, Result.andThen_ok] at e
    cases hv <;> cases hw <;> first
      | (exact absurd ⟨_, _, _, _, rfl, rfl⟩ hno2)
      | (revert e; exact Never.halt (p := p) _ _ _)
end Go.Proofs.Ytpigjhagdpeofaa.Sim

namespace Go.Proofs.Ytpigjhagdpeofaa.Sim
open Go
set_option linter.unusedVariables false
variable {X : Ctx} {r : Ren}

abbrev VN (X : Ctx) (r : Ren) (v v' : Value) : Prop := VRel X.ok r v v' ∧ NP v

theorem eqGuard_int (op : BinOp) (t : TypeId) (x y : Operand) (k k' : IntKind) (a b : Int) : eqGuard op t x y (.int k a) (.int k' b) = Pure.pure () := by cases op <;> rfl
theorem eqGuard_bool (op : BinOp) (t : TypeId) (x y : Operand) (a b : Bool) : eqGuard op t x y (.bool a) (.bool b) = Pure.pure () := by cases op <;> rfl
theorem run_und {p : Program} {t : TypeId} {d : TypeDesc} (h : p.underlying t = some d) (w : World) : (underlying t).run p w = .ok d w := by
  simp only [Go.underlying, Sem.run_bind, run_program, Result.andThen_ok, h]
  rfl
theorem never_equal_bool {p : Program} {t : TypeId} {k : IntKind} (h : p.underlying t = some (.int k)) (a b : Bool) : Never p (Op.equal t (.bool a) (.bool b)) := by
  show Never p (Op.equalIn (9999 + 1) t (.bool a) (.bool b))
  unfold Op.equalIn
  intro wd x wd' e
  rw [Sem.run_bind, run_und h, Result.andThen_ok] at e
  revert e
  exact Never.halt (p := p) _ _ _
theorem events_equal_bool {p : Program} {t : TypeId} (h : p.underlying t = some .bool) (a b : Bool) (w : World) (es : Array Event) : (Op.equal t (.bool a) (.bool b)).events p w es = es := by
  show (Op.equalIn (9999 + 1) t (.bool a) (.bool b)).events p w es = es
  unfold Op.equalIn
  rw [Sem.events_bind, run_und h, Result.evThen_ok, events_underlying]
  rfl
theorem SR.eqBool {t : TypeId} (h : X.P.underlying t = some .bool) (a b : Bool) (f : Bool → Bool) : SR X (VN X) r (do Pure.pure (Value.bool (f (← Op.equal t (.bool a) (.bool b))))) (do Pure.pure (Value.bool (f (← Op.equal t (.bool a) (.bool b))))) := by
  have hq : X.Q.underlying t = some .bool := h
  refine SR.closed (fun w x w' e => ?_) fun w => ?_
  · rw [Sem.run_bind, run_equal_bool _ _ _ _ hq, Result.andThen_ok, Sem.run_pure] at e
    simp only [Result.ok.injEq] at e
    obtain ⟨rfl, rfl⟩ := e
    exact ⟨rfl, rfl, fun w2 => by rw [Sem.run_bind, run_equal_bool _ _ _ _ h, Result.andThen_ok, Sem.run_pure], fun w2 => by rw [Sem.run_bind, run_equal_bool _ _ _ _ hq, Result.andThen_ok, Sem.run_pure]⟩
  · rw [Sem.events_bind, run_equal_bool _ _ _ _ h, Result.evThen_ok, events_equal_bool h]
    rfl
theorem SR.binOp {op : BinOp} {t : TypeId} {x y : Operand} {v v' w w' : Value} (ho : eqOK X.P op t = true) (hv : VN X r v v') (hw : VN X r w w') :
    SR X (VN X) r (do eqGuard op t x y v w; binOp op t v w) (do eqGuard op t x y v' w'; binOp op t v' w') := by
  obtain ⟨hv, nv⟩ := hv
  obtain ⟨hw, nw⟩ := hw
  have hu : op = .eql ∨ op = .neq → X.P.underlying t = some .bool ∨ ∃ k, X.P.underlying t = some (.int k) := by
    intro h
    unfold eqOK at ho
    rcases h with rfl | rfl
    all_goals
      revert ho
      cases hd : X.P.underlying t with
      | none => simp
      | some d => cases d <;> simp
  by_cases hi : ∃ k a k' b, v = .int k a ∧ w = .int k' b
  · obtain ⟨k, a, k', b, rfl, rfl⟩ := hi
    obtain rfl := hv.int_inv
    obtain rfl := hw.int_inv
    rw [eqGuard_int]
    exact (plain_intop op t k k' a b).sr
  by_cases hb : ∃ a b, v = .bool a ∧ w = .bool b
  · obtain ⟨a, b, rfl, rfl⟩ := hb
    obtain rfl := hv.bool_inv
    obtain rfl := hw.bool_inv
    rw [eqGuard_bool]
    show SR X (VN X) r (Go.binOp op t (.bool a) (.bool b)) (Go.binOp op t (.bool a) (.bool b))
    cases op <;> first
      | exact SR.stuck
      | (rcases hu (.inl rfl) with h | ⟨k, h⟩
         · exact SR.eqBool h a b id
         · exact SR.no (Never.left (never_equal_bool (p := X.Q) h a b)))
      | (rcases hu (.inr rfl) with h | ⟨k, h⟩
         · exact SR.eqBool h a b (!·)
         · exact SR.no (Never.left (never_equal_bool (p := X.Q) h a b)))
  · refine SR.no (Never.right fun _ => ?_)
    have he := fun h => never_equal_int (p := X.Q) (hu h) nv nw hb hi
    cases nv <;> cases nw <;> first
      | (exact absurd ⟨_, _, rfl, rfl⟩ hb)
      | (exact absurd ⟨_, _, _, _, rfl, rfl⟩ hi)
      | (cases op <;> first
          | exact Never.left (he (.inl rfl))
          | exact Never.left (he (.inr rfl))
          | exact Never.halt)
theorem SR.not {v v' : Value} (h : VRel X.ok r v v') : SR X (VN X) r (Op.unary .not v) (Op.unary .not v') := by
  cases v <;> first
    | (rw [h.bool_inv]; exact (Plain.pure rfl).sr)
    | exact SR.stuck
theorem SR.convert {s d : TypeId} {ks kd : IntKind} (hs : X.P.underlying s = some (.int ks)) (hd : X.P.underlying d = some (.int kd)) {v v' : Value} (h : VN X r v v') : SR X (VN X) r (convert s d v) (convert s d v') := by
  obtain ⟨hv, nv⟩ := h
  unfold Go.convert
  refine SR.bind (SR.underlying s) fun r1 h1 x x' e => ?_
  obtain ⟨rfl, e1⟩ := e
  rw [hs] at e1; cases e1
  refine SR.bind (SR.underlying d) fun r2 h2 x x' e => ?_
  obtain ⟨rfl, e2⟩ := e
  rw [hd] at e2; cases e2
  cases nv <;> first
    | (rw [hv.int_inv]; exact SR.pure fun _ _ => ⟨.flat rfl, .int _ _⟩)
    | exact SR.unsupported
theorem default_v : VRel X.ok r (default : Value) default ∧ NP (default : Value) := leaf_v rfl
theorem ARel.getB {cs ds : Array Value} (h : ARel X.ok r cs ds) (np : NPs cs) (i : Nat) : VN X r cs[i]! ds[i]! := by
  by_cases hlt : i < cs.size
  · have hlt' : i < ds.size := h.1 ▸ hlt
    rw [getElem!_pos cs i hlt, getElem!_pos ds i hlt']
    exact ⟨h.2 i _ _ (Array.getElem?_eq_getElem hlt) (Array.getElem?_eq_getElem hlt'), np i _ (Array.getElem?_eq_getElem hlt)⟩
  · have hlt' : ¬ i < ds.size := h.1 ▸ hlt
    rw [getElem!_neg cs i hlt, getElem!_neg ds i hlt']
    exact default_v
theorem NPs.map {α : Type} {f : α → Value} (h : ∀ a, NP (f a)) (xs : Array α) : NPs (xs.map f) := by
  intro i x hx
  rw [Array.getElem?_map] at hx
  cases hy : xs[i]? with
  | none => rw [hy] at hx; cases hx
  | some a => rw [hy] at hx; cases hx; exact h a
theorem rep_rel {zs zs' : Array Value} (h : ARel X.ok r zs zs') (np : NPs zs) (n : Nat) : ARel X.ok r ((Array.range n).map (zs[· % zs.size]!)) ((Array.range n).map (zs'[· % zs'.size]!)) ∧ NPs ((Array.range n).map (zs[· % zs.size]!)) := by
  refine ⟨ARel.map (fun i => ?_) _, NPs.map (fun i => (h.getB np _).2) _⟩
  rw [← h.1]
  exact (h.getB np _).1
theorem SR.makeSlice {t e : TypeId} (ht : X.P.underlying t = some (.slice e)) (hz : zOK X.P e = true) {l l' c c' : Value} (hl : VRel X.ok r l l') (hc : VRel X.ok r c c') : SR X (VN X) r (Instr.makeSlice t l c) (Instr.makeSlice t l' c') := by
  unfold Instr.makeSlice
  refine SR.bind (SR.underlying t) fun r1 h1 x x' e => ?_
  obtain ⟨rfl, e1⟩ := e
  rw [ht] at e1; cases e1
  refine SR.bind (SR.asInt (hl.mono h1)) fun r2 h2 n n' e => ?_
  subst e
  refine SR.bind (SR.asInt ((hc.mono h1).mono h2)) fun r3 h3 m m' e => ?_
  subst e
  refine SR.bind (SR.typeInfo e) fun r4 h4 i i' e => ?_
  subst e
  dsimp only
  split
  · refine SR.no ?_
    split
    · exact Never.left (never_runtimePanic _ _)
    · split
      · exact Never.left (never_runtimePanic _ _)
      · exact Never.right fun _ => Never.left (never_runtimePanic _ _)
  · refine SR.bind (SR.askRoom _) fun r5 h5 _ _ _ => ?_
    refine SR.bind (SR.sizeOf _) fun r6 h6 s s' e => ?_
    subst e
    have fin : ∀ {r' : Ren} {zs zs' : Array Value}, ARel X.ok r' zs zs' → NPs zs → SR X (VN X) r' (do let a ← Go.newRow e (Array.map (fun x => zs[x % zs.size]!) (Array.range ((IntKind.i64.wrap m).toNat * s))); Pure.pure (Value.slice (some a) (IntKind.i64.wrap n).toNat (IntKind.i64.wrap m).toNat))
        (do let a ← Go.newRow e (Array.map (fun x => zs'[x % zs'.size]!) (Array.range ((IntKind.i64.wrap m).toNat * s))); Pure.pure (Value.slice (some a) (IntKind.i64.wrap n).toNat (IntKind.i64.wrap m).toNat)) := by
      intro r' zs zs' h np
      exact SR.bind (SR.newRow e (rep_rel h np _).1 (rep_rel h np _).2) fun r7 h7 a a' ha => SR.pure fun r8 h8 => ⟨(ha.mono h8).slice _ _, .slice _ _ _⟩
    split
    · exact SR.bind (A := fun r' z z' => ARel X.ok r' z z' ∧ NPs z) (SR.pure fun _ _ => ⟨ARel.nil, NPs.nil⟩) fun r7 h7 z z' hz => fin hz.1 hz.2
    · refine SR.bind (SR.zero hz) fun r7 h7 z z' hz => ?_
      exact SR.bind (A := fun r' z z' => ARel X.ok r' z z' ∧ NPs z) (SR.pure fun _ hl => ⟨(hz.1.mono hl).cells, hz.2.cells⟩) fun r7 h7 z z' hz => fin hz.1 hz.2
end Go.Proofs.Ytpigjhagdpeofaa.Sim
