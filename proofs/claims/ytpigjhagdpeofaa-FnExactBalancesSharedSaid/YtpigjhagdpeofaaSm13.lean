/-
  The lone law's memory: the letter box, the oracle, and a frozen copy of what the law is handed; a law, whole, from there. No condition.
-/
import Derived.Test.YtpigjhagdpeofaaSm12
import Derived.Conc.LeavingOf

namespace Go.Proofs.Ytpigjhagdpeofaa.Sim
open Go Go.Conc Go.RowKit
set_option linter.unusedVariables false
/-- What the law is handed in memory: its place in company and the cells that are looked at. -/
structure Inp where
  a : Addr
  cs : Array Value
structure Inp.Ok (W : World) (p : Inp) : Prop where
  lt : p.a.block < W.heap.size
  at_ : ∀ (i : Nat) x, p.cs[i]? = some x → NP x ∧ flat x = true ∧ W.cell? ⟨p.a.block, p.a.off + i, none⟩ = some x
def inpObj (p : Inp) : Obj := .cells p.cs 2 (0, p.cs.size)
def iren (ps : List Inp) : Ren := fun b => if 4 ≤ b then (ps[b - 4]?).map fun p => (p.a.block, p.a.off) else none
noncomputable abbrev XI (n : Nat) (F : Nat → Int) (ps : List Inp) : Ctx := XL n F (ps.map inpObj) (iren ps)
def lone1 (n : Nat) (F : Nat → Int) (ps : List Inp) (W : World) : World := { W with heap := Sq.h (letter :: orc n F :: ps.map inpObj) }
section
variable {n : Nat} {F : Nat → Int} {ps : List Inp} {W : World}
theorem iren_is {b c s : Nat} (h : iren ps b = some (c, s)) : 4 ≤ b ∧ ∃ p, p ∈ ps ∧ ps[b - 4]? = some p ∧ c = p.a.block ∧ s = p.a.off := by
  unfold iren at h
  split at h
  · rename_i h4
    cases hp : ps[b - 4]? with
    | none => rw [hp] at h; cases h
    | some p =>
      rw [hp] at h
      simp only [Option.map_some, Option.some.injEq, Prod.mk.injEq] at h
      exact ⟨h4, p, List.mem_of_getElem? hp, rfl, h.1.symm, h.2.symm⟩
  · cases h
theorem lone1_size : (lone1 n F ps W).heap.size = ps.length + 4 := by simp [lone1, Sq.h]
theorem lone1_at {b : Nat} (h : 4 ≤ b) : (lone1 n F ps W).heap[b]? = (ps[b - 4]?).map inpObj := by
  obtain ⟨b, rfl⟩ : ∃ k, b = k + 4 := ⟨b - 4, by omega⟩
  simp only [lone1, Sq.h, List.getElem?_toArray, List.getElem?_cons_succ, List.getElem?_map]
  rfl
theorem lone1_cell {j i : Nat} {p : Inp} (h : ps[j]? = some p) : (lone1 n F ps W).cell? ⟨j + 4, i, none⟩ = p.cs[i]? := by
  unfold World.cell?
  rw [show ((⟨j + 4, i, none⟩ : Addr).block) = j + 4 from rfl, lone1_at (by omega), Nat.add_sub_cancel, h]
  rfl
theorem lone1_rel (hp : ∀ p ∈ ps, p.Ok W) : WRel (XI n F ps) (iren ps) (lone1 n F ps W) W := by
  have hn : (XI n F ps).n0 = ps.length + 4 := lone1_size (W := W)
  have hlt : ∀ {b : Nat} {p : Inp}, 4 ≤ b → ps[b - 4]? = some p → b < ps.length + 4 := fun {b p} h4 h => by
    have := (List.getElem?_eq_some_iff.1 h).1
    omega
  refine ⟨fun b x hx => ?_, fun b b' c s s' hb hx => ?_, fun b c s hb hx => ?_, fun b c s hx => ?_, fun b x hb hx i v hv => ?_, fun b hb => rfl, fun b hb => rfl, ?_⟩
  · obtain ⟨c, s⟩ := x
    obtain ⟨h4, p, hm, h1, rfl, rfl⟩ := iren_is hx
    exact ⟨by rw [lone1_size]; exact hlt h4 h1, (hp p hm).lt⟩
  · obtain ⟨h4, p, hm, h1, rfl, rfl⟩ := iren_is hx
    have := hlt h4 h1
    omega
  · obtain ⟨h4, p, hm, h1, rfl, rfl⟩ := iren_is hx
    have := hlt h4 h1
    omega
  · obtain ⟨h4, p, hm, h1, rfl, rfl⟩ := iren_is hx
    refine ⟨p.cs, 2, (0, p.cs.size), by rw [lone1_at h4, h1]; rfl, fun i x hx => ?_⟩
    obtain ⟨h2, h3, h5⟩ := (hp p hm).at_ i x hx
    unfold World.cell? at h5
    rw [show ((⟨p.a.block, p.a.off + i, none⟩ : Addr).block) = p.a.block from rfl] at h5
    cases ho : W.heap[p.a.block]? with
    | none => rw [ho] at h5; cases h5
    | some o =>
      rw [ho] at h5
      cases o with
      | cells cs e fz =>
        refine ⟨h2, cs, e, fz, rfl, fun hb => ?_, x, by simpa using h5, .flat h3⟩
        have := hlt h4 h1
        omega
      | _ => cases h5
  · obtain ⟨c, s⟩ := x
    obtain ⟨h4, p, hm, h1, rfl, rfl⟩ := iren_is hx
    have e1 : (lone1 n F ps W).heap[b]? = some (.cells p.cs 2 (0, p.cs.size)) := by rw [lone1_at h4, h1]; rfl
    have hlt : i < p.cs.size := by
      simp only [World.cell?, e1] at hv
      exact (Array.getElem?_eq_some_iff.1 (by simpa using hv)).1
    simp [World.frozen?, e1, hlt]
  · rw [hn, lone1_size]
    exact Nat.le_refl _
/-- The law's run. -/
theorem law_run1 {PreL : World → Value → Value → Value → Prop} {f0 : FuncId} {args args' : Array Value} (hn : n < 1000000000) (hf0 : LawFn f0) (hok : Sq.mem Sq.lawFns f0 = true) (h2 : 2 ≤ W.heap.size) (hp : ∀ p ∈ ps, p.Ok W) (ha : ARel (Sq.mem Sq.lawFns) (iren ps) args args')
    (hcls : ∀ (i : Nat) x, args[i]? = some x → InCls (XI n F ps) (Sq.cl f0 i) x) (hPre : PreOK (XI n F ps) n F PreL) (hblind : ∀ w U K va vb vc, PreL (tp w U K) va vb vc → PreL w va vb vc)
    (hK : ∀ U : Nat → Question → Nat, Calls Sq.prog f0 args (tp (lone1 n F ps W) U 0) (LawR PreL)) : ResW Try.prog W (fun v => v = .bool true) (solo (G (Frame.enter Try.prog f0 args' .normal) []) W) #[] := by
  have hw := lone1_rel (n := n) (F := F) hp
  have hO : Ords (XI n F ps) 33 := Sq.ords_law (letter :: orc n F :: ps.map inpObj) (iren ps)
  have hH := law_hh (X := XI n F ps) rfl hf0 hK
  have hB : Bar2 (XI n F ps) [] n F (TL f0 PreL) (SE Try.prog (RdX (XI n F ps)) (fun v => v = .bool true)) :=
    bar_law rfl rfl hO hn hf0 hPre hblind (fun r wl wc hw => (two_old hw).2.1) (fun al cl k f caps w h3 ht hor => Sq.go33 hn h3 ht hor) (fun r va vb vc cs cs' wl wc K pre hs hw hH => told33 hf0.ne hs hw hH)
  have key := bar2 hB (Sim.Fr.enter hO hok hf0.ne ha hcls) (.inl ⟨rfl, rfl⟩) .nil hw hH
  have hmine : ∀ c, ¬ Mine (XI n F ps) (iren ps) c := fun c ⟨b, hb, hx⟩ => by
    have h1 := (hw.dom b _ hx).1
    rw [lone1_size] at h1
    have h3 : (XI n F ps).n0 = ps.length + 4 := lone1_size (W := W)
    omega
  refine Wp.ends key (w0 := W) h2 ⟨rfl, fun x h hx hg => ?_, past_nil.mono (Nat.zero_le _), fun op ho => by simp at ho⟩ ⟨fun c hc => ?_, rfl, rfl, rfl, Nat.le_refl _, fun c _ => ⟨hmine c, rfl⟩⟩
  · have : x < 1 := by simpa using (Array.getElem?_eq_some_iff.1 hg).1
    omega
  · rcases hc with hc | ⟨b, s, hb, hx⟩
    · exact absurd hc (hmine c)
    · exact (hw.dom b _ hx).2
/-- A slice that the law is handed. -/
def inpOf (ad : Option Addr) (m : Nat) (g : Nat → Value) : Inp := ⟨ad.getD ⟨0, 0, none⟩, Array.ofFn (n := m) fun i => g i⟩
def inAd (ad : Option Addr) (j : Nat) : Option Addr := ad.map fun _ => ⟨j + 4, 0, none⟩
theorem inpOf_at {ad : Option Addr} {m i : Nat} {g : Nat → Value} (h : i < m) : (inpOf ad m g).cs[i]? = some (g i) := by
  show (Array.ofFn (n := m) fun i => g i)[i]? = _
  simp [h]
theorem inpOf_is {ad : Option Addr} {m i : Nat} {g : Nat → Value} {x : Value} (h : (inpOf ad m g).cs[i]? = some x) : i < m ∧ x = g i := by
  have hi : i < m := by
    have := (Array.getElem?_eq_some_iff.1 h).1
    simpa [inpOf] using this
  rw [inpOf_at hi] at h
  cases h
  exact ⟨hi, rfl⟩
theorem InR.inp {k c : Nat} {ad : Option Addr} {X : Rec} (h : InR k W (.slice ad X.length c) X) (h2 : 2 ≤ W.heap.size) (hl : ∀ a, ad = some a → a.block < W.heap.size ∧ a.spot = none) : (inpOf ad (X.length * k) fun i => .int .i64 (X.f i)).Ok W := by
  obtain ⟨a, cap, hv, hm, ha⟩ := h
  cases hv
  refine ⟨?_, fun i x hx => ?_⟩
  · cases ad with
    | none => show 0 < _; omega
    | some a => exact (hl a rfl).1
  · obtain ⟨hi, rfl⟩ := inpOf_is hx
    have hk : 0 < k := Nat.pos_of_ne_zero fun e => by subst e; simp at hi
    obtain ⟨g, off, rfl, hI⟩ := ha (fun e => by rw [e] at hi; simp at hi)
    refine ⟨.int _ _, rfl, ?_⟩
    have := hI (i / k) ((Nat.div_lt_iff_lt_mul hk).2 hi) (i % k) (Nat.mod_lt _ hk)
    have e : i / k * k + i % k = i := by rw [Nat.mul_comm]; exact Nat.div_add_mod i k
    rw [Nat.add_assoc, e] at this
    exact this
theorem InR.in1 {k c j : Nat} {ad : Option Addr} {X : Rec} (h : InR k W (.slice ad X.length c) X) (hj : ps[j]? = some (inpOf ad (X.length * k) fun i => .int .i64 (X.f i))) : InR k (lone1 n F ps W) (.slice (inAd ad j) X.length c) X := by
  obtain ⟨a, cap, hv, hm, ha⟩ := h
  cases hv
  refine ⟨_, _, rfl, hm, fun hx => ?_⟩
  obtain ⟨g, off, rfl, hI⟩ := ha hx
  refine ⟨j + 4, 0, rfl, fun i hi q hq => ?_⟩
  rw [lone1_cell hj, Nat.zero_add]
  refine inpOf_at ?_
  calc i * k + q < i * k + k := by omega
    _ = (i + 1) * k := by rw [Nat.add_mul, Nat.one_mul]
    _ ≤ X.length * k := Nat.mul_le_mul_right k hi
theorem InI.inp {c : Nat} {ad : Option Addr} {xs : List Int} (h : InI W (.slice ad xs.length c) xs) (h2 : 2 ≤ W.heap.size) (hl : ∀ a, ad = some a → a.block < W.heap.size ∧ a.spot = none) : (inpOf ad xs.length fun i => .int .i64 (xs.getD i 0)).Ok W := by
  obtain ⟨a, cap, hv, ha⟩ := h
  cases hv
  refine ⟨?_, fun i x hx => ?_⟩
  · cases ad with
    | none => show 0 < _; omega
    | some a => exact (hl a rfl).1
  · obtain ⟨hi, rfl⟩ := inpOf_is hx
    obtain ⟨g, off, rfl, hI⟩ := ha (fun e => by rw [e] at hi; simp at hi)
    exact ⟨.int _ _, rfl, hI i hi⟩
theorem InI.in1 {c j : Nat} {ad : Option Addr} {xs : List Int} (h : InI W (.slice ad xs.length c) xs) (hj : ps[j]? = some (inpOf ad xs.length fun i => .int .i64 (xs.getD i 0))) : InI (lone1 n F ps W) (.slice (inAd ad j) xs.length c) xs := by
  obtain ⟨a, cap, hv, ha⟩ := h
  cases hv
  refine ⟨_, _, rfl, fun hx => ?_⟩
  obtain ⟨g, off, rfl, hI⟩ := ha hx
  refine ⟨j + 4, 0, rfl, fun i hi => ?_⟩
  rw [lone1_cell hj, Nat.zero_add]
  exact inpOf_at hi
theorem in1_rel {ok : FuncId → Bool} {ad : Option Addr} {j m l c : Nat} {g : Nat → Value} (hl : ∀ a, ad = some a → a.block < W.heap.size ∧ a.spot = none) (hj : ps[j]? = some (inpOf ad m g)) : VRel ok (iren ps) (.slice (inAd ad j) l c) (.slice ad l c) := by
  cases ad with
  | none => exact .flat rfl
  | some a =>
    obtain ⟨b, off, spot⟩ := a
    have hs : spot = none := (hl _ rfl).2
    subst hs
    have := VRel.slice (ok := ok) (r := iren ps) (a := ⟨j + 4, 0, none⟩) (c := b) (s := off) (l := l) (k := c) (by
      show iren ps (j + 4) = _
      unfold iren
      rw [if_pos (by omega), Nat.add_sub_cancel, hj]
      rfl)
    exact this
theorem lone1_sat : Sat2 n F (lone1 n F ps W) := by
  refine ⟨⟨#[.int .i64 0, .nilFunc], 58, rfl, rfl⟩, fun p hp => ?_, ?_⟩
  · show (Sq.rowF n F)[p]? = _
    exact Sq.rowF_at hp
  · rw [lone1_size]; omega
theorem Sat2.tp {w : World} (h : Sat2 n F w) (U : Nat → Question → Nat) (K : Nat) : Sat2 n F (Sim.tp w U K) := ⟨h.box, h.orc, h.low⟩
theorem slice_at {P : Program} {r : Go.Reach} {base : Nat} {t e : TypeId} (ht : P.underlying t = some (.slice e)) {ad : Option Addr} {len cap : Nat} (h : Value.okWide P W r base t (.slice ad len cap)) : ∀ a, ad = some a → a.block < W.heap.size ∧ a.spot = none := by
  rintro a rfl
  simp only [Value.okWide, ht, Cell.okWide, Cell.ok] at h
  obtain ⟨_, _, _, hs, row, cells, hsh, _⟩ := h
  refine ⟨?_, hs⟩
  unfold World.shape? at hsh
  cases ho : W.heap[a.block]? with
  | none => rw [ho] at hsh; cases hsh
  | some o => exact (Array.getElem?_eq_some_iff.1 ho).1
theorem two_of_shaped (h : W.ShapedOpen Try.prog) : 2 ≤ W.heap.size := by
  obtain ⟨⟨z, t⟩, hx⟩ := Option.isSome_iff_exists.1 (show (((begin Try.prog (fun _ _ => 0) default).world.heap[1]?).bind Obj.row?).isSome = true by kernel_rfl)
  obtain ⟨cs, h1, _⟩ := h.1 1 z t (of_decide_eq_true (by kernel_rfl)) hx
  have := (Array.getElem?_eq_some_iff.1 h1).1
  omega
theorem Kw.below {w w' : World} (h : Kw w w') : Below w.heap.size w w' := ⟨h.os, h.tape, h.output, h.size, h.keep⟩
end
section
variable {H : Type} {enc : TypeId × Value → H}
/-- From a good run from every start to the row, for a call that starts goroutines: the start's shape is handed over. -/
theorem leaving_of_shaped {a : Assume} {C : Checked} {os : Os} {f : FuncId} {fn : Func} {s : ChangeSpec} {conds : List PathCond} {apart fresh handsOn again : Bool}
    (own : ownKnob C.prog.godebug = none) (started : os.Started) (hfn : C.prog.funcs[f]? = some fn)
    (witness : ∃ (w : World) (tape : Tape) (i : Input), w.os = os ∧ (w.forCall tape i).Shaped C.prog ∧ i.vars = [] ∧ Input.okWide C.prog (w.forCall tape i) .any w.heap.size f i ∧
      s.pre6 enc C.prog fn conds apart (w.forCall tape i).memory i.args ∧ a.holds C.prog (Go.lone (Frame.enter C.prog f i.args .normal) [] (w.forCall tape i)))
    (runs : ∀ (W : World) (base : Nat) (args : Array Value) (ds gs : List (DataW H)) (before : List MemPlace), W.ShapedOpen C.prog →
      (∀ (j : Nat) t v, fn.params[j]? = some t → args[j]? = some v → Value.okWide C.prog W .any base t v) →
      DataW.Whole enc C.prog fn.params.toList s.vars apart W args.toList ds gs before →
      ∃ M last o w' t', runNT C.prog (M + 1) (solo (G (Frame.enter C.prog f args .normal) []) W) #[] = (.ended o w', t') ∧ runN C.prog M (solo (G (Frame.enter C.prog f args .normal) []) W) = .next last ∧
        step C.prog last = .ended o w' ∧ Conc.Good C.prog (fun v W' => s.post enc C.prog fn apart fresh handsOn again W args v W') last o w' t') :
    ReturnsInLeavingWide a C os f .any (s.pre6 enc C.prog fn conds apart) (s.post enc C.prog fn apart fresh handsOn again) := by
  refine returnsInLeavingWide_of_good own started witness fun w tape i _ hsh _ hok hpre _ => ?_
  obtain ⟨_, _, _, fn', hfn', _, _, _, _, hval⟩ := hok
  obtain rfl : fn' = fn := Option.some.inj (hfn'.symm.trans hfn)
  obtain ⟨⟨ds, gs, before, hw, _⟩, _⟩ := hpre
  obtain ⟨M, last, o, w', t', h1, h2, h3, h4⟩ := runs (w.forCall tape i) w.heap.size i.args ds gs before hsh hval (DataW.Whole.of_heap (w' := w.forCall tape i) (by rfl) hw)
  exact ⟨M, last, o, w', t', h1, h2, h3, h4.mono fun v hp => ChangeSpec.post_blind hp⟩
end
end Go.Proofs.Ytpigjhagdpeofaa.Sim
