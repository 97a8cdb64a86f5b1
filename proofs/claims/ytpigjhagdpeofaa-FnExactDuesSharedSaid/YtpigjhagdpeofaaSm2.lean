/-
  Two worlds alike up to a renaming of blocks: slices, places, rows, append. No condition.
  Two worlds alike up to a renaming of blocks: literals, append, len, max, min. No condition.
  Two worlds alike up to a renaming of blocks: append. No condition.
  Two worlds alike up to a renaming of blocks: which operations are let by, and all of them together. No condition.
  Two worlds alike up to a renaming of blocks: all operations that are let by, in one law. No condition.
  Two goroutines alike up to a renaming of blocks, one alone, one in company: frames, results, moves of control. No condition.
  Two goroutines alike up to a renaming of blocks, one alone, one in company: a step. No condition.
-/
import Derived.Test.YtpigjhagdpeofaaSm1
import Derived.Conc.Own4
import Derived.Conc.Own5

namespace Go.Proofs.Ytpigjhagdpeofaa.Sim
open Go
set_option linter.unusedVariables false
variable {X : Ctx} {r : Ren}

theorem SR.sliceBound {v v' : Value} (h : VRel X.ok r v v') (y : Nat) (c : BoundsCode) : SR X (fun _ a b => a = b) r (Instr.sliceBound v y c) (Instr.sliceBound v' y c) := by
  unfold Instr.sliceBound
  refine SR.bind (SR.asIntOf h) fun r1 h1 p p' e => ?_
  subst e
  obtain ⟨k, i⟩ := p
  dsimp only
  split
  · exact SR.pure fun _ _ => rfl
  · exact SR.no (never_boundsPanic _ _ _ _ _)
/-- Two operands that may be missing. -/
def ORelV (X : Ctx) (r : Ren) : Option Value → Option Value → Prop
  | none, none => True
  | some v, some v' => VRel X.ok r v v'
  | _, _ => False
theorem SR.sliceBounds (b : Bool) (len cap : Nat) {lo lo' hi hi' mx mx' : Option Value} (h1 : ORelV X r lo lo') (h2 : ORelV X r hi hi') (h3 : ORelV X r mx mx') :
    SR X (fun _ a b => a = b) r (Instr.sliceBounds b len cap lo hi mx) (Instr.sliceBounds b len cap lo' hi' mx') := by
  unfold Instr.sliceBounds
  have L0 := Ren.Le.refl r
  cases mx <;> cases mx' <;> (try exact h3.elim) <;> cases hi <;> cases hi' <;> (try exact h2.elim) <;> cases lo <;> cases lo' <;> (try exact h1.elim) <;> dsimp only
  all_goals
    refine SR.bind (A := fun _ a b => a = b) (by first
      | exact SR.pure fun _ _ => rfl
      | exact (SR.sliceBound (show VRel X.ok r _ _ from h3) _ _).mono L0) fun r1 l1 a b e => ?_
    subst e
    refine SR.bind (A := fun _ a b => a = b) (by first
      | exact SR.pure fun _ _ => rfl
      | exact SR.stuck
      | exact (SR.sliceBound (show VRel X.ok r _ _ from h2) _ _).mono l1) fun r2 l2 a b e => ?_
    subst e
    refine SR.bind (A := fun _ a b => a = b) (by first
      | exact SR.pure fun _ _ => rfl
      | exact (SR.sliceBound (show VRel X.ok r _ _ from h1) _ _).mono (l1.trans l2)) fun r3 l3 a b e => ?_
    subst e
    exact SR.pure fun _ _ => rfl
theorem SR.sliceAt {t e : TypeId} (ht : X.P.underlying t = some (.slice e)) {v v' : Value} (hv : VN X r v v') {lo lo' hi hi' mx mx' : Option Value} (h1 : ORelV X r lo lo') (h2 : ORelV X r hi hi') (h3 : ORelV X r mx mx') :
    SR X (VN X) r (Instr.sliceAt t v lo hi mx) (Instr.sliceAt t v' lo' hi' mx') := by
  have mo : ∀ {r' : Ren}, r.Le r' → ∀ {o o' : Option Value}, ORelV X r o o' → ORelV X r' o o' := by
    intro r' hl o o' h
    cases o <;> cases o' <;> first
      | exact h
      | exact VRel.mono hl h
  unfold Instr.sliceAt
  refine SR.bind (SR.underlying t) fun r1 l1 x x' e => ?_
  obtain ⟨rfl, e1⟩ := e
  rw [ht] at e1; cases e1
  show SR X (VN X) r1 (Instr.slice t v lo hi mx) (Instr.slice t v' lo' hi' mx')
  unfold Instr.slice
  refine SR.bind (SR.underlying t) fun r2 l2 x x' e => ?_
  obtain ⟨rfl, e1⟩ := e
  rw [ht] at e1; cases e1
  have hl := l1.trans l2
  obtain ⟨hv, nv⟩ := hv
  have hv := hv.mono hl
  cases nv with
  | slice a l k =>
    have key : ∃ a', v' = .slice a' l k ∧ ((a = none ∧ a' = none) ∨ ∃ x y, a = some x ∧ a' = some y ∧ PRel r2 x y) := by
      cases a with
      | none => cases hv; exact ⟨none, rfl, .inl ⟨rfl, rfl⟩⟩
      | some x => obtain ⟨y, rfl, hp⟩ := PRel.of_slice hv; exact ⟨some y, rfl, .inr ⟨x, y, rfl, rfl, hp⟩⟩
    obtain ⟨a', rfl, ha⟩ := key
    refine SR.bind (SR.sliceBounds true l k (mo hl h1) (mo hl h2) (mo hl h3)) fun r3 l3 q q' e => ?_
    subst e
    obtain ⟨lo2, hi2, mx2⟩ := q
    refine SR.bind (SR.sizeOf _) fun r4 l4 s s' e => ?_
    subst e
    refine SR.pure fun r5 l5 => ⟨?_, .slice _ _ _⟩
    have l35 := (l3.trans l4).trans l5
    rcases ha with ⟨rfl, rfl⟩ | ⟨x, y, rfl, rfl, hp⟩
    · simp only [Option.map_none, ite_self]
      exact .flat rfl
    · simp only [Option.map_some]
      split
      · exact (hp.mono l35).slice _ _
      · exact ((hp.mono l35).add _).slice _ _
  | _ => exact SR.stuck
theorem SR.indexAt {t e : TypeId} (ht : X.P.underlying t = some (.slice e)) {v v' i i' : Value} (hv : VRel X.ok r v v') (hi : VRel X.ok r i i') :
    SR X (fun r' a b => VRel X.ok r' a b) r (Instr.indexAt t v i) (Instr.indexAt t v' i') := by
  unfold Instr.indexAt
  refine SR.bind (SR.asIntOf hi) fun r1 l1 p p' e => ?_
  subst e
  obtain ⟨k, n⟩ := p
  dsimp only
  refine SR.bind (SR.underlying t) fun r2 l2 x x' e => ?_
  obtain ⟨rfl, e1⟩ := e
  rw [ht] at e1; cases e1
  have hv := hv.mono (l1.trans l2)
  cases v with
  | slice a l c =>
    cases a with
    | none =>
      cases hv
      refine SR.bind (A := fun _ p q => p = (none, l, e) ∧ q = (none, l, e)) (SR.pure fun _ _ => ⟨rfl, rfl⟩) fun r3 l3 q q' hq => ?_
      obtain ⟨rfl, rfl⟩ := hq
      refine SR.bind (SR.underlying t) fun r4 l4 x x' e => ?_
      obtain ⟨rfl, _⟩ := e
      exact SR.no (never_boundsPanic _ _ _ _ _)
    | some a =>
      obtain ⟨a', rfl, hp⟩ := PRel.of_slice hv
      refine SR.bind (A := fun _ p q => p = (some a, l, e) ∧ q = (some a', l, e)) (SR.pure fun _ _ => ⟨rfl, rfl⟩) fun r3 l3 q q' hq => ?_
      obtain ⟨rfl, rfl⟩ := hq
      refine SR.bind (SR.underlying t) fun r4 l4 x x' ex => ?_
      obtain ⟨rfl, _⟩ := ex
      dsimp only
      split
      · refine SR.bind (SR.sizeOf e) fun r5 l5 s s' es => ?_
        subst es
        exact SR.pure fun r6 l6 => ((hp.mono (((l3.trans l4).trans l5).trans l6)).add _).ptr
      · split <;> exact SR.no (Never.ite Never.halt (never_boundsPanic _ _ _ _ _))
  | _ => exact SR.stuck
def fieldOK (P : Program) (t : TypeId) (f : Nat) : Bool := match P.underlying t with
  | some (.struct fs) => match fs[f]? with
    | some fd => match P.info? fd.type with
      | some i => i.size != 0
      | none => false
    | none => false
  | _ => false
theorem sizeOf_of {p : Program} {t : TypeId} {i : TypeInfo} (h : p.info? t = some i) (w : World) : (Go.sizeOf t).run p w = .ok i.size w := by
  simp only [Go.sizeOf, Go.typeInfo, Sem.run_bind, run_program, Result.andThen_ok, h]
  rfl
theorem SR.sizeOf' {t : TypeId} {i : TypeInfo} (h : X.P.info? t = some i) : SR X (fun _ a b => a = i.size ∧ b = i.size) r (Go.sizeOf t) (Go.sizeOf t) := by
  intro r1 hr1 wl wc hw ht hd a wl' hr
  rw [sizeOf_of (p := X.Q) (i := i) h] at hr
  simp only [Result.ok.injEq] at hr
  obtain ⟨rfl, rfl⟩ := hr
  exact ⟨r1, i.size, wc, Ren.Le.refl _, sizeOf_of h wc, hw, ht, hd, ⟨rfl, rfl⟩, Gu.refl _ _, New.refl, fun e he => (by simp at he), (Rt.same fun w => sizeOf_of (p := X.Q) (i := i) h w), Rt.same fun w => sizeOf_of h w⟩
theorem SR.fieldAt {t : TypeId} {f : Nat} (h : fieldOK X.P t f = true) {v v' : Value} (hv : VRel X.ok r v v') : SR X (fun r' a b => VRel X.ok r' a b) r (Instr.fieldAt t v f) (Instr.fieldAt t v' f) := by
  unfold Instr.fieldAt
  refine SR.bind (SR.underlying t) fun r1 l1 x x' e => ?_
  obtain ⟨rfl, e1⟩ := e
  unfold fieldOK at h
  rw [e1] at h
  cases x <;> first
    | (cases h; done)
    | skip
  rename_i fs
  dsimp only at h ⊢
  cases hf : fs[f]? with
  | none => rw [hf] at h; cases h
  | some fd =>
    rw [hf] at h
    dsimp only at h ⊢
    cases hi : X.P.info? fd.type with
    | none => rw [hi] at h; cases h
    | some i =>
      rw [hi] at h
      have hs : ¬ i.size = 0 := by simpa using h
      refine SR.bind (SR.sureAddr (hv.mono l1)) fun r2 l2 a a' ha => ?_
      unfold fieldPlace
      refine SR.bind (A := PRel) ?_ fun r3 l3 a a' ha => SR.pure fun r4 l4 => (ha.mono l4).ptr
      refine SR.bind (SR.sizeOf' hi) fun r3 l3 s s' e => ?_
      obtain ⟨rfl, rfl⟩ := e
      rw [if_neg hs, if_neg hs]
      exact SR.pure fun r4 l4 => ((ha.mono (l3.trans l4))).add _
theorem SR.index {t : TypeId} (ht : X.P.underlying t = some .string) {v v' i i' : Value} (hv : VRel X.ok r v v') (hi : VRel X.ok r i i') : SR X (VN X) r (Instr.index t v i) (Instr.index t v' i') := by
  unfold Instr.index
  refine SR.bind (SR.asIntOf hi) fun r1 l1 p p' e => ?_
  subst e
  obtain ⟨k, n⟩ := p
  dsimp only
  refine SR.bind (SR.underlying t) fun r2 l2 x x' e => ?_
  obtain ⟨rfl, e1⟩ := e
  rw [ht] at e1; cases e1
  cases v <;> first
    | exact SR.stuck
    | skip
  cases hv
  dsimp only
  split
  · exact SR.pure fun _ _ => ⟨.flat rfl, .int _ _⟩
  · exact SR.no (never_boundsPanic _ _ _ _ _)
theorem SR.extract {v v' : Value} (h : VRel X.ok r v v') (i : Nat) : SR X (fun r' a b => VRel X.ok r' a b ∧ (NP v → NP a)) r (Instr.extract v i) (Instr.extract v' i) := by
  cases v <;> first
    | exact SR.stuck
    | skip
  rename_i cs
  cases h with
  | flat h => cases h
  | tuple h1 h2 =>
    rename_i ds
    have ha : ARel X.ok r cs ds := ⟨h1, h2⟩
    unfold Instr.extract
    dsimp only
    cases hx : cs[i]? with
    | none => exact SR.stuck
    | some x =>
      obtain ⟨y, hy, hxy⟩ := ha.get hx
      rw [hy]
      exact SR.pure fun r1 l1 => ⟨hxy.mono l1, fun np => by cases np with | tuple hn => exact hn _ _ hx⟩
end Go.Proofs.Ytpigjhagdpeofaa.Sim

namespace Go.Proofs.Ytpigjhagdpeofaa.Sim
open Go
set_option linter.unusedVariables false
variable {X : Ctx} {r : Ren}

theorem NPs.set {cs : Array Value} (h : NPs cs) {x : Value} (hx : NP x) (i : Nat) : NPs (cs.setIfInBounds i x) := by
  intro j y hy
  rw [Array.getElem?_setIfInBounds] at hy
  split at hy
  · split at hy
    · cases hy; exact hx
    · cases hy
  · exact h j y hy
theorem fold_rel : ∀ (xs ys : List (Value × Nat)) (off : Nat) {cs ds : Array Value}, xs.length = ys.length → (∀ (j : Nat) x y, xs[j]? = some x → ys[j]? = some y → VN X r x.1 y.1 ∧ x.2 = y.2) → ARel X.ok r cs ds → NPs cs →
    ARel X.ok r (xs.foldl (fun cs p => cs.setIfInBounds (off + p.2) p.1) cs) (ys.foldl (fun cs p => cs.setIfInBounds (off + p.2) p.1) ds) ∧ NPs (xs.foldl (fun cs p => cs.setIfInBounds (off + p.2) p.1) cs) := by
  intro xs
  induction xs with
  | nil => intro ys off cs ds hl h ha hn; obtain rfl : ys = [] := List.length_eq_zero_iff.1 hl.symm; exact ⟨ha, hn⟩
  | cons x xs ih =>
    intro ys off cs ds hl h ha hn
    cases ys with
    | nil => simp at hl
    | cons y ys =>
      obtain ⟨⟨h1, h2⟩, h3⟩ := h 0 x y rfl rfl
      simp only [List.foldl_cons]
      rw [← h3]
      exact ih ys off (by simpa using hl) (fun j a b ha hb => h (j + 1) a b (by simpa using ha) (by simpa using hb)) (ha.set h1 _) (hn.set h2 _)
theorem fill_rel (place : Nat → Option (Nat × Nat)) : ∀ (ps qs : List (Nat × Value)) {cs ds : Array Value}, ps.length = qs.length → (∀ (j : Nat) x y, ps[j]? = some x → qs[j]? = some y → x.1 = y.1 ∧ VN X r x.2 y.2) → ARel X.ok r cs ds → NPs cs →
    (Instr.fill place cs ps = none ∧ Instr.fill place ds qs = none) ∨ ∃ c d, Instr.fill place cs ps = some c ∧ Instr.fill place ds qs = some d ∧ ARel X.ok r c d ∧ NPs c := by
  intro ps
  induction ps with
  | nil => intro qs cs ds hl h ha hn; obtain rfl : qs = [] := List.length_eq_zero_iff.1 hl.symm; exact .inr ⟨cs, ds, rfl, rfl, ha, hn⟩
  | cons p ps ih =>
    intro qs cs ds hl h ha hn
    cases qs with
    | nil => simp at hl
    | cons q qs =>
      obtain ⟨h1, h2, h3⟩ := h 0 p q rfl rfl
      obtain ⟨i, v⟩ := p
      obtain ⟨i', v'⟩ := q
      dsimp only at h1 h2 h3
      subst h1
      unfold Instr.fill
      cases hp : place i with
      | none => exact .inl ⟨rfl, rfl⟩
      | some os =>
        obtain ⟨off, size⟩ := os
        dsimp only
        have hc := h2.cells
        rw [← hc.1, ← ha.1]
        split
        · exact .inl ⟨rfl, rfl⟩
        · have hz : ∀ (j : Nat) x y, v.cells.zipIdx.toList[j]? = some x → v'.cells.zipIdx.toList[j]? = some y → VN X r x.1 y.1 ∧ x.2 = y.2 := by
            intro j x y hx hy
            simp only [Array.getElem?_toList, Array.getElem?_zipIdx] at hx hy
            cases hx' : v.cells[j]? with
            | none => rw [hx'] at hx; cases hx
            | some a =>
              obtain ⟨b, hb, hab⟩ := hc.get hx'
              rw [hx'] at hx
              rw [hb] at hy
              cases hx; cases hy
              exact ⟨⟨hab, h3.cells _ _ hx'⟩, rfl⟩
          have := fold_rel v.cells.zipIdx.toList v'.cells.zipIdx.toList off (by simp [hc.1]) hz ha hn
          simp only [Array.foldl_toList] at this
          exact ih qs (by simpa using hl) (fun j a b ha hb => h (j + 1) a b (by simpa using ha) (by simpa using hb)) this.1 this.2
theorem SR.buildSlice {t e : TypeId} (ht : X.P.underlying t = some (.slice e)) (hz : zOK X.P e = true) (len : Nat) {ps qs : Array (Nat × Value)} (hl : ps.size = qs.size) (h : ∀ (j : Nat) x y, ps[j]? = some x → qs[j]? = some y → x.1 = y.1 ∧ VN X r x.2 y.2) :
    SR X (VN X) r (Instr.buildSlice t len ps) (Instr.buildSlice t len qs) := by
  have fin : ∀ {msg : String} {r' : Ren} (hr : r.Le r') {zs zs' : Array Value} (size : Nat), ARel X.ok r' zs zs' → NPs zs → SR X (VN X) r'
      (match Instr.fill (fun i => some (i * size, size)) ((Array.range (len * size)).map (zs[· % zs.size]!)) ps.toList with
        | some cells => do Pure.pure (.slice (some (← Go.newRow e cells)) len len)
        | _ => Go.stuck msg)
      (match Instr.fill (fun i => some (i * size, size)) ((Array.range (len * size)).map (zs'[· % zs'.size]!)) qs.toList with
        | some cells => do Pure.pure (.slice (some (← Go.newRow e cells)) len len)
        | _ => Go.stuck msg) := by
    intro msg r' hr zs zs' size ha hn
    rcases fill_rel (fun i => some (i * size, size)) ps.toList qs.toList (by simpa using hl) (fun j x y hx hy => ⟨(h j x y (by simpa using hx) (by simpa using hy)).1, ((h j x y (by simpa using hx) (by simpa using hy)).2.1).mono hr, (h j x y (by simpa using hx) (by simpa using hy)).2.2⟩) (rep_rel ha hn (len * size)).1 (rep_rel ha hn (len * size)).2 with ⟨h1, h2⟩ | ⟨c, d, h1, h2, h3, h4⟩
    · rw [h1]
      exact SR.stuck
    · rw [h1, h2]
      exact SR.bind (SR.newRow e h3 h4) fun r7 h7 a a' ha => SR.pure fun r8 h8 => ⟨(ha.mono h8).slice _ _, .slice _ _ _⟩
  unfold Instr.buildSlice
  refine SR.bind (SR.underlying t) fun r1 l1 x x' e => ?_
  obtain ⟨rfl, e1⟩ := e
  rw [ht] at e1; cases e1
  refine SR.bind (SR.sizeOf _) fun r2 l2 s s' es => ?_
  subst es
  dsimp only
  split
  · exact SR.no (Never.left Never.halt)
  · split
    · exact SR.bind (A := fun r' z z' => ARel X.ok r' z z' ∧ NPs z) (SR.pure fun _ _ => ⟨ARel.nil, NPs.nil⟩) fun r7 h7 z z' hz => fin ((l1.trans l2).trans h7) s hz.1 hz.2
    · refine SR.bind (SR.zero hz) fun r7 h7 z z' hz => ?_
      exact SR.bind (A := fun r' z z' => ARel X.ok r' z z' ∧ NPs z) (SR.pure fun _ hl => ⟨(hz.1.mono hl).cells, hz.2.cells⟩) fun r8 h8 z z' hz => fin (((l1.trans l2).trans h7).trans h8) s hz.1 hz.2
theorem SR.len {ts : Array TypeId} {t : TypeId} {vs vs' : Array Value} (h : ARel X.ok r vs vs') : SR X (VN X) r (Builtin.len_ ts t vs) (Builtin.len_ ts t vs') := by
  have hg : ∀ {n : Int} {r' : Ren}, SR X (VN X) r' (Pure.pure (goInt n)) (Pure.pure (goInt n)) := fun {n r'} => SR.pure fun _ _ => ⟨.flat rfl, .int _ _⟩
  unfold Builtin.len_
  cases h0 : ts[0]? with
  | none => exact SR.stuck
  | some t0 =>
    cases hx : vs[0]? with
    | none => exact SR.stuck
    | some x =>
      obtain ⟨y, hy, hxy⟩ := h.get hx
      rw [hy]
      dsimp only
      refine SR.bind (SR.underlying t0) fun r1 l1 d d' e => ?_
      obtain ⟨rfl, _⟩ := e
      cases d <;> cases x <;> first
        | exact SR.stuck
        | exact hg
        | (cases hxy <;> first
            | exact SR.stuck
            | exact hg
            | (rename_i hf; cases hf; done))
        | (refine SR.bind (SR.underlying _) fun r2 l2 q q' eq => ?_
           obtain ⟨rfl, _⟩ := eq
           cases q <;> first
             | exact SR.stuck
             | exact hg)
theorem SR.max2 {v v' w w' : Value} (hv : VN X r v v') (hw : VN X r w w') : SR X (VN X) r (Builtin.max2 v w) (Builtin.max2 v' w') := by
  obtain ⟨hv, nv⟩ := hv
  obtain ⟨hw, nw⟩ := hw
  cases nv <;> cases nw <;> first
    | (rw [hv.int_inv, hw.int_inv]; exact SR.pure fun _ _ => ⟨.flat rfl, .int _ _⟩)
    | exact SR.stuck
theorem SR.min2 {v v' w w' : Value} (hv : VN X r v v') (hw : VN X r w w') : SR X (VN X) r (Builtin.min2 v w) (Builtin.min2 v' w') := by
  obtain ⟨hv, nv⟩ := hv
  obtain ⟨hw, nw⟩ := hw
  cases nv <;> cases nw <;> first
    | (rw [hv.int_inv, hw.int_inv]; exact SR.pure fun _ _ => ⟨.flat rfl, .int _ _⟩)
    | exact SR.stuck
theorem SR.fold {f : Value → Value → Sem Value} (hf : ∀ {r : Ren} {v v' w w' : Value}, VN X r v v' → VN X r w w' → SR X (VN X) r (f v w) (f v' w')) : ∀ (xs ys : List Value) {r : Ren} {v v' : Value}, xs.length = ys.length → (∀ (j : Nat) x y, xs[j]? = some x → ys[j]? = some y → VN X r x y) → VN X r v v' → SR X (VN X) r (xs.foldlM f v) (ys.foldlM f v') := by
  intro xs
  induction xs with
  | nil => intro ys r v v' hl h hv; obtain rfl : ys = [] := List.length_eq_zero_iff.1 hl.symm; exact SR.pure fun _ l => ⟨hv.1.mono l, hv.2⟩
  | cons x xs ih =>
    intro ys r v v' hl h hv
    cases ys with
    | nil => simp at hl
    | cons y ys =>
      simp only [List.foldlM_cons]
      exact SR.bind (hf hv (h 0 x y rfl rfl)) fun r1 l1 a b hab => ih ys (by simpa using hl) (fun j p q hp hq => ⟨(h (j + 1) p q (by simpa using hp) (by simpa using hq)).1.mono l1, (h (j + 1) p q (by simpa using hp) (by simpa using hq)).2⟩) hab
theorem SR.max {ts : Array TypeId} {t : TypeId} {vs vs' : Array Value} (h : ARel X.ok r vs vs') (hn : NPs vs) : SR X (VN X) r (Builtin.max_ ts t vs) (Builtin.max_ ts t vs') := by
  have hl : vs.toList.length = vs'.toList.length := by simpa using h.1
  have he : ∀ (j : Nat) x y, vs.toList[j]? = some x → vs'.toList[j]? = some y → VN X r x y := fun j x y hx hy => ⟨h.2 j x y (by simpa using hx) (by simpa using hy), hn j x (by simpa using hx)⟩
  unfold Builtin.max_
  generalize vs.toList = xs at *
  generalize vs'.toList = ys at *
  cases xs with
  | nil => exact SR.stuck
  | cons x xs => cases ys with
    | nil => simp at hl
    | cons y ys => exact SR.fold (fun a b => SR.max2 a b) xs ys (by simpa using hl) (fun j p q hp hq => he (j + 1) p q (by simpa using hp) (by simpa using hq)) (he 0 x y rfl rfl)
theorem SR.min {ts : Array TypeId} {t : TypeId} {vs vs' : Array Value} (h : ARel X.ok r vs vs') (hn : NPs vs) : SR X (VN X) r (Builtin.min_ ts t vs) (Builtin.min_ ts t vs') := by
  have hl : vs.toList.length = vs'.toList.length := by simpa using h.1
  have he : ∀ (j : Nat) x y, vs.toList[j]? = some x → vs'.toList[j]? = some y → VN X r x y := fun j x y hx hy => ⟨h.2 j x y (by simpa using hx) (by simpa using hy), hn j x (by simpa using hx)⟩
  unfold Builtin.min_
  generalize vs.toList = xs at *
  generalize vs'.toList = ys at *
  cases xs with
  | nil => exact SR.stuck
  | cons x xs => cases ys with
    | nil => simp at hl
    | cons y ys => exact SR.fold (fun a b => SR.min2 a b) xs ys (by simpa using hl) (fun j p q hp hq => he (j + 1) p q (by simpa using hp) (by simpa using hq)) (he 0 x y rfl rfl)
end Go.Proofs.Ytpigjhagdpeofaa.Sim

namespace Go.Proofs.Ytpigjhagdpeofaa.Sim
open Go
set_option linter.unusedVariables false
variable {X : Ctx} {r : Ren}

theorem VN.slice_inv {a : Option Addr} {l k : Nat} {v : Value} (h : VRel X.ok r (.slice a l k) v) : ∃ a', v = .slice a' l k ∧ ((a = none ∧ a' = none) ∨ ∃ x y, a = some x ∧ a' = some y ∧ PRel r x y) := by
  cases a with
  | none => cases h; exact ⟨none, rfl, .inl ⟨rfl, rfl⟩⟩
  | some x => obtain ⟨y, rfl, hp⟩ := PRel.of_slice h; exact ⟨some y, rfl, .inr ⟨x, y, rfl, rfl, hp⟩⟩
theorem SR.firstCells (size n : Nat) {v v' : Value} (h : VN X r v v') : SR X (fun r' a b => ARel X.ok r' a b ∧ NPs a) r (Builtin.firstCells size n v) (Builtin.firstCells size n v') := by
  obtain ⟨hv, nv⟩ := h
  cases nv with
  | slice a l k =>
    obtain ⟨a', rfl, ha⟩ := VN.slice_inv hv
    rcases ha with ⟨rfl, rfl⟩ | ⟨x, y, rfl, rfl, hp⟩
    · exact SR.pure fun _ _ => ⟨ARel.nil, NPs.nil⟩
    · exact SR.loadCells hp _
  | _ => exact SR.stuck
theorem SR.lenOf {v v' : Value} (h : VN X r v v') : SR X (fun _ a b => a = b) r (Builtin.lenOf v) (Builtin.lenOf v') := by
  obtain ⟨hv, nv⟩ := h
  cases nv with
  | slice a l k =>
    obtain ⟨a', rfl, ha⟩ := VN.slice_inv hv
    exact SR.pure fun _ _ => rfl
  | _ => exact SR.stuck
theorem zeroCells_rel {zs zs' : Array Value} (h : ARel X.ok r zs zs') (np : NPs zs) (n : Nat) : ARel X.ok r (Builtin.zeroCells zs n) (Builtin.zeroCells zs' n) ∧ NPs (Builtin.zeroCells zs n) := by
  unfold Builtin.zeroCells
  rw [← h.1]
  refine ⟨ARel.map (fun i => (h.getB np _).1) _, NPs.map (fun i => (h.getB np _).2) _⟩
theorem SR.append {t0 t1 t e e1 : TypeId} (h0 : X.P.underlying t0 = some (.slice e)) (h1 : X.P.underlying t1 = some (.slice e1)) (hz : zOK X.P e = true) {v v' w w' : Value} (hv : VN X r v v') (hw : VN X r w w') :
    SR X (VN X) r (Builtin.append_ #[t0, t1] t #[v, w]) (Builtin.append_ #[t0, t1] t #[v', w']) := by
  unfold Builtin.append_
  show SR X (VN X) r (Bind.bind (Go.underlying t0) _) (Bind.bind (Go.underlying t0) _)
  refine SR.bind (SR.underlying t0) fun r1 l1 x x' ex => ?_
  obtain ⟨rfl, ex⟩ := ex
  rw [h0] at ex; cases ex
  obtain ⟨hv, nv⟩ := hv
  cases nv with
  | slice a l k =>
    obtain ⟨a', rfl, ha⟩ := VN.slice_inv hv
    dsimp only
    refine SR.bind (SR.sizeOf e) fun r2 l2 s s' es => ?_
    subst es
    refine SR.bind (SR.underlying t1) fun r3 l3 y y' ey => ?_
    obtain ⟨rfl, ey⟩ := ey
    rw [h1] at ey; cases ey
    refine SR.bind (A := fun _ a b => a = false ∧ b = false) (SR.pure fun _ _ => ⟨rfl, rfl⟩) fun r4 l4 z z' ez => ?_
    obtain ⟨rfl, rfl⟩ := ez
    have L4 := ((l1.trans l2).trans l3).trans l4
    have hw := hw
    have hwm : ∀ {r' : Ren}, r.Le r' → VN X r' w w' := fun l => ⟨hw.1.mono l, hw.2⟩
    have ham : ∀ {r' : Ren}, r4.Le r' → VN X r' (.slice a l k) (.slice a' l k) := fun m => ⟨(VRel.mono (L4.trans m) hv), .slice _ _ _⟩
    have grow : ∀ {r' : Ren} (hl : r4.Le r') (n : Nat), SR X (VN X) r'
        (do let newCap ← Go.choose (.appendCap (l + n) k e)
            let i ← Go.typeInfo e
            Go.askRoom (newCap * i.bytes)
            let old ← Builtin.firstCells s l (.slice a l k)
            let new ← Builtin.firstCells s n w
            let z ← Go.zeroValue e
            let row ← Go.newRow e (old ++ new ++ Builtin.zeroCells z.cells (newCap - (l + n)))
            Pure.pure (.slice (some row) (l + n) newCap))
        (do let newCap ← Go.choose (.appendCap (l + n) k e)
            let i ← Go.typeInfo e
            Go.askRoom (newCap * i.bytes)
            let old ← Builtin.firstCells s l (.slice a' l k)
            let new ← Builtin.firstCells s n w'
            let z ← Go.zeroValue e
            let row ← Go.newRow e (old ++ new ++ Builtin.zeroCells z.cells (newCap - (l + n)))
            Pure.pure (.slice (some row) (l + n) newCap)) := by
      intro r' hl n
      refine SR.bind (SR.choose _) fun r5 l5 c c' ec => ?_
      subst ec
      refine SR.bind (SR.typeInfo e) fun r6 l6 i i' ei => ?_
      subst ei
      refine SR.bind (SR.askRoom _) fun r7 l7 _ _ _ => ?_
      refine SR.bind (SR.firstCells s l (ham (((hl.trans l5).trans l6).trans l7))) fun r8 l8 o o' ho => ?_
      refine SR.bind (SR.firstCells s n (hwm (L4.trans ((((hl.trans l5).trans l6).trans l7).trans l8)))) fun r9 l9 m m' hm => ?_
      refine SR.bind (SR.zero hz) fun r10 l10 z z' hz' => ?_
      have hzz := zeroCells_rel hz'.1.cells hz'.2.cells (c - (l + n))
      exact SR.bind (SR.newRow e (((ho.1.mono (l9.trans l10)).append (hm.1.mono l10)).append hzz.1) ((ho.2.append hm.2).append hzz.2)) fun r11 l11 q q' hq => SR.pure fun r12 l12 => ⟨(hq.mono l12).slice _ _, .slice _ _ _⟩
    simp only [Bool.false_eq_true, if_false, Bool.not_false, if_true, false_or]
    refine SR.bind (SR.lenOf (hwm L4)) fun r5 l5 n n' en => ?_
    subst en
    split
    · refine SR.bind (SR.firstCells s n (hwm (L4.trans l5))) fun r6 l6 m m' hm => ?_
      rcases ha with ⟨rfl, rfl⟩ | ⟨x, y, rfl, rfl, hp⟩
      · exact SR.pure fun _ _ => ⟨.flat rfl, .slice _ _ _⟩
      · have L6 : r1.Le r6 := (((l2.trans l3).trans l4).trans l5).trans l6
        refine SR.bind (SR.storeCells ((hp.mono (l1.trans L6)).add _) (by simpa using hm.1.1) fun j p q hp hq => ⟨hm.1.2 j p q (by simpa using hp) (by simpa using hq), hm.2 j p (by simpa using hp)⟩) fun r7 l7 _ _ _ => ?_
        exact SR.pure fun r8 l8 => ⟨(((hp.mono (l1.trans L6)).mono (l7.trans l8))).slice _ _, .slice _ _ _⟩
    · refine SR.bind (SR.typeInfo e) fun r6 l6 i i' ei => ?_
      subst ei
      split
      · exact SR.no (Never.left (never_runtimePanic _ _))
      · refine SR.bind (SR.typeInfo e) fun r7 l7 i i' ei => ?_
        subst ei
        split
        · refine SR.no (Never.left (Never.right fun b => ?_))
          split
          · exact Never.right fun _ => Never.halt
          · exact Never.halt
        · exact grow ((l5.trans l6).trans l7) n
  | _ => exact SR.stuck
end Go.Proofs.Ytpigjhagdpeofaa.Sim

namespace Go.Proofs.Ytpigjhagdpeofaa.Sim
open Go
set_option linter.unusedVariables false
variable {X : Ctx} {r : Ren}

def ev (T : Array Value) : Operand → Value
  | .tmp t => T.getD t undef
  | .const v => v
  | .global g => .pointer (some ⟨g, 0, none⟩)
  | .func f => .func (.func f) #[] #[]
theorem eval_ev (fr : Frame) : fr.eval = ev fr.tmps := by funext o; cases o <;> rfl

def opCls (X : Ctx) (f : FuncId) : Operand → Nat
  | .tmp t => X.cl f t
  | .const v => if leaf v then 1 else 0
  | _ => 0
def opOK (X : Ctx) : Operand → Bool
  | .tmp _ => true
  | .const v => flat v
  | .func g => X.ok g
  | .global _ => false
def InCls (X : Ctx) : Nat → Value → Prop
  | 0, _ => True
  | 1, v => NP v
  | k + 2, v => v = undef ∨ v = .nilFunc ∨ ∃ f cs fn, v = .func (.func f) #[] cs ∧ X.prm f = k ∧ X.P.funcs[f]? = some fn ∧ fn.nfree = cs.size
theorem InCls.undef (c : Nat) : InCls X c undef := by
  match c with
  | 0 => trivial
  | 1 => exact NP.tuple fun i x h => by simp at h
  | k + 2 => exact .inl rfl
def sub (a b : Nat) : Bool := b == 0 || a == b
theorem InCls.sub {a b : Nat} (h : Sim.sub a b = true) {v : Value} (hv : InCls X a v) : InCls X b v := by
  unfold Sim.sub at h
  simp only [Bool.or_eq_true, beq_iff_eq] at h
  rcases h with rfl | rfl
  · trivial
  · exact hv
def lo (d : Nat) : Bool := d == 0 || d == 1
theorem InCls.lo {d : Nat} (h : Sim.lo d = true) {v : Value} (np : NP v) : InCls X d v := by
  unfold Sim.lo at h
  simp only [Bool.or_eq_true, beq_iff_eq] at h
  rcases h with rfl | rfl
  · trivial
  · exact np
theorem InCls.z {d : Nat} (h : (d == 0) = true) (v : Value) : InCls X d v := by
  obtain rfl : d = 0 := by simpa using h
  trivial

/-- The frames' temporaries. -/
def TRel (X : Ctx) (f : FuncId) (r : Ren) (T T' : Array Value) : Prop := ARel X.ok r T T' ∧ ∀ (i : Nat) x, T[i]? = some x → InCls X (X.cl f i) x
theorem TRel.mono {s : Ren} (hl : r.Le s) {f : FuncId} {T T' : Array Value} (h : TRel X f r T T') : TRel X f s T T' := ⟨h.1.mono hl, h.2⟩
theorem TRel.op {f : FuncId} {T T' : Array Value} (h : TRel X f r T T') {o : Operand} (ho : opOK X o = true) : VRel X.ok r (ev T o) (ev T' o) ∧ InCls X (opCls X f o) (ev T o) := by
  cases o with
  | tmp t =>
    refine ⟨h.1.getD t VRel.undef, ?_⟩
    show InCls X (X.cl f t) (T.getD t Go.undef)
    by_cases hlt : t < T.size
    · have := h.2 t T[t] (Array.getElem?_eq_getElem hlt)
      simpa [Array.getD, hlt] using this
    · have e : T.getD t Go.undef = Go.undef := by simp [Array.getD, hlt]
      rw [e]
      exact InCls.undef _
  | const v =>
    refine ⟨.flat ho, ?_⟩
    show InCls X (if leaf v then 1 else 0) v
    cases hl : leaf v
    · trivial
    · exact (leaf_v (X := X) (r := r) hl).2
  | global g => cases ho
  | func g => exact ⟨.func ho rfl (fun i x y h => by simp at h) rfl (fun i x y h => by simp at h), trivial⟩
theorem TRel.np {f : FuncId} {T T' : Array Value} (h : TRel X f r T T') {o : Operand} (ho : opOK X o = true) (hc : (opCls X f o == 1) = true) : VN X r (ev T o) (ev T' o) := by
  obtain ⟨h1, h2⟩ := h.op ho
  rw [show opCls X f o = 1 by simpa using hc] at h2
  exact ⟨h1, h2⟩

def isSl (P : Program) (t : TypeId) : Bool := match P.underlying t with | some (.slice _) => true | _ => false
def slZ (P : Program) (t : TypeId) : Bool := match P.underlying t with | some (.slice e) => zOK P e | _ => false
def isI (P : Program) (t : TypeId) : Bool := match P.underlying t with | some (.int _) => true | _ => false
def isStr (P : Program) (t : TypeId) : Bool := match P.underlying t with | some .string => true | _ => false
theorem isSl_iff {P : Program} {t : TypeId} (h : isSl P t = true) : ∃ e, P.underlying t = some (.slice e) := by
  unfold isSl at h; split at h
  · exact ⟨_, ‹_›⟩
  · cases h
theorem slZ_iff {P : Program} {t : TypeId} (h : slZ P t = true) : ∃ e, P.underlying t = some (.slice e) ∧ zOK P e = true := by
  unfold slZ at h; split at h
  · exact ⟨_, ‹_›, h⟩
  · cases h
theorem isI_iff {P : Program} {t : TypeId} (h : isI P t = true) : ∃ k, P.underlying t = some (.int k) := by
  unfold isI at h; split at h
  · exact ⟨_, ‹_›⟩
  · cases h
theorem isStr_iff {P : Program} {t : TypeId} (h : isStr P t = true) : P.underlying t = some .string := by
  unfold isStr at h; split at h
  · assumption
  · cases h
def optOK (X : Ctx) : Option Operand → Bool
  | none => true
  | some o => opOK X o
def glob (X : Ctx) : Operand → Bool
  | .global g => decide (g < X.n0) && (match X.h0[g]? with | some (.cells cs _ _) => cs.isEmpty | _ => false)
  | _ => false
def lone (P : Program) (t : TypeId) : Bool := match P.underlying t, P.info? t with
  | some (.struct _), some i | some (.array _ _), some i => i.size != 0
  | some _, _ => true
  | none, _ => false

def argsOK (X : Ctx) (f g : FuncId) : List Operand → Nat → Bool
  | [], _ => true
  | o :: os, i => opOK X o && sub (opCls X f o) (X.cl g i) && argsOK X f g os (i + 1)

def okCall (X : Ctx) (f : FuncId) (d : Nat) (c : Call) : Bool := match c.callee with
  | .builtin .len => c.args.all (opOK X ·) && lo d
  | .builtin .append => match c.args.toList, c.argTypes.toList with
    | [a, b], [t0, t1] => opOK X a && (opCls X f a == 1) && (opOK X b && (opCls X f b == 1)) && slZ X.P t0 && isSl X.P t1 && lo d
    | _, _ => false
  | .builtin .max | .builtin .min => c.args.all (fun o => opOK X o && opCls X f o == 1) && lo d
  | .value (.func g) => (X.ok g && (g != 33 || c.args.size == 3)) && argsOK X f g c.args.toList 0 && lo d
  | .value (.tmp t) => (X.cl f t == c.args.size + 2 && c.args.size != 3) && c.args.all (fun o => opOK X o && opCls X f o == 1) && lo d
  | _ => false
def okOp (X : Ctx) (f : FuncId) (d : Nat) (op : Op) : Bool := match op with
  | .move x | .assign x => opOK X x && sub (opCls X f x) d
  | .pick c a b => opOK X c && (opOK X a && sub (opCls X f a) d) && (opOK X b && sub (opCls X f b) d)
  | .alloc e => zOK X.P e && d == 0
  | .box _ x => opOK X x && opCls X f x == 1 && d == 0
  | .buildSlice t _ ps => slZ X.P t && ps.all (fun p => opOK X p.2 && opCls X f p.2 == 1) && lo d
  | .load t a => (opOK X a || (glob X a && lone X.P t)) && lo d
  | .store _ a x => opOK X a && (opOK X x && opCls X f x == 1)
  | .nilCheck x => opOK X x && d == 0
  | .binOp op t x y _ => (opOK X x && opCls X f x == 1) && (opOK X y && opCls X f y == 1) && eqOK X.P op t && lo d
  | .unOp .not _ x => opOK X x && lo d
  | .convert s t x => isI X.P s && isI X.P t && (opOK X x && opCls X f x == 1) && lo d
  | .makeFunc (.func g) first cap => X.ok g && first.isEmpty && cap.all (opOK X ·) && (d == 0 || (d == X.prm g + 2 && (match X.P.funcs[g]? with | some fn => fn.nfree == cap.size | none => false)))
  | .makeSlice t l c => slZ X.P t && opOK X l && opOK X c && lo d
  | .slice t x l h m => isSl X.P t && (opOK X x && opCls X f x == 1) && optOK X l && optOK X h && optOK X m && lo d
  | .fieldAddr s x i => fieldOK X.P s i && opOK X x && d == 0
  | .indexAddr t x i => isSl X.P t && opOK X x && opOK X i && d == 0
  | .index t x i => isStr X.P t && opOK X x && opOK X i && lo d
  | .extract t _ => opOK X t && ((opCls X f t == 1 && lo d) || d == 0)
  | .panic _ => true
  | .call c => okCall X f d c
  | _ => false

/-- What an operation comes to. -/
inductive NxRel (X : Ctx) (d : Nat) (r : Ren) : Next → Next → Prop
  | value {v v' : Value} (h : VRel X.ok r v v') (c : InCls X d v) : NxRel X d r (.value v) (.value v')
  | skip : NxRel X d r .skip .skip
  | enter {g : FuncId} {vs vs' : Array Value} (hok : X.ok g = true) (ha : ARel X.ok r vs vs') (hc : ∀ (i : Nat) x, vs[i]? = some x → InCls X (X.cl g i) x) (hd : lo d = true) (hz : g = 33 → vs.size = 3) : NxRel X d r (.enter g vs) (.enter g vs')

/-- What is asked of the functions that may be called. -/
structure Good (X : Ctx) : Prop where
  sp : X.prm 33 = 3
  fns : ∀ g, X.ok g = true → ∃ fl fc, X.F[g]? = some fl ∧ X.P.funcs[g]? = some fc ∧ fl.name ≠ "runtime.NumGoroutine" ∧ fc.name ≠ "runtime.NumGoroutine" ∧ fl.body.isSome = true ∧ fc.body.isSome = true ∧
    (∀ i, i < X.prm g → lo (X.cl g i) = true) ∧ (∀ i, X.prm g ≤ i → i < X.prm g + fc.nfree → X.cl g i = 0)
theorem SR.callFunc (hG : Good X) {g : FuncId} (hok : X.ok g = true) {vs vs' : Array Value} (ha : ARel X.ok r vs vs') (hc : ∀ (i : Nat) x, vs[i]? = some x → InCls X (X.cl g i) x) {d : Nat} (hd : lo d = true) (hz : g = 33 → vs.size = 3) :
    SR X (NxRel X d) r (callFunc g vs) (callFunc g vs') := by
  obtain ⟨fl, fc, h1, h2, h3, h4, h5, h6, _⟩ := hG.fns g hok
  have e1 : ∀ w, (Go.callFunc g vs).run X.Q w = .ok (.enter g vs) w := by
    intro w
    have hq : X.Q.funcs[g]? = some fl := h1
    have hb : fl.body.isNone = false := by cases hh : fl.body <;> simp_all
    simp only [Go.callFunc, Sem.run_bind, run_program, Result.andThen_ok, hq]
    simp [h3, hb]
  have e2 : ∀ w, (Go.callFunc g vs').run X.P w = .ok (.enter g vs') w := by
    intro w
    have hb : fc.body.isNone = false := by cases hh : fc.body <;> simp_all
    simp only [Go.callFunc, Sem.run_bind, run_program, Result.andThen_ok, h2]
    simp [h4, hb]
  have e3 : ∀ w, (Go.callFunc g vs').events X.P w #[] = #[] := by
    intro w
    have hb : fc.body.isNone = false := by cases hh : fc.body <;> simp_all
    simp only [Go.callFunc, Sem.events_bind, run_program, Result.evThen_ok, h2]
    simp [h4, hb]
  intro r1 hr1 wl wc hw ht hdr a wl' hr
  rw [e1] at hr
  simp only [Result.ok.injEq] at hr
  obtain ⟨rfl, rfl⟩ := hr
  exact ⟨r1, .enter g vs', wc, Ren.Le.refl _, e2 wc, hw, ht, hdr, .enter hok (ha.mono hr1) hc hd hz, Gu.refl _ _, New.refl, fun e he => (by rw [e3] at he; simp at he), Rt.same e1, Rt.same e2⟩
end Go.Proofs.Ytpigjhagdpeofaa.Sim

namespace Go.Proofs.Ytpigjhagdpeofaa.Sim
open Go
set_option linter.unusedVariables false
variable {X : Ctx} {r : Ren}

theorem SR.val {d : Nat} {s t : Sem Value} {A : Ren → Value → Value → Prop} (h : SR X A r s t) (k : ∀ r', r.Le r' → ∀ a b, A r' a b → VRel X.ok r' a b ∧ InCls X d a) :
    SR X (NxRel X d) r (do Pure.pure (Next.value (← s))) (do Pure.pure (Next.value (← t))) :=
  SR.bind h fun r1 l1 a b hab => SR.pure fun r2 l2 => .value ((k _ l1 a b hab).1.mono l2) (k _ l1 a b hab).2
theorem SR.valN {d : Nat} {s t : Sem Value} (h : SR X (VN X) r s t) (hd : lo d = true) : SR X (NxRel X d) r (do Pure.pure (Next.value (← s))) (do Pure.pure (Next.value (← t))) :=
  SR.val h fun _ _ a b hab => ⟨hab.1, InCls.lo hd hab.2⟩
theorem SR.valZ {d : Nat} {s t : Sem Value} (h : SR X (fun r' a b => VRel X.ok r' a b) r s t) (hd : (d == 0) = true) : SR X (NxRel X d) r (do Pure.pure (Next.value (← s))) (do Pure.pure (Next.value (← t))) :=
  SR.val h fun _ _ a b hab => ⟨hab, InCls.z hd _⟩
theorem map_list {f : FuncId} {T T' : Array Value} (h : TRel X f r T T') {os : Array Operand} (ho : os.all (opOK X ·) = true) : ARel X.ok r (os.map (ev T)) (os.map (ev T')) := by
  refine ⟨by simp, fun i x y hx hy => ?_⟩
  rw [Array.getElem?_map] at hx hy
  cases hi : os[i]? with
  | none => rw [hi] at hx; cases hx
  | some o =>
    rw [hi] at hx hy
    cases hx; cases hy
    exact (h.op (Array.all_eq_true_iff_forall_mem.1 ho o (Array.mem_of_getElem? hi))).1
theorem map_np {f : FuncId} {T T' : Array Value} (h : TRel X f r T T') {os : Array Operand} (ho : os.all (fun o => opOK X o && opCls X f o == 1) = true) : ARel X.ok r (os.map (ev T)) (os.map (ev T')) ∧ NPs (os.map (ev T)) := by
  have h1 : ∀ o ∈ os, opOK X o = true ∧ (opCls X f o == 1) = true := fun o hm => by
    have := Array.all_eq_true_iff_forall_mem.1 ho o hm
    simpa using this
  refine ⟨map_list h (Array.all_eq_true_iff_forall_mem.2 fun o hm => (h1 o hm).1), fun i x hx => ?_⟩
  rw [Array.getElem?_map] at hx
  cases hi : os[i]? with
  | none => rw [hi] at hx; cases hx
  | some o =>
    rw [hi] at hx
    cases hx
    have := h1 o (Array.mem_of_getElem? hi)
    exact (h.np this.1 this.2).2
theorem args_cls {f g : FuncId} {T T' : Array Value} (h : TRel X f r T T') : ∀ (os : List Operand) (n : Nat), argsOK X f g os n = true → (∀ o ∈ os, opOK X o = true) ∧ ∀ (i : Nat) o, os[i]? = some o → InCls X (X.cl g (n + i)) (ev T o) := by
  intro os
  induction os with
  | nil => intro n _; exact ⟨fun o h => by simp at h, fun i o h => by simp at h⟩
  | cons o os ih =>
    intro n ha
    simp only [argsOK, Bool.and_eq_true] at ha
    obtain ⟨⟨h1, h2⟩, h3⟩ := ha
    obtain ⟨i1, i2⟩ := ih _ h3
    refine ⟨fun p hp => ?_, fun i p hp => ?_⟩
    · rcases List.mem_cons.1 hp with rfl | hp
      · exact h1
      · exact i1 _ hp
    · cases i with
      | zero =>
        cases hp
        exact ((h.op h1).2).sub h2
      | succ i =>
        have := i2 i p (by simpa using hp)
        rwa [show n + 1 + i = n + (i + 1) by omega] at this
theorem glob_never {g : Nat} (hg : glob X (.global g) = true) {t : TypeId} (hs : lone X.P t = true) : SR X (VN X) r (Instr.loadAt t (.pointer (some ⟨g, 0, none⟩))) (Instr.loadAt t (.pointer (some ⟨g, 0, none⟩))) := by
  intro r1 hr1 wl wc hw ht hd a wl' hr
  exfalso
  obtain ⟨e, fz, hge⟩ : ∃ e fz, wl.heap[g]? = some (.cells #[] e fz) := by
    unfold glob at hg
    simp only [Bool.and_eq_true, decide_eq_true_eq] at hg
    rw [hw.old g hg.1]
    cases ho : X.h0[g]? with
    | none => rw [ho] at hg; exact absurd hg.2 (by simp)
    | some o =>
      rw [ho] at hg
      cases o with
      | cells cs e fz =>
        have : cs = #[] := by simpa using hg.2
        subst this
        exact ⟨e, fz, rfl⟩
      | _ => exact absurd hg.2 (by simp)
  have hload : ∀ i, ∃ y, (Go.load ((⟨g, 0, none⟩ : Addr).add i)).run X.Q wl = .halt y wl := by
    intro i
    have hb : ((⟨g, 0, none⟩ : Addr).add i).block = g := by unfold Addr.add; split <;> rfl
    have hc : wl.cell? ((⟨g, 0, none⟩ : Addr).add i) = none := by
      unfold World.cell?
      rw [hb, hge]
      simp
    rw [run_load, hc]
    obtain ⟨x, hx⟩ := far_never (P := X.Q) (w := wl) (a := (⟨g, 0, none⟩ : Addr).add i) (by rw [hb]; exact hge) (Mode.plain == .atomic)
    simp only [hx]
    exact ⟨_, rfl⟩
  have hl0 : ∃ y, (Go.load (⟨g, 0, none⟩ : Addr)).run X.Q wl = .halt y wl := hload 0
  unfold Instr.loadAt at hr
  rw [Sem.run_bind] at hr
  change ((Go.loadVar t ⟨g, 0, none⟩).run X.Q wl) = _ at hr
  unfold Go.loadVar at hr
  unfold lone at hs
  have hq : X.Q.underlying t = X.P.underlying t := rfl
  cases hu : X.P.underlying t with
  | none => rw [hu] at hs; cases hs
  | some d =>
    have hia : ∃ b, (Go.isAgg t).run X.Q wl = .ok b wl ∧ (b = true → ∃ i, X.P.info? t = some i ∧ i.size ≠ 0) := by
      unfold Go.isAgg
      rw [Sem.run_bind, run_und (p := X.Q) (hq.trans hu), Result.andThen_ok]
      rw [hu] at hs
      cases d <;> first
        | exact ⟨false, rfl, fun h => by cases h⟩
        | (refine ⟨true, rfl, fun _ => ?_⟩
           cases hi : X.P.info? t with
           | none =>
             have hn : X.P.underlying t = none := by unfold Program.underlying; rw [hi]
             rw [hn] at hu; cases hu
           | some i => rw [hi] at hs; exact ⟨i, rfl, by simpa using hs⟩)
    obtain ⟨b, hb, hbi⟩ := hia
    rw [Sem.run_bind, hb, Result.andThen_ok] at hr
    cases b
    · obtain ⟨y, hy⟩ := hl0
      change (Go.load (⟨g, 0, none⟩ : Addr)).run X.Q wl = _ at hr
      rw [hy] at hr
      cases hr
    · obtain ⟨i, hi, hne⟩ := hbi rfl
      change (Go.sizeOf t >>= fun n => Go.loadCells ⟨g, 0, none⟩ n >>= fun cs => Pure.pure (Value.agg cs)).run X.Q wl = _ at hr
      rw [Sem.run_bind, sizeOf_of (p := X.Q) (i := i) hi, Result.andThen_ok, Sem.run_bind] at hr
      obtain ⟨m, hm⟩ : ∃ m, i.size = m + 1 := ⟨i.size - 1, by omega⟩
      rw [hm] at hr
      unfold Go.loadCells Go.loadCellsFrom at hr
      rw [Sem.run_bind] at hr
      obtain ⟨y, hy⟩ := hload 0
      rw [hy] at hr
      simp at hr

theorem SR.call (hG : Good X) {f : FuncId} {T T' : Array Value} (h : TRel X f r T T') {c : Call} {ty : TypeId} {d : Nat} (ho : okCall X f d c = true) :
    SR X (NxRel X d) r (do let q ← resolve (ev T) c ty; invoke q.target q.args) (do let q ← resolve (ev T') c ty; invoke q.target q.args) := by
  obtain ⟨callee, args, argTypes⟩ := c
  unfold okCall at ho
  cases callee with
  | invoke rc m => cases ho
  | builtin b =>
    show SR X (NxRel X d) r (builtin b argTypes ty _ (args.map (ev T))) (builtin b argTypes ty _ (args.map (ev T')))
    cases b <;> first
      | (cases ho; done)
      | skip
    · -- append
      dsimp only at ho
      split at ho
      · rename_i a b t0 t1 ea et
        simp only [Bool.and_eq_true] at ho
        obtain ⟨⟨⟨⟨⟨h1, h2⟩, h3, h4⟩, h5⟩, h6⟩, h7⟩ := ho
        obtain ⟨e, he, hz⟩ := slZ_iff h5
        obtain ⟨e1, he1⟩ := isSl_iff h6
        have ea' : args = #[a, b] := by cases args; simpa using ea
        have et' : argTypes = #[t0, t1] := by cases argTypes; simpa using et
        subst ea'; subst et'
        have em : ∀ U, (#[a, b] : Array Operand).map (ev U) = #[ev U a, ev U b] := fun _ => by simp
        rw [em, em]
        exact SR.valN (SR.append he he1 hz (h.np h1 h2) (h.np h3 h4)) h7
      · cases ho
    · -- len
      simp only [Bool.and_eq_true] at ho
      exact SR.valN (SR.len (map_list h ho.1)) ho.2
    · simp only [Bool.and_eq_true] at ho
      exact SR.valN (SR.max (map_np h ho.1).1 (map_np h ho.1).2) ho.2
    · simp only [Bool.and_eq_true] at ho
      exact SR.valN (SR.min (map_np h ho.1).1 (map_np h ho.1).2) ho.2
  | value o =>
    cases o with
    | const v => cases ho
    | global g => cases ho
    | func g =>
      simp only [Bool.and_eq_true] at ho
      obtain ⟨⟨⟨h1, h1z⟩, h2⟩, h3⟩ := ho
      obtain ⟨a1, a2⟩ := args_cls h args.toList 0 h2
      have e : ∀ (U : Array Value) (p : Program) , (do let q ← resolve (ev U) ⟨.value (.func g), args, argTypes⟩ ty; invoke q.target q.args) = Go.callFunc g (args.map (ev U)) := by
        intro U p
        show (Go.callFunc g ((#[] ++ args.map (ev U)) ++ #[])) = _
        simp
      rw [e T X.P, e T' X.P]
      refine SR.callFunc hG h1 (map_list h (Array.all_eq_true_iff_forall_mem.2 fun o hm => a1 o (by simpa using hm))) (fun i x hx => ?_) h3 (fun e => by subst e; simpa using h1z)
      rw [Array.getElem?_map] at hx
      cases hi : args[i]? with
      | none => rw [hi] at hx; cases hx
      | some o =>
        rw [hi] at hx
        cases hx
        have := a2 i o (by simpa using hi)
        simpa using this
    | tmp t =>
      simp only [Bool.and_eq_true, beq_iff_eq] at ho
      obtain ⟨⟨⟨h1, h1z⟩, h2⟩, h3⟩ := ho
      have hm := map_np h (os := args) (by simpa using h2)
      obtain ⟨hv, hc⟩ := h.op (o := .tmp t) rfl
      rw [show opCls X f (.tmp t) = args.size + 2 from h1] at hc
      rcases hc with hc | hc | ⟨g, cs, fn, hc, hp, hfn, hn⟩
      · refine SR.no ?_
        show Never X.Q (Deferred.ofValue (ev T (.tmp t)) _ >>= _)
        rw [hc]
        exact Never.halt
      · refine SR.no ?_
        show Never X.Q (Deferred.ofValue (ev T (.tmp t)) _ >>= _)
        rw [hc]
        exact (show Never X.Q (runtimePanic .nilDeref : Sem Next) from never_runtimePanic _ _)
      · rw [hc] at hv
        obtain ⟨ds, hv', hok, hcd⟩ : ∃ ds, ev T' (.tmp t) = .func (.func g) #[] ds ∧ X.ok g = true ∧ ARel X.ok r cs ds := by
          generalize ev T' (.tmp t) = v' at hv
          cases hv with
          | flat h => cases h
          | func hf h1 h2 h3 h4 =>
            rename_i gs ds
            have : gs = #[] := by
              have : gs.size = 0 := by simpa using h1.symm
              exact Array.eq_empty_of_size_eq_zero this
            subst this
            exact ⟨ds, rfl, hf, h3, h4⟩
        have e : ∀ (U cs : Array Value), ev U (.tmp t) = .func (.func g) #[] cs → (do let q ← resolve (ev U) ⟨.value (.tmp t), args, argTypes⟩ ty; invoke q.target q.args) = Go.callFunc g (args.map (ev U) ++ cs) := by
          intro U cs hU
          show (Deferred.ofValue (ev U (.tmp t)) (args.map (ev U)) >>= fun q => invoke q.target q.args) = _
          rw [hU]
          show Go.callFunc g ((#[] ++ args.map (ev U)) ++ cs) = _
          simp
        rw [e T cs hc, e T' ds hv']
        obtain ⟨fl, fc, _, q2, _, _, _, _, q7, q8⟩ := hG.fns g hok
        rw [hfn] at q2; cases q2
        refine SR.callFunc hG hok (hm.1.append hcd) (fun i x hx => ?_) h3 (fun e => by
          subst e
          have := hG.sp
          rw [hp] at this
          simp [this] at h1z)
        rw [Array.getElem?_append] at hx
        simp only [Array.size_map] at hx
        split at hx
        · rename_i hlt
          exact InCls.lo (q7 i (by omega)) (hm.2 i x (by simpa using hx))
        · rename_i hge
          have hlt := (Array.getElem?_eq_some_iff.1 hx).1
          rw [q8 i (by omega) (by omega)]
          trivial

set_option maxHeartbeats 1000000 in
theorem SR.op (hG : Good X) {f : FuncId} {T T' : Array Value} (h : TRel X f r T T') {o : Oper} {d : Nat} (ho : okOp X f d o.op = true) :
    SR X (NxRel X d) r (execOp (ev T) o) (execOp (ev T') o) := by
  obtain ⟨dst, op, ty, pos, after, guard⟩ := o
  dsimp only at ho
  have opt : ∀ {q : Option Operand}, optOK X q = true → ORelV X r (q.map (ev T)) (q.map (ev T')) := by
    intro q hq
    cases q with
    | none => trivial
    | some o => exact (h.op hq).1
  unfold okOp at ho
  cases op <;> first
    | (cases ho; done)
    | skip
  case move x =>
    simp only [Bool.and_eq_true] at ho
    obtain ⟨h1, h2⟩ := h.op ho.1
    exact SR.pure fun r1 l1 => .value (h1.mono l1) (h2.sub ho.2)
  case assign x =>
    simp only [Bool.and_eq_true] at ho
    obtain ⟨h1, h2⟩ := h.op ho.1
    exact SR.pure fun r1 l1 => .value (h1.mono l1) (h2.sub ho.2)
  case pick c a b =>
    simp only [Bool.and_eq_true] at ho
    obtain ⟨⟨hc, ha, ha2⟩, hb, hb2⟩ := ho
    refine SR.bind (SR.asBool (h.op hc).1) fun r1 l1 x y e => ?_
    subst e
    cases x
    · obtain ⟨h1, h2⟩ := h.op hb
      exact SR.pure fun r2 l2 => .value (h1.mono (l1.trans l2)) (h2.sub hb2)
    · obtain ⟨h1, h2⟩ := h.op ha
      exact SR.pure fun r2 l2 => .value (h1.mono (l1.trans l2)) (h2.sub ha2)
  case alloc e =>
    simp only [Bool.and_eq_true] at ho
    exact SR.valZ (SR.alloc ho.1) ho.2
  case box e x =>
    simp only [Bool.and_eq_true] at ho
    have hx := h.np ho.1.1 ho.1.2
    exact SR.valZ (SR.box hx.1 hx.2) ho.2
  case buildSlice t len ps =>
    simp only [Bool.and_eq_true] at ho
    obtain ⟨⟨h1, h2⟩, h3⟩ := ho
    obtain ⟨e, he, hz⟩ := slZ_iff h1
    refine SR.valN (SR.buildSlice he hz len (by simp) fun j x y hx hy => ?_) h3
    rw [Array.getElem?_map] at hx hy
    cases hi : ps[j]? with
    | none => rw [hi] at hx; cases hx
    | some p =>
      rw [hi] at hx hy
      cases hx; cases hy
      have := Array.all_eq_true_iff_forall_mem.1 h2 p (Array.mem_of_getElem? hi)
      simp only [Bool.and_eq_true] at this
      exact ⟨rfl, h.np this.1 this.2⟩
  case load t a =>
    simp only [Bool.and_eq_true, Bool.or_eq_true] at ho
    obtain ⟨h1 | ⟨h1, h2⟩, h3⟩ := ho
    · exact SR.valN (SR.loadAt t (h.op h1).1) h3
    · cases a <;> first
        | (cases h1; done)
        | skip
      exact SR.valN (glob_never h1 h2) h3
  case store t a x =>
    simp only [Bool.and_eq_true] at ho
    have hx := h.np ho.2.1 ho.2.2
    exact SR.bind (SR.storeAt t (h.op ho.1).1 hx.1 hx.2) fun _ _ _ _ _ => SR.pure fun _ _ => .skip
  case nilCheck x =>
    simp only [Bool.and_eq_true] at ho
    have hx := (h.op ho.1).1
    have e : ∀ (U : Array Value) v, ev U x = v → execOp (ev U) ⟨dst, .nilCheck x, ty, pos, after, guard⟩ = execOp (fun _ => v) ⟨dst, .nilCheck x, ty, pos, after, guard⟩ := by
      intro U v hv
      subst hv
      rfl
    rw [e T _ rfl, e T' _ rfl]
    generalize ev T x = v at *
    generalize ev T' x = v' at *
    have hv := hx
    cases hx with
    | flat hf =>
      match v, hf with
      | .pointer none, _ => exact SR.no (show Never X.Q (runtimePanic .nilDeref : Sem Next) from never_runtimePanic _ _)
      | .nilIface, _ => exact SR.no (show Never X.Q (runtimePanic .nilDeref : Sem Next) from never_runtimePanic _ _)
      | .nilFunc, _ => exact SR.no (show Never X.Q (runtimePanic .nilDeref : Sem Next) from never_runtimePanic _ _)
      | .bool b, _ => exact SR.pure fun _ l => .value (.flat rfl) (InCls.z ho.2 _)
      | .int k n, _ => exact SR.pure fun _ l => .value (.flat rfl) (InCls.z ho.2 _)
      | .float k n, _ => exact SR.pure fun _ l => .value (.flat rfl) (InCls.z ho.2 _)
      | .complex k a b, _ => exact SR.pure fun _ l => .value (.flat rfl) (InCls.z ho.2 _)
      | .string s, _ => exact SR.pure fun _ l => .value (.flat rfl) (InCls.z ho.2 _)
      | .slice none l k, _ => exact SR.pure fun _ l => .value (.flat rfl) (InCls.z ho.2 _)
    | _ => exact SR.pure fun _ l => .value (hv.mono l) (InCls.z ho.2 _)
  case binOp op t x y yt =>
    simp only [Bool.and_eq_true] at ho
    obtain ⟨⟨⟨hx, hy⟩, h3⟩, h4⟩ := ho
    exact SR.valN (SR.binOp h3 (h.np hx.1 hx.2) (h.np hy.1 hy.2)) h4
  case unOp op t x =>
    cases op <;> first
      | (cases ho; done)
      | skip
    simp only [Bool.and_eq_true] at ho
    exact SR.valN (SR.not (h.op ho.1).1) ho.2
  case convert s t x =>
    simp only [Bool.and_eq_true] at ho
    obtain ⟨⟨⟨h1, h2⟩, h3⟩, h4⟩ := ho
    obtain ⟨k, hk⟩ := isI_iff h1
    obtain ⟨k', hk'⟩ := isI_iff h2
    exact SR.valN (SR.convert hk hk' (h.np h3.1 h3.2)) h4
  case makeFunc fn first cap =>
    cases fn <;> first
      | (cases ho; done)
      | skip
    rename_i g
    simp only [Bool.and_eq_true, Bool.or_eq_true] at ho
    obtain ⟨⟨⟨h1, h2⟩, h3⟩, h4⟩ := ho
    have hf : first = #[] := by simpa using h2
    subst hf
    have hm := map_list h h3
    refine SR.pure fun r1 l1 => .value (.func h1 (by simp) (fun i x y hx => by simp at hx) hm.1 fun i x y a b => (hm.2 i x y a b).mono l1) ?_
    rcases h4 with h4 | ⟨h4, h5⟩
    · exact InCls.z h4 _
    · obtain rfl : d = X.prm g + 2 := by simpa using h4
      cases hfn : X.P.funcs[g]? with
      | none => rw [hfn] at h5; cases h5
      | some fn =>
        rw [hfn] at h5
        exact .inr (.inr ⟨g, cap.map (ev T), fn, by simp, rfl, hfn, by simpa using h5⟩)
  case makeSlice t l c =>
    simp only [Bool.and_eq_true] at ho
    obtain ⟨⟨⟨h1, h2⟩, h3⟩, h4⟩ := ho
    obtain ⟨e, he, hz⟩ := slZ_iff h1
    exact SR.valN (SR.makeSlice he hz (h.op h2).1 (h.op h3).1) h4
  case slice t x lo hi mx =>
    simp only [Bool.and_eq_true] at ho
    obtain ⟨⟨⟨⟨⟨h1, h2⟩, h3⟩, h4⟩, h5⟩, h6⟩ := ho
    obtain ⟨e, he⟩ := isSl_iff h1
    exact SR.valN (SR.sliceAt he (h.np h2.1 h2.2) (opt h3) (opt h4) (opt h5)) h6
  case fieldAddr s x i =>
    simp only [Bool.and_eq_true] at ho
    exact SR.valZ (SR.fieldAt ho.1.1 (h.op ho.1.2).1) ho.2
  case indexAddr t x i =>
    simp only [Bool.and_eq_true] at ho
    obtain ⟨⟨⟨h1, h2⟩, h3⟩, h4⟩ := ho
    obtain ⟨e, he⟩ := isSl_iff h1
    exact SR.valZ (SR.indexAt he (h.op h2).1 (h.op h3).1) h4
  case index t x i =>
    simp only [Bool.and_eq_true] at ho
    obtain ⟨⟨⟨h1, h2⟩, h3⟩, h4⟩ := ho
    exact SR.valN (SR.index (isStr_iff h1) (h.op h2).1 (h.op h3).1) h4
  case extract t i =>
    simp only [Bool.and_eq_true, Bool.or_eq_true] at ho
    obtain ⟨h1, h2⟩ := ho
    obtain ⟨hv, hc⟩ := h.op h1
    refine SR.val (SR.extract hv i) fun r1 l1 a b hab => ⟨hab.1, ?_⟩
    rcases h2 with ⟨h2, h3⟩ | h2
    · rw [show opCls X f t = 1 by simpa using h2] at hc
      exact InCls.lo h3 (hab.2 hc)
    · exact InCls.z h2 _
  case call c => exact SR.call hG h ho
  case panic x => exact SR.no (Never.left (never_panic _ _))
end Go.Proofs.Ytpigjhagdpeofaa.Sim

namespace Go.Proofs.Ytpigjhagdpeofaa.Sim
open Go Go.Conc
set_option linter.unusedVariables false
variable {X : Ctx} {r : Ren}

def dcl (X : Ctx) (f : FuncId) (o : Oper) : Nat := match o.dst with | some t => X.cl f t | none => 0
def okOps (X : Ctx) (f : FuncId) (ops : Array Oper) : Bool := ops.all (fun o => okOp X f (dcl X f o) o.op)
def okCode (X : Ctx) (f : FuncId) : Code → Bool
  | .skip | .ret | .exit _ => true
  | .region _ ops _ => okOps X f ops
  | .seq a b => okCode X f a && okCode X f b
  | .cond c a b => opOK X c && okCode X f a && okCode X f b
  | .block _ c | .loop c => okCode X f c
  | _ => false
def okItem (X : Ctx) (f : FuncId) : Item → Bool
  | .code c | .inLoop c => okCode X f c
  | .inBlock _ => true
  | .inRegion ops _ => okOps X f ops
  | _ => false
def resOK (X : Ctx) (f : FuncId) (fn : Func) : Bool := fn.results.all fun | .tmp t => X.cl f t == 1 | .cell _ _ => true
structure Ord (X : Ctx) (f : FuncId) (fn : Func) : Prop where
  lone : X.F[f]? = some fn
  comp : X.P.funcs[f]? = some fn
  res : resOK X f fn = true

structure Fr (X : Ctx) (r : Ren) (fr fr' : Frame) : Prop where
  fn : fr'.fn = fr.fn
  ord : ∃ fn, Ord X fr.fn fn
  todo : fr'.todo = fr.todo
  items : fr.todo.all (okItem X fr.fn) = true
  defers : fr.defers = []
  defers' : fr'.defers = []
  kind : fr.kind = .normal
  kind' : fr'.kind = .normal
  round : fr.roundOf = none
  round' : fr'.roundOf = none
  tm : TRel X fr.fn r fr.tmps fr'.tmps
theorem Fr.mono {s : Ren} (hl : r.Le s) {fr fr' : Frame} (h : Fr X r fr fr') : Fr X s fr fr' :=
  ⟨h.fn, h.ord, h.todo, h.items, h.defers, h.defers', h.kind, h.kind', h.round, h.round', h.tm.mono hl⟩
theorem Fr.at1 {fr fr' : Frame} (h : Fr X r fr fr') (hm : fr.mode = .run) : fr = fr.at ⟨fr.tmps, []⟩ fr.todo := by
  obtain ⟨fn, tmps, todo, defers, mode, kind, roundOf⟩ := fr
  have h1 := h.defers; have h2 := h.round
  simp only at h1 h2 hm
  subst h1; subst h2; subst hm
  rfl
theorem Fr.at2 {fr fr' : Frame} (h : Fr X r fr fr') (hm : fr'.mode = .run) : fr' = fr'.at ⟨fr'.tmps, []⟩ fr.todo := by
  have h3 := h.todo
  obtain ⟨fn, tmps, todo, defers, mode, kind, roundOf⟩ := fr'
  have h1 := h.defers'; have h2 := h.round'
  simp only at h1 h2 hm h3
  subst h1; subst h2; subst hm; subst h3
  rfl
/-- The frame goes on with another list of things to do. -/
theorem Fr.to {fr fr' : Frame} (h : Fr X r fr fr') {todo : List Item} (hi : todo.all (okItem X fr.fn) = true) : Fr X r (fr.at ⟨fr.tmps, []⟩ todo) (fr'.at ⟨fr'.tmps, []⟩ todo) :=
  ⟨h.fn, h.ord, rfl, hi, rfl, rfl, h.kind, h.kind', rfl, rfl, h.tm⟩
theorem Fr.ret {fr fr' : Frame} (h : Fr X r fr fr') {todo : List Item} (hi : todo.all (okItem X fr.fn) = true) : Fr X r { fr.at ⟨fr.tmps, []⟩ todo with mode := .returning } { fr'.at ⟨fr'.tmps, []⟩ todo with mode := .returning } :=
  ⟨h.fn, h.ord, rfl, hi, rfl, rfl, h.kind, h.kind', rfl, rfl, h.tm⟩

/-- A frame that waits for a callee. -/
structure Cal (X : Ctx) (r : Ren) (fr fr' : Frame) : Prop where
  alike : Fr X r fr fr'
  run : fr.mode = .run
  run' : fr'.mode = .run
  at_ : ∃ ops i rest k, fr.todo = .inRegion ops (i :: rest) :: k ∧ ∀ o, ops[i]? = some o → lo (dcl X fr.fn o) = true
theorem Cal.mono {s : Ren} (hl : r.Le s) {fr fr' : Frame} (h : Cal X r fr fr') : Cal X s fr fr' := ⟨h.alike.mono hl, h.run, h.run', h.at_⟩
/-- Stacks: whatever lies below in company. -/
inductive Stk (X : Ctx) (r : Ren) (lb base : List Frame) : List Frame → List Frame → Prop
  | nil : Stk X r lb base lb base
  | cons {fr fr' : Frame} {cs cs' : List Frame} (h : Cal X r fr fr') (k : Stk X r lb base cs cs') : Stk X r lb base (fr :: cs) (fr' :: cs')
theorem Stk.mono {s : Ren} (hl : r.Le s) {lb base cs cs' : List Frame} (h : Stk X r lb base cs cs') : Stk X s lb base cs cs' := by
  induction h with
  | nil => exact .nil
  | cons h _ ih => exact .cons (h.mono hl) ih

theorem TRel.set {f : FuncId} {T T' : Array Value} (h : TRel X f r T T') {v v' : Value} (hv : VRel X.ok r v v') {d : Nat} (hc : InCls X (X.cl f d) v) : TRel X f r (T.setIfInBounds d v) (T'.setIfInBounds d v') := by
  refine ⟨h.1.set hv d, fun i x hx => ?_⟩
  rw [Array.getElem?_setIfInBounds] at hx
  split at hx
  · rename_i e
    split at hx
    · cases hx
      rw [← e]
      exact hc
    · cases hx
  · exact h.2 i x hx
/-- An operation is done. -/
theorem Fr.put {fr fr' : Frame} (h : Fr X r fr fr') {ops : Array Oper} {i : Nat} {rest : List Nat} {k : List Item} (ht : fr.todo = .inRegion ops (i :: rest) :: k) {v v' : Value} (hv : VRel X.ok r v v')
    (hc : ∀ o, ops[i]? = some o → InCls X (dcl X fr.fn o) v) :
    Fr X r (fr.at ((⟨fr.tmps, []⟩ : Act).put ((ops[i]?).bind (·.dst)) v) (.inRegion ops rest :: k)) (fr'.at ((⟨fr'.tmps, []⟩ : Act).put ((ops[i]?).bind (·.dst)) v') (.inRegion ops rest :: k)) := by
  have hi := h.items
  rw [ht] at hi
  simp only [List.all_cons, Bool.and_eq_true] at hi
  refine ⟨h.fn, h.ord, rfl, ?_, ?_, ?_, h.kind, h.kind', rfl, rfl, ?_⟩
  · show (Item.inRegion ops rest :: k).all (okItem X fr.fn) = true
    simp only [List.all_cons, Bool.and_eq_true]
    exact ⟨hi.1, hi.2⟩
  · cases (ops[i]?).bind (·.dst) <;> rfl
  · cases (ops[i]?).bind (·.dst) <;> rfl
  · show TRel X fr.fn r ((⟨fr.tmps, []⟩ : Act).put ((ops[i]?).bind (·.dst)) v).tmps ((⟨fr'.tmps, []⟩ : Act).put ((ops[i]?).bind (·.dst)) v').tmps
    cases ho : ops[i]? with
    | none => exact h.tm
    | some o =>
      have := hc o ho
      unfold dcl at this
      simp only [Option.bind_some]
      cases hd : o.dst with
      | none => exact h.tm
      | some d =>
        rw [hd] at this
        exact h.tm.set hv this

theorem yielded_eq {f : FuncId} {T T' : Array Value} (h : TRel X f r T T') (ops : Array Oper) : yielded ops T = yielded ops T' := by
  funext j
  unfold yielded
  cases (ops[j]?).bind (·.dst) with
  | none => rfl
  | some d =>
    simp only [Option.bind_some]
    cases hx : T[d]? with
    | none =>
      have : T'[d]? = none := by
        rw [Array.getElem?_eq_none_iff] at hx ⊢
        rw [← h.1.1]
        exact hx
      rw [this]
    | some x =>
      obtain ⟨y, hy, hxy⟩ := h.1.get hx
      rw [hy]
      cases hxy with
      | flat _ => rfl
      | _ => rfl

theorem SR.asAddr {v v' : Value} (h : VRel X.ok r v v') : SR X PRel r (asAddr v) (asAddr v') := by
  cases v <;> first
    | exact SR.stuck
    | (rename_i a
       cases a with
       | none => exact SR.no (show Never X.Q (runtimePanic .nilDeref : Sem Addr) from never_runtimePanic _ _)
       | some a =>
         obtain ⟨a', rfl, h1⟩ := PRel.of_ptr h
         exact SR.pure fun _ hl => h1.mono hl)
theorem SR.mapM {α : Type} {f g : α → Sem Value} : ∀ (xs : List α) {r : Ren}, (∀ x ∈ xs, ∀ r', r.Le r' → SR X (VN X) r' (f x) (g x)) →
    SR X (fun r' avs bs => avs.length = bs.length ∧ ∀ (j : Nat) a b, avs[j]? = some a → bs[j]? = some b → VN X r' a b) r (xs.mapM f) (xs.mapM g) := by
  intro xs
  induction xs with
  | nil => intro r h; exact SR.pure fun _ _ => ⟨rfl, fun j a b h => by simp at h⟩
  | cons x xs ih =>
    intro r h
    simp only [List.mapM_cons]
    refine SR.bind (h x (by simp) r (Ren.Le.refl _)) fun r1 l1 a b hab => ?_
    refine SR.bind (ih fun y hy r' hl => h y (by simp [hy]) r' (l1.trans hl)) fun r2 l2 avs bs hs => SR.pure fun r3 l3 => ⟨by simp [hs.1], fun j u v hu hv => ?_⟩
    cases j with
    | zero => cases hu; cases hv; exact ⟨hab.1.mono (l2.trans l3), hab.2⟩
    | succ j => have := hs.2 j u v (by simpa using hu) (by simpa using hv); exact ⟨this.1.mono l3, this.2⟩
theorem SR.results {f : FuncId} {fn : Func} (ho : resOK X f fn = true) {T T' : Array Value} (h : TRel X f r T T') : SR X (VN X) r (results fn T) (results fn T') := by
  unfold Go.results
  simp only [Array.mapM_eq_mapM_toList, bind_map_left]
  refine SR.bind (SR.mapM fn.results.toList fun x hx r' hl => ?_) fun r1 l1 avs bs hs => ?_
  · have hx' := Array.all_eq_true_iff_forall_mem.1 ho x (by simpa using hx)
    have h' := h.mono hl
    cases x with
    | tmp t => exact SR.pure fun r2 l2 => (h'.mono l2).np (o := .tmp t) rfl (by simpa [opCls] using hx')
    | cell a ty => exact SR.bind (SR.asAddr ((h'.op (o := .tmp a) rfl).1)) fun r2 l2 p p' hp => SR.loadVar ty hp
  · have hsz : avs.length = bs.length := hs.1
    refine SR.pure fun r2 l2 => ?_
    by_cases h1 : avs.length = 1
    · have h2 : bs.length = 1 := hsz ▸ h1
      rw [dif_pos (by simpa using h1), dif_pos (by simpa using h2)]
      have := hs.2 0 avs[0] bs[0] (by simp) (by simp)
      exact ⟨by simpa using this.1.mono l2, by simpa using this.2⟩
    · have h2 : ¬ bs.length = 1 := hsz ▸ h1
      rw [dif_neg (by simpa using h1), dif_neg (by simpa using h2)]
      refine ⟨.tuple (by simpa using hsz) fun i x y hx hy => ?_, .tuple fun i x hx => ?_⟩
      · exact (hs.2 i x y (by simpa using hx) (by simpa using hy)).1.mono l2
      · have hx' : avs[i]? = some x := by simpa using hx
        have hlt := (List.getElem?_eq_some_iff.1 hx').1
        exact (hs.2 i x bs[i] hx' (List.getElem?_eq_getElem (hsz ▸ hlt))).2
end Go.Proofs.Ytpigjhagdpeofaa.Sim

namespace Go.Proofs.Ytpigjhagdpeofaa.Sim
open Go Go.Conc
set_option linter.unusedVariables false
variable {X : Ctx} {r : Ren}

/-- What is asked of the functions, on: those that may be called are ordinary ones, but for one ('sp'); no function makes a variable ready. -/
structure Ords (X : Ctx) (sp : FuncId) : Prop where
  good : Good X
  ord : ∀ g, X.ok g = true → g ≠ sp → ∃ fn c, Ord X g fn ∧ fn.body = some c ∧ okCode X g c = true
  ready : ∀ g, X.Q.stepOf g = none
  fol : X.P.follows .staticDataAhead = true

inductive Top (X : Ctx) (sp : FuncId) (r : Ren) : Frame → Frame → Prop
  | ord {fr fr' : Frame} (h : Fr X r fr fr') (m : (fr.mode = .run ∧ fr'.mode = .run) ∨ (fr.mode = .returning ∧ fr'.mode = .returning)) : Top X sp r fr fr'
  | special {vs vs' : Array Value} (h : ARel X.ok r vs vs') (ok : X.ok sp = true) (hz : sp = 33 → vs.size = 3) : Top X sp r (Frame.enter X.Q sp vs .normal) (Frame.enter X.P sp vs' .normal)

structure Nexts (X : Ctx) (sp : FuncId) (lb base : List Frame) (r : Ren) (wc : World) (fr1 : Frame) (cs1 : List Frame) (wl1 : World) (r2 : Ren) (fr1' : Frame) (cs1' : List Frame) (wc1 : World) (es' : Array Event) : Prop where
  le : r.Le r2
  top : Top X sp r2 fr1 fr1'
  stk : Stk X r2 lb base cs1 cs1'
  rel : WRel X r2 wl1 wc1
  tape : wl1.tape = wc1.tape
  drawn : wl1.drawn = wc1.drawn
  gu : Gu X r2 wc wc1
  new : New r r2 wc
  evs : ∀ e ∈ es', Ev X r2 e

theorem G_inj {fr fr1 : Frame} {cs cs1 : List Frame} {w w1 : World} {es es1 : Array Event} (h : GStep.go (G fr cs) w es = .go (G fr1 cs1) w1 es1) : fr1 = fr ∧ cs1 = cs ∧ w1 = w := by
  simp only [G, GStep.go.injEq, Goroutine.mk.injEq] at h
  exact ⟨h.1.1.symm, h.1.2.1.symm, h.2.1.symm⟩

/-- A move of control: nothing is looked at. -/
theorem Nexts.ctl {sp : FuncId} {lb base cs cs' : List Frame} {fr1 fr1' : Frame} {wl wc : World} (hs : Stk X r lb base cs cs') (hw : WRel X r wl wc) (ht : wl.tape = wc.tape) (hd : wl.drawn = wc.drawn) (h : Fr X r fr1 fr1')
    (m : (fr1.mode = .run ∧ fr1'.mode = .run) ∨ (fr1.mode = .returning ∧ fr1'.mode = .returning)) : Nexts X sp lb base r wc fr1 cs wl r fr1' cs' wc #[] :=
  ⟨Ren.Le.refl _, .ord h m, hs, hw, ht, hd, Gu.refl _ _, New.refl, fun e he => by simp at he⟩

theorem exitTo_items {f : FuncId} {id : Nat} : ∀ {k k' : List Item}, exitTo id k = some k' → k.all (okItem X f) = true → k'.all (okItem X f) = true := by
  intro k
  induction k with
  | nil => intro k' h; simp [exitTo] at h
  | cons x k ih =>
    intro k' h hk
    simp only [List.all_cons, Bool.and_eq_true] at hk
    cases x with
    | inBlock id' =>
      simp only [exitTo] at h
      split at h
      · cases h; exact hk.2
      · exact ih h hk.2
    | _ => exact ih h hk.2

theorem seen_sub {P : Program} {fn : FuncId} {es : Array Event} {e : Event} (h : e ∈ seen P fn es) : e ∈ es := by
  exact mem_seen h

theorem apply_halt (hfol : X.P.follows .staticDataAhead = true) (hrd : ∀ g, X.Q.stepOf g = none) {fr fr1 : Frame} {cs cs1 : List Frame} {s : Sem Next} {w w' w1 : World} {h : Halt} {es : Array Event} (hr : s.run X.Q w = .halt h w') (hm : fr.mode = .run)
    (hg : stepG.apply X.Q true fr cs none s w = .go (G fr1 cs1) w1 es) : ∃ ch, fr1 = { fr with mode := .panicking ch } ∧ cs1 = cs := by
  have hq : X.Q.follows .staticDataAhead = true := hfol
  unfold stepG.apply at hg
  simp only [Sem.runT_eq, hr, if_true] at hg
  cases h with
  | panic v =>
    simp only [GStep.after, G, GStep.go.injEq, Goroutine.mk.injEq, Frame.raise, hm] at hg
    exact ⟨_, hg.1.1.symm, hg.1.2.1.symm⟩
  | goexit =>
    simp only [GStep.after, G, GStep.go.injEq, Goroutine.mk.injEq, Frame.raise, hm] at hg
    exact ⟨_, hg.1.1.symm, hg.1.2.1.symm⟩
  | unsupported u =>
    cases u <;> first
      | (simp only [GStep.after] at hg; cases hg; done)
      | (simp only [early, hq, hrd, GStep.after] at hg; simp at hg)
  | blocked => simp [GStep.after, G] at hg
  | waiting => simp [GStep.after, G] at hg
  | exit c => simp [GStep.after] at hg
  | fatal m =>
    exfalso
    have key : ∀ (w2 : World) es', GStep.after es' (endFatal X.Q fr cs none m w2) ≠ .go (G fr1 cs1) w1 es := by
      intro w2 es' e
      unfold endFatal at e
      dsimp only at e
      generalize Sem.run X.Q _ w2 = rr at e
      cases rr with
      | ok a w3 => obtain ⟨a, b⟩ := a; simp [dieOf, GStep.after, G] at e
      | halt h w3 => cases h <;> simp [GStep.after] at e
    exact key _ _ hg
  | throw m => simp [endThrow, dieOf, GStep.after, G] at hg
  | stuck s => simp [GStep.after] at hg
end Go.Proofs.Ytpigjhagdpeofaa.Sim
