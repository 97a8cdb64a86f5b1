/-
  The worker's drawn region in company: it reads, calls, and lays the result at its place. No condition.
  The worker in company, up to its send. No condition.
  The trace of many goroutines, each with its own places and what it may read: no race, and who knows what. No condition.
  Workers that each send once on a channel, and their starter: what is held of each of them, and how it bears the others' doing. No condition.
-/
import Derived.Test.YtpigjhagdpeofaaBa8
import Derived.Conc.Beside
import Derived.Conc.CrowdComm

namespace Go.Proofs.Ytpigjhagdpeofaa.Sim
open Go Go.Conc
set_option linter.unusedVariables false
theorem Sat.mono {o n k r : Nat} {Rd : Nat → Prop} {F : Nat → Int} {w0 w : World} {M : Nat → Prop} {i j : Nat} (h : Sat o n k r Rd F w0 M w i) (hj : j ≤ i) : Sat o n k r Rd F w0 M w j := by
  refine ⟨h.rd, h.keep, h.size, h.olow, ?_⟩
  obtain ⟨cs, a1, a2, a3⟩ := h.out
  exact ⟨cs, a1, a2, fun p hp => a3 p (by omega)⟩
theorem OpG.enter {I : Type} {P : Program} {m : Bool} {R : I → World → World → Prop} {D : I → I → World → World → Array Event → Prop} {fn : FuncId} {ops : Array Oper} {n : Nat} {K : Act → I → World → Prop} {a : Act} {i : I} {w : World} {o : Oper} (ho : ops[n]? = some o) (hw : Region.wanted o (yielded ops a.tmps) = true) {g : FuncId} {vs : Array Value}
    (hr : ∀ w1, R i w w1 → (execOp a.eval o).run P w1 = .ok (.enter g vs) w1) (he : ∀ w1, R i w w1 → D i i w1 w1 (evG P fn a o w1)) (h : ∀ w1, R i w w1 → ∀ base, WkG P m R D (RetG P D base fun v i' w' => K (a.put o.dst v) i' w') i (G (Frame.enter P g vs .normal) base) w1) : OpG P m R D fn ops n K a i w := by
  unfold OpG
  simp only [ho, hw, if_true]
  intro w1 h1
  rw [hr w1 h1]
  exact ⟨i, he w1 h1, h w1 h1⟩
theorem OpG.skip {I : Type} {P : Program} {m : Bool} {R : I → World → World → Prop} {D : I → I → World → World → Array Event → Prop} {fn : FuncId} {ops : Array Oper} {n : Nat} {K : Act → I → World → Prop} {a : Act} {i : I} {w : World} {o : Oper} (ho : ops[n]? = some o) (hw : Region.wanted o (yielded ops a.tmps) = true)
    (h : ∀ w1, R i w w1 → ∃ w' j, (execOp a.eval o).run P w1 = .ok .skip w' ∧ D i j w1 w' (evG P fn a o w1) ∧ K (a.put o.dst undef) j w') : OpG P m R D fn ops n K a i w := by
  unfold OpG
  simp only [ho, hw, if_true]
  intro w1 h1
  obtain ⟨w', j, hr, hd, hk⟩ := h w1 h1
  rw [hr]
  exact ⟨j, hd, hk⟩
/-- What is asked of the function that is handed over: a call of it is entered, and lists nothing. -/
structure Ent (f : FuncId) : Prop where
  run : ∀ args w, (callFunc f args).run Try.prog w = .ok (.enter f args) w
  evs : ∀ args w es, (callFunc f args).events Try.prog w es = es
def o7 : Oper := { dst := some 22, op := .call { callee := .value (.tmp 17), args := #[.tmp 21], argTypes := #[2] }, type := 2, pos := "l02_scales.go:385", after := #[{ on := 2, ground := Ground.data }, { on := 6, ground := Ground.data }], guard := none }
def o9 : Oper := { dst := none, op := .store 2 (.tmp 23) (.tmp 22), type := 0, pos := "l02_scales.go:385", after := #[{ on := 8, ground := Ground.data }, { on := 7, ground := Ground.data }, { on := 7, ground := Ground.chain }, { on := 0, ground := Ground.phase }, { on := 1, ground := Ground.phase }, { on := 2, ground := Ground.phase }, { on := 3, ground := Ground.phase }, { on := 4, ground := Ground.phase }, { on := 5, ground := Ground.phase }, { on := 6, ground := Ground.phase }, { on := 7, ground := Ground.phase }], guard := none }
theorem w54_op7 {m : Bool} {o n k r : Nat} {Rd : Nat → Prop} {F L : Nat → Int} {M : Nat → Prop} {w0 w : World} {i : Nat} {f : FuncId} {caps : Array Value} {ops : Array Oper} {K : Act → (Nat → Prop) → World → Prop} {a : Act} (ho : ops[7]? = some o7) (h17 : a.tmps[17]? = some (.func (.func f) #[] caps)) (h21 : a.tmps[21]? = some (.int .i64 (L i)))
    (hs : Sat o n k r Rd F w0 M w i) (hE : Ent f)
    (hcall : ∀ base M w, Sat o n k r Rd F w0 M w i → WkG Try.prog m (RelyW o (fun j => j % k = r) Rd) (OwnW o (fun j => j % k = r) Rd) (RetG Try.prog (OwnW o (fun j => j % k = r) Rd) base fun v M' w' => v = .int .i64 (F i) ∧ Sat o n k r Rd F w0 M' w' i) M (G (Frame.enter Try.prog f (#[.int .i64 (L i)] ++ caps) .normal) base) w)
    (hK : ∀ M3 w3, Sat o n k r Rd F w0 M3 w3 i → K (a.put (some 22) (.int .i64 (F i))) M3 w3) : OpG Try.prog m (RelyW o (fun j => j % k = r) Rd) (OwnW o (fun j => j % k = r) Rd) 54 ops 7 K a M w := by
  refine OpG.enter ho rfl (g := f) (vs := #[.int .i64 (L i)] ++ caps) (fun w1 h1 => ?_) (fun w1 h1 => OwnW.same M rfl rfl rfl rfl fun e he => ?_) fun w1 h1 base => ?_
  · simp [o7, go_sem, h17, h21, hE.run]
  · replace he := mem_seen he
    simp [o7, go_sem, h17, h21, hE.evs] at he
  refine (hcall base M w1 (hs.rely h1)).mono fun M2 g2 w2 h2 => h2.mono fun v M3 w3 h3 => ?_
  obtain ⟨rfl, h3⟩ := h3
  exact hK M3 w3 h3
theorem w54_op9 {m : Bool} {o n k r : Nat} {Rd : Nat → Prop} {F : Nat → Int} {M : Nat → Prop} {w0 w : World} {i : Nat} {ops : Array Oper} {K : Act → (Nat → Prop) → World → Prop} {a : Act} (ho : ops[9]? = some o9) (h23 : a.tmps[23]? = some (.pointer (some ⟨o, i, none⟩))) (h22 : a.tmps[22]? = some (.int .i64 (F i)))
    (hs : Sat o n k r Rd F w0 M w i) (hlt : i < n) (hi : i % k = r)
    (hK : ∀ w3, Sat o n k r Rd F w0 M w3 (i + k) → K a M w3) : OpG Try.prog m (RelyW o (fun j => j % k = r) Rd) (OwnW o (fun j => j % k = r) Rd) 54 ops 9 K a M w := by
  refine OpG.skip ho rfl fun w1 h1 => ?_
  have hs1 := hs.rely h1
  obtain ⟨v, hv, hz⟩ := hs1.cellO hlt
  refine ⟨w1.setCell ⟨o, i, none⟩ (.int .i64 (F i)), M, ?_, OwnW.put (mine := fun j => j % k = r) hi fun e he => ?_, hK _ (hs1.put hlt hi)⟩
  · simp [o9, go_sem, h22, h23, hv, hz]
  · replace he := mem_seen he
    simp [o9, go_sem, h22, h23, hv, hz] at he
    exact he
noncomputable def R54 : Code := match Try.f54.body with | some (.seq (.seq _ (.block _ (.loop (.seq _ (.seq (.block _ r) _))))) _) => r | _ => .skip
set_option maxRecDepth 100000 in
theorem w54_r3 {m : Bool} {o n k r : Nat} {Rd : Nat → Prop} {F L : Nat → Int} {M : Nat → Prop} {w0 w : World} {bw bl bk bh bo bd gl cl co i : Nat} {f : FuncId} {caps : Array Value} {Q : Exit → Act → (Nat → Prop) → World → Prop}
    (hn : n < 1000000000) (dl : Rd bl) (dh : Rd bh) (dO : Rd bo) (dg : Rd gl)
    (c_l : w0.cell? ⟨bl, 0, none⟩ = some (.slice (some ⟨gl, 0, none⟩) n cl)) (ch : w0.cell? ⟨bh, 0, none⟩ = some (.func (.func f) #[] caps)) (cO : w0.cell? ⟨bo, 0, none⟩ = some (.slice (some ⟨o, 0, none⟩) n co)) (cL : ∀ j, j < n → w0.cell? ⟨gl, j, none⟩ = some (.int .i64 (L j)))
    (hlt : i < n) (hi : i % k = r) (hs : Sat o n k r Rd F w0 M w i) (hE : Ent f)
    (hcall : ∀ base M w, Sat o n k r Rd F w0 M w i → WkG Try.prog m (RelyW o (fun j => j % k = r) Rd) (OwnW o (fun j => j % k = r) Rd) (RetG Try.prog (OwnW o (fun j => j % k = r) Rd) base fun v M' w' => v = .int .i64 (F i) ∧ Sat o n k r Rd F w0 M' w' i) M (G (Frame.enter Try.prog f (#[.int .i64 (L i)] ++ caps) .normal) base) w)
    (hQr : ∀ a M x y, Q .normal a M x → RelyW o (fun j => j % k = r) Rd M x y → Q .normal a M y) (u7 u8 u9 u10 u11 u12 u13 u14 u15 u16 u17 u18 u19 u20 u21 u22 u23 u24 : Value)
    (hQ : ∀ M w, Sat o n k r Rd F w0 M w (i + k) → Q .normal ⟨(#[.pointer (some ⟨bw, 0, none⟩), .pointer (some ⟨bl, 0, none⟩), .pointer (some ⟨bk, 0, none⟩), .pointer (some ⟨bh, 0, none⟩), .pointer (some ⟨bo, 0, none⟩), .pointer (some ⟨bd, 0, none⟩), .int .i64 (i : Nat), u7, u8, u9, u10, u11, u12, u13, u14, .slice (some ⟨o, 0, none⟩) n co, .int .i64 (i : Nat), .func (.func f) #[] caps, .slice (some ⟨gl, 0, none⟩) n cl, .int .i64 (i : Nat), .pointer (some ⟨gl, i, none⟩), .int .i64 (L i), .int .i64 (F i), .pointer (some ⟨o, i, none⟩), u24] : Array Value), []⟩ M w) :
    wpG Try.prog m (RelyW o (fun j => j % k = r) Rd) (OwnW o (fun j => j % k = r) Rd) 54 R54 Q ⟨(#[.pointer (some ⟨bw, 0, none⟩), .pointer (some ⟨bl, 0, none⟩), .pointer (some ⟨bk, 0, none⟩), .pointer (some ⟨bh, 0, none⟩), .pointer (some ⟨bo, 0, none⟩), .pointer (some ⟨bd, 0, none⟩), .int .i64 (i : Nat), u7, u8, u9, u10, u11, u12, u13, u14, u15, u16, u17, u18, u19, u20, u21, u22, u23, u24] : Array Value), []⟩ M w := by
  have T0 := OwnW.terms (o := o) (mine := fun j => j % k = r) (Rd := Rd)
  show wpG _ _ _ _ _ (.region 3 _ true) _ _ _ _
  refine wpG_region_held (S := fun M w => Sat o n k r Rd F w0 M w i) OwnW.draw T0 (by kernel_rfl) fun w1 h1 => ?_
  replace hs := (hs.rely h1).draw
  refine anyG_take T0 (fun _ _ _ h q => h.rely q) hQr (n := 0) (v := .slice (some ⟨o, 0, none⟩) n co) rfl (by kernel_rfl) (by kernel_rfl) (by kernel_rfl) (.inl ⟨rfl, fun M2 w2 h2 => ⟨?_, OwnW.same M2 rfl rfl rfl rfl fun e he => ?_⟩⟩) hs ?_
  · have hc1 := h2.cell dO cO; simp [go_sem, hc1]
  · replace he := mem_seen he
    have hc1 := h2.cell dO cO
    simp [go_sem, hc1] at he
    subst he
    exact ⟨_, rfl, .inr (.inl dO)⟩
  show AnyG Try.prog m _ _ 54 _ _ Q _ _ _ ⟨(#[.pointer (some ⟨bw, 0, none⟩), .pointer (some ⟨bl, 0, none⟩), .pointer (some ⟨bk, 0, none⟩), .pointer (some ⟨bh, 0, none⟩), .pointer (some ⟨bo, 0, none⟩), .pointer (some ⟨bd, 0, none⟩), .int .i64 (i : Nat), u7, u8, u9, u10, u11, u12, u13, u14, .slice (some ⟨o, 0, none⟩) n co, u16, u17, u18, u19, u20, u21, u22, u23, u24] : Array Value), []⟩ _ _
  refine anyG_take T0 (fun _ _ _ h q => h.rely q) hQr (n := 1) (v := .int .i64 (i : Nat)) rfl (by kernel_rfl) (by kernel_rfl) (by kernel_rfl) (.inl ⟨rfl, fun M2 w2 h2 => ⟨?_, OwnW.same M2 rfl rfl rfl rfl fun e he => ?_⟩⟩) hs ?_
  · simp [go_sem]
  · replace he := mem_seen he
    simp [go_sem] at he
  show AnyG Try.prog m _ _ 54 _ _ Q _ _ _ ⟨(#[.pointer (some ⟨bw, 0, none⟩), .pointer (some ⟨bl, 0, none⟩), .pointer (some ⟨bk, 0, none⟩), .pointer (some ⟨bh, 0, none⟩), .pointer (some ⟨bo, 0, none⟩), .pointer (some ⟨bd, 0, none⟩), .int .i64 (i : Nat), u7, u8, u9, u10, u11, u12, u13, u14, .slice (some ⟨o, 0, none⟩) n co, .int .i64 (i : Nat), u17, u18, u19, u20, u21, u22, u23, u24] : Array Value), []⟩ _ _
  refine anyG_take T0 (fun _ _ _ h q => h.rely q) hQr (n := 2) (v := .func (.func f) #[] caps) rfl (by kernel_rfl) (by kernel_rfl) (by kernel_rfl) (.inl ⟨rfl, fun M2 w2 h2 => ⟨?_, OwnW.same M2 rfl rfl rfl rfl fun e he => ?_⟩⟩) hs ?_
  · have hc1 := h2.cell dh ch; simp [go_sem, hc1]
  · replace he := mem_seen he
    have hc1 := h2.cell dh ch
    simp [go_sem, hc1] at he
    subst he
    exact ⟨_, rfl, .inr (.inl dh)⟩
  show AnyG Try.prog m _ _ 54 _ _ Q _ _ _ ⟨(#[.pointer (some ⟨bw, 0, none⟩), .pointer (some ⟨bl, 0, none⟩), .pointer (some ⟨bk, 0, none⟩), .pointer (some ⟨bh, 0, none⟩), .pointer (some ⟨bo, 0, none⟩), .pointer (some ⟨bd, 0, none⟩), .int .i64 (i : Nat), u7, u8, u9, u10, u11, u12, u13, u14, .slice (some ⟨o, 0, none⟩) n co, .int .i64 (i : Nat), .func (.func f) #[] caps, u18, u19, u20, u21, u22, u23, u24] : Array Value), []⟩ _ _
  refine anyG_take T0 (fun _ _ _ h q => h.rely q) hQr (n := 3) (v := .slice (some ⟨gl, 0, none⟩) n cl) rfl (by kernel_rfl) (by kernel_rfl) (by kernel_rfl) (.inl ⟨rfl, fun M2 w2 h2 => ⟨?_, OwnW.same M2 rfl rfl rfl rfl fun e he => ?_⟩⟩) hs ?_
  · have hc1 := h2.cell dl c_l; simp [go_sem, hc1]
  · replace he := mem_seen he
    have hc1 := h2.cell dl c_l
    simp [go_sem, hc1] at he
    subst he
    exact ⟨_, rfl, .inr (.inl dl)⟩
  show AnyG Try.prog m _ _ 54 _ _ Q _ _ _ ⟨(#[.pointer (some ⟨bw, 0, none⟩), .pointer (some ⟨bl, 0, none⟩), .pointer (some ⟨bk, 0, none⟩), .pointer (some ⟨bh, 0, none⟩), .pointer (some ⟨bo, 0, none⟩), .pointer (some ⟨bd, 0, none⟩), .int .i64 (i : Nat), u7, u8, u9, u10, u11, u12, u13, u14, .slice (some ⟨o, 0, none⟩) n co, .int .i64 (i : Nat), .func (.func f) #[] caps, .slice (some ⟨gl, 0, none⟩) n cl, u19, u20, u21, u22, u23, u24] : Array Value), []⟩ _ _
  refine anyG_take T0 (fun _ _ _ h q => h.rely q) hQr (n := 4) (v := .int .i64 (i : Nat)) rfl (by kernel_rfl) (by kernel_rfl) (by kernel_rfl) (.inl ⟨rfl, fun M2 w2 h2 => ⟨?_, OwnW.same M2 rfl rfl rfl rfl fun e he => ?_⟩⟩) hs ?_
  · simp [go_sem]
  · replace he := mem_seen he
    simp [go_sem] at he
  show AnyG Try.prog m _ _ 54 _ _ Q _ _ _ ⟨(#[.pointer (some ⟨bw, 0, none⟩), .pointer (some ⟨bl, 0, none⟩), .pointer (some ⟨bk, 0, none⟩), .pointer (some ⟨bh, 0, none⟩), .pointer (some ⟨bo, 0, none⟩), .pointer (some ⟨bd, 0, none⟩), .int .i64 (i : Nat), u7, u8, u9, u10, u11, u12, u13, u14, .slice (some ⟨o, 0, none⟩) n co, .int .i64 (i : Nat), .func (.func f) #[] caps, .slice (some ⟨gl, 0, none⟩) n cl, .int .i64 (i : Nat), u20, u21, u22, u23, u24] : Array Value), []⟩ _ _
  refine anyG_take T0 (fun _ _ _ h q => h.rely q) hQr (n := 5) (v := .pointer (some ⟨gl, i, none⟩)) rfl (by kernel_rfl) (by kernel_rfl) (by kernel_rfl) (.inl ⟨rfl, fun M2 w2 h2 => ⟨?_, OwnW.same M2 rfl rfl rfl rfl fun e he => ?_⟩⟩) hs ?_
  · have hc1 := hlt; simp [go_sem, hc1]
  · replace he := mem_seen he
    have hc1 := hlt
    simp [go_sem, hc1] at he
  show AnyG Try.prog m _ _ 54 _ _ Q _ _ _ ⟨(#[.pointer (some ⟨bw, 0, none⟩), .pointer (some ⟨bl, 0, none⟩), .pointer (some ⟨bk, 0, none⟩), .pointer (some ⟨bh, 0, none⟩), .pointer (some ⟨bo, 0, none⟩), .pointer (some ⟨bd, 0, none⟩), .int .i64 (i : Nat), u7, u8, u9, u10, u11, u12, u13, u14, .slice (some ⟨o, 0, none⟩) n co, .int .i64 (i : Nat), .func (.func f) #[] caps, .slice (some ⟨gl, 0, none⟩) n cl, .int .i64 (i : Nat), .pointer (some ⟨gl, i, none⟩), u21, u22, u23, u24] : Array Value), []⟩ _ _
  refine anyG_take T0 (fun _ _ _ h q => h.rely q) hQr (n := 6) (v := .int .i64 (L i)) rfl (by kernel_rfl) (by kernel_rfl) (by kernel_rfl) (.inl ⟨rfl, fun M2 w2 h2 => ⟨?_, OwnW.same M2 rfl rfl rfl rfl fun e he => ?_⟩⟩) hs ?_
  · have hc1 := h2.cell (b := ⟨gl, i, none⟩) dg (cL i hlt); simp [go_sem, hc1]
  · replace he := mem_seen he
    have hc1 := h2.cell (b := ⟨gl, i, none⟩) dg (cL i hlt)
    simp [go_sem, hc1] at he
    subst he
    exact ⟨_, rfl, .inr (.inl dg)⟩
  show AnyG Try.prog m _ _ 54 _ _ Q _ _ _ ⟨(#[.pointer (some ⟨bw, 0, none⟩), .pointer (some ⟨bl, 0, none⟩), .pointer (some ⟨bk, 0, none⟩), .pointer (some ⟨bh, 0, none⟩), .pointer (some ⟨bo, 0, none⟩), .pointer (some ⟨bd, 0, none⟩), .int .i64 (i : Nat), u7, u8, u9, u10, u11, u12, u13, u14, .slice (some ⟨o, 0, none⟩) n co, .int .i64 (i : Nat), .func (.func f) #[] caps, .slice (some ⟨gl, 0, none⟩) n cl, .int .i64 (i : Nat), .pointer (some ⟨gl, i, none⟩), .int .i64 (L i), u22, u23, u24] : Array Value), []⟩ _ _
  refine anyG_all (rs := [7]) (by kernel_rfl) (by simp) fun x hx => ?_
  simp at hx
  subst hx
  refine w54_op7 rfl rfl rfl hs hE hcall fun M3 w3 h3 => ?_
  refine ⟨h3, ?_⟩
  show AnyG Try.prog m _ _ 54 _ _ Q _ _ _ ⟨(#[.pointer (some ⟨bw, 0, none⟩), .pointer (some ⟨bl, 0, none⟩), .pointer (some ⟨bk, 0, none⟩), .pointer (some ⟨bh, 0, none⟩), .pointer (some ⟨bo, 0, none⟩), .pointer (some ⟨bd, 0, none⟩), .int .i64 (i : Nat), u7, u8, u9, u10, u11, u12, u13, u14, .slice (some ⟨o, 0, none⟩) n co, .int .i64 (i : Nat), .func (.func f) #[] caps, .slice (some ⟨gl, 0, none⟩) n cl, .int .i64 (i : Nat), .pointer (some ⟨gl, i, none⟩), .int .i64 (L i), .int .i64 (F i), u23, u24] : Array Value), []⟩ _ _
  clear hs
  have hs := h3
  refine anyG_take T0 (fun _ _ _ h q => h.rely q) hQr (n := 8) (v := .pointer (some ⟨o, i, none⟩)) rfl (by kernel_rfl) (by kernel_rfl) (by kernel_rfl) (.inl ⟨rfl, fun M2 w2 h2 => ⟨?_, OwnW.same M2 rfl rfl rfl rfl fun e he => ?_⟩⟩) hs ?_
  · have hc1 := hlt; simp [go_sem, hc1]
  · replace he := mem_seen he
    have hc1 := hlt
    simp [go_sem, hc1] at he
  show AnyG Try.prog m _ _ 54 _ _ Q _ _ _ ⟨(#[.pointer (some ⟨bw, 0, none⟩), .pointer (some ⟨bl, 0, none⟩), .pointer (some ⟨bk, 0, none⟩), .pointer (some ⟨bh, 0, none⟩), .pointer (some ⟨bo, 0, none⟩), .pointer (some ⟨bd, 0, none⟩), .int .i64 (i : Nat), u7, u8, u9, u10, u11, u12, u13, u14, .slice (some ⟨o, 0, none⟩) n co, .int .i64 (i : Nat), .func (.func f) #[] caps, .slice (some ⟨gl, 0, none⟩) n cl, .int .i64 (i : Nat), .pointer (some ⟨gl, i, none⟩), .int .i64 (L i), .int .i64 (F i), .pointer (some ⟨o, i, none⟩), u24] : Array Value), []⟩ _ _
  refine anyG_all (rs := [9]) (by kernel_rfl) (by simp) fun x hx => ?_
  simp at hx
  subst hx
  refine w54_op9 rfl rfl rfl hs hlt hi fun w4 h4 => ⟨h4.mono (by omega), ?_⟩
  exact anyG_done (by kernel_rfl) (hQ _ _ h4) _
end Go.Proofs.Ytpigjhagdpeofaa.Sim

namespace Go.Proofs.Ytpigjhagdpeofaa.Sim
open Go Go.Conc
set_option linter.unusedVariables false
theorem Sat.start {o n k r : Nat} {Rd : Nat → Prop} {F : Nat → Int} {w0 w : World} {M : Nat → Prop} {r0 : Nat} (h : Sat o n k r Rd F w0 M w 0) (hr0 : r0 < k) (hr : r0 % k = r) : Sat o n k r Rd F w0 M w r0 := by
  refine ⟨h.rd, h.keep, h.size, h.olow, ?_⟩
  obtain ⟨cs, a1, a2, a3⟩ := h.out
  refine ⟨cs, a1, a2, fun p hp hp2 => ?_⟩
  rw [Nat.mod_eq_of_lt hr0] at hr
  rw [Nat.mod_eq_of_lt (by omega)] at hp2
  omega
def at6 (a : Act) : Nat := match a.tmps.getD 6 undef with | .int _ z => z.toNat | _ => 0
/-- All but the send. -/
noncomputable def A54 : Code := match Try.f54.body with | some (.seq a _) => a | _ => .skip
def E54 (o n k r : Nat) (Rd : Nat → Prop) (F : Nat → Int) (w0 : World) (bw bl bk bh bo bd : Nat) : Exit → Act → (Nat → Prop) → World → Prop := fun e a M w => e = .normal ∧ ∃ (i : Nat) (u7 u8 u9 u10 u11 u12 u13 u14 u15 u16 u17 u18 u19 u20 u21 u22 u23 u24 : Value), a = ⟨(#[.pointer (some ⟨bw, 0, none⟩), .pointer (some ⟨bl, 0, none⟩), .pointer (some ⟨bk, 0, none⟩), .pointer (some ⟨bh, 0, none⟩), .pointer (some ⟨bo, 0, none⟩), .pointer (some ⟨bd, 0, none⟩), .int .i64 (i : Nat), u7, u8, u9, u10, u11, u12, u13, u14, u15, u16, u17, u18, u19, u20, u21, u22, u23, u24] : Array Value), []⟩ ∧ n ≤ i ∧ Sat o n k r Rd F w0 M w i
set_option maxRecDepth 100000 in
theorem w54 {m : Bool} {o n k r : Nat} {Rd : Nat → Prop} {F L : Nat → Int} {M : Nat → Prop} {w0 w : World} {bw bl bk bh bo bd gl cl co r0 : Nat} {al : Option Addr} {f : FuncId} {caps : Array Value}
    (hn : n < 1000000000) (hk0 : 0 < k) (hk8 : k ≤ 8) (hr0 : r0 < k) (hr : r0 % k = r)
    (dw : Rd bw) (dl : Rd bl) (dk : Rd bk) (dh : Rd bh) (dO : Rd bo) (dg : Rd gl)
    (cw : w0.cell? ⟨bw, 0, none⟩ = some (.int .i64 (r0 : Nat))) (c_l : w0.cell? ⟨bl, 0, none⟩ = some (.slice al n cl)) (hal : 0 < n → al = some ⟨gl, 0, none⟩) (ck : w0.cell? ⟨bk, 0, none⟩ = some (.int .i64 (k : Nat)))
    (ch : w0.cell? ⟨bh, 0, none⟩ = some (.func (.func f) #[] caps)) (cO : w0.cell? ⟨bo, 0, none⟩ = some (.slice (some ⟨o, 0, none⟩) n co)) (cL : ∀ j, j < n → w0.cell? ⟨gl, j, none⟩ = some (.int .i64 (L j)))
    (hs : Sat o n k r Rd F w0 M w 0) (hE : Ent f)
    (hcall : ∀ i, i < n → i % k = r → ∀ base M w, Sat o n k r Rd F w0 M w i → WkG Try.prog m (RelyW o (fun j => j % k = r) Rd) (OwnW o (fun j => j % k = r) Rd) (RetG Try.prog (OwnW o (fun j => j % k = r) Rd) base fun v M' w' => v = .int .i64 (F i) ∧ Sat o n k r Rd F w0 M' w' i) M (G (Frame.enter Try.prog f (#[.int .i64 (L i)] ++ caps) .normal) base) w) :
    wpG Try.prog m (RelyW o (fun j => j % k = r) Rd) (OwnW o (fun j => j % k = r) Rd) 54 A54 (E54 o n k r Rd F w0 bw bl bk bh bo bd) ⟨(#[.pointer (some ⟨bw, 0, none⟩), .pointer (some ⟨bl, 0, none⟩), .pointer (some ⟨bk, 0, none⟩), .pointer (some ⟨bh, 0, none⟩), .pointer (some ⟨bo, 0, none⟩), .pointer (some ⟨bd, 0, none⟩), undef, undef, undef, undef, undef, undef, undef, undef, undef, undef, undef, undef, undef, undef, undef, undef, undef, undef, undef] : Array Value), []⟩ M w := by
  have T := OwnW.terms (o := o) (mine := fun j => j % k = r) (Rd := Rd)
  show wpG _ _ _ _ _ (.seq _ _) _ _ _ _
  refine wpG_seq T ?_
  refine wpG_region T ?_
  refine opsG_still (v := .int .i64 (r0 : Nat)) rfl rfl (fun w1 h1 => ?_) (fun w1 h1 e he => ?_) fun w1 h1 => ?_
  · have hs1 := hs.rely h1
    have hc1 := hs1.cell dw cw
    simp [go_sem, hc1]
  · have hs1 := hs.rely h1
    have hc1 := hs1.cell dw cw
    simp [go_sem, hc1] at he
    subst he
    exact ⟨_, rfl, .inr (.inl dw)⟩
  replace hs := hs.rely h1
  clear h1
  show opsG Try.prog m _ _ 54 _ _ _ ⟨(#[.pointer (some ⟨bw, 0, none⟩), .pointer (some ⟨bl, 0, none⟩), .pointer (some ⟨bk, 0, none⟩), .pointer (some ⟨bh, 0, none⟩), .pointer (some ⟨bo, 0, none⟩), .pointer (some ⟨bd, 0, none⟩), undef, .int .i64 (r0 : Nat), undef, undef, undef, undef, undef, undef, undef, undef, undef, undef, undef, undef, undef, undef, undef, undef, undef] : Array Value), []⟩ _ _
  refine opsG_still (v := .int .i64 (r0 : Nat)) rfl rfl (fun w1 h1 => ?_) (fun w1 h1 e he => ?_) fun w1 h1 => ?_
  · have hs1 := hs.rely h1
    simp [go_sem]
  · have hs1 := hs.rely h1
    simp [go_sem] at he
  replace hs := hs.rely h1
  clear h1
  show opsG Try.prog m _ _ 54 _ _ _ ⟨(#[.pointer (some ⟨bw, 0, none⟩), .pointer (some ⟨bl, 0, none⟩), .pointer (some ⟨bk, 0, none⟩), .pointer (some ⟨bh, 0, none⟩), .pointer (some ⟨bo, 0, none⟩), .pointer (some ⟨bd, 0, none⟩), .int .i64 (r0 : Nat), .int .i64 (r0 : Nat), undef, undef, undef, undef, undef, undef, undef, undef, undef, undef, undef, undef, undef, undef, undef, undef, undef] : Array Value), []⟩ _ _
  refine opsG_nil T ?_
  show wpG _ _ _ _ _ _ _ _ _ _
  refine wpG_block T ?_
  refine wpG_loop T (fun a M w => ∃ (i : Nat) (u7 u8 u9 u10 u11 u12 u13 u14 u15 u16 u17 u18 u19 u20 u21 u22 u23 u24 : Value), a = ⟨(#[.pointer (some ⟨bw, 0, none⟩), .pointer (some ⟨bl, 0, none⟩), .pointer (some ⟨bk, 0, none⟩), .pointer (some ⟨bh, 0, none⟩), .pointer (some ⟨bo, 0, none⟩), .pointer (some ⟨bd, 0, none⟩), .int .i64 (i : Nat), u7, u8, u9, u10, u11, u12, u13, u14, u15, u16, u17, u18, u19, u20, u21, u22, u23, u24] : Array Value), []⟩ ∧ i % k = r ∧ i < n + k ∧ Sat o n k r Rd F w0 M w i) (fun a => n + k - at6 a) ⟨r0, _, _, _, _, _, _, _, _, _, _, _, _, _, _, _, _, _, _, rfl, hr, by omega, hs.start hr0 hr⟩ ?_
  rintro a M w ⟨i, u7, u8, u9, u10, u11, u12, u13, u14, u15, u16, u17, u18, u19, u20, u21, u22, u23, u24, rfl, hi, hin, hs⟩
  refine wpG_seq T ?_
  refine wpG_seq T ?_
  refine wpG_region T ?_
  refine opsG_still (v := .int .i64 (i : Nat)) rfl rfl (fun w1 h1 => ?_) (fun w1 h1 e he => ?_) fun w1 h1 => ?_
  · have hs1 := hs.rely h1
    simp [go_sem]
  · have hs1 := hs.rely h1
    simp [go_sem] at he
  replace hs := hs.rely h1
  clear h1
  show opsG Try.prog m _ _ 54 _ _ _ ⟨(#[.pointer (some ⟨bw, 0, none⟩), .pointer (some ⟨bl, 0, none⟩), .pointer (some ⟨bk, 0, none⟩), .pointer (some ⟨bh, 0, none⟩), .pointer (some ⟨bo, 0, none⟩), .pointer (some ⟨bd, 0, none⟩), .int .i64 (i : Nat), u7, .int .i64 (i : Nat), u9, u10, u11, u12, u13, u14, u15, u16, u17, u18, u19, u20, u21, u22, u23, u24] : Array Value), []⟩ _ _
  refine opsG_still (v := .slice al n cl) rfl rfl (fun w1 h1 => ?_) (fun w1 h1 e he => ?_) fun w1 h1 => ?_
  · have hs1 := hs.rely h1
    have hc1 := hs1.cell dl c_l
    simp [go_sem, hc1]
  · have hs1 := hs.rely h1
    have hc1 := hs1.cell dl c_l
    simp [go_sem, hc1] at he
    subst he
    exact ⟨_, rfl, .inr (.inl dl)⟩
  replace hs := hs.rely h1
  clear h1
  show opsG Try.prog m _ _ 54 _ _ _ ⟨(#[.pointer (some ⟨bw, 0, none⟩), .pointer (some ⟨bl, 0, none⟩), .pointer (some ⟨bk, 0, none⟩), .pointer (some ⟨bh, 0, none⟩), .pointer (some ⟨bo, 0, none⟩), .pointer (some ⟨bd, 0, none⟩), .int .i64 (i : Nat), u7, .int .i64 (i : Nat), .slice al n cl, u10, u11, u12, u13, u14, u15, u16, u17, u18, u19, u20, u21, u22, u23, u24] : Array Value), []⟩ _ _
  refine opsG_still (v := .int .i64 (n : Nat)) rfl rfl (fun w1 h1 => ?_) (fun w1 h1 e he => ?_) fun w1 h1 => ?_
  · have hs1 := hs.rely h1
    simp [go_sem]
  · have hs1 := hs.rely h1
    simp [go_sem] at he
  replace hs := hs.rely h1
  clear h1
  show opsG Try.prog m _ _ 54 _ _ _ ⟨(#[.pointer (some ⟨bw, 0, none⟩), .pointer (some ⟨bl, 0, none⟩), .pointer (some ⟨bk, 0, none⟩), .pointer (some ⟨bh, 0, none⟩), .pointer (some ⟨bo, 0, none⟩), .pointer (some ⟨bd, 0, none⟩), .int .i64 (i : Nat), u7, .int .i64 (i : Nat), .slice al n cl, .int .i64 (n : Nat), u11, u12, u13, u14, u15, u16, u17, u18, u19, u20, u21, u22, u23, u24] : Array Value), []⟩ _ _
  refine opsG_still (v := .bool (decide ((i : Int) < (n : Int)))) rfl rfl (fun w1 h1 => ?_) (fun w1 h1 e he => ?_) fun w1 h1 => ?_
  · have hs1 := hs.rely h1
    simp [go_sem]
  · have hs1 := hs.rely h1
    simp [go_sem] at he
  replace hs := hs.rely h1
  clear h1
  show opsG Try.prog m _ _ 54 _ _ _ ⟨(#[.pointer (some ⟨bw, 0, none⟩), .pointer (some ⟨bl, 0, none⟩), .pointer (some ⟨bk, 0, none⟩), .pointer (some ⟨bh, 0, none⟩), .pointer (some ⟨bo, 0, none⟩), .pointer (some ⟨bd, 0, none⟩), .int .i64 (i : Nat), u7, .int .i64 (i : Nat), .slice al n cl, .int .i64 (n : Nat), .bool (decide ((i : Int) < (n : Int))), u12, u13, u14, u15, u16, u17, u18, u19, u20, u21, u22, u23, u24] : Array Value), []⟩ _ _
  refine opsG_nil T ?_
  show wpG _ _ _ _ _ _ _ _ _ _
  refine wpG_cond T (t := decide ((i : Int) < (n : Int))) rfl ?_
  by_cases hlt : i < n
  · have hd : decide ((i : Int) < (n : Int)) = true := by simpa using hlt
    simp only [hd, if_true]
    obtain rfl := hal (by omega)
    refine wpG_skip T ?_
    show wpG _ _ _ _ _ _ _ _ _ _
    refine wpG_seq T ?_
    refine wpG_block T ?_
    refine w54_r3 hn dl dh dO dg c_l ch cO cL hlt hi hs hE (fun base M w h => hcall i hlt hi base M w h) (fun a M x y h q => wpG_rely T h q) _ _ _ _ _ _ _ _ _ _ _ _ _ _ _ _ _ _ fun M w hs => ?_
    show wpG _ _ _ _ _ _ _ _ _ _
    refine wpG_region T ?_
    refine opsG_still (v := .int .i64 (i : Nat)) rfl rfl (fun w1 h1 => ?_) (fun w1 h1 e he => ?_) fun w1 h1 => ?_
    · have hs1 := hs.rely h1
      simp [go_sem]
    · have hs1 := hs.rely h1
      simp [go_sem] at he
    replace hs := hs.rely h1
    clear h1
    show opsG Try.prog m _ _ 54 _ _ _ ⟨(#[.pointer (some ⟨bw, 0, none⟩), .pointer (some ⟨bl, 0, none⟩), .pointer (some ⟨bk, 0, none⟩), .pointer (some ⟨bh, 0, none⟩), .pointer (some ⟨bo, 0, none⟩), .pointer (some ⟨bd, 0, none⟩), .int .i64 (i : Nat), u7, .int .i64 (i : Nat), .slice (some ⟨gl, 0, none⟩) n cl, .int .i64 (n : Nat), .bool true, .int .i64 (i : Nat), u13, u14, .slice (some ⟨o, 0, none⟩) n co, .int .i64 (i : Nat), .func (.func f) #[] caps, .slice (some ⟨gl, 0, none⟩) n cl, .int .i64 (i : Nat), .pointer (some ⟨gl, i, none⟩), .int .i64 (L i), .int .i64 (F i), .pointer (some ⟨o, i, none⟩), u24] : Array Value), []⟩ _ _
    refine opsG_still (v := .int .i64 (k : Nat)) rfl rfl (fun w1 h1 => ?_) (fun w1 h1 e he => ?_) fun w1 h1 => ?_
    · have hs1 := hs.rely h1
      have hc1 := hs1.cell dk ck
      simp [go_sem, hc1]
    · have hs1 := hs.rely h1
      have hc1 := hs1.cell dk ck
      simp [go_sem, hc1] at he
      subst he
      exact ⟨_, rfl, .inr (.inl dk)⟩
    replace hs := hs.rely h1
    clear h1
    show opsG Try.prog m _ _ 54 _ _ _ ⟨(#[.pointer (some ⟨bw, 0, none⟩), .pointer (some ⟨bl, 0, none⟩), .pointer (some ⟨bk, 0, none⟩), .pointer (some ⟨bh, 0, none⟩), .pointer (some ⟨bo, 0, none⟩), .pointer (some ⟨bd, 0, none⟩), .int .i64 (i : Nat), u7, .int .i64 (i : Nat), .slice (some ⟨gl, 0, none⟩) n cl, .int .i64 (n : Nat), .bool true, .int .i64 (i : Nat), .int .i64 (k : Nat), u14, .slice (some ⟨o, 0, none⟩) n co, .int .i64 (i : Nat), .func (.func f) #[] caps, .slice (some ⟨gl, 0, none⟩) n cl, .int .i64 (i : Nat), .pointer (some ⟨gl, i, none⟩), .int .i64 (L i), .int .i64 (F i), .pointer (some ⟨o, i, none⟩), u24] : Array Value), []⟩ _ _
    refine opsG_still (v := .int .i64 ((i + k : Nat) : Int)) rfl rfl (fun w1 h1 => ?_) (fun w1 h1 e he => ?_) fun w1 h1 => ?_
    · have hs1 := hs.rely h1
      have hc1 : IntKind.i64.wrap ((i : Int) + (k : Int)) = ((i + k : Nat) : Int) := by rw [IntKind.wrap_i64]; omega
      simp [go_sem, hc1]
    · have hs1 := hs.rely h1
      have hc1 : IntKind.i64.wrap ((i : Int) + (k : Int)) = ((i + k : Nat) : Int) := by rw [IntKind.wrap_i64]; omega
      simp [go_sem, hc1] at he
    replace hs := hs.rely h1
    clear h1
    show opsG Try.prog m _ _ 54 _ _ _ ⟨(#[.pointer (some ⟨bw, 0, none⟩), .pointer (some ⟨bl, 0, none⟩), .pointer (some ⟨bk, 0, none⟩), .pointer (some ⟨bh, 0, none⟩), .pointer (some ⟨bo, 0, none⟩), .pointer (some ⟨bd, 0, none⟩), .int .i64 (i : Nat), u7, .int .i64 (i : Nat), .slice (some ⟨gl, 0, none⟩) n cl, .int .i64 (n : Nat), .bool true, .int .i64 (i : Nat), .int .i64 (k : Nat), .int .i64 ((i + k : Nat) : Int), .slice (some ⟨o, 0, none⟩) n co, .int .i64 (i : Nat), .func (.func f) #[] caps, .slice (some ⟨gl, 0, none⟩) n cl, .int .i64 (i : Nat), .pointer (some ⟨gl, i, none⟩), .int .i64 (L i), .int .i64 (F i), .pointer (some ⟨o, i, none⟩), u24] : Array Value), []⟩ _ _
    refine opsG_still (v := .int .i64 ((i + k : Nat) : Int)) rfl rfl (fun w1 h1 => ?_) (fun w1 h1 e he => ?_) fun w1 h1 => ?_
    · have hs1 := hs.rely h1
      simp [go_sem]
    · have hs1 := hs.rely h1
      simp [go_sem] at he
    replace hs := hs.rely h1
    clear h1
    show opsG Try.prog m _ _ 54 _ _ _ ⟨(#[.pointer (some ⟨bw, 0, none⟩), .pointer (some ⟨bl, 0, none⟩), .pointer (some ⟨bk, 0, none⟩), .pointer (some ⟨bh, 0, none⟩), .pointer (some ⟨bo, 0, none⟩), .pointer (some ⟨bd, 0, none⟩), .int .i64 ((i + k : Nat) : Int), u7, .int .i64 (i : Nat), .slice (some ⟨gl, 0, none⟩) n cl, .int .i64 (n : Nat), .bool true, .int .i64 (i : Nat), .int .i64 (k : Nat), .int .i64 ((i + k : Nat) : Int), .slice (some ⟨o, 0, none⟩) n co, .int .i64 (i : Nat), .func (.func f) #[] caps, .slice (some ⟨gl, 0, none⟩) n cl, .int .i64 (i : Nat), .pointer (some ⟨gl, i, none⟩), .int .i64 (L i), .int .i64 (F i), .pointer (some ⟨o, i, none⟩), u24] : Array Value), []⟩ _ _
    refine opsG_nil T ?_
    refine ⟨⟨i + k, _, _, _, _, _, _, _, _, _, _, _, _, _, _, _, _, _, _, rfl, by rw [Nat.add_mod_right]; exact hi, by omega, hs⟩, ?_⟩
    have e1 : ((i : Int) + (k : Int)).toNat = i + k := by omega
    show n + k - (Int.toNat ((i + k : Nat) : Int)) < n + k - (Int.toNat (i : Int))
    omega
  · have hd : decide ((i : Int) < (n : Int)) = false := by simpa using hlt
    simp only [hd]
    refine wpG_exit T ?_
    exact ⟨rfl, i, _, _, _, _, _, _, _, _, _, _, _, _, _, _, _, _, _, _, rfl, by omega, hs⟩
end Go.Proofs.Ytpigjhagdpeofaa.Sim

namespace Go.Proofs.Ytpigjhagdpeofaa.Sim
open Go Go.Conc
set_option linter.unusedVariables false

theorem memOf {g : Nat} {fn : FuncId} {pos : String} {es : Array Event} {op : MemOp} (h : op ∈ MemOp.ofEvents g fn pos es) : ∃ e ∈ es, op = { g, fn, pos, act := .ofEvent e } := Go.Conc.mem_ofEvents h
/-- A: who is at work; Cl: who may touch what (and write it); every touched block lies below B. -/
structure TI (A : Nat → Prop) (Cl : Nat → Addr → Bool → Prop) (B : Nat) (t : Trace) : Prop where
  words : Wordless t
  clean : ∀ said, ¬ Race said t
  seen : ∀ op ∈ t, op.act.low B
  know : ∀ g, A g → ∀ i x, touchAt t i = some x → Knows t g i ∨ ∀ a wr, Cl g a wr → x.loc = .cell a → x.write = false ∧ wr = false
  who : ∀ i x, touchAt t i = some x → x.loc.isMemory = true → Knows t 0 i ∨ ∃ g, g ≠ 0 ∧ A g ∧ t.g? i = some g ∧ ∃ a, x.loc = .cell a ∧ Cl g a x.write
/-- What a step may list. -/
def EvC (C : Addr → Bool → Prop) (B : Nat) (e : Event) : Prop := e = ⟨.mark .noRoom, false, true⟩ ∨ ∃ (a : Addr) (wr : Bool), e = ⟨.cell a, wr, false⟩ ∧ C a wr ∧ a.block < B

section
variable {A : Nat → Prop} {Cl : Nat → Addr → Bool → Prop} {B : Nat} {t : Trace}
theorem touch_evC {C : Addr → Bool → Prop} {B : Nat} {e : Event} (h : EvC C B e) {x : Touch} (hx : (MemAct.ofEvent e).touch? = some x) : ∃ a, x.loc = .cell a ∧ C a x.write ∧ a.block < B := by
  rcases h with rfl | ⟨a, wr, rfl, h1, h2⟩
  · simp [MemAct.ofEvent, MemAct.touch?] at hx
  · simp only [ofEvent_cell0, MemAct.touch?, Option.some.injEq] at hx
    subst hx
    exact ⟨a, rfl, h1, h2⟩
theorem low_evC {C : Addr → Bool → Prop} {B : Nat} {e : Event} (h : EvC C B e) : (MemAct.ofEvent e).low B := by
  rcases h with rfl | ⟨a, wr, rfl, h1, h2⟩
  · simp [MemAct.ofEvent, MemAct.low]
  · rw [ofEvent_cell0]; exact h2
theorem word_evC {C : Addr → Bool → Prop} {B : Nat} {e : Event} (h : EvC C B e) {m : Mark} (hm : MemAct.ofEvent e = .mark m) : Neutral m := by
  rcases h with rfl | ⟨a, wr, rfl, h1, h2⟩
  · simp only [MemAct.ofEvent, MemAct.mark.injEq] at hm
    exact hm.symm
  · rw [ofEvent_cell0] at hm; cases hm
theorem TI.low_at (h : TI A Cl B t) {i : Nat} {x : Touch} (hx : touchAt t i = some x) {a : Addr} (ha : x.loc = .cell a) : a.block < B := by
  obtain ⟨op, ho, hox⟩ := touch_of hx
  have := h.seen op (mem_of_getElem? ho)
  cases hact : op.act with
  | access e =>
    rw [hact] at this hox
    simp only [MemAct.touch?, Option.some.injEq] at hox
    subst hox
    have ha : e.loc = .cell a := ha
    have this : e.loc.low B := this
    rw [ha] at this
    exact this
  | mark m =>
    rw [hact] at this hox
    cases m <;> simp only [MemAct.touch?, Option.some.injEq, reduceCtorEq] at hox
    all_goals
      subst hox
      cases ha
      exact this
  | _ => rw [hact] at hox; cases hox
theorem low_to {B B' : Nat} (hB : B ≤ B') {u : Trace} (h : ∀ op ∈ u, op.act.low B) : ∀ op ∈ u, op.act.low B' := fun op ho => MemAct.low_mono hB (h op ho)
theorem TI.mono {A' : Nat → Prop} {B' : Nat} (h : TI A Cl B t) (hB : B ≤ B') (hA : ∀ g, A g ↔ A' g) : TI A' Cl B' t :=
  ⟨h.words, h.clean, low_to hB h.seen, fun g hg => h.know g ((hA g).2 hg), fun i x hx hm => (h.who i x hx hm).imp id fun ⟨g, h1, h2, h3⟩ => ⟨g, h1, (hA g).1 h2, h3⟩⟩

/-- A step of one that is at work. -/
theorem TI.own {Cl' : Nat → Addr → Bool → Prop} {B' : Nat} {g : Nat} {fn : FuncId} {pos : String} {es : Array Event} (h : TI A Cl B t) (hg : A g) (hB : B ≤ B') (hcl : ∀ a wr, Cl' g a wr → Cl g a wr ∨ B ≤ a.block) (hmono : ∀ a wr, Cl g a wr → Cl' g a wr)
    (ho : ∀ g', g' ≠ g → ∀ a wr, Cl' g' a wr ↔ Cl g' a wr) (hdis : ∀ g', A g' → g' ≠ g → ∀ a wr wr', Cl' g a wr → Cl' g' a wr' → wr = false ∧ wr' = false) (hes : ∀ e ∈ es, EvC (Cl' g) B' e) : TI A Cl' B' (t ++ MemOp.ofEvents g fn pos es) := by
  refine ⟨h.words.append fun op hop m hm => ?_, fun said => noRace_append (g := g) (h.clean said) (fun op hop => ?_) fun i a ha op hop b hb hc => ?_, seen_app (low_to hB h.seen) fun op hop => ?_, fun g' hg' i x hx => ?_, fun i x hx hm => ?_⟩
  · obtain ⟨e, he, rfl⟩ := memOf hop
    exact word_evC (hes e he) hm
  · obtain ⟨e, he, rfl⟩ := memOf hop
    rfl
  · obtain ⟨e, he, rfl⟩ := memOf hop
    obtain ⟨ad, h1, h2, h3⟩ := touch_evC (hes e he) hb
    rcases h.know g hg i a ha with hk | hk
    · exact hk
    · exfalso
      have hl : a.loc = .cell ad := hc.1.trans h1
      rcases hcl _ _ h2 with h4 | h4
      · obtain ⟨e1, e2⟩ := hk _ _ h4 hl
        rcases hc.2.2.1 with e3 | e3
        · rw [e1] at e3; cases e3
        · rw [e2] at e3; cases e3
      · have := h.low_at ha hl
        omega
  · obtain ⟨e, he, rfl⟩ := memOf hop
    exact low_evC (hes e he)
  · obtain ⟨op, hop, hox⟩ := touch_of hx
    rcases getElem?_append_cases hop with ⟨hi, hop'⟩ | ⟨hi, hopu⟩
    · have hx' : touchAt t i = some x := by rw [touchAt_of hop']; exact hox
      rcases h.know g' hg' i x hx' with hk | hk
      · exact .inl (hk.app _)
      · refine .inr fun a wr hc hl => ?_
        by_cases e : g' = g
        · subst e
          rcases hcl _ _ hc with h4 | h4
          · exact hk _ _ h4 hl
          · have := h.low_at hx' hl
            omega
        · exact hk _ _ ((ho g' e a wr).1 hc) hl
    · obtain ⟨ev, he, rfl⟩ := memOf hopu
      by_cases e : g' = g
      · subst e
        exact .inl (knows_own hop)
      · refine .inr fun a wr hc hl => ?_
        obtain ⟨ad, h1, h2, h3⟩ := touch_evC (hes ev he) hox
        rw [h1] at hl
        cases hl
        exact hdis g' hg' e _ _ _ h2 hc
  · obtain ⟨op, hop, hox⟩ := touch_of hx
    rcases getElem?_append_cases hop with ⟨hi, hop'⟩ | ⟨hi, hopu⟩
    · have hx' : touchAt t i = some x := by rw [touchAt_of hop']; exact hox
      rcases h.who i x hx' hm with hk | ⟨g', h1, h2, h3, a, h4, h5⟩
      · exact .inl (hk.app _)
      · refine .inr ⟨g', h1, h2, by rw [g?_old hi]; exact h3, a, h4, ?_⟩
        by_cases e : g' = g
        · subst e; exact hmono _ _ h5
        · exact (ho g' e _ _).2 h5
    · obtain ⟨ev, he, rfl⟩ := memOf hopu
      obtain ⟨ad, h1, h2, h3⟩ := touch_evC (hes ev he) hox
      by_cases e : g = 0
      · subst e
        exact .inl (knows_own hop)
      · exact .inr ⟨g, e, hg, by simp [Trace.g?, hop], ad, h1, h2⟩

/-- Operations that touch nothing. -/
theorem noRace_mute {said : Bool} : ∀ (u : List MemOp) {t : Trace}, ¬ Race said t → (∀ op ∈ u, op.act.touch? = none) → ¬ Race said (t ++ u.toArray)
  | [], t, h, hu => by simpa using h
  | x :: u, t, h, hu => by
    have e : t ++ (x :: u).toArray = (t ++ #[x]) ++ u.toArray := by simp
    rw [e]
    refine noRace_mute u (noRace_append (g := x.g) h (fun op hop => by simp at hop; rw [hop]) fun i a ha op hop b hb hc => ?_) fun op hop => hu op (by simp [hop])
    simp at hop
    subst hop
    rw [hu op (by simp)] at hb
    cases hb
theorem old_touch {u : Trace} (hu : ∀ op ∈ u, op.act.touch? = none) {i : Nat} {x : Touch} (hx : touchAt (t ++ u) i = some x) : i < t.size ∧ touchAt t i = some x ∧ ∃ op, t[i]? = some op := by
  obtain ⟨op, hop, hox⟩ := touch_of hx
  rcases getElem?_append_cases hop with ⟨hi, hop'⟩ | ⟨hi, hopu⟩
  · exact ⟨hi, by rw [touchAt_of hop']; exact hox, op, hop'⟩
  · rw [hu op hopu] at hox; cases hox

/-- Goroutine 0 starts another. -/
theorem TI.spawn {Cl' : Nat → Addr → Bool → Prop} {n : Nat} {x y : MemOp} (h : TI A Cl B t) (h0 : A 0) (hn : n ≠ 0) (hx : x.g = 0 ∧ x.act = .go n) (hy : y.g = n ∧ y.act = .start)
    (hle : ∀ g, g ≠ n → ∀ a wr, Cl' g a wr → Cl g a wr) (heq : ∀ g, g ≠ 0 → g ≠ n → ∀ a wr, Cl g a wr → Cl' g a wr) (hna : ¬ A n)
    (hdis : ∀ g, A g → g ≠ 0 → ∀ a wr wr', Cl' n a wr → Cl g a wr' → wr = false ∧ wr' = false) : TI (fun g => A g ∨ g = n) Cl' B (t ++ #[x, y]) := by
  have hu : ∀ op ∈ (#[x, y] : Trace), op.act.touch? = none := by
    intro op hop
    simp at hop
    rcases hop with rfl | rfl
    · rw [hx.2]; rfl
    · rw [hy.2]; rfl
  have ex : (t ++ #[x, y])[t.size]? = some x := by simp
  have ey : (t ++ #[x, y])[t.size + 1]? = some y := by simp
  have hw : Wordless (t ++ #[x, y]) := h.words.append fun op hop m hm => by
    simp at hop
    rcases hop with rfl | rfl
    · rw [hx.2] at hm; cases hm
    · rw [hy.2] at hm; cases hm
  refine ⟨hw, fun said => noRace_mute [x, y] (h.clean said) fun op hop => hu op (by simpa using hop), seen_app h.seen fun op hop => ?_, fun g hg i z hz => ?_, fun i z hz hm => ?_⟩
  · simp at hop
    rcases hop with rfl | rfl
    · rw [hx.2]; trivial
    · rw [hy.2]; trivial
  · obtain ⟨hi, hz', op, hop⟩ := old_touch hu hz
    by_cases e : g = n
    · subst e
      by_cases hmm : z.loc.isMemory = true
      · rcases h.who i z hz' hmm with ⟨q, zq, h1, h2, h3⟩ | ⟨g', h1, h2, h3, a, h4, h5⟩
        · left
          have hq := lt_size_of_getElem? h1
          have b1 : HappensBefore (t ++ #[x, y]) i t.size := (h3.app _).hb (hb_po hq (by rw [getElem?_append_old hq]; exact h1) ex (h2.trans hx.1.symm))
          have b2 : HappensBefore (t ++ #[x, y]) t.size (t.size + 1) := .single (.inr ⟨.spawn (child := g) (by rw [act?_of ex, hx.2]) (by rw [act?_of ey, hy.2]) (by simp [Trace.g?, hy.1]), hw.heard ex, hw.heard ey⟩)
          exact ⟨_, y, ey, hy.1, .inr (b1.trans b2)⟩
        · right
          intro a' wr hc hl
          rw [h4] at hl
          cases hl
          have := hdis g' h2 h1 _ _ _ hc h5
          exact ⟨this.2, this.1⟩
      · right
        intro a' wr hc hl
        rw [hl] at hmm
        exact absurd rfl hmm
    · have hg' : A g := hg.resolve_right e
      rcases h.know g hg' i z hz' with hk | hk
      · exact .inl (hk.app _)
      · exact .inr fun a wr hc hl => hk a wr (hle g e a wr hc) hl
  · obtain ⟨hi, hz', op, hop⟩ := old_touch hu hz
    rcases h.who i z hz' hm with hk | ⟨g', h1, h2, h3, a, h4, h5⟩
    · exact .inl (hk.app _)
    · exact .inr ⟨g', h1, .inl h2, by rw [g?_old hi]; exact h3, a, h4, heq g' h1 (fun e => hna (e ▸ h2)) _ _ h5⟩

/-- A meeting at a channel: what the sender has done is known to goroutine 0. -/
theorem TI.meet {g c s r cap : Nat} {x1 x2 x3 x4 : MemOp} (h : TI A Cl B t) (hc : c < B) (hsr : s = r) (h1 : x1.g = g ∧ x1.act = .send c s) (h2 : x2.g = 0 ∧ x2.act = .recv c r cap) (h3 : x3.g = g ∧ x3.act = .sendDone c s) (h4 : x4.g = 0 ∧ x4.act = .recvDone c r) :
    TI (fun g' => A g' ∧ g' ≠ g) Cl B (t ++ #[x1, x2, x3, x4]) := by
  subst hsr
  have hu : ∀ op ∈ (#[x1, x2, x3, x4] : Trace), op.act.touch? = none := by
    intro op hop
    simp at hop
    rcases hop with rfl | rfl | rfl | rfl
    · rw [h1.2]; rfl
    · rw [h2.2]; rfl
    · rw [h3.2]; rfl
    · rw [h4.2]; rfl
  have e1 : (t ++ #[x1, x2, x3, x4])[t.size]? = some x1 := by simp
  have e4 : (t ++ #[x1, x2, x3, x4])[t.size + 3]? = some x4 := by simp
  have hw : Wordless (t ++ #[x1, x2, x3, x4]) := h.words.append fun op hop m hm => by
    simp at hop
    rcases hop with rfl | rfl | rfl | rfl
    · rw [h1.2] at hm; cases hm
    · rw [h2.2] at hm; cases hm
    · rw [h3.2] at hm; cases hm
    · rw [h4.2] at hm; cases hm
  refine ⟨hw, fun said => noRace_mute [x1, x2, x3, x4] (h.clean said) fun op hop => hu op (by simpa using hop), seen_app h.seen fun op hop => ?_, fun g' hg' i z hz => ?_, fun i z hz hm => ?_⟩
  · simp at hop
    rcases hop with rfl | rfl | rfl | rfl
    · rw [h1.2]; exact hc
    · rw [h2.2]; exact hc
    · rw [h3.2]; exact hc
    · rw [h4.2]; exact hc
  · obtain ⟨hi, hz', op, hop⟩ := old_touch hu hz
    exact (h.know g' hg'.1 i z hz').imp (·.app _) id
  · obtain ⟨hi, hz', op, hop⟩ := old_touch hu hz
    rcases h.who i z hz' hm with hk | ⟨g', k1, k2, k3, a, k4, k5⟩
    · exact .inl (hk.app _)
    · by_cases e : g' = g
      · subst e
        left
        have hog : op.g = g' := by simpa [Trace.g?, hop] using k3
        have b1 : HappensBefore (t ++ #[x1, x2, x3, x4]) i t.size := hb_po hi (by rw [getElem?_append_old hi]; exact hop) e1 (hog.trans h1.1.symm)
        have b2 : HappensBefore (t ++ #[x1, x2, x3, x4]) t.size (t.size + 3) := .single (.inr ⟨.handOver (c := c) (k := s) (by rw [act?_of e1, h1.2]) (by rw [act?_of e4, h4.2]), hw.heard e1, hw.heard e4⟩)
        exact ⟨_, x4, e4, h4.1, .inr (b1.trans b2)⟩
      · exact .inr ⟨g', k1, ⟨k2, e⟩, by rw [g?_old hi]; exact k3, a, k4, k5⟩

/-- Nobody but goroutine 0 is at work: all is known. -/
theorem TI.past (h : TI A Cl B t) (hA : ∀ g, A g → g = 0) : Past (fun _ => False) B t := by
  have known : ∀ i a, touchAt t i = some a → a.loc.isMemory = true → Knows t 0 i := fun i a ha hm => (h.who i a ha hm).elim id fun ⟨g, h1, h2, _⟩ => absurd (hA g h2) h1
  refine ⟨h.clean, fun i a ha hm => .inl (known i a ha hm), fun i g hg hne hc => ?_, h.words.deaf 0 t.size, h.seen⟩
  obtain ⟨x, hx, hm, _⟩ := hc
  obtain ⟨q, z, h1, h2, h3⟩ := known i x hx hm
  refine ⟨q, by simp [Trace.g?, h1, h2], ?_⟩
  rcases h3 with rfl | h3
  · simp [Trace.g?, h1, h2] at hg
    exact absurd hg.symm hne
  · exact h3
theorem TI.of_past (h : Past (fun _ => False) B t) (hw : Wordless t) (Cl : Nat → Addr → Bool → Prop) : TI (fun g => g = 0) Cl B t := by
  have known : ∀ i a, touchAt t i = some a → a.loc.isMemory = true → Knows t 0 i := fun i a ha hm => (h.known i a ha hm).elim id fun h => h.1.elim
  refine ⟨hw, h.clean, h.seen, fun g hg i x hx => ?_, fun i x hx hm => .inl (known i x hx hm)⟩
  subst hg
  by_cases hm : x.loc.isMemory = true
  · exact .inl (known i x hx hm)
  · refine .inr fun a wr _ hl => ?_
    rw [hl] at hm
    exact absurd rfl hm
end
end Go.Proofs.Ytpigjhagdpeofaa.Sim

namespace Go.Proofs.Ytpigjhagdpeofaa.Sim
open Go Go.Conc
set_option linter.unusedVariables false

/-- The class of goroutine x: its places of the row that many write (b: the first worker; k: how many). -/
def cls (b k x p : Nat) : Prop := b ≤ x ∧ p % k = x - b
theorem cls_one {b k x y p : Nat} (h : cls b k x p) (h' : cls b k y p) : x = y := by
  obtain ⟨a1, a2⟩ := h
  obtain ⟨b1, b2⟩ := h'
  omega
def Filled (o n k b : Nat) (F : Nat → Int) (w : World) (x : Nat) : Prop := ∀ p, p < n → cls b k x p → w.cell? ⟨o, p, none⟩ = some (.int .i64 (F p))
abbrev RW (o k b x : Nat) (Rd M : Nat → Prop) (w w1 : World) : Prop := RelyW o (cls b k x) Rd M w w1
abbrev DW (o k b x : Nat) (Rd M M' : Nat → Prop) (w w' : World) (es : Array Event) : Prop := OwnW o (cls b k x) Rd M M' w w' es
/-- A worker's stop: it stands at its send; its places are filled; behind the send it only leaves. -/
def SW (P : Program) (o c n k b : Nat) (F : Nat → Int) (x : Nat) (M : Nat → Prop) (g : Goroutine) (w : World) : Prop :=
  g.status = .running ∧ ∃ g2 z q, stepG P false g w = .comm g2 #[scase c (.bool true) z] true .send w #[] ∧ QuitsIn P q (Go.Conc.served g2 undef) ∧ Filled o n k b F w x
/-- The starter's stops: s: how many communications and starts are left. -/
def S0 (P : Program) (o c n k b : Nat) (F : Nat → Int) (K : Nat → Prop) (Fin : (Nat → Prop) → Goroutine → World → Prop) : Nat → (Nat → Prop) → Goroutine → World → Prop
  | 0 => fun M g w => g.status = .running ∧ Fin M g w
  | s + 1 => fun M g w => g.status = .running ∧ (
      (s < k ∧ ∃ g2 z, stepG P true g w = .comm g2 #[rcase c z] true (.recv false) w #[] ∧ ∀ w', RW o k b 0 K M w w' → WkG P true (RW o k b 0 K) (DW o k b 0 K) (S0 P o c n k b F K Fin s) M (Go.Conc.served g2 (.bool true)) w') ∨
      (k ≤ s ∧ ∃ g' child Rx, stepG P true g w = .spawn g' child w #[] ∧ (∀ y, Rx y → K y ∨ M y) ∧ WkG P true (RW o k b 0 K) (DW o k b 0 K) (S0 P o c n k b F K Fin s) (fun y => M y ∧ ¬ Rx y) g' w ∧
        WkG P false (RW o k b (b + (2 * k - 1 - s)) Rx) (DW o k b (b + (2 * k - 1 - s)) Rx) (SW P o c n k b F (b + (2 * k - 1 - s))) (fun _ => False) child w))

inductive Fl where
  | run | blk | out
  deriving DecidableEq
section
variable {P : Program} {o c n k b : Nat} {F : Nat → Int} {K : Nat → Prop} {Fin : (Nat → Prop) → Goroutine → World → Prop}

inductive GS (P : Program) (o c n k b : Nat) (F : Nat → Int) (K : Nat → Prop) (Fin : (Nat → Prop) → Goroutine → World → Prop) (s x : Nat) (M Rd : Nat → Prop) (g : Goroutine) (w : World) : Fl → Tr × Nat → Prop
  | run0 {τ : Tr} (hx : x = 0) (hK : Rd = K) (h : WkT P true (RW o k b 0 K) (DW o k b 0 K) (S0 P o c n k b F K Fin s) τ M g w) : GS P o c n k b F K Fin s x M Rd g w .run (τ, 1)
  | run1 {τ : Tr} (hx : b ≤ x) (h : WkT P false (RW o k b x Rd) (DW o k b x Rd) (SW P o c n k b F x) τ M g w) : GS P o c n k b F K Fin s x M Rd g w .run (τ, 1)
  | blk0 {s' : Nat} {g2 : Goroutine} {z : Value} (hx : x = 0) (hK : Rd = K) (hs : s = s' + 1) (hk : s' < k) (hg : g = parked g2 #[rcase c z] (.recv false)) (h : ∀ w', RW o k b 0 K M w w' → WkG P true (RW o k b 0 K) (DW o k b 0 K) (S0 P o c n k b F K Fin s') M (Go.Conc.served g2 (.bool true)) w') : GS P o c n k b F K Fin s x M Rd g w .blk (.stop, 0)
  | blk1 {g2 : Goroutine} {z : Value} {q : Nat} (hx : b ≤ x) (hg : g = parked g2 #[scase c (.bool true) z] .send) (hq : QuitsIn P q (Go.Conc.served g2 undef)) (hf : Filled o n k b F w x) : GS P o c n k b F K Fin s x M Rd g w .blk (.stop, 0)
  | out {q : Nat} (hx : x ≠ 0) (h : QuitsIn P q g) (hf : Filled o n k b F w x) : GS P o c n k b F K Fin s x M Rd g w .out (.stop, q)

variable {s x : Nat} {M Rd : Nat → Prop} {g : Goroutine} {w w1 : World} {f : Fl} {r : Tr × Nat}
theorem Filled.row (h : Filled o n k b F w x) (hr : ∃ cs e fz, w.heap[o]? = some (.cells cs e fz)) (hk : ∀ cs e fz, w.heap[o]? = some (.cells cs e fz) → ∃ cs', w1.heap[o]? = some (.cells cs' e fz) ∧ cs'.size = cs.size ∧ ∀ p, cls b k x p → cs'[p]? = cs[p]?) : Filled o n k b F w1 x := by
  intro p hp hc
  obtain ⟨cs, e, fz, h0⟩ := hr
  obtain ⟨cs', h1, _, h2⟩ := hk cs e fz h0
  have h3 := h p hp hc
  simp only [World.cell?, h0, h1, Option.isSome_none, Bool.false_eq_true, if_false] at h3 ⊢
  rw [h2 p hc]
  exact h3
theorem GS.to (h : GS P o c n k b F K Fin s x M Rd g w f r) (hr : f ≠ .out → RW o k b x Rd M w w1) (hf : Filled o n k b F w x → Filled o n k b F w1 x) : GS P o c n k b F K Fin s x M Rd g w1 f r := by
  cases h with
  | run0 hx hK h => subst hx; subst hK; exact .run0 rfl rfl (h.rely OwnW.terms (hr (by simp)))
  | run1 hx h => exact .run1 hx (h.rely OwnW.terms (hr (by simp)))
  | blk0 hx hK hs hk hg h => subst hx; subst hK; exact .blk0 rfl rfl hs hk hg fun w' k' => h w' ((hr (by simp)).trans k')
  | blk1 hx hg hq h => exact .blk1 hx hg hq (hf h)
  | out hx h hf' => exact .out hx h (hf hf')
theorem S0.running (h : S0 P o c n k b F K Fin s M g w) : g.status = .running := by
  cases s <;> exact h.1
theorem WkT.running {I : Type} {m : Bool} {R : I → World → World → Prop} {D : I → I → World → World → Array Event → Prop} {S : I → Goroutine → World → Prop} {i : I} {τ : Tr} (h : WkT P m R D S τ i g w) (hr : R i w w) (hS : ∀ i g w, S i g w → g.status = .running) : g.status = .running := by
  cases τ with
  | stop => exact hS _ _ _ (h w hr)
  | step f => exact h.1
theorem GS.status (h : GS P o c n k b F K Fin s x M Rd g w f r) : (f = .run → g.status = .running) ∧ (f = .blk → g.status = .blocked) ∧ (f = .out → g.status = .running ∨ g.status = .finished) := by
  cases h with
  | run0 hx hK h => exact ⟨fun _ => h.running (RelyW.refl _ _) fun _ _ _ => S0.running, fun e => (by cases e), fun e => (by cases e)⟩
  | run1 hx h => exact ⟨fun _ => h.running (RelyW.refl _ _) fun _ _ _ h => h.1, fun e => (by cases e), fun e => (by cases e)⟩
  | blk0 hx hK hs hk hg h => exact ⟨fun e => (by cases e), fun _ => (by rw [hg]; rfl), fun e => (by cases e)⟩
  | blk1 hx hg hq h => exact ⟨fun e => (by cases e), fun _ => (by rw [hg]; rfl), fun e => (by cases e)⟩
  | out hx h hf' => exact ⟨fun e => (by cases e), fun e => (by cases e), fun _ => h.status⟩
theorem GS.side (h : GS P o c n k b F K Fin s x M Rd g w f r) : (f = .out → x ≠ 0 ∧ ∃ q, QuitsIn P q g ∧ Filled o n k b F w x ∧ r = (.stop, q)) ∧ (f ≠ .out → x = 0 ∨ b ≤ x) := by
  cases h with
  | run0 hx hK h => exact ⟨fun e => (by cases e), fun _ => .inl hx⟩
  | run1 hx h => exact ⟨fun e => (by cases e), fun _ => .inr hx⟩
  | blk0 hx hK hs hk hg h => exact ⟨fun e => (by cases e), fun _ => .inl hx⟩
  | blk1 hx hg hq h => exact ⟨fun e => (by cases e), fun _ => .inr hx⟩
  | out hx h hf' => exact ⟨fun _ => ⟨hx, _, h, hf', rfl⟩, fun e => absurd rfl e⟩
/-- Of one that is not the starter the starter's count says nothing. -/
theorem GS.other (h : GS P o c n k b F K Fin s x M Rd g w f r) (h0 : x ≠ 0) (s' : Nat) : GS P o c n k b F K Fin s' x M Rd g w f r := by
  cases h with
  | run0 hx _ _ => exact absurd hx h0
  | run1 hx h => exact .run1 hx h
  | blk0 hx _ _ _ _ _ => exact absurd hx h0
  | blk1 hx hg hq h => exact .blk1 hx hg hq h
  | out hx h hf' => exact .out hx h hf'
theorem GS.awake (h : GS P o c n k b F K Fin s x M Rd g w f r) : awake g := by
  obtain ⟨h1, h2, h3⟩ := h.status
  cases f with
  | run => exact awake_of (.inl (h1 rfl))
  | blk => exact awake_of (.inr (.inl (h2 rfl)))
  | out => exact awake_of ((h3 rfl).elim .inl fun h => .inr (.inr h))
theorem GS.woken (h : GS P o c n k b F K Fin s x M Rd g w f r) {w' : World} {cap r1 r2 : Nat} {buf : Array Value} {tm : Bool} (hc : w'.heap[c]? = some (.chan cap buf false r1 r2 tm)) (a a' : Goroutine) : woken P a a' w' g = g := by
  obtain ⟨h1, h2, h3⟩ := h.status
  cases h with
  | run0 hx hK h => exact woken_run (h1 rfl)
  | run1 hx h => exact woken_run (h1 rfl)
  | blk0 hx hK hs hk hg h => rw [hg]; exact woken_recv_open _ _ hc
  | blk1 hx hg hq h => rw [hg]; exact woken_send_open _ _ hc
  | out hx h hf' =>
    unfold Go.Conc.woken
    split
    · exact again_running _ h.status
    · rfl
/-- What a blocked one offers. -/
theorem GS.offers (h : GS P o c n k b F K Fin s x M Rd g w f r) (hf : f ≠ .blk) (ch : Nat) (sd : Bool) : offersAt g ch sd = [] := by
  refine offersAt_of_not_blocked (fun e => ?_) ch sd
  obtain ⟨h1, h2, h3⟩ := h.status
  cases f with
  | run => rw [h1 rfl] at e; cases e
  | blk => exact hf rfl
  | out => rcases h3 rfl with h | h <;> (rw [h] at e; cases e)
/-- The world with another count of draws, the channel passed once more. -/
theorem RelyW.chan {mine : Nat → Prop} {M Rd : Nat → Prop} {w : World} {d cap s' r' : Nat} {buf : Array Value} {cl tm : Bool} (hc : ∀ y, M y ∨ Rd y → y ≠ c) (ho : o ≠ c) : RelyW o mine Rd M w ((w.at d).setChan c cap buf cl s' r' tm) := by
  refine ⟨⟨rfl, rfl, rfl, by simp [World.setChan, World.at], fun y hy hm => ?_⟩, fun cs e fz h => ⟨cs, ?_, rfl, fun _ _ => rfl⟩⟩
  · simp only [World.setChan, World.at]
    rw [Array.getElem?_setIfInBounds_ne (fun e => hc y hm e.symm)]
  · simp only [World.setChan, World.at]
    rw [Array.getElem?_setIfInBounds_ne (fun e => ho e.symm)]
    exact h
theorem RelyW.at {mine : Nat → Prop} {M Rd : Nat → Prop} {w : World} (d : Nat) : RelyW o mine Rd M w (w.at d) := ⟨⟨rfl, rfl, rfl, Nat.le_refl _, fun _ _ _ => rfl⟩, fun cs e fz h => ⟨cs, h, rfl, fun _ _ => rfl⟩⟩
theorem Filled.chan {d cap s' r' : Nat} {buf : Array Value} {cl tm : Bool} (ho : o ≠ c) (h : Filled o n k b F w x) : Filled o n k b F ((w.at d).setChan c cap buf cl s' r' tm) x := by
  intro p hp hc
  rw [← h p hp hc]
  simp only [World.cell?, World.setChan, World.at]
  rw [Array.getElem?_setIfInBounds_ne (fun e => ho e.symm)]
end
end Go.Proofs.Ytpigjhagdpeofaa.Sim
