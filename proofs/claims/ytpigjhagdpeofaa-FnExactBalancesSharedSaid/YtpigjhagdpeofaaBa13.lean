/-
  impl.shared in company: it starts its workers, and hears them. No condition.
  impl.shared in company: it starts its workers. No condition.
  The closure that is handed over, called by a worker in company: from its contract alone. No condition.
  A call of impl.shared in company, whole: from a frame in which all others only leave to such a frame. No condition.
  A call of impl.shared in company, whole. No condition.
-/
import Derived.Test.YtpigjhagdpeofaaBa12

namespace Go.Proofs.Ytpigjhagdpeofaa.Sim
open Go Go.Conc
set_option linter.unusedVariables false
set_option maxRecDepth 100000
section
variable {I : Type} {P : Program} {m : Bool} {R : I → World → World → Prop} {D : I → I → World → World → Array Event → Prop} {S : I → Goroutine → World → Prop} {b : Frame} {a : Act} {i : I} {w : World} {ops : Array Oper} {x : Nat} {rest : List Nat} {o : Oper} {k : List Item} {cs : List Frame}
/-- An operation that leaves the world as it is. -/
theorem WkG.still (v : Value) (ho : ops[x]? = some o) (hw : Region.wanted o (yielded ops a.tmps) = true) (hk : b.kind ≠ .early)
    (h : ∀ w1, R i w w1 → (execOp a.eval o).run P w1 = .ok (.value v) w1 ∧ D i i w1 w1 (listed P b.fn a o w1) ∧ WkG P m R D S i (G (b.at (a.put o.dst v) (.inRegion ops rest :: k)) cs) w1) : WkG P m R D S i (G (b.at a (.inRegion ops (x :: rest) :: k)) cs) w := by
  refine .step rfl fun w1 h1 => ?_
  obtain ⟨h2, h3, h4⟩ := h w1 h1
  exact ⟨_, _, _, i, stepG_value ho hw hk h2, h3, h4⟩
end
def oE0 : Oper := { dst := some 22, op := .binOp .lss 2 (.tmp 21) (.tmp 20) 2, type := 4, pos := "l02_scales.go:390", after := #[], guard := none }
def oF0 : Oper := { dst := some 23, op := .load 71 (.tmp 8), type := 71, pos := "l02_scales.go:391", after := #[], guard := none }
def oF1 : Oper := { dst := some 24, op := .recv 71 (.tmp 23) false, type := 4, pos := "l02_scales.go:391", after := #[{ on := 0, ground := Ground.data }], guard := none }
def oG0 : Oper := { dst := some 25, op := .binOp .add 2 (.tmp 21) (.const (.int .i64 1)) 2, type := 2, pos := "l02_scales.go:390", after := #[], guard := none }
def oG1 : Oper := { dst := some 21, op := .move (.tmp 25), type := 2, pos := "l02_scales.go:390", after := #[{ on := 0, ground := Ground.data }], guard := none }
def oD0 : Oper := { dst := some 20, op := .load 2 (.tmp 4), type := 2, pos := "l02_scales.go:390", after := #[], guard := none }
def oD1 : Oper := { dst := some 21, op := .move (.const (.int .i64 0)), type := 2, pos := "l02_scales.go:390", after := #[], guard := none }
def oH0 : Oper := { dst := some 14, op := .load 2 (.tmp 4), type := 2, pos := "l02_scales.go:382", after := #[], guard := none }
def oH1 : Oper := { dst := some 15, op := .move (.const (.int .i64 0)), type := 2, pos := "l02_scales.go:382", after := #[], guard := none }
def oI0 : Oper := { dst := some 16, op := .binOp .lss 2 (.tmp 15) (.tmp 14) 2, type := 4, pos := "l02_scales.go:382", after := #[], guard := none }
def oK0 : Oper := { dst := some 17, op := .move (.tmp 15), type := 2, pos := "l02_scales.go:382", after := #[], guard := none }
def oK1 : Oper := { dst := some 9, op := .alloc 2, type := 0, pos := "l02_scales.go:382", after := #[], guard := none }
def oK2 : Oper := { dst := none, op := .store 2 (.tmp 9) (.tmp 17), type := 0, pos := "l02_scales.go:382", after := #[{ on := 1, ground := Ground.data }, { on := 0, ground := Ground.data }, { on := 0, ground := Ground.phase }, { on := 1, ground := Ground.phase }], guard := none }
def oM0 : Oper := { dst := some 18, op := .makeFunc (.func 54) #[] #[.tmp 9, .tmp 3, .tmp 4, .tmp 5, .tmp 7, .tmp 8], type := 1, pos := "l02_scales.go:383", after := #[], guard := none }
def oM1 : Oper := { dst := none, op := .go { callee := .value (.tmp 18), args := #[], argTypes := #[] }, type := 0, pos := "l02_scales.go:383", after := #[{ on := 0, ground := Ground.data }], guard := none }
def oN0 : Oper := { dst := some 19, op := .binOp .add 2 (.tmp 15) (.const (.int .i64 1)) 2, type := 2, pos := "l02_scales.go:382", after := #[], guard := none }
def oN1 : Oper := { dst := some 15, op := .move (.tmp 19), type := 2, pos := "l02_scales.go:382", after := #[{ on := 0, ground := Ground.data }], guard := none }
noncomputable def t33 : Code := match Try.f33.body with | some (.seq _ (.seq _ t)) => t | _ => .skip
noncomputable def c33a : Code := match t33 with | .seq (.seq r _) _ => r | _ => .skip
noncomputable def c33b : Code := match t33 with | .seq (.seq _ (.block _ (.loop r))) _ => r | _ => .skip
noncomputable def c33c : Code := match t33 with | .seq _ (.seq (.seq r _) _) => r | _ => .skip
noncomputable def c33d : Code := match t33 with | .seq _ (.seq (.seq _ (.block _ (.loop r))) _) => r | _ => .skip
noncomputable def c33e : Code := match t33 with | .seq _ (.seq _ t) => t | _ => .skip
theorem t33_eq : t33 = .seq (.seq c33a (.block 0 (.loop c33b))) (.seq (.seq c33c (.block 2 (.loop c33d))) c33e) := by kernel_rfl
def b33 : Frame := { (default : Frame) with fn := 33, kind := .normal }
def rgO (c : Code) : Array Oper := match c with | .region _ o _ => o | _ => #[]
noncomputable def rE : Array Oper := match c33d with | .seq (.region _ o _) _ => o | _ => #[]
noncomputable def rF : Array Oper := match c33d with | .seq _ (.seq _ (.seq (.block _ (.region _ o _)) _)) => o | _ => #[]
noncomputable def rG : Array Oper := match c33d with | .seq _ (.seq _ (.seq _ (.region _ o _))) => o | _ => #[]
theorem c33d_eq : c33d = .seq (.region 8 rE false) (.seq (.cond (.tmp 22) .skip (.exit 2)) (.seq (.block 3 (.region 9 rF false)) (.region 10 rG false))) := by kernel_rfl
noncomputable def rI : Array Oper := match c33b with | .seq (.region _ o _) _ => o | _ => #[]
noncomputable def rK : Array Oper := match c33b with | .seq _ (.seq _ (.seq (.block _ (.seq (.region _ o _) _)) _)) => o | _ => #[]
noncomputable def rM : Array Oper := match c33b with | .seq _ (.seq _ (.seq (.block _ (.seq _ (.region _ o _))) _)) => o | _ => #[]
noncomputable def rN : Array Oper := match c33b with | .seq _ (.seq _ (.seq _ (.region _ o _))) => o | _ => #[]
theorem c33b_eq : c33b = .seq (.region 3 rI false) (.seq (.cond (.tmp 16) .skip (.exit 0)) (.seq (.block 1 (.seq (.region 4 rK false) (.region 5 rM false))) (.region 6 rN false))) := by kernel_rfl
theorem oE0_at : rE[0]? = some oE0 := by kernel_rfl
theorem oF0_at : rF[0]? = some oF0 := by kernel_rfl
theorem oF1_at : rF[1]? = some oF1 := by kernel_rfl
theorem oG0_at : rG[0]? = some oG0 := by kernel_rfl
theorem oG1_at : rG[1]? = some oG1 := by kernel_rfl
theorem oI0_at : rI[0]? = some oI0 := by kernel_rfl
theorem oK0_at : rK[0]? = some oK0 := by kernel_rfl
theorem oK1_at : rK[1]? = some oK1 := by kernel_rfl
theorem oK2_at : rK[2]? = some oK2 := by kernel_rfl
theorem oM0_at : rM[0]? = some oM0 := by kernel_rfl
theorem oM1_at : rM[1]? = some oM1 := by kernel_rfl
theorem oN0_at : rN[0]? = some oN0 := by kernel_rfl
theorem oN1_at : rN[1]? = some oN1 := by kernel_rfl

/-- What the starter knows of the memory while its workers work. -/
structure HM (N1 o c n : Nat) (w1 w : World) : Prop where
  keep : ∀ y, y < N1 → y ≠ o → y ≠ c → w.heap[y]? = w1.heap[y]?
  size : N1 ≤ w.heap.size
  row : ∃ cs, w.heap[o]? = some (.cells cs 2 (0, 0)) ∧ cs.size = n
  env : w.tape = w1.tape ∧ w.os = w1.os ∧ w.output = w1.output
def KK (N1 o c y : Nat) : Prop := y < N1 ∧ y ≠ o ∧ y ≠ c
theorem HM.rely {N1 o c n k b : Nat} {w1 w w2 : World} {M : Nat → Prop} (h : HM N1 o c n w1 w) (q : RW o k b 0 (KK N1 o c) M w w2) : HM N1 o c n w1 w2 := by
  refine ⟨fun y h1 h2 h3 => (q.rely.keep y (Nat.lt_of_lt_of_le h1 h.size) (.inr ⟨h1, h2, h3⟩)).trans (h.keep y h1 h2 h3), Nat.le_trans h.size q.rely.size, ?_, q.rely.tape.trans h.env.1, q.rely.os.trans h.env.2.1, q.rely.output.trans h.env.2.2⟩
  obtain ⟨cs, a1, a2⟩ := h.row
  obtain ⟨cs', b1, b2, _⟩ := q.out cs _ _ a1
  exact ⟨cs', b1, b2.trans a2⟩
theorem HM.cell {N1 o c n : Nat} {w1 w : World} {b : Addr} {v : Value} (h : HM N1 o c n w1 w) (hb : KK N1 o c b.block) (hc : w1.cell? b = some v) : w.cell? b = some v := by
  unfold World.cell? at hc ⊢
  rw [h.keep _ hb.1 hb.2.1 hb.2.2]
  exact hc
/-- At its end. -/
def Fin33 (N1 o c n cl k : Nat) (al : Option Addr) (bl bk bh bo bd : Nat) (vh : Value) (w1 : World) (cs : List Frame) (M : Nat → Prop) (g : Goroutine) (w : World) : Prop :=
  HM N1 o c n w1 w ∧ ∃ (u6 u9 u10 u11 u12 u13 u14 u15 u16 u17 u18 u19 u20 u21 u22 u23 u24 u25 u26 : Value), g = G (b33.at ⟨(#[.slice al n cl, .int .i64 (k : Nat), vh, .pointer (some ⟨bl, 0, none⟩), .pointer (some ⟨bk, 0, none⟩), .pointer (some ⟨bh, 0, none⟩), u6, .pointer (some ⟨bo, 0, none⟩), .pointer (some ⟨bd, 0, none⟩), u9, u10, u11, u12, u13, u14, u15, u16, u17, u18, u19, u20, u21, u22, u23, u24, u25, u26] : Array Value), []⟩ [.code c33e]) cs
section
variable {N1 o c n cl k b bl bk bh bo bd : Nat} {al : Option Addr} {F : Nat → Int} {vh : Value} {w1 : World} {cs : List Frame}
/-- It hears its workers. -/
theorem hears33 (hk8 : k ≤ 8) (kd : KK N1 o c bd) (cd : w1.cell? ⟨bd, 0, none⟩ = some (.chan (some c))) : ∀ (r i : Nat) (M : Nat → Prop) (w : World) (u6 u9 u10 u11 u12 u13 u14 u15 u16 u17 u18 u19 u22 u23 u24 u25 u26 : Value), i + r = k → HM N1 o c n w1 w →
    WkG Try.prog true (RW o k b 0 (KK N1 o c)) (DW o k b 0 (KK N1 o c)) (S0 Try.prog o c n k b F (KK N1 o c) (Fin33 N1 o c n cl k al bl bk bh bo bd vh w1 cs) r) M (G (b33.at ⟨(#[.slice al n cl, .int .i64 (k : Nat), vh, .pointer (some ⟨bl, 0, none⟩), .pointer (some ⟨bk, 0, none⟩), .pointer (some ⟨bh, 0, none⟩), u6, .pointer (some ⟨bo, 0, none⟩), .pointer (some ⟨bd, 0, none⟩), u9, u10, u11, u12, u13, u14, u15, u16, u17, u18, u19, .int .i64 (k : Nat), .int .i64 (i : Nat), u22, u23, u24, u25, u26] : Array Value), []⟩ (.code c33d :: .inLoop c33d :: .inBlock 2 :: [.code c33e])) cs) w := by
  have T := OwnW.terms (o := o) (mine := cls b k 0) (Rd := KK N1 o c)
  intro r
  induction r with
  | zero =>
    intro i M w u6 u9 u10 u11 u12 u13 u14 u15 u16 u17 u18 u19 u22 u23 u24 u25 u26 hi hm
    rw [c33d_eq]
    refine WkG.idle T rfl (fun w => stepG_seq) ?_
    refine WkG.idle T rfl (fun w => stepG_region) ?_
    show WkG _ _ _ _ _ _ (G (b33.at _ (.inRegion rE (0 :: []) :: _)) _) _
    refine WkG.still (.bool false) oE0_at rfl (by decide) fun w2 h2 => ⟨?_, OwnW.same M rfl rfl rfl rfl fun e he => ?_, ?_⟩
    · have hlt : ¬ ((i : Int) < (k : Int)) := by omega
      simp [oE0, go_sem, hlt]
    · replace he := mem_listed he
      simp [oE0, go_sem] at he
    replace hm := hm.rely h2
    refine WkG.idle T rfl (fun w => stepG_region_end) ?_
    refine WkG.idle T rfl (fun w => stepG_seq) ?_
    refine WkG.idle T rfl (fun w => stepG_cond (t := false) rfl) ?_
    refine WkG.idle T rfl (fun w => stepG_exit (k' := [.code c33e]) rfl) ?_
    exact .stop fun w3 h3 => ⟨rfl, hm.rely h3, _, _, _, _, _, _, _, _, _, _, _, _, _, _, _, _, _, _, _, rfl⟩
  | succ r ih =>
    intro i M w u6 u9 u10 u11 u12 u13 u14 u15 u16 u17 u18 u19 u22 u23 u24 u25 u26 hi hm
    rw [c33d_eq]
    refine WkG.idle T rfl (fun w => stepG_seq) ?_
    refine WkG.idle T rfl (fun w => stepG_region) ?_
    show WkG _ _ _ _ _ _ (G (b33.at _ (.inRegion rE (0 :: []) :: _)) _) _
    refine WkG.still (.bool true) oE0_at rfl (by decide) fun w2 h2 => ⟨?_, OwnW.same M rfl rfl rfl rfl fun e he => ?_, ?_⟩
    · have hlt : (i : Int) < (k : Int) := by omega
      simp [oE0, go_sem, hlt]
    · replace he := mem_listed he
      simp [oE0, go_sem] at he
    replace hm := hm.rely h2
    refine WkG.idle T rfl (fun w => stepG_region_end) ?_
    refine WkG.idle T rfl (fun w => stepG_seq) ?_
    refine WkG.idle T rfl (fun w => stepG_cond (t := true) rfl) ?_
    refine WkG.idle T rfl (fun w => stepG_skip) ?_
    refine WkG.idle T rfl (fun w => stepG_seq) ?_
    refine WkG.idle T rfl (fun w => stepG_block) ?_
    refine WkG.idle T rfl (fun w => stepG_region) ?_
    show WkG _ _ _ _ _ _ (G (b33.at ⟨(#[.slice al n cl, .int .i64 (k : Nat), vh, .pointer (some ⟨bl, 0, none⟩), .pointer (some ⟨bk, 0, none⟩), .pointer (some ⟨bh, 0, none⟩), u6, .pointer (some ⟨bo, 0, none⟩), .pointer (some ⟨bd, 0, none⟩), u9, u10, u11, u12, u13, u14, u15, u16, u17, u18, u19, .int .i64 (k : Nat), .int .i64 (i : Nat), .bool true, u23, u24, u25, u26] : Array Value), []⟩ (.inRegion rF (0 :: [1]) :: _)) _) _
    refine WkG.still (.chan (some c)) oF0_at rfl (by decide) fun w3 h3 => ⟨?_, OwnW.same M rfl rfl rfl rfl fun e he => ?_, ?_⟩
    · have hc1 := (hm.rely h3).cell kd cd
      simp [oF0, go_sem, hc1]
    · have hc1 := (hm.rely h3).cell kd cd
      replace he := mem_listed he
      simp [oF0, go_sem, hc1] at he
      subst he
      exact ⟨_, rfl, .inr (.inl kd)⟩
    replace hm := hm.rely h3
    show WkG _ _ _ _ _ _ (G (b33.at ⟨(#[.slice al n cl, .int .i64 (k : Nat), vh, .pointer (some ⟨bl, 0, none⟩), .pointer (some ⟨bk, 0, none⟩), .pointer (some ⟨bh, 0, none⟩), u6, .pointer (some ⟨bo, 0, none⟩), .pointer (some ⟨bd, 0, none⟩), u9, u10, u11, u12, u13, u14, u15, u16, u17, u18, u19, .int .i64 (k : Nat), .int .i64 (i : Nat), .bool true, .chan (some c), u24, u25, u26] : Array Value), []⟩ (.inRegion rF (1 :: []) :: _)) _) _
    refine .stop fun w4 h4 => ⟨rfl, .inl ⟨by omega, G (b33.at ⟨(#[.slice al n cl, .int .i64 (k : Nat), vh, .pointer (some ⟨bl, 0, none⟩), .pointer (some ⟨bk, 0, none⟩), .pointer (some ⟨bh, 0, none⟩), u6, .pointer (some ⟨bo, 0, none⟩), .pointer (some ⟨bd, 0, none⟩), u9, u10, u11, u12, u13, u14, u15, u16, u17, u18, u19, .int .i64 (k : Nat), .int .i64 (i : Nat), .bool true, .chan (some c), u24, u25, u26] : Array Value), []⟩ (.inRegion rF (1 :: []) :: .inBlock 3 :: .code (.region 10 rG false) :: .inLoop c33d :: .inBlock 2 :: [.code c33e])) cs, .bool false, ?_, fun w5 h5 => ?_⟩⟩
    · rw [← c33d_eq]
      rw [stepG_comm (cases := #[rcase c (.bool false)]) (blocking := true) (shape := .recv false) (w' := w4) oF1_at rfl (by decide) (by simp [oF1, go_sem, execOp, rcase])]
      simp [oF1, listed, execOp, seen, go_sem]
    replace hm := (hm.rely h4).rely h5
    rw [served_G]
    refine WkG.idle T rfl (fun w => stepG_region_end) ?_
    refine WkG.idle T rfl (fun w => stepG_inBlock) ?_
    refine WkG.idle T rfl (fun w => stepG_region) ?_
    show WkG _ _ _ _ _ _ (G (b33.at ⟨(#[.slice al n cl, .int .i64 (k : Nat), vh, .pointer (some ⟨bl, 0, none⟩), .pointer (some ⟨bk, 0, none⟩), .pointer (some ⟨bh, 0, none⟩), u6, .pointer (some ⟨bo, 0, none⟩), .pointer (some ⟨bd, 0, none⟩), u9, u10, u11, u12, u13, u14, u15, u16, u17, u18, u19, .int .i64 (k : Nat), .int .i64 (i : Nat), .bool true, .chan (some c), .bool true, u25, u26] : Array Value), []⟩ (.inRegion rG (0 :: [1]) :: _)) _) _
    refine WkG.still (.int .i64 ((i + 1 : Nat) : Int)) oG0_at rfl (by decide) fun w6 h6 => ⟨?_, OwnW.same M rfl rfl rfl rfl fun e he => ?_, ?_⟩
    · have hc1 : IntKind.i64.wrap ((i : Int) + 1) = ((i + 1 : Nat) : Int) := by rw [IntKind.wrap_i64]; omega
      simp [oG0, go_sem, hc1]
    · replace he := mem_listed he
      simp [oG0, go_sem] at he
    replace hm := hm.rely h6
    show WkG _ _ _ _ _ _ (G (b33.at ⟨(#[.slice al n cl, .int .i64 (k : Nat), vh, .pointer (some ⟨bl, 0, none⟩), .pointer (some ⟨bk, 0, none⟩), .pointer (some ⟨bh, 0, none⟩), u6, .pointer (some ⟨bo, 0, none⟩), .pointer (some ⟨bd, 0, none⟩), u9, u10, u11, u12, u13, u14, u15, u16, u17, u18, u19, .int .i64 (k : Nat), .int .i64 (i : Nat), .bool true, .chan (some c), .bool true, .int .i64 ((i + 1 : Nat) : Int), u26] : Array Value), []⟩ (.inRegion rG (1 :: []) :: _)) _) _
    refine WkG.still (.int .i64 ((i + 1 : Nat) : Int)) oG1_at rfl (by decide) fun w7 h7 => ⟨?_, OwnW.same M rfl rfl rfl rfl fun e he => ?_, ?_⟩
    · simp [oG1, go_sem]
    · replace he := mem_listed he
      simp [oG1, go_sem] at he
    replace hm := hm.rely h7
    refine WkG.idle T rfl (fun w => stepG_region_end) ?_
    refine WkG.idle T rfl (fun w => stepG_inLoop) ?_
    exact ih (i + 1) M w7 _ _ _ _ _ _ _ _ _ _ _ _ _ _ _ _ _ (by omega) hm
end
end Go.Proofs.Ytpigjhagdpeofaa.Sim

namespace Go.Proofs.Ytpigjhagdpeofaa.Sim
open Go Go.Conc
set_option linter.unusedVariables false
set_option maxRecDepth 100000
section
variable {o : Nat} {mine Rd M : Nat → Prop} {w : World}
theorem OwnW.made {ob : Obj} {es : Array Event} (ho : o < w.heap.size) (he : ∀ e ∈ es, False) : OwnW o mine Rd M (fun y => M y ∨ y = w.heap.size) w (w.alloc ob) es := by
  refine ⟨rfl, rfl, rfl, by rw [size_alloc']; omega, fun _ h => .inl h, fun y hy => hy.imp id fun e => ⟨by omega, by rw [size_alloc']; omega⟩, fun y hy _ _ => heap_alloc_lt hy, fun cs e fz h => ⟨cs, heap_alloc_old h, rfl, fun _ _ => rfl⟩, fun y h1 h2 => .inr ?_, fun e h => (he e h).elim⟩
  rw [size_alloc'] at h2
  omega
theorem OwnW.laid {b : Nat} {v : Value} {es : Array Event} (hb : M b) (hbo : b ≠ o) (he : ∀ e ∈ es, e = ⟨.cell ⟨b, 0, none⟩, true, false⟩) : OwnW o mine Rd M M w (w.setCell ⟨b, 0, none⟩ v) es := by
  have hs : (w.setCell ⟨b, 0, none⟩ v).heap.size = w.heap.size := by simp [World.setCell]
  refine ⟨rfl, rfl, rfl, Nat.le_of_eq hs.symm, fun _ h => h, fun _ h => .inl h, fun y hy hm _ => heap_set_ne (fun e => hm (e ▸ hb)), fun cs e fz h => ⟨cs, by rw [heap_set_ne (fun e => hbo e.symm)]; exact h, rfl, fun _ _ => rfl⟩, fun y h1 h2 => by omega, fun e h => .inr ⟨⟨b, 0, none⟩, true, he e h, .inl hb⟩⟩
end
theorem HM.alloc {N1 o c n : Nat} {w1 w : World} {ob : Obj} (h : HM N1 o c n w1 w) (ho : o < N1) : HM N1 o c n w1 (w.alloc ob) := by
  have hs := h.size
  obtain ⟨cs, a1, a2⟩ := h.row
  exact ⟨fun y h1 h2 h3 => (heap_alloc_lt (by omega)).trans (h.keep y h1 h2 h3), by rw [size_alloc']; omega, ⟨cs, heap_alloc_old a1, a2⟩, h.env⟩
theorem HM.set {N1 o c n b : Nat} {w1 w : World} {v : Value} (h : HM N1 o c n w1 w) (hb : N1 ≤ b) (hbo : b ≠ o) : HM N1 o c n w1 (w.setCell ⟨b, 0, none⟩ v) := by
  obtain ⟨cs, a1, a2⟩ := h.row
  exact ⟨fun y h1 h2 h3 => (heap_set_ne (by omega)).trans (h.keep y h1 h2 h3), by simpa [World.setCell] using h.size, ⟨cs, by rw [heap_set_ne (fun e => hbo e.symm)]; exact a1, a2⟩, h.env⟩
noncomputable def rD : Array Oper := match c33c with | .region _ o _ => o | _ => #[]
theorem c33c_eq : c33c = .region 7 rD false := by kernel_rfl
theorem oD0_at : rD[0]? = some oD0 := by kernel_rfl
theorem oD1_at : rD[1]? = some oD1 := by kernel_rfl
section
variable {N1 o c n cl k b gl bl bk bh bo bd co : Nat} {al : Option Addr} {F L : Nat → Int} {f : FuncId} {caps : Array Value} {vh : Value} {w1 : World} {cs : List Frame}
/-- What the starter knows as it comes to its first loop. -/
structure Kn (al : Option Addr) (N1 o c n cl k gl bl bk bh bo bd co : Nat) (L : Nat → Int) (f : FuncId) (caps : Array Value) (w1 : World) : Prop where
  kl : KK N1 o c bl
  kk : KK N1 o c bk
  kh : KK N1 o c bh
  kO : KK N1 o c bo
  kd : KK N1 o c bd
  kg : KK N1 o c gl
  oN : o < N1
  cN : c < N1
  hal : 0 < n → al = some ⟨gl, 0, none⟩
  c_l : w1.cell? ⟨bl, 0, none⟩ = some (.slice al n cl)
  ck : w1.cell? ⟨bk, 0, none⟩ = some (.int .i64 (k : Nat))
  ch : w1.cell? ⟨bh, 0, none⟩ = some (.func (.func f) #[] caps)
  cO : w1.cell? ⟨bo, 0, none⟩ = some (.slice (some ⟨o, 0, none⟩) n co)
  cd : w1.cell? ⟨bd, 0, none⟩ = some (.chan (some c))
  cL : ∀ j, j < n → w1.cell? ⟨gl, j, none⟩ = some (.int .i64 (L j))
theorem starts33 (hn : n < 1000000000) (hk0 : 0 < k) (hk8 : k ≤ 8) (hK : Kn al N1 o c n cl k gl bl bk bh bo bd co L f caps w1) (hE : Ent f)
    (hclo : ∀ (x : Nat) (Rd : Nat → Prop) (w0 : World), b ≤ x → x - b < k → (∀ y, KK N1 o c y → Rd y) → HM N1 o c n w1 w0 → ∀ i, i < n → i % k = x - b → ∀ base M w, Sat o n k (x - b) Rd F w0 M w i → WkG Try.prog false (RW o k b x Rd) (DW o k b x Rd) (RetG Try.prog (DW o k b x Rd) base fun v M' w' => v = .int .i64 (F i) ∧ Sat o n k (x - b) Rd F w0 M' w' i) M (G (Frame.enter Try.prog f (#[.int .i64 (L i)] ++ caps) .normal) base) w) :
    ∀ (r j : Nat) (M : Nat → Prop) (w : World) (u6 u9 u10 u11 u12 u13 u16 u17 u18 u19 u20 u21 u22 u23 u24 u25 u26 : Value), j + r = k → HM N1 o c n w1 w →
    WkG Try.prog true (RW o k b 0 (KK N1 o c)) (DW o k b 0 (KK N1 o c)) (S0 Try.prog o c n k b F (KK N1 o c) (Fin33 N1 o c n cl k al bl bk bh bo bd vh w1 cs) (k + r)) M (G (b33.at ⟨(#[.slice al n cl, .int .i64 (k : Nat), vh, .pointer (some ⟨bl, 0, none⟩), .pointer (some ⟨bk, 0, none⟩), .pointer (some ⟨bh, 0, none⟩), u6, .pointer (some ⟨bo, 0, none⟩), .pointer (some ⟨bd, 0, none⟩), u9, u10, u11, u12, u13, .int .i64 (k : Nat), .int .i64 (j : Nat), u16, u17, u18, u19, u20, u21, u22, u23, u24, u25, u26] : Array Value), []⟩ (.code c33b :: .inLoop c33b :: .inBlock 0 :: [.code (.seq (.seq c33c (.block 2 (.loop c33d))) c33e)])) cs) w := by
  have T := OwnW.terms (o := o) (mine := cls b k 0) (Rd := KK N1 o c)
  intro r
  induction r with
  | zero =>
    intro j M w u6 u9 u10 u11 u12 u13 u16 u17 u18 u19 u20 u21 u22 u23 u24 u25 u26 hj hm
    rw [c33b_eq]
    refine WkG.idle T rfl (fun w => stepG_seq) ?_
    refine WkG.idle T rfl (fun w => stepG_region) ?_
    show WkG _ _ _ _ _ _ (G (b33.at ⟨(#[.slice al n cl, .int .i64 (k : Nat), vh, .pointer (some ⟨bl, 0, none⟩), .pointer (some ⟨bk, 0, none⟩), .pointer (some ⟨bh, 0, none⟩), u6, .pointer (some ⟨bo, 0, none⟩), .pointer (some ⟨bd, 0, none⟩), u9, u10, u11, u12, u13, .int .i64 (k : Nat), .int .i64 (j : Nat), u16, u17, u18, u19, u20, u21, u22, u23, u24, u25, u26] : Array Value), []⟩ (.inRegion rI (0 :: []) :: _)) _) _
    refine WkG.still (.bool false) oI0_at rfl (by decide) fun w2 h2 => ⟨?_, OwnW.same _ rfl rfl rfl rfl fun e he => ?_, ?_⟩
    · have hlt : ¬ ((j : Int) < (k : Int)) := by omega
      simp [oI0, go_sem, hlt]
    · have hlt : ¬ ((j : Int) < (k : Int)) := by omega
      replace he := mem_listed he
      simp [oI0, go_sem] at he
    replace hm := hm.rely h2
    refine WkG.idle T rfl (fun w => stepG_region_end) ?_
    refine WkG.idle T rfl (fun w => stepG_seq) ?_
    refine WkG.idle T rfl (fun w => stepG_cond (t := false) rfl) ?_
    refine WkG.idle T rfl (fun w => stepG_exit (k' := [.code (.seq (.seq c33c (.block 2 (.loop c33d))) c33e)]) rfl) ?_
    refine WkG.idle T rfl (fun w => stepG_seq) ?_
    refine WkG.idle T rfl (fun w => stepG_seq) ?_
    rw [c33c_eq]
    refine WkG.idle T rfl (fun w => stepG_region) ?_
    show WkG _ _ _ _ _ _ (G (b33.at ⟨(#[.slice al n cl, .int .i64 (k : Nat), vh, .pointer (some ⟨bl, 0, none⟩), .pointer (some ⟨bk, 0, none⟩), .pointer (some ⟨bh, 0, none⟩), u6, .pointer (some ⟨bo, 0, none⟩), .pointer (some ⟨bd, 0, none⟩), u9, u10, u11, u12, u13, .int .i64 (k : Nat), .int .i64 (j : Nat), .bool false, u17, u18, u19, u20, u21, u22, u23, u24, u25, u26] : Array Value), []⟩ (.inRegion rD (0 :: [1]) :: _)) _) _
    refine WkG.still (.int .i64 (k : Nat)) oD0_at rfl (by decide) fun w2 h2 => ⟨?_, OwnW.same _ rfl rfl rfl rfl fun e he => ?_, ?_⟩
    · have hc1 := (hm.rely h2).cell hK.kk hK.ck
      simp [oD0, go_sem, hc1]
    · have hc1 := (hm.rely h2).cell hK.kk hK.ck
      replace he := mem_listed he
      simp [oD0, go_sem, hc1] at he
      subst he
      exact ⟨_, rfl, .inr (.inl hK.kk)⟩
    replace hm := hm.rely h2
    show WkG _ _ _ _ _ _ (G (b33.at ⟨(#[.slice al n cl, .int .i64 (k : Nat), vh, .pointer (some ⟨bl, 0, none⟩), .pointer (some ⟨bk, 0, none⟩), .pointer (some ⟨bh, 0, none⟩), u6, .pointer (some ⟨bo, 0, none⟩), .pointer (some ⟨bd, 0, none⟩), u9, u10, u11, u12, u13, .int .i64 (k : Nat), .int .i64 (j : Nat), .bool false, u17, u18, u19, .int .i64 (k : Nat), u21, u22, u23, u24, u25, u26] : Array Value), []⟩ (.inRegion rD (1 :: []) :: _)) _) _
    refine WkG.still (.int .i64 ((0 : Nat) : Int)) oD1_at rfl (by decide) fun w2 h2 => ⟨?_, OwnW.same _ rfl rfl rfl rfl fun e he => ?_, ?_⟩
    · simp [oD1, go_sem]
    · replace he := mem_listed he
      simp [oD1, go_sem] at he
    replace hm := hm.rely h2
    refine WkG.idle T rfl (fun w => stepG_region_end) ?_
    refine WkG.idle T rfl (fun w => stepG_block) ?_
    refine WkG.idle T rfl (fun w => stepG_loop) ?_
    exact hears33 hk8 hK.kd hK.cd k 0 M _ _ _ _ _ _ _ _ _ _ _ _ _ _ _ _ _ _ (by omega) hm
  | succ r ih =>
    intro j M w u6 u9 u10 u11 u12 u13 u16 u17 u18 u19 u20 u21 u22 u23 u24 u25 u26 hj hm
    rw [c33b_eq]
    refine WkG.idle T rfl (fun w => stepG_seq) ?_
    refine WkG.idle T rfl (fun w => stepG_region) ?_
    show WkG _ _ _ _ _ _ (G (b33.at ⟨(#[.slice al n cl, .int .i64 (k : Nat), vh, .pointer (some ⟨bl, 0, none⟩), .pointer (some ⟨bk, 0, none⟩), .pointer (some ⟨bh, 0, none⟩), u6, .pointer (some ⟨bo, 0, none⟩), .pointer (some ⟨bd, 0, none⟩), u9, u10, u11, u12, u13, .int .i64 (k : Nat), .int .i64 (j : Nat), u16, u17, u18, u19, u20, u21, u22, u23, u24, u25, u26] : Array Value), []⟩ (.inRegion rI (0 :: []) :: _)) _) _
    refine WkG.still (.bool true) oI0_at rfl (by decide) fun w2 h2 => ⟨?_, OwnW.same _ rfl rfl rfl rfl fun e he => ?_, ?_⟩
    · have hlt : (j : Int) < (k : Int) := by omega
      simp [oI0, go_sem, hlt]
    · have hlt : (j : Int) < (k : Int) := by omega
      replace he := mem_listed he
      simp [oI0, go_sem] at he
    replace hm := hm.rely h2
    refine WkG.idle T rfl (fun w => stepG_region_end) ?_
    refine WkG.idle T rfl (fun w => stepG_seq) ?_
    refine WkG.idle T rfl (fun w => stepG_cond (t := true) rfl) ?_
    refine WkG.idle T rfl (fun w => stepG_skip) ?_
    refine WkG.idle T rfl (fun w => stepG_seq) ?_
    refine WkG.idle T rfl (fun w => stepG_block) ?_
    refine WkG.idle T rfl (fun w => stepG_seq) ?_
    refine WkG.idle T rfl (fun w => stepG_region) ?_
    show WkG _ _ _ _ _ _ (G (b33.at ⟨(#[.slice al n cl, .int .i64 (k : Nat), vh, .pointer (some ⟨bl, 0, none⟩), .pointer (some ⟨bk, 0, none⟩), .pointer (some ⟨bh, 0, none⟩), u6, .pointer (some ⟨bo, 0, none⟩), .pointer (some ⟨bd, 0, none⟩), u9, u10, u11, u12, u13, .int .i64 (k : Nat), .int .i64 (j : Nat), .bool true, u17, u18, u19, u20, u21, u22, u23, u24, u25, u26] : Array Value), []⟩ (.inRegion rK (0 :: [1, 2]) :: _)) _) _
    refine WkG.still (.int .i64 (j : Nat)) oK0_at rfl (by decide) fun w2 h2 => ⟨?_, OwnW.same _ rfl rfl rfl rfl fun e he => ?_, ?_⟩
    · simp [oK0, go_sem]
    · replace he := mem_listed he
      simp [oK0, go_sem] at he
    replace hm := hm.rely h2
    show WkG _ _ _ _ _ _ (G (b33.at ⟨(#[.slice al n cl, .int .i64 (k : Nat), vh, .pointer (some ⟨bl, 0, none⟩), .pointer (some ⟨bk, 0, none⟩), .pointer (some ⟨bh, 0, none⟩), u6, .pointer (some ⟨bo, 0, none⟩), .pointer (some ⟨bd, 0, none⟩), u9, u10, u11, u12, u13, .int .i64 (k : Nat), .int .i64 (j : Nat), .bool true, .int .i64 (j : Nat), u18, u19, u20, u21, u22, u23, u24, u25, u26] : Array Value), []⟩ (.inRegion rK (1 :: [2]) :: _)) _) _
    clear h2
    rename_i w2
    refine .step rfl fun w3 h3 => ?_
    replace hm := hm.rely h3
    have hsz := hm.size
    have hoN := hK.oN
    have hcN := hK.cN
    refine ⟨_, _, _, fun y => M y ∨ y = w3.heap.size, stepG_value (v := .pointer (some ⟨w3.heap.size, 0, none⟩)) (w' := w3.alloc (.cells #[.int .i64 0] 2)) oK1_at rfl (by decide) (by simp [oK1, go_sem]), OwnW.made (by omega) fun e he => ?_, ?_⟩
    · replace he := mem_listed he
      simp [oK1, go_sem] at he
    have hbw : (w3.alloc (.cells #[.int .i64 0] 2)).heap[w3.heap.size]? = some (.cells #[.int .i64 0] 2 (0, 0)) := heap_alloc_at
    replace hm := hm.alloc (ob := .cells #[.int .i64 0] 2) hoN
    generalize hw4 : w3.alloc (.cells #[.int .i64 0] 2) = w4 at hbw hm
    generalize hbb : w3.heap.size = bw at *
    clear hw4
    show WkG _ _ _ _ _ _ (G (b33.at ⟨(#[.slice al n cl, .int .i64 (k : Nat), vh, .pointer (some ⟨bl, 0, none⟩), .pointer (some ⟨bk, 0, none⟩), .pointer (some ⟨bh, 0, none⟩), u6, .pointer (some ⟨bo, 0, none⟩), .pointer (some ⟨bd, 0, none⟩), .pointer (some ⟨bw, 0, none⟩), u10, u11, u12, u13, .int .i64 (k : Nat), .int .i64 (j : Nat), .bool true, .int .i64 (j : Nat), u18, u19, u20, u21, u22, u23, u24, u25, u26] : Array Value), []⟩ (.inRegion rK (2 :: []) :: _)) _) _
    refine .step rfl fun w5 h5 => ?_
    replace hm := hm.rely h5
    replace hbw : w5.heap[bw]? = some (.cells #[.int .i64 0] 2 (0, 0)) := (h5.rely.keep bw (Array.getElem?_eq_some_iff.1 hbw).1 (.inl (.inr rfl))).trans hbw
    obtain ⟨hc1, hc2⟩ := cell_of_row hbw
    refine ⟨_, _, _, fun y => M y ∨ y = bw, stepG_none (w' := w5.setCell ⟨bw, 0, none⟩ (.int .i64 (j : Nat))) oK2_at rfl (by decide) (by simp [oK2, go_sem, hc1, hc2]), OwnW.laid (.inr rfl) (by omega) fun e he => ?_, ?_⟩
    · replace he := mem_listed he
      simp [oK2, go_sem, hc1, hc2] at he
      exact he
    replace hbw : (w5.setCell ⟨bw, 0, none⟩ (.int .i64 (j : Nat))).heap[bw]? = some (.cells #[.int .i64 (j : Nat)] 2 (0, 0)) := heap_set_at hbw
    replace hm := hm.set (b := bw) (v := .int .i64 (j : Nat)) hsz (by omega)
    clear hc1 hc2
    generalize w5.setCell ⟨bw, 0, none⟩ (.int .i64 (j : Nat)) = w6 at hbw hm
    show WkG _ _ _ _ _ _ (G (b33.at ⟨(#[.slice al n cl, .int .i64 (k : Nat), vh, .pointer (some ⟨bl, 0, none⟩), .pointer (some ⟨bk, 0, none⟩), .pointer (some ⟨bh, 0, none⟩), u6, .pointer (some ⟨bo, 0, none⟩), .pointer (some ⟨bd, 0, none⟩), .pointer (some ⟨bw, 0, none⟩), u10, u11, u12, u13, .int .i64 (k : Nat), .int .i64 (j : Nat), .bool true, .int .i64 (j : Nat), u18, u19, u20, u21, u22, u23, u24, u25, u26] : Array Value), []⟩ (.inRegion rK [] :: _)) _) _
    refine WkG.idle T rfl (fun w => stepG_region_end) ?_
    refine WkG.idle T rfl (fun w => stepG_region) ?_
    show WkG _ _ _ _ _ _ (G (b33.at ⟨(#[.slice al n cl, .int .i64 (k : Nat), vh, .pointer (some ⟨bl, 0, none⟩), .pointer (some ⟨bk, 0, none⟩), .pointer (some ⟨bh, 0, none⟩), u6, .pointer (some ⟨bo, 0, none⟩), .pointer (some ⟨bd, 0, none⟩), .pointer (some ⟨bw, 0, none⟩), u10, u11, u12, u13, .int .i64 (k : Nat), .int .i64 (j : Nat), .bool true, .int .i64 (j : Nat), u18, u19, u20, u21, u22, u23, u24, u25, u26] : Array Value), []⟩ (.inRegion rM (0 :: [1]) :: _)) _) _
    refine WkG.still (.func (.func 54) #[] #[.pointer (some ⟨bw, 0, none⟩), .pointer (some ⟨bl, 0, none⟩), .pointer (some ⟨bk, 0, none⟩), .pointer (some ⟨bh, 0, none⟩), .pointer (some ⟨bo, 0, none⟩), .pointer (some ⟨bd, 0, none⟩)]) oM0_at rfl (by decide) fun w2 h2 => ⟨?_, OwnW.same _ rfl rfl rfl rfl fun e he => ?_, ?_⟩
    · simp [oM0, go_sem, Instr.makeFunc]
    · replace he := mem_listed he
      simp [oM0, go_sem, Instr.makeFunc] at he
    replace hm := hm.rely h2
    replace hbw := (h2.rely.keep bw (Array.getElem?_eq_some_iff.1 hbw).1 (.inl (.inr rfl))).trans hbw
    show WkG _ _ _ _ _ _ (G (b33.at ⟨(#[.slice al n cl, .int .i64 (k : Nat), vh, .pointer (some ⟨bl, 0, none⟩), .pointer (some ⟨bk, 0, none⟩), .pointer (some ⟨bh, 0, none⟩), u6, .pointer (some ⟨bo, 0, none⟩), .pointer (some ⟨bd, 0, none⟩), .pointer (some ⟨bw, 0, none⟩), u10, u11, u12, u13, .int .i64 (k : Nat), .int .i64 (j : Nat), .bool true, .int .i64 (j : Nat), .func (.func 54) #[] #[.pointer (some ⟨bw, 0, none⟩), .pointer (some ⟨bl, 0, none⟩), .pointer (some ⟨bk, 0, none⟩), .pointer (some ⟨bh, 0, none⟩), .pointer (some ⟨bo, 0, none⟩), .pointer (some ⟨bd, 0, none⟩)], u19, u20, u21, u22, u23, u24, u25, u26] : Array Value), []⟩ (.inRegion rM (1 :: []) :: _)) _) _
    refine .stop fun w7 h7 => ⟨rfl, .inr ⟨Nat.le_add_right k r, G (b33.at ⟨(#[.slice al n cl, .int .i64 (k : Nat), vh, .pointer (some ⟨bl, 0, none⟩), .pointer (some ⟨bk, 0, none⟩), .pointer (some ⟨bh, 0, none⟩), u6, .pointer (some ⟨bo, 0, none⟩), .pointer (some ⟨bd, 0, none⟩), .pointer (some ⟨bw, 0, none⟩), u10, u11, u12, u13, .int .i64 (k : Nat), .int .i64 (j : Nat), .bool true, .int .i64 (j : Nat), .func (.func 54) #[] #[.pointer (some ⟨bw, 0, none⟩), .pointer (some ⟨bl, 0, none⟩), .pointer (some ⟨bk, 0, none⟩), .pointer (some ⟨bh, 0, none⟩), .pointer (some ⟨bo, 0, none⟩), .pointer (some ⟨bd, 0, none⟩)], u19, u20, u21, u22, u23, u24, u25, u26] : Array Value), []⟩ (.inRegion rM [] :: .inBlock 1 :: .code (.region 6 rN false) :: .inLoop c33b :: .inBlock 0 :: [.code (.seq (.seq c33c (.block 2 (.loop c33d))) c33e)])) cs, born Try.prog (d54 bw bl bk bh bo bd), fun y => KK N1 o c y ∨ y = bw, ?_, fun y hy => hy.imp id .inr, ?_, ?_⟩⟩
    · rw [← c33b_eq]
      rw [stepG_spawn (d := d54 bw bl bk bh bo bd) (w' := w7) (f := .func 54) oM1_at rfl (by decide) (by simp [oM1, go_sem, Deferred.ofValue, d54]) rfl]
      simp [oM1, listed, seen, go_sem, Deferred.ofValue]
      rfl
    · rename_i w2'
      replace hm := hm.rely h7
      refine WkG.idle T rfl (fun w => stepG_region_end) ?_
      refine WkG.idle T rfl (fun w => stepG_inBlock) ?_
      refine WkG.idle T rfl (fun w => stepG_region) ?_
      show WkG _ _ _ _ _ _ (G (b33.at ⟨(#[.slice al n cl, .int .i64 (k : Nat), vh, .pointer (some ⟨bl, 0, none⟩), .pointer (some ⟨bk, 0, none⟩), .pointer (some ⟨bh, 0, none⟩), u6, .pointer (some ⟨bo, 0, none⟩), .pointer (some ⟨bd, 0, none⟩), .pointer (some ⟨bw, 0, none⟩), u10, u11, u12, u13, .int .i64 (k : Nat), .int .i64 (j : Nat), .bool true, .int .i64 (j : Nat), .func (.func 54) #[] #[.pointer (some ⟨bw, 0, none⟩), .pointer (some ⟨bl, 0, none⟩), .pointer (some ⟨bk, 0, none⟩), .pointer (some ⟨bh, 0, none⟩), .pointer (some ⟨bo, 0, none⟩), .pointer (some ⟨bd, 0, none⟩)], u19, u20, u21, u22, u23, u24, u25, u26] : Array Value), []⟩ (.inRegion rN (0 :: [1]) :: _)) _) _
      refine WkG.still (.int .i64 ((j + 1 : Nat) : Int)) oN0_at rfl (by decide) fun w2 h2 => ⟨?_, OwnW.same _ rfl rfl rfl rfl fun e he => ?_, ?_⟩
      · have hc1 : IntKind.i64.wrap ((j : Int) + 1) = ((j + 1 : Nat) : Int) := by rw [IntKind.wrap_i64]; omega
        simp [oN0, go_sem, hc1]
      · have hc1 : IntKind.i64.wrap ((j : Int) + 1) = ((j + 1 : Nat) : Int) := by rw [IntKind.wrap_i64]; omega
        replace he := mem_listed he
        simp [oN0, go_sem] at he
      replace hm := hm.rely h2
      show WkG _ _ _ _ _ _ (G (b33.at ⟨(#[.slice al n cl, .int .i64 (k : Nat), vh, .pointer (some ⟨bl, 0, none⟩), .pointer (some ⟨bk, 0, none⟩), .pointer (some ⟨bh, 0, none⟩), u6, .pointer (some ⟨bo, 0, none⟩), .pointer (some ⟨bd, 0, none⟩), .pointer (some ⟨bw, 0, none⟩), u10, u11, u12, u13, .int .i64 (k : Nat), .int .i64 (j : Nat), .bool true, .int .i64 (j : Nat), .func (.func 54) #[] #[.pointer (some ⟨bw, 0, none⟩), .pointer (some ⟨bl, 0, none⟩), .pointer (some ⟨bk, 0, none⟩), .pointer (some ⟨bh, 0, none⟩), .pointer (some ⟨bo, 0, none⟩), .pointer (some ⟨bd, 0, none⟩)], .int .i64 ((j + 1 : Nat) : Int), u20, u21, u22, u23, u24, u25, u26] : Array Value), []⟩ (.inRegion rN (1 :: []) :: _)) _) _
      refine WkG.still (.int .i64 ((j + 1 : Nat) : Int)) oN1_at rfl (by decide) fun w2 h2 => ⟨?_, OwnW.same _ rfl rfl rfl rfl fun e he => ?_, ?_⟩
      · simp [oN1, go_sem]
      · replace he := mem_listed he
        simp [oN1, go_sem] at he
      replace hm := hm.rely h2
      refine WkG.idle T rfl (fun w => stepG_region_end) ?_
      refine WkG.idle T rfl (fun w => stepG_inLoop) ?_
      exact ih (j + 1) _ _ _ _ _ _ _ _ _ _ _ _ _ _ _ _ _ _ _ (by omega) hm
    · replace hm := hm.rely h7
      replace hbw := (h7.rely.keep bw (Array.getElem?_eq_some_iff.1 hbw).1 (.inl (.inr rfl))).trans hbw
      have e : b + (2 * k - 1 - (k + r)) = b + j := by omega
      rw [show k.add r = k + r from rfl, e]
      have ej : b + j - b = j := by omega
      have cut : ∀ {x : Addr} {v : Value}, KK N1 o c x.block → w1.cell? x = some v → w7.cell? x = some v := fun h1 h2 => hm.cell h1 h2
      refine worker54 (x := b + j) (w0 := w7) (gl := gl) (cl := cl) (co := co) (L := L) (f := f) (caps := caps) hn hk0 hk8 (by omega) (by omega) (.inr rfl) (.inl hK.kl) (.inl hK.kk) (.inl hK.kh) (.inl hK.kO) (.inl hK.kd) (.inl hK.kg)
        (by rw [ej]; exact (cell_of_row hbw).1) (cut hK.kl hK.c_l) hK.hal (cut hK.kk hK.ck) (cut hK.kh hK.ch) (cut hK.kO hK.cO) (cut hK.kd hK.cd) (fun i hi => cut hK.kg (hK.cL i hi)) ?_ hE
        (fun i hi hik base M w hs => hclo (b + j) _ w7 (by omega) (by omega) (fun y hy => .inl hy) hm i hi hik base M w hs)
      have hbwlt := (Array.getElem?_eq_some_iff.1 hbw).1
      obtain ⟨cs', a1, a2⟩ := hm.row
      refine ⟨fun y hy => ?_, fun _ _ => rfl, Nat.le_refl _, ⟨by have := hm.size; omega, id⟩, cs', a1, a2, fun p hp => by omega⟩
      rcases hy with ⟨h1, h2, h3⟩ | rfl
      · exact ⟨by have := hm.size; omega, id, h2⟩
      · exact ⟨hbwlt, id, by omega⟩
end
end Go.Proofs.Ytpigjhagdpeofaa.Sim

namespace Go.Proofs.Ytpigjhagdpeofaa.Sim
open Go Go.Conc
set_option linter.unusedVariables false
/-- What is asked of the closure: it reads the blocks D alone, and answers F at the list's places L. -/
structure Clo (f : FuncId) (caps : Array Value) (n : Nat) (F L : Nat → Int) (D : Nat → Prop) (w : World) : Prop where
  ent : Ent f
  ok : Sq.mem Sq.workFns f = true
  args : ∀ (x : Int) (i : Nat) v, (#[Value.int .i64 x] ++ caps)[i]? = some v → VRel (Sq.mem Sq.workFns) (Sq.ren D) v v
  cls : ∀ (x : Int) (h : Array Obj) (i : Nat) v, (#[Value.int .i64 x] ++ caps)[i]? = some v → InCls (Sq.ctx h (Sq.ren D) Sq.workFns) (Sq.cl f i) v
  run : ∃ m : Nat → Nat, Sq.Read m w Sq.workFns D ∧ ∀ w2 : World, (∀ y, D y → w2.heap[y]? = w.heap[y]?) → ∀ i, i < n → ∀ U : Nat → Question → Nat, Calls Sq.prog f (#[.int .i64 (L i)] ++ caps) (tp (Sq.heldM m w2) U 0) fun e _ => e = .returned (.int .i64 (F i))
theorem readTo {m : Nat → Nat} {w w2 : World} {l : List Nat} {D : Nat → Prop} (h : Sq.Read m w l D) (hs : w.heap.size ≤ w2.heap.size) (hk : ∀ y, D y → w2.heap[y]? = w.heap[y]?) : Sq.Read m w2 l D := by
  refine ⟨Nat.le_trans h.two hs, h.low, fun b hb => ?_⟩
  rw [hk b hb]
  exact h.row b hb
theorem Clo.hclo {f : FuncId} {caps : Array Value} {n : Nat} {F L : Nat → Int} {D : Nat → Prop} {w1 : World} {N1 o c k b : Nat} (h : Clo f caps n F L D w1) (hD : ∀ y, D y → KK N1 o c y) (hN : w1.heap.size = N1) :
    ∀ (x : Nat) (Rd : Nat → Prop) (w0 : World), b ≤ x → x - b < k → (∀ y, KK N1 o c y → Rd y) → HM N1 o c n w1 w0 → ∀ i, i < n → i % k = x - b → ∀ base M w, Sat o n k (x - b) Rd F w0 M w i → WkG Try.prog false (RW o k b x Rd) (DW o k b x Rd) (RetG Try.prog (DW o k b x Rd) base fun v M' w' => v = .int .i64 (F i) ∧ Sat o n k (x - b) Rd F w0 M' w' i) M (G (Frame.enter Try.prog f (#[.int .i64 (L i)] ++ caps) .normal) base) w := by
  intro x Rd w0 hb hx hRd hm i hi hik base M w hs
  have hkeep : ∀ y, D y → w.heap[y]? = w1.heap[y]? := fun y hy => (hs.keep y (hRd y (hD y hy))).trans (hm.keep y (hD y hy).1 (hD y hy).2.1 (hD y hy).2.2)
  obtain ⟨m, hrd, hcl⟩ := h.run
  have hread := readTo hrd (by rw [hN]; exact Nat.le_trans hm.size hs.size) hkeep
  have k1 : ∀ U : Nat → Question → Nat, Calls Sq.prog f (#[.int .i64 (L i)] ++ caps) (tp (Sq.heldM m w) U 0) fun e _ => ∃ v, e = .returned v ∧ v = .int .i64 (F i) := fun U => (hcl w hkeep i hi U).mono fun e w' he => ⟨_, he, rfl⟩
  have k2 : ∀ v, v = Value.int .i64 (F i) → Sim.flat v = true := fun v hv => by rw [hv]; rfl
  have k3 := h.args (L i)
  have k4 := h.cls (L i) (Sq.h (Sq.restM m w))
  generalize #[Value.int .i64 (L i)] ++ caps = args at k1 k3 k4 ⊢
  have key := Sq.call_wk (Post := fun v => v = .int .i64 (F i)) (mc := false) (base := base) hread h.ok k3 k4 k2 k1
  refine key.toW (o := o) (mine := Sim.cls b k x) (Rd := Rd) (N := M) (w0 := w) (i := M) ⟨?_, fun y hy => hRd y (hD y hy), fun y hy => ⟨Nat.lt_of_lt_of_le (hs.rd y hy).1 hs.size, id, (hs.rd y hy).2.2⟩, ⟨Nat.lt_of_lt_of_le hs.olow.1 hs.size, id⟩, Nat.le_refl _, fun _ _ => rfl, fun cs e fz ho => ⟨cs, ho, rfl, fun _ _ => rfl⟩⟩ ?_
  · funext y
    exact propext ⟨.inr, fun hy => hy.elim False.elim id⟩
  · intro v M' i' w' hv hB
    refine ⟨hv, fun y hy => ⟨(hs.rd y hy).1, ?_, (hs.rd y hy).2.2⟩, fun y hy => (hB.keep y hy).trans (hs.keep y hy), Nat.le_trans hs.size hB.size, ⟨hs.olow.1, ?_⟩, ?_⟩
    · rw [hB.eq]
      rintro (h1 | h1)
      · exact (hB.low y hy).2.1 h1
      · exact (hs.rd y hy).2.1 h1
    · rw [hB.eq]
      rintro (h1 | h1)
      · exact hB.olow.2 h1
      · exact hs.olow.2 h1
    · obtain ⟨cs, a1, a2, a3⟩ := hs.out
      obtain ⟨cs', b1, b2, b3⟩ := hB.out cs _ _ a1
      exact ⟨cs', b1, b2.trans a2, fun p hp hp2 hp3 => (b3 p ⟨hb, hp2⟩).trans (a3 p hp hp2 hp3)⟩
end Go.Proofs.Ytpigjhagdpeofaa.Sim

namespace Go.Proofs.Ytpigjhagdpeofaa.Sim
open Go Go.Conc
set_option linter.unusedVariables false
set_option maxRecDepth 100000
noncomputable def rH : Array Oper := match c33a with | .region _ o _ => o | _ => #[]
theorem c33a_eq : c33a = .region 2 rH false := by kernel_rfl
theorem oH0_at : rH[0]? = some oH0 := by kernel_rfl
theorem oH1_at : rH[1]? = some oH1 := by kernel_rfl
noncomputable def rL : Array Oper := match c33e with | .seq (.region _ o _) _ => o | _ => #[]
theorem c33e_eq : c33e = .seq (.region 11 rL false) .ret := by kernel_rfl
def oL0 : Oper := { dst := some 26, op := .load 23 (.tmp 7), type := 23, pos := "l02_scales.go:393", after := #[], guard := none }
def oL1 : Oper := { dst := some 6, op := .assign (.tmp 26), type := 23, pos := "l02_scales.go:393", after := #[{ on := 0, ground := Ground.data }, { on := 0, ground := Ground.phase }], guard := none }
theorem oL0_at : rL[0]? = some oL0 := by kernel_rfl
theorem oL1_at : rL[1]? = some oL1 := by kernel_rfl
theorem body33 : Try.f33.body = some (.seq r33_0 (.seq r33_1 t33)) := by kernel_rfl
/-- Nothing is turned. -/
structure DQ (w w' : World) (es : Array Event) : Prop where
  eq : w' = w
  evs : ∀ e ∈ es, EvC (fun _ _ => True) w'.heap.size e
theorem DQ.terms : TermsG RA (fun _ _ => DQ) := ⟨fun _ w => atRel_refl w, fun _ a b c h k => atRel_trans a b c h k, fun _ w => ⟨rfl, fun e he => by simp at he⟩⟩
/-- Behind the call. -/
structure Done33 (n : Nat) (F : Nat → Int) (w : World) (o : Nat) (w' : World) : Prop where
  tape : w'.tape = w.tape
  os : w'.os = w.os
  output : w'.output = w.output
  size : w.heap.size ≤ w'.heap.size
  keep : ∀ y, y < w.heap.size → w'.heap[y]? = w.heap[y]?
  lo : w.heap.size ≤ o
  row : ∃ cs, w'.heap[o]? = some (.cells cs 2 (0, 0)) ∧ cs.size = n
  val : ∀ p, p < n → w'.cell? ⟨o, p, none⟩ = some (.int .i64 (F p))
section
variable {n cl k : Nat} {al : Option Addr} {F L : Nat → Int} {f : FuncId} {caps : Array Value} {D : Nat → Prop}
/-- Up to its loops. -/
theorem head33 (hn : n < 1000000000) (w : World) (cs : List Frame) :
    WkG Try.prog true RA (fun _ _ => DA w.heap.size) (fun _ g w2 => ∃ o c bo bd, g = G (b33.at ⟨(#[.slice al n cl, .int .i64 (k : Nat), .func (.func f) #[] caps, .pointer (some ⟨w.heap.size, 0, none⟩), .pointer (some ⟨(w.heap.size + 1), 0, none⟩), .pointer (some ⟨(w.heap.size + 2), 0, none⟩), .slice none 0 0, .pointer (some ⟨bo, 0, none⟩), .pointer (some ⟨bd, 0, none⟩), undef, .slice al n cl, .int .i64 (n : Nat), .slice (some ⟨o, 0, none⟩) n n, .chan (some c), undef, undef, undef, undef, undef, undef, undef, undef, undef, undef, undef, undef, undef] : Array Value), []⟩ [.code t33]) cs ∧ HC w.heap.size n k (.slice al n cl) (.func (.func f) #[] caps) w o c bo bd w2) ()
      (G (Frame.enter Try.prog 33 #[.slice al n cl, .int .i64 (k : Nat), .func (.func f) #[] caps] .normal) cs) w := by
  have T := DA.terms w.heap.size
  rw [enter_at _ Try.func33 body33]
  simp only [Try.ntmps33, List.size_toArray, List.length_cons, List.length_nil, Nat.reduceAdd, Nat.reduceSub, Array.replicate_succ, Array.replicate_zero, List.push_toArray, List.append_toArray, List.nil_append, List.cons_append]
  show WkG _ _ _ _ _ _ (G (b33.at ⟨(#[.slice al n cl, .int .i64 (k : Nat), .func (.func f) #[] caps, undef, undef, undef, undef, undef, undef, undef, undef, undef, undef, undef, undef, undef, undef, undef, undef, undef, undef, undef, undef, undef, undef, undef, undef] : Array Value), []⟩ (.code (.seq r33_0 (.seq r33_1 t33)) :: [])) cs) _
  refine WkG.idle T rfl (fun w => stepG_seq) ?_
  refine a33_r0 (N0 := w.heap.size) (k := k) (n := n) (cl := cl) (al := al) (f := f) (caps := caps) (Q := fun e a _ w2 => e = .normal ∧ a = ⟨(#[.slice al n cl, .int .i64 (k : Nat), .func (.func f) #[] caps, .pointer (some ⟨w.heap.size, 0, none⟩), .pointer (some ⟨(w.heap.size + 1), 0, none⟩), .pointer (some ⟨(w.heap.size + 2), 0, none⟩), .slice none 0 0, undef, undef, undef, undef, undef, undef, undef, undef, undef, undef, undef, undef, undef, undef, undef, undef, undef, undef, undef, undef] : Array Value), []⟩ ∧ HA w.heap.size k (.slice al n cl) (.func (.func f) #[] caps) w w2 ∧ w2.heap.size = w.heap.size + 3) rfl rfl rfl (fun w2 h1 h2 => ⟨rfl, rfl, h1, h2⟩) b33 [.code (.seq r33_1 t33)] cs _ rfl (by decide) fun e a _ w2 q => ?_
  obtain ⟨rfl, rfl, ha, hs⟩ := q
  show WkG _ _ _ _ _ _ (G (b33.at _ [.code (.seq r33_1 t33)]) cs) _
  refine WkG.idle T rfl (fun w => stepG_seq) ?_
  refine a33_r1 (N0 := w.heap.size) (k := k) (n := n) (cl := cl) (al := al) (w0 := w) (Q := fun e a _ w2 => e = .normal ∧ ∃ o c bo bd, a = ⟨(#[.slice al n cl, .int .i64 (k : Nat), .func (.func f) #[] caps, .pointer (some ⟨w.heap.size, 0, none⟩), .pointer (some ⟨(w.heap.size + 1), 0, none⟩), .pointer (some ⟨(w.heap.size + 2), 0, none⟩), .slice none 0 0, .pointer (some ⟨bo, 0, none⟩), .pointer (some ⟨bd, 0, none⟩), undef, .slice al n cl, .int .i64 (n : Nat), .slice (some ⟨o, 0, none⟩) n n, .chan (some c), undef, undef, undef, undef, undef, undef, undef, undef, undef, undef, undef, undef, undef] : Array Value), []⟩ ∧ HC w.heap.size n k (.slice al n cl) (.func (.func f) #[] caps) w o c bo bd w2) hn rfl ha hs
    (fun a i x y h r => ?_) (fun o c bo bd w2 h => ⟨rfl, o, c, bo, bd, rfl, h⟩) b33 [.code t33] cs _ rfl (by decide) fun e a _ w2 q => ?_
  · obtain ⟨h1, o, c, bo, bd, h2, h3⟩ := h
    obtain ⟨d, rfl⟩ := r
    exact ⟨h1, o, c, bo, bd, h2, ⟨⟨h3.ha.ext.at d, h3.ha.b0, h3.ha.b1, h3.ha.b2⟩, h3.ro, h3.rc, h3.rbo, h3.rbd, h3.lo⟩⟩
  · obtain ⟨rfl, o, c, bo, bd, rfl, h⟩ := q
    refine .stop fun w3 r => ?_
    obtain ⟨d, rfl⟩ := r
    exact ⟨o, c, bo, bd, rfl, ⟨h.ha.ext.at d, h.ha.b0, h.ha.b1, h.ha.b2⟩, h.ro, h.rc, h.rbo, h.rbd, h.lo⟩
/-- From its loops' end back to the caller. -/
theorem tail33 {al : Option Addr} {cl bl bk bh bo bd o : Nat} {vh : Value} {w : World} {cf : Frame} {cs : List Frame} (u6 u9 u10 u11 u12 u13 u14 u15 u16 u17 u18 u19 u20 u21 u22 u23 u24 u25 u26 : Value) (hc : w.cell? ⟨bo, 0, none⟩ = some (.slice (some ⟨o, 0, none⟩) n n)) (hlt : bo < w.heap.size) :
    WkG Try.prog true RA (fun _ _ => DQ) (fun _ g w2 => AtRel w w2 ∧ g = G (cf.finish (.slice (some ⟨o, 0, none⟩) n n)) cs) () (G (b33.at ⟨(#[.slice al n cl, .int .i64 (k : Nat), vh, .pointer (some ⟨bl, 0, none⟩), .pointer (some ⟨bk, 0, none⟩), .pointer (some ⟨bh, 0, none⟩), u6, .pointer (some ⟨bo, 0, none⟩), .pointer (some ⟨bd, 0, none⟩), u9, u10, u11, u12, u13, u14, u15, u16, u17, u18, u19, u20, u21, u22, u23, u24, u25, u26] : Array Value), []⟩ [.code c33e]) (cf :: cs)) w := by
  have T := DQ.terms
  rw [c33e_eq]
  refine WkG.idle T rfl (fun w => stepG_seq) ?_
  refine WkG.idle T rfl (fun w => stepG_region) ?_
  show WkG _ _ _ _ _ _ (G (b33.at ⟨(#[.slice al n cl, .int .i64 (k : Nat), vh, .pointer (some ⟨bl, 0, none⟩), .pointer (some ⟨bk, 0, none⟩), .pointer (some ⟨bh, 0, none⟩), u6, .pointer (some ⟨bo, 0, none⟩), .pointer (some ⟨bd, 0, none⟩), u9, u10, u11, u12, u13, u14, u15, u16, u17, u18, u19, u20, u21, u22, u23, u24, u25, u26] : Array Value), []⟩ (.inRegion rL (0 :: [1]) :: _)) _) _
  refine WkG.still (.slice (some ⟨o, 0, none⟩) n n) oL0_at rfl (by decide) fun w2 h2 => ?_
  obtain ⟨d, rfl⟩ := h2
  have hc : (w.at d).cell? ⟨bo, 0, none⟩ = some (.slice (some ⟨o, 0, none⟩) n n) := hc
  refine ⟨by simp [oL0, go_sem, hc], ⟨rfl, fun e he => ?_⟩, ?_⟩
  · replace he := mem_listed he
    simp [oL0, go_sem, hc] at he
    subst he
    exact .inr ⟨_, false, rfl, trivial, hlt⟩
  show WkG _ _ _ _ _ _ (G (b33.at ⟨(#[.slice al n cl, .int .i64 (k : Nat), vh, .pointer (some ⟨bl, 0, none⟩), .pointer (some ⟨bk, 0, none⟩), .pointer (some ⟨bh, 0, none⟩), u6, .pointer (some ⟨bo, 0, none⟩), .pointer (some ⟨bd, 0, none⟩), u9, u10, u11, u12, u13, u14, u15, u16, u17, u18, u19, u20, u21, u22, u23, u24, u25, .slice (some ⟨o, 0, none⟩) n n] : Array Value), []⟩ (.inRegion rL (1 :: []) :: _)) _) _
  refine WkG.still (.slice (some ⟨o, 0, none⟩) n n) oL1_at rfl (by decide) fun w2 h2 => ?_
  obtain ⟨d2, rfl⟩ := h2
  refine ⟨by simp [oL1, go_sem], ⟨rfl, fun e he => ?_⟩, ?_⟩
  · replace he := mem_listed he
    simp [oL1, go_sem] at he
  show WkG _ _ _ _ _ _ (G (b33.at ⟨(#[.slice al n cl, .int .i64 (k : Nat), vh, .pointer (some ⟨bl, 0, none⟩), .pointer (some ⟨bk, 0, none⟩), .pointer (some ⟨bh, 0, none⟩), .slice (some ⟨o, 0, none⟩) n n, .pointer (some ⟨bo, 0, none⟩), .pointer (some ⟨bd, 0, none⟩), u9, u10, u11, u12, u13, u14, u15, u16, u17, u18, u19, u20, u21, u22, u23, u24, u25, .slice (some ⟨o, 0, none⟩) n n] : Array Value), []⟩ (.inRegion rL [] :: _)) _) _
  refine WkG.idle T rfl (fun w => stepG_region_end) ?_
  refine WkG.idle T rfl (fun w => stepG_ret') ?_
  refine WkG.step rfl fun w3 h3 => ?_
  obtain ⟨d3, rfl⟩ := h3
  refine ⟨G (cf.finish (.slice (some ⟨o, 0, none⟩) n n)) cs, ((w.at d).at d2).at d3, #[], (), ?_, ⟨rfl, fun e he => by simp at he⟩, .stop fun w4 h4 => ?_⟩
  · simp [G, stepG, unwind, doReturn, results, Frame.at, b33, Try.func33, Try.f33, seen, GStep.after]
  · obtain ⟨d4, rfl⟩ := h4
    exact ⟨⟨d4, rfl⟩, rfl⟩
end
end Go.Proofs.Ytpigjhagdpeofaa.Sim

namespace Go.Proofs.Ytpigjhagdpeofaa.Sim
open Go Go.Conc
set_option linter.unusedVariables false
set_option maxRecDepth 100000
theorem Clo.to {f : FuncId} {caps : Array Value} {n : Nat} {F L : Nat → Int} {D : Nat → Prop} {w w2 : World} (h : Clo f caps n F L D w) (hs : w.heap.size ≤ w2.heap.size) (hk : ∀ y, D y → w2.heap[y]? = w.heap[y]?) : Clo f caps n F L D w2 :=
  ⟨h.ent, h.ok, h.args, h.cls, by
    obtain ⟨m, hrd, hcl⟩ := h.run
    exact ⟨m, readTo hrd hs hk, fun w3 h3 i hi U => hcl w3 (fun y hy => (h3 y hy).trans (hk y hy)) i hi U⟩⟩
theorem lt_of_some {w : World} {b : Nat} {ob : Obj} (h : w.heap[b]? = some ob) : b < w.heap.size := (Array.getElem?_eq_some_iff.1 h).1
section
variable {n cl k gl : Nat} {al : Option Addr} {F L : Nat → Int} {f : FuncId} {caps : Array Value} {D : Nat → Prop}
/-- Its loops. -/
theorem loops33 {N0 o c bo bd b : Nat} {w w1 : World} {cs : List Frame} (hn : n < 1000000000) (hk0 : 0 < k) (hk8 : k ≤ 8) (hN : w.heap.size = N0) (hgl : gl < N0) (hal : 0 < n → al = some ⟨gl, 0, none⟩) (cL : ∀ j, j < n → w.cell? ⟨gl, j, none⟩ = some (.int .i64 (L j))) (hC : Clo f caps n F L D w) (hD : ∀ y, D y → y < w.heap.size)
    (hc : HC N0 n k (.slice al n cl) (.func (.func f) #[] caps) w o c bo bd w1) :
    WkG Try.prog true (RW o k b 0 (KK w1.heap.size o c)) (DW o k b 0 (KK w1.heap.size o c)) (S0 Try.prog o c n k b F (KK w1.heap.size o c) (Fin33 w1.heap.size o c n cl k al N0 (N0 + 1) (N0 + 2) bo bd (.func (.func f) #[] caps) w1 cs) (2 * k)) (fun _ => False)
      (G (b33.at ⟨(#[.slice al n cl, .int .i64 (k : Nat), .func (.func f) #[] caps, .pointer (some ⟨N0, 0, none⟩), .pointer (some ⟨(N0 + 1), 0, none⟩), .pointer (some ⟨(N0 + 2), 0, none⟩), .slice none 0 0, .pointer (some ⟨bo, 0, none⟩), .pointer (some ⟨bd, 0, none⟩), undef, .slice al n cl, .int .i64 (n : Nat), .slice (some ⟨o, 0, none⟩) n n, .chan (some c), undef, undef, undef, undef, undef, undef, undef, undef, undef, undef, undef, undef, undef] : Array Value), []⟩ [.code t33]) cs) w1 := by
  have T := OwnW.terms (o := o) (mine := cls b k 0) (Rd := KK w1.heap.size o c)
  obtain ⟨lo1, lo2, lo3, lo4⟩ := hc.lo
  have l0 := lt_of_some hc.ha.b0
  have l1 := lt_of_some hc.ha.b1
  have l2 := lt_of_some hc.ha.b2
  have lo := lt_of_some hc.ro
  have lc := lt_of_some hc.rc
  have lbo := lt_of_some hc.rbo
  have lbd := lt_of_some hc.rbd
  have n1 : bo ≠ o := by rintro rfl; have h := hc.rbo; rw [hc.ro] at h; simp at h
  have n2 : bo ≠ c := by rintro rfl; have h := hc.rbo; rw [hc.rc] at h; simp at h
  have n3 : bd ≠ o := by rintro rfl; have h := hc.rbd; rw [hc.ro] at h; simp at h
  have n4 : bd ≠ c := by rintro rfl; have h := hc.rbd; rw [hc.rc] at h; simp at h
  have hext := hc.ha.ext
  have kD : ∀ y, y < N0 → KK w1.heap.size o c y := fun y hy => ⟨by have := hext.size; omega, by omega, by omega⟩
  have hK : Kn al w1.heap.size o c n cl k gl N0 (N0 + 1) (N0 + 2) bo bd n L f caps w1 :=
    ⟨⟨l0, by omega, by omega⟩, ⟨l1, by omega, by omega⟩, ⟨l2, by omega, by omega⟩, ⟨lbo, n1, n2⟩, ⟨lbd, n3, n4⟩, kD gl hgl, lo, lc, hal, (cell_of_row hc.ha.b0).1, (cell_of_row hc.ha.b1).1, (cell_of_row hc.ha.b2).1, (cell_of_row hc.rbo).1, (cell_of_row hc.rbd).1, fun j hj => by
      have h := cL j hj
      unfold World.cell? at h ⊢
      rw [hext.keep gl hgl]
      exact h⟩
  have hm : HM w1.heap.size o c n w1 w1 := ⟨fun _ _ _ _ => rfl, Nat.le_refl _, ⟨_, hc.ro, size_madeCells _ _⟩, rfl, rfl, rfl⟩
  have hC1 : Clo f caps n F L D w1 := hC.to (by have := hext.size; omega) fun y hy => hext.keep y (by have := hD y hy; omega)
  rw [t33_eq, c33a_eq]
  refine WkG.idle T rfl (fun w => stepG_seq) ?_
  refine WkG.idle T rfl (fun w => stepG_seq) ?_
  refine WkG.idle T rfl (fun w => stepG_region) ?_
  show WkG _ _ _ _ _ _ (G (b33.at ⟨(#[.slice al n cl, .int .i64 (k : Nat), .func (.func f) #[] caps, .pointer (some ⟨N0, 0, none⟩), .pointer (some ⟨(N0 + 1), 0, none⟩), .pointer (some ⟨(N0 + 2), 0, none⟩), .slice none 0 0, .pointer (some ⟨bo, 0, none⟩), .pointer (some ⟨bd, 0, none⟩), undef, .slice al n cl, .int .i64 (n : Nat), .slice (some ⟨o, 0, none⟩) n n, .chan (some c), undef, undef, undef, undef, undef, undef, undef, undef, undef, undef, undef, undef, undef] : Array Value), []⟩ (.inRegion rH (0 :: [1]) :: _)) _) _
  refine WkG.still (.int .i64 (k : Nat)) oH0_at rfl (by decide) fun w2 h2 => ⟨?_, OwnW.same _ rfl rfl rfl rfl fun e he => ?_, ?_⟩
  · have hc1 := (hm.rely h2).cell hK.kk hK.ck
    simp [oH0, go_sem, hc1]
  · have hc1 := (hm.rely h2).cell hK.kk hK.ck
    replace he := mem_listed he
    simp [oH0, go_sem, hc1] at he
    subst he
    exact ⟨_, rfl, .inr (.inl hK.kk)⟩
  replace hm := hm.rely h2
  show WkG _ _ _ _ _ _ (G (b33.at ⟨(#[.slice al n cl, .int .i64 (k : Nat), .func (.func f) #[] caps, .pointer (some ⟨N0, 0, none⟩), .pointer (some ⟨(N0 + 1), 0, none⟩), .pointer (some ⟨(N0 + 2), 0, none⟩), .slice none 0 0, .pointer (some ⟨bo, 0, none⟩), .pointer (some ⟨bd, 0, none⟩), undef, .slice al n cl, .int .i64 (n : Nat), .slice (some ⟨o, 0, none⟩) n n, .chan (some c), .int .i64 (k : Nat), undef, undef, undef, undef, undef, undef, undef, undef, undef, undef, undef, undef] : Array Value), []⟩ (.inRegion rH (1 :: []) :: _)) _) _
  refine WkG.still (.int .i64 ((0 : Nat) : Int)) oH1_at rfl (by decide) fun w3 h3 => ⟨?_, OwnW.same _ rfl rfl rfl rfl fun e he => ?_, ?_⟩
  · simp [oH1, go_sem]
  · replace he := mem_listed he
    simp [oH1, go_sem] at he
  replace hm := hm.rely h3
  refine WkG.idle T rfl (fun w => stepG_region_end) ?_
  refine WkG.idle T rfl (fun w => stepG_block) ?_
  refine WkG.idle T rfl (fun w => stepG_loop) ?_
  have e2 : 2 * k = k + k := by omega
  rw [e2]
  exact starts33 hn hk0 hk8 hK hC.ent (hC1.hclo (fun y hy => kD y (by have := hD y hy; omega)) rfl) k 0 _ _ _ _ _ _ _ _ _ _ _ _ _ _ _ _ _ _ _ (by omega) hm
/-- The call. -/
theorem shared33 {gs : Array Goroutine} {w : World} {t : Trace} {sl : Option (Nat × Nat)} {cf : Frame} {cs : List Frame} (hn : n < 1000000000) (hk0 : 0 < k) (hk8 : k ≤ 8) (h : Bsd Try.prog gs (G (Frame.enter Try.prog 33 #[.slice al n cl, .int .i64 (k : Nat), .func (.func f) #[] caps] .normal) (cf :: cs)) w t)
    (hgl : gl < w.heap.size) (hal : 0 < n → al = some ⟨gl, 0, none⟩) (cL : ∀ j, j < n → w.cell? ⟨gl, j, none⟩ = some (.int .i64 (L j))) (hC : Clo f caps n F L D w) (hD : ∀ y, D y → y < w.heap.size) :
    ∃ N gs' w' sl' t' o, runNT Try.prog N (crowd gs w sl) t = (.next (crowd gs' w' sl'), t') ∧ Bsd Try.prog gs' (G (cf.finish (.slice (some ⟨o, 0, none⟩) n n)) cs) w' t' ∧ Done33 n F w o w' := by
  obtain ⟨N1, gs1, g1, w1, sl1, t1, _, r1, z1, b1, _, o, c, bo, bd, rfl, hc⟩ := (head33 (k := k) (al := al) (cl := cl) (f := f) (caps := caps) hn w (cf :: cs)).bsd (J := fun _ _ => True) (C := fun _ _ => True) (sl := sl) (DA.terms _) (fun _ w d => ⟨d, rfl⟩) (fun _ _ _ _ => trivial) (fun _ _ w w' es _ hd => ⟨trivial, hd.size, hd.evs⟩)
    (fun _ g w ⟨o, c, bo, bd, hg, _⟩ => by rw [hg]; rfl) h trivial
  have lo := lt_of_some hc.ro
  have lc := lt_of_some hc.rc
  obtain ⟨lo1, lo2, lo3, lo4⟩ := hc.lo
  have hlt : 0 < gs1.size := (Array.getElem?_eq_some_iff.1 b1.zero).1
  obtain ⟨N2, gs2, g2, w2, sl2, t2, M2, r2, b2, _, hF, hrow, hval⟩ := phase (o := o) (c := c) (n := n) (b := gs1.size) (F := F) (K := KK w1.heap.size o c) hk0 (sl := sl1) b1 rfl ⟨0, false, hc.rc⟩ ⟨_, hc.ro, size_madeCells _ _⟩ (M := fun _ => False) (fun y hy => hy.elim False.elim id)
    (loops33 (k := k) hn hk0 hk8 rfl hgl hal cL hC hD hc)
  obtain ⟨hm, u6, u9, u10, u11, u12, u13, u14, u15, u16, u17, u18, u19, u20, u21, u22, u23, u24, u25, u26, rfl⟩ := hF
  have lbo := lt_of_some hc.rbo
  have n1 : bo ≠ o := by rintro rfl; have h := hc.rbo; rw [hc.ro] at h; simp at h
  have n2 : bo ≠ c := by rintro rfl; have h := hc.rbo; rw [hc.rc] at h; simp at h
  have hb2 : w2.heap[bo]? = _ := (hm.keep bo lbo n1 n2).trans hc.rbo
  obtain ⟨N3, gs3, g3, w3, sl3, t3, _, r3, z3, b3, _, ⟨d, rfl⟩, rfl⟩ := (tail33 (n := n) (k := k) (o := o) (cf := cf) (cs := cs) u6 u9 u10 u11 u12 u13 u14 u15 u16 u17 u18 u19 u20 u21 u22 u23 u24 u25 u26 (cell_of_row hb2).1 (lt_of_some hb2)).bsd (J := fun _ _ => True) (C := fun _ _ => True) (sl := sl2) DQ.terms (fun _ w d => ⟨d, rfl⟩) (fun _ _ _ _ => trivial) (fun _ _ w w' es _ hd => ⟨trivial, by rw [hd.eq]; exact Nat.le_refl _, hd.evs⟩)
    (fun _ g w ⟨_, hg⟩ => by rw [hg]; rfl) b2 trivial
  have hext := hc.ha.ext
  have hsz := hext.size
  refine ⟨N1 + N2 + N3, gs3, w2.at d, sl3, t3, o, ?_, b3, ⟨hm.env.1.trans hext.tape, hm.env.2.1.trans hext.os, hm.env.2.2.trans hext.output, Nat.le_trans hext.size hm.size, fun y hy => (hm.keep y (by omega) (by omega) (by omega)).trans (hext.keep y hy), by omega, hrow, hval⟩⟩
  rw [Nat.add_assoc, runNT_add, r1]
  show runNT Try.prog (N2 + N3) (crowd gs1 w1 sl1) t1 = _
  rw [runNT_add, r2]
  exact r3
end
end Go.Proofs.Ytpigjhagdpeofaa.Sim
