/-
  A call of impl.shared in company, whole: from a frame in which all others only leave to such a frame. No condition.
  A call of impl.shared in company, whole. No condition.
  The second program's impl.shared: it copies the oracle, or it tells what it was handed. No condition.
  The second program's impl.shared: it copies the oracle, or it tells what it was handed and panics. No condition.
  From a contract of the goroutine alone, on every tape, to the judgement in company, over calls of the one function that starts workers. No condition.
-/
import Derived.Test.YtpigjhagdpeofaaSm10
import Derived.Test.YtpigjhagdpeofaaSm6
import Derived.Laws.CopyRow
import Derived.Laws.MakeOwn
import Derived.Test.YtpigjhagdpeofaaSm9

namespace Go.Proofs.Ytpigjhagdpeofaa.Sim
open Go Go.Conc
set_option linter.unusedVariables false
set_option maxRecDepth 100000
noncomputable def rH : Array Oper := match c33a with | .region _ o _ => o | _ => #[]
theorem c33a_eq : c33a = .region 2 rH false := by kernel_rfl
noncomputable def oH0 : Oper := { dst := some 14, op := .load 2 (.tmp 4), type := 2, pos := placed rH 0, after := #[], guard := none }
theorem oH0_at : rH[0]? = some oH0 := by kernel_rfl
noncomputable def oH1 : Oper := { dst := some 15, op := .move (.const (.int .i64 0)), type := 2, pos := placed rH 1, after := #[], guard := none }
theorem oH1_at : rH[1]? = some oH1 := by kernel_rfl
noncomputable def rL : Array Oper := match c33e with | .seq (.region _ o _) _ => o | _ => #[]
theorem c33e_eq : c33e = .seq (.region 11 rL false) .ret := by kernel_rfl
noncomputable def oL0 : Oper := { dst := some 26, op := .load 23 (.tmp 7), type := 23, pos := placed rL 0, after := #[], guard := none }
theorem oL0_at : rL[0]? = some oL0 := by kernel_rfl
noncomputable def oL1 : Oper := { dst := some 6, op := .assign (.tmp 26), type := 23, pos := placed rL 1, after := #[{ on := 0, ground := Ground.data }, { on := 0, ground := Ground.phase }], guard := none }
theorem oL1_at : rL[1]? = some oL1 := by kernel_rfl
theorem body33 : Try.f33.body = some (.seq r33_0 (.seq r33_1 t33)) := by kernel_rfl
/-- Nothing is turned. -/
structure DQ (w w' : World) (es : Array Event) : Prop where
  eq : w' = w
  evs : ∀ e ∈ es, EvC (fun _ _ => True) w'.heap.size e
theorem DQ.terms : TermsG RA (fun _ _ => DQ) := ⟨fun _ w => atRel_refl w, fun _ a b c h k => atRel_trans a b c h k, fun _ w => ⟨rfl, fun e he => by simp at he⟩⟩
/-- Behind the call. -/
structure Done33 (n : Nat) (F : Nat → Int) (w : World) (o : Nat) (w' : World) : Prop where
  tape : w'.tape = w.tape
  os : w'.os = w.os
  output : w'.output = w.output
  size : w.heap.size ≤ w'.heap.size
  keep : ∀ y, y < w.heap.size → w'.heap[y]? = w.heap[y]?
  lo : w.heap.size ≤ o
  row : ∃ cs, w'.heap[o]? = some (.cells cs 2 (0, 0)) ∧ cs.size = n
  val : ∀ p, p < n → w'.cell? ⟨o, p, none⟩ = some (.int .i64 (F p))
section
variable {n cl k : Nat} {al : Option Addr} {F L : Nat → Int} {f : FuncId} {caps : Array Value} {D : Nat → Prop}
/-- Up to its loops. -/
theorem head33 (hn : n < 1000000000) (w : World) (cs : List Frame) :
    WkG Try.prog true RA (fun _ _ => DA w.heap.size) (fun _ g w2 => ∃ o c bo bd, g = G (b33.at ⟨(#[.slice al n cl, .int .i64 (k : Nat), .func (.func f) #[] caps, .pointer (some ⟨w.heap.size, 0, none⟩), .pointer (some ⟨(w.heap.size + 1), 0, none⟩), .pointer (some ⟨(w.heap.size + 2), 0, none⟩), .slice none 0 0, .pointer (some ⟨bo, 0, none⟩), .pointer (some ⟨bd, 0, none⟩), undef, .slice al n cl, .int .i64 (n : Nat), .slice (some ⟨o, 0, none⟩) n n, .chan (some c), undef, undef, undef, undef, undef, undef, undef, undef, undef, undef, undef, undef, undef] : Array Value), []⟩ [.code t33]) cs ∧ HC w.heap.size n k (.slice al n cl) (.func (.func f) #[] caps) w o c bo bd w2) ()
      (G (Frame.enter Try.prog 33 #[.slice al n cl, .int .i64 (k : Nat), .func (.func f) #[] caps] .normal) cs) w := by
  have T := DA.terms w.heap.size
  rw [enter_at _ Try.func33 body33]
  simp only [Try.ntmps33, List.size_toArray, List.length_cons, List.length_nil, Nat.reduceAdd, Nat.reduceSub, Array.replicate_succ, Array.replicate_zero, List.push_toArray, List.append_toArray, List.nil_append, List.cons_append]
  show WkG _ _ _ _ _ _ (G (b33.at ⟨(#[.slice al n cl, .int .i64 (k : Nat), .func (.func f) #[] caps, undef, undef, undef, undef, undef, undef, undef, undef, undef, undef, undef, undef, undef, undef, undef, undef, undef, undef, undef, undef, undef, undef, undef, undef] : Array Value), []⟩ (.code (.seq r33_0 (.seq r33_1 t33)) :: [])) cs) _
  refine WkG.idle T rfl (fun w => stepG_seq) ?_
  refine a33_r0 (N0 := w.heap.size) (k := k) (n := n) (cl := cl) (al := al) (f := f) (caps := caps) (Q := fun e a _ w2 => e = .normal ∧ a = ⟨(#[.slice al n cl, .int .i64 (k : Nat), .func (.func f) #[] caps, .pointer (some ⟨w.heap.size, 0, none⟩), .pointer (some ⟨(w.heap.size + 1), 0, none⟩), .pointer (some ⟨(w.heap.size + 2), 0, none⟩), .slice none 0 0, undef, undef, undef, undef, undef, undef, undef, undef, undef, undef, undef, undef, undef, undef, undef, undef, undef, undef, undef, undef] : Array Value), []⟩ ∧ HA w.heap.size k (.slice al n cl) (.func (.func f) #[] caps) w w2 ∧ w2.heap.size = w.heap.size + 3) rfl rfl rfl (fun w2 h1 h2 => ⟨rfl, rfl, h1, h2⟩) b33 [.code (.seq r33_1 t33)] cs _ rfl (by decide) fun e a _ w2 q => ?_
  obtain ⟨rfl, rfl, ha, hs⟩ := q
  show WkG _ _ _ _ _ _ (G (b33.at _ [.code (.seq r33_1 t33)]) cs) _
  refine WkG.idle T rfl (fun w => stepG_seq) ?_
  refine a33_r1 (N0 := w.heap.size) (k := k) (n := n) (cl := cl) (al := al) (w0 := w) (Q := fun e a _ w2 => e = .normal ∧ ∃ o c bo bd, a = ⟨(#[.slice al n cl, .int .i64 (k : Nat), .func (.func f) #[] caps, .pointer (some ⟨w.heap.size, 0, none⟩), .pointer (some ⟨(w.heap.size + 1), 0, none⟩), .pointer (some ⟨(w.heap.size + 2), 0, none⟩), .slice none 0 0, .pointer (some ⟨bo, 0, none⟩), .pointer (some ⟨bd, 0, none⟩), undef, .slice al n cl, .int .i64 (n : Nat), .slice (some ⟨o, 0, none⟩) n n, .chan (some c), undef, undef, undef, undef, undef, undef, undef, undef, undef, undef, undef, undef, undef] : Array Value), []⟩ ∧ HC w.heap.size n k (.slice al n cl) (.func (.func f) #[] caps) w o c bo bd w2) hn rfl ha hs
    (fun a i x y h r => ?_) (fun o c bo bd w2 h => ⟨rfl, o, c, bo, bd, rfl, h⟩) b33 [.code t33] cs _ rfl (by decide) fun e a _ w2 q => ?_
  · obtain ⟨h1, o, c, bo, bd, h2, h3⟩ := h
    obtain ⟨d, rfl⟩ := r
    exact ⟨h1, o, c, bo, bd, h2, ⟨⟨h3.ha.ext.at d, h3.ha.b0, h3.ha.b1, h3.ha.b2⟩, h3.ro, h3.rc, h3.rbo, h3.rbd, h3.lo⟩⟩
  · obtain ⟨rfl, o, c, bo, bd, rfl, h⟩ := q
    refine .stop fun w3 r => ?_
    obtain ⟨d, rfl⟩ := r
    exact ⟨o, c, bo, bd, rfl, ⟨h.ha.ext.at d, h.ha.b0, h.ha.b1, h.ha.b2⟩, h.ro, h.rc, h.rbo, h.rbd, h.lo⟩
/-- From its loops' end back to the caller. -/
theorem tail33 {al : Option Addr} {cl bl bk bh bo bd o : Nat} {vh : Value} {w : World} {cf : Frame} {cs : List Frame} (u6 u9 u10 u11 u12 u13 u14 u15 u16 u17 u18 u19 u20 u21 u22 u23 u24 u25 u26 : Value) (hc : w.cell? ⟨bo, 0, none⟩ = some (.slice (some ⟨o, 0, none⟩) n n)) (hlt : bo < w.heap.size) :
    WkG Try.prog true RA (fun _ _ => DQ) (fun _ g w2 => AtRel w w2 ∧ g = G (cf.finish (.slice (some ⟨o, 0, none⟩) n n)) cs) () (G (b33.at ⟨(#[.slice al n cl, .int .i64 (k : Nat), vh, .pointer (some ⟨bl, 0, none⟩), .pointer (some ⟨bk, 0, none⟩), .pointer (some ⟨bh, 0, none⟩), u6, .pointer (some ⟨bo, 0, none⟩), .pointer (some ⟨bd, 0, none⟩), u9, u10, u11, u12, u13, u14, u15, u16, u17, u18, u19, u20, u21, u22, u23, u24, u25, u26] : Array Value), []⟩ [.code c33e]) (cf :: cs)) w := by
  have T := DQ.terms
  rw [c33e_eq]
  refine WkG.idle T rfl (fun w => stepG_seq) ?_
  refine WkG.idle T rfl (fun w => stepG_region) ?_
  show WkG _ _ _ _ _ _ (G (b33.at ⟨(#[.slice al n cl, .int .i64 (k : Nat), vh, .pointer (some ⟨bl, 0, none⟩), .pointer (some ⟨bk, 0, none⟩), .pointer (some ⟨bh, 0, none⟩), u6, .pointer (some ⟨bo, 0, none⟩), .pointer (some ⟨bd, 0, none⟩), u9, u10, u11, u12, u13, u14, u15, u16, u17, u18, u19, u20, u21, u22, u23, u24, u25, u26] : Array Value), []⟩ (.inRegion rL (0 :: [1]) :: _)) _) _
  refine WkG.still (.slice (some ⟨o, 0, none⟩) n n) oL0_at rfl (by decide) fun w2 h2 => ?_
  obtain ⟨d, rfl⟩ := h2
  have hc : (w.at d).cell? ⟨bo, 0, none⟩ = some (.slice (some ⟨o, 0, none⟩) n n) := hc
  refine ⟨by simp [oL0, go_sem, hc], ⟨rfl, fun e he => ?_⟩, ?_⟩
  · replace he := mem_listed he
    simp [oL0, go_sem, hc] at he
    subst he
    exact .inr ⟨_, false, rfl, trivial, hlt⟩
  show WkG _ _ _ _ _ _ (G (b33.at ⟨(#[.slice al n cl, .int .i64 (k : Nat), vh, .pointer (some ⟨bl, 0, none⟩), .pointer (some ⟨bk, 0, none⟩), .pointer (some ⟨bh, 0, none⟩), u6, .pointer (some ⟨bo, 0, none⟩), .pointer (some ⟨bd, 0, none⟩), u9, u10, u11, u12, u13, u14, u15, u16, u17, u18, u19, u20, u21, u22, u23, u24, u25, .slice (some ⟨o, 0, none⟩) n n] : Array Value), []⟩ (.inRegion rL (1 :: []) :: _)) _) _
  refine WkG.still (.slice (some ⟨o, 0, none⟩) n n) oL1_at rfl (by decide) fun w2 h2 => ?_
  obtain ⟨d2, rfl⟩ := h2
  refine ⟨by simp [oL1, go_sem], ⟨rfl, fun e he => ?_⟩, ?_⟩
  · replace he := mem_listed he
    simp [oL1, go_sem] at he
  show WkG _ _ _ _ _ _ (G (b33.at ⟨(#[.slice al n cl, .int .i64 (k : Nat), vh, .pointer (some ⟨bl, 0, none⟩), .pointer (some ⟨bk, 0, none⟩), .pointer (some ⟨bh, 0, none⟩), .slice (some ⟨o, 0, none⟩) n n, .pointer (some ⟨bo, 0, none⟩), .pointer (some ⟨bd, 0, none⟩), u9, u10, u11, u12, u13, u14, u15, u16, u17, u18, u19, u20, u21, u22, u23, u24, u25, .slice (some ⟨o, 0, none⟩) n n] : Array Value), []⟩ (.inRegion rL [] :: _)) _) _
  refine WkG.idle T rfl (fun w => stepG_region_end) ?_
  refine WkG.idle T rfl (fun w => stepG_ret') ?_
  refine WkG.step rfl fun w3 h3 => ?_
  obtain ⟨d3, rfl⟩ := h3
  refine ⟨G (cf.finish (.slice (some ⟨o, 0, none⟩) n n)) cs, ((w.at d).at d2).at d3, #[], (), ?_, ⟨rfl, fun e he => by simp at he⟩, .stop fun w4 h4 => ?_⟩
  · simp [G, stepG, unwind, doReturn, results, Frame.at, b33, Try.func33, Try.f33, seen, GStep.after]
  · obtain ⟨d4, rfl⟩ := h4
    exact ⟨⟨d4, rfl⟩, rfl⟩
end
end Go.Proofs.Ytpigjhagdpeofaa.Sim

namespace Go.Proofs.Ytpigjhagdpeofaa.Sim
open Go Go.Conc
set_option linter.unusedVariables false
set_option maxRecDepth 100000
theorem Clo.to {f : FuncId} {caps : Array Value} {n : Nat} {F L : Nat → Int} {D : Nat → Prop} {w w2 : World} (h : Clo f caps n F L D w) (hs : w.heap.size ≤ w2.heap.size) (hk : ∀ y, D y → w2.heap[y]? = w.heap[y]?) : Clo f caps n F L D w2 :=
  ⟨h.ent, h.ok, h.args, h.cls, by
    obtain ⟨m, hrd, hcl⟩ := h.run
    exact ⟨m, readTo hrd hs hk, fun w3 h3 i hi U => hcl w3 (fun y hy => (h3 y hy).trans (hk y hy)) i hi U⟩⟩
theorem lt_of_some {w : World} {b : Nat} {ob : Obj} (h : w.heap[b]? = some ob) : b < w.heap.size := (Array.getElem?_eq_some_iff.1 h).1
section
variable {n cl k gl : Nat} {al : Option Addr} {F L : Nat → Int} {f : FuncId} {caps : Array Value} {D : Nat → Prop}
/-- Its loops. -/
theorem loops33 {N0 o c bo bd b : Nat} {w w1 : World} {cs : List Frame} (hn : n < 1000000000) (hk0 : 0 < k) (hk8 : k ≤ 8) (hN : w.heap.size = N0) (hgl : gl < N0) (hal : 0 < n → al = some ⟨gl, 0, none⟩) (cL : ∀ j, j < n → w.cell? ⟨gl, j, none⟩ = some (.int .i64 (L j))) (hC : Clo f caps n F L D w) (hD : ∀ y, D y → y < w.heap.size)
    (hc : HC N0 n k (.slice al n cl) (.func (.func f) #[] caps) w o c bo bd w1) :
    WkG Try.prog true (RW o k b 0 (KK w1.heap.size o c)) (DW o k b 0 (KK w1.heap.size o c)) (S0 Try.prog o c n k b F (KK w1.heap.size o c) (Fin33 w1.heap.size o c n cl k al N0 (N0 + 1) (N0 + 2) bo bd (.func (.func f) #[] caps) w1 cs) (2 * k)) (fun _ => False)
      (G (b33.at ⟨(#[.slice al n cl, .int .i64 (k : Nat), .func (.func f) #[] caps, .pointer (some ⟨N0, 0, none⟩), .pointer (some ⟨(N0 + 1), 0, none⟩), .pointer (some ⟨(N0 + 2), 0, none⟩), .slice none 0 0, .pointer (some ⟨bo, 0, none⟩), .pointer (some ⟨bd, 0, none⟩), undef, .slice al n cl, .int .i64 (n : Nat), .slice (some ⟨o, 0, none⟩) n n, .chan (some c), undef, undef, undef, undef, undef, undef, undef, undef, undef, undef, undef, undef, undef] : Array Value), []⟩ [.code t33]) cs) w1 := by
  have T := OwnW.terms (o := o) (mine := cls b k 0) (Rd := KK w1.heap.size o c)
  obtain ⟨lo1, lo2, lo3, lo4⟩ := hc.lo
  have l0 := lt_of_some hc.ha.b0
  have l1 := lt_of_some hc.ha.b1
  have l2 := lt_of_some hc.ha.b2
  have lo := lt_of_some hc.ro
  have lc := lt_of_some hc.rc
  have lbo := lt_of_some hc.rbo
  have lbd := lt_of_some hc.rbd
  have n1 : bo ≠ o := by rintro rfl; have h := hc.rbo; rw [hc.ro] at h; simp at h
  have n2 : bo ≠ c := by rintro rfl; have h := hc.rbo; rw [hc.rc] at h; simp at h
  have n3 : bd ≠ o := by rintro rfl; have h := hc.rbd; rw [hc.ro] at h; simp at h
  have n4 : bd ≠ c := by rintro rfl; have h := hc.rbd; rw [hc.rc] at h; simp at h
  have hext := hc.ha.ext
  have kD : ∀ y, y < N0 → KK w1.heap.size o c y := fun y hy => ⟨by have := hext.size; omega, by omega, by omega⟩
  have hK : Kn al w1.heap.size o c n cl k gl N0 (N0 + 1) (N0 + 2) bo bd n L f caps w1 :=
    ⟨⟨l0, by omega, by omega⟩, ⟨l1, by omega, by omega⟩, ⟨l2, by omega, by omega⟩, ⟨lbo, n1, n2⟩, ⟨lbd, n3, n4⟩, kD gl hgl, lo, lc, hal, (cell_of_row hc.ha.b0).1, (cell_of_row hc.ha.b1).1, (cell_of_row hc.ha.b2).1, (cell_of_row hc.rbo).1, (cell_of_row hc.rbd).1, fun j hj => by
      have h := cL j hj
      unfold World.cell? at h ⊢
      rw [hext.keep gl hgl]
      exact h⟩
  have hm : HM w1.heap.size o c n w1 w1 := ⟨fun _ _ _ _ => rfl, Nat.le_refl _, ⟨_, hc.ro, size_madeCells _ _⟩, rfl, rfl, rfl⟩
  have hC1 : Clo f caps n F L D w1 := hC.to (by have := hext.size; omega) fun y hy => hext.keep y (by have := hD y hy; omega)
  rw [t33_eq, c33a_eq]
  refine WkG.idle T rfl (fun w => stepG_seq) ?_
  refine WkG.idle T rfl (fun w => stepG_seq) ?_
  refine WkG.idle T rfl (fun w => stepG_region) ?_
  show WkG _ _ _ _ _ _ (G (b33.at ⟨(#[.slice al n cl, .int .i64 (k : Nat), .func (.func f) #[] caps, .pointer (some ⟨N0, 0, none⟩), .pointer (some ⟨(N0 + 1), 0, none⟩), .pointer (some ⟨(N0 + 2), 0, none⟩), .slice none 0 0, .pointer (some ⟨bo, 0, none⟩), .pointer (some ⟨bd, 0, none⟩), undef, .slice al n cl, .int .i64 (n : Nat), .slice (some ⟨o, 0, none⟩) n n, .chan (some c), undef, undef, undef, undef, undef, undef, undef, undef, undef, undef, undef, undef, undef] : Array Value), []⟩ (.inRegion rH (0 :: [1]) :: _)) _) _
  refine WkG.still (.int .i64 (k : Nat)) oH0_at rfl (by decide) fun w2 h2 => ⟨?_, OwnW.same _ rfl rfl rfl rfl fun e he => ?_, ?_⟩
  · have hc1 := (hm.rely h2).cell hK.kk hK.ck
    simp [oH0, go_sem, hc1]
  · have hc1 := (hm.rely h2).cell hK.kk hK.ck
    replace he := mem_listed he
    simp [oH0, go_sem, hc1] at he
    subst he
    exact ⟨_, rfl, .inr (.inl hK.kk)⟩
  replace hm := hm.rely h2
  show WkG _ _ _ _ _ _ (G (b33.at ⟨(#[.slice al n cl, .int .i64 (k : Nat), .func (.func f) #[] caps, .pointer (some ⟨N0, 0, none⟩), .pointer (some ⟨(N0 + 1), 0, none⟩), .pointer (some ⟨(N0 + 2), 0, none⟩), .slice none 0 0, .pointer (some ⟨bo, 0, none⟩), .pointer (some ⟨bd, 0, none⟩), undef, .slice al n cl, .int .i64 (n : Nat), .slice (some ⟨o, 0, none⟩) n n, .chan (some c), .int .i64 (k : Nat), undef, undef, undef, undef, undef, undef, undef, undef, undef, undef, undef, undef] : Array Value), []⟩ (.inRegion rH (1 :: []) :: _)) _) _
  refine WkG.still (.int .i64 ((0 : Nat) : Int)) oH1_at rfl (by decide) fun w3 h3 => ⟨?_, OwnW.same _ rfl rfl rfl rfl fun e he => ?_, ?_⟩
  · simp [oH1, go_sem]
  · replace he := mem_listed he
    simp [oH1, go_sem] at he
  replace hm := hm.rely h3
  refine WkG.idle T rfl (fun w => stepG_region_end) ?_
  refine WkG.idle T rfl (fun w => stepG_block) ?_
  refine WkG.idle T rfl (fun w => stepG_loop) ?_
  have e2 : 2 * k = k + k := by omega
  rw [e2]
  exact starts33 hn hk0 hk8 hK hC.ent (hC1.hclo (fun y hy => kD y (by have := hD y hy; omega)) rfl) k 0 _ _ _ _ _ _ _ _ _ _ _ _ _ _ _ _ _ _ _ (by omega) hm
/-- The call. -/
theorem shared33 {gs : Array Goroutine} {w : World} {t : Trace} {sl : Option (Nat × Nat)} {cf : Frame} {cs : List Frame} (hn : n < 1000000000) (hk0 : 0 < k) (hk8 : k ≤ 8) (h : Bsd Try.prog gs (G (Frame.enter Try.prog 33 #[.slice al n cl, .int .i64 (k : Nat), .func (.func f) #[] caps] .normal) (cf :: cs)) w t)
    (hgl : gl < w.heap.size) (hal : 0 < n → al = some ⟨gl, 0, none⟩) (cL : ∀ j, j < n → w.cell? ⟨gl, j, none⟩ = some (.int .i64 (L j))) (hC : Clo f caps n F L D w) (hD : ∀ y, D y → y < w.heap.size) :
    ∃ N gs' w' sl' t' o, runNT Try.prog N (crowd gs w sl) t = (.next (crowd gs' w' sl'), t') ∧ Bsd Try.prog gs' (G (cf.finish (.slice (some ⟨o, 0, none⟩) n n)) cs) w' t' ∧ Done33 n F w o w' := by
  obtain ⟨N1, gs1, g1, w1, sl1, t1, _, r1, z1, b1, _, o, c, bo, bd, rfl, hc⟩ := (head33 (k := k) (al := al) (cl := cl) (f := f) (caps := caps) hn w (cf :: cs)).bsd (J := fun _ _ => True) (C := fun _ _ => True) (sl := sl) (DA.terms _) (fun _ w d => ⟨d, rfl⟩) (fun _ _ _ _ => trivial) (fun _ _ w w' es _ hd => ⟨trivial, hd.size, hd.evs⟩)
    (fun _ g w ⟨o, c, bo, bd, hg, _⟩ => by rw [hg]; rfl) h trivial
  have lo := lt_of_some hc.ro
  have lc := lt_of_some hc.rc
  obtain ⟨lo1, lo2, lo3, lo4⟩ := hc.lo
  have hlt : 0 < gs1.size := (Array.getElem?_eq_some_iff.1 b1.zero).1
  obtain ⟨N2, gs2, g2, w2, sl2, t2, M2, r2, b2, _, hF, hrow, hval⟩ := phase (o := o) (c := c) (n := n) (b := gs1.size) (F := F) (K := KK w1.heap.size o c) hk0 (sl := sl1) b1 rfl ⟨0, false, hc.rc⟩ ⟨_, hc.ro, size_madeCells _ _⟩ (M := fun _ => False) (fun y hy => hy.elim False.elim id)
    (loops33 (k := k) hn hk0 hk8 rfl hgl hal cL hC hD hc)
  obtain ⟨hm, u6, u9, u10, u11, u12, u13, u14, u15, u16, u17, u18, u19, u20, u21, u22, u23, u24, u25, u26, rfl⟩ := hF
  have lbo := lt_of_some hc.rbo
  have n1 : bo ≠ o := by rintro rfl; have h := hc.rbo; rw [hc.ro] at h; simp at h
  have n2 : bo ≠ c := by rintro rfl; have h := hc.rbo; rw [hc.rc] at h; simp at h
  have hb2 : w2.heap[bo]? = _ := (hm.keep bo lbo n1 n2).trans hc.rbo
  obtain ⟨N3, gs3, g3, w3, sl3, t3, _, r3, z3, b3, _, ⟨d, rfl⟩, rfl⟩ := (tail33 (n := n) (k := k) (o := o) (cf := cf) (cs := cs) u6 u9 u10 u11 u12 u13 u14 u15 u16 u17 u18 u19 u20 u21 u22 u23 u24 u25 u26 (cell_of_row hb2).1 (lt_of_some hb2)).bsd (J := fun _ _ => True) (C := fun _ _ => True) (sl := sl2) DQ.terms (fun _ w d => ⟨d, rfl⟩) (fun _ _ _ _ => trivial) (fun _ _ w w' es _ hd => ⟨trivial, by rw [hd.eq]; exact Nat.le_refl _, hd.evs⟩)
    (fun _ g w ⟨_, hg⟩ => by rw [hg]; rfl) b2 trivial
  have hext := hc.ha.ext
  have hsz := hext.size
  refine ⟨N1 + N2 + N3, gs3, w2.at d, sl3, t3, o, ?_, b3, ⟨hm.env.1.trans hext.tape, hm.env.2.1.trans hext.os, hm.env.2.2.trans hext.output, Nat.le_trans hext.size hm.size, fun y hy => (hm.keep y (by omega) (by omega) (by omega)).trans (hext.keep y hy), by omega, hrow, hval⟩⟩
  rw [Nat.add_assoc, runNT_add, r1]
  show runNT Try.prog (N2 + N3) (crowd gs1 w1 sl1) t1 = _
  rw [runNT_add, r2]
  exact r3
end
end Go.Proofs.Ytpigjhagdpeofaa.Sim

namespace Go.Proofs.Ytpigjhagdpeofaa
open Go.Proofs.Ytpigjhagdpeofaa.Sim
set_option linter.unusedVariables false
set_option maxRecDepth 100000
section
variable {P : Program} {ops : Array Oper} {Q : Exit → Act → World → Prop} {a : Act} {w w' : World} {i : Nat} {rest : List Nat} {o : Oper}
theorem wops_val (v : Value) (ho : ops[i]? = some o) (hg : Region.wanted o (yielded ops a.tmps) = true) (hr : (execOp a.eval o).run P w = .ok (.value v) w') (h : wpOps P ops Q rest (a.put o.dst v) w') : wpOps P ops Q (i :: rest) a w := by
  unfold wpOps
  simp only [ho, hg, if_true]
  left
  unfold Oper.wp
  rw [hr]
  exact h
theorem wops_skip (ho : ops[i]? = some o) (hg : Region.wanted o (yielded ops a.tmps) = true) (hr : (execOp a.eval o).run P w = .ok .skip w') (h : wpOps P ops Q rest (a.put o.dst undef) w') : wpOps P ops Q (i :: rest) a w := by
  unfold wpOps
  simp only [ho, hg, if_true]
  left
  unfold Oper.wp
  rw [hr]
  exact h
theorem wops_panic (v : Value) (ho : ops[i]? = some o) (hg : Region.wanted o (yielded ops a.tmps) = true) (hr : (execOp a.eval o).run P w = .halt (.panic v) w') (h : Q (.panic [{ v, recovered := false }]) a w') : wpOps P ops Q (i :: rest) a w := by
  unfold wpOps
  simp only [ho, hg, if_true]
  left
  unfold Oper.wp
  rw [hr]
  exact h
theorem wp_region_at {id t : Nat} (ht : ∀ q, w.tape w.drawn q = t) (h : wpOps P ops Q (Region.schedule (P.follows .mixedOrders) ops t) a { w with drawn := w.drawn + 1 }) : (Code.region id ops true).wp P Q a w := by
  intro b k cs
  obtain ⟨e, a', w', q, r⟩ := wp_ops _ a _ h b k cs
  refine ⟨e, a', w', q, .of_steps (.one ?_) r⟩
  rw [step_region_draw, ht]
end
/-- The coin's region. -/
def Sq.coin : Array Oper := #[Sq.ob (some 4) (.load 2 (.tmp 3)) 2, Sq.ob none (.store 2 (.tmp 3) (.const (.int .i64 1))) 0]
theorem Sq.coin0 : Region.schedule (Sq.prog.follows .mixedOrders) Sq.coin 0 = [0, 1] := by kernel_rfl
theorem Sq.coin1 : Region.schedule (Sq.prog.follows .mixedOrders) Sq.coin 1 = [1, 0] := by kernel_rfl
def Sq.lay (w : World) : World := w.alloc (.cells #[.int .i64 0] 2)
/-- Behind the coin: x: what was loaded. -/
theorem Sq.to_coin {w : World} {vl vk vh : Value} {t : Nat} (ht : ∀ q, w.tape w.drawn q = t) {R : Ending → World → Prop}
    (h : wpOps Sq.prog Sq.coin (Exit.then (fun a w => Code.wp Sq.prog (match Sq.body33 with | .seq _ (.seq _ c) => c | _ => .skip) (bodyPost Sq.prog Sq.f33 R) a w) (bodyPost Sq.prog Sq.f33 R)) (Region.schedule (Sq.prog.follows .mixedOrders) Sq.coin t) ⟨(#[vl, vk, vh, .pointer (some ⟨w.heap.size, 0, none⟩), undef, undef, undef, undef, undef, undef, undef, undef, undef, undef, undef, undef, undef, undef, undef, undef, undef, undef, undef, undef, undef, undef, undef] : Array Value), []⟩ { Sq.lay w with drawn := w.drawn + 1 }) :
    Calls Sq.prog 33 #[vl, vk, vh] w R := by
  refine calls_of_wp Sq.func33 rfl ?_
  simp only [Sq.ntmps33, List.size_toArray, List.length_cons, List.length_nil, Nat.reduceAdd, Nat.reduceSub, Array.replicate_succ, Array.replicate_zero, List.push_toArray, List.append_toArray, List.nil_append, List.cons_append]
  refine wp_seq ?_
  refine wp_region ?_
  show wpOps _ _ _ (0 :: []) _ _
  refine wops_val (.pointer (some ⟨w.heap.size, 0, none⟩)) (w' := Sq.lay w) rfl rfl (by simp [Sq.ob, go_sem, Sq.lay]) ?_
  show Code.wp _ _ _ _ _
  refine wp_seq ?_
  refine wp_region_at (t := t) ?_ ?_
  · exact ht
  · exact h
theorem wops_defer {P : Program} {ops : Array Oper} {Q : Exit → Act → World → Prop} {a : Act} {w w' : World} {i : Nat} {rest : List Nat} {o : Oper} (d : Deferred) (ho : ops[i]? = some o) (hg : Region.wanted o (yielded ops a.tmps) = true) (hr : (execOp a.eval o).run P w = .ok (.defer d) w') (h : wpOps P ops Q rest ({ a with defers := d :: a.defers }.put o.dst undef) w') : wpOps P ops Q (i :: rest) a w := by
  unfold wpOps
  simp only [ho, hg, if_true]
  left
  unfold Oper.wp
  rw [hr]
  exact h
/-- It panics with one deferred call standing, which panics too. -/
def Sq.panQ (K : World → Prop) : Exit → Act → World → Prop := fun e a w' => ∃ ch, e = .panic ch ∧ a.defers = [{ target := .fn (.func 101) #[], args := #[] }] ∧ ch.length = 1 ∧ K w'
theorem Sq.pan_leave {b : Frame} {a : Act} {todo : List Item} {cs : List Frame} {w : World} {ch : List PanicEntry} (ha : a.defers = [{ target := .fn (.func 101) #[], args := #[] }]) :
    ∃ n x todo', runN Sq.prog n (lone { b.at a todo with mode := .panicking ch } cs w) = .next (lone { b.at ⟨a.tmps, []⟩ todo' with mode := .panicking (x :: ch) } cs w) := by
  let o : Oper := Sq.ob none (.panic (.const (.iface 3 (.int .i64 0)))) 0
  let f1 : Frame := { fn := 101, tmps := #[], todo := [.code (.region 0 #[o] false)], defers := [], mode := .run, kind := .deferred }
  let x : PanicEntry := { v := .iface 3 (.int .i64 0), recovered := false }
  let F : Frame := { b.at ⟨a.tmps, []⟩ todo with mode := .panicking ch }
  have e1 : Frame.enter Sq.prog 101 #[] .deferred = f1 := by simp [Frame.enter, Sq.fP, f1, o]
  have s1 : step Sq.prog (lone { b.at a todo with mode := .panicking ch } cs w) = .next (lone f1 (F :: cs) w) := by
    rw [← e1]
    exact step_lone_go (by simp [stepG, unwind, callDeferred, invoke, callFunc, Frame.at, ha, Sq.fP, F])
  have s2 : step Sq.prog (lone f1 (F :: cs) w) = .next (lone { f1 with todo := [.inRegion #[o] [0]] } (F :: cs) w) := step_lone_go (by simp [stepG, stepG.exec, f1])
  have s3 : step Sq.prog (lone { f1 with todo := [.inRegion #[o] [0]] } (F :: cs) w) = .next (lone { { f1 with todo := [.inRegion #[o] [0]] } with mode := .panicking [x] } (F :: cs) w) :=
    step_lone_go (by simp [stepG, stepG.exec, stepG.oper, stepG.apply, Frame.oper?, Region.wanted, Sq.ob, f1, o, execOp, go_sem, Instr.panic, Frame.raise, x, Frame.eval])
  have s4 : step Sq.prog (lone { { f1 with todo := [.inRegion #[o] [0]] } with mode := .panicking [x] } (F :: cs) w) = .next (lone { b.at ⟨a.tmps, []⟩ todo with mode := .panicking (x :: ch) } cs w) :=
    step_lone_go (by simp [stepG, unwind, f1, Frame.catches, Frame.raise, F, Frame.at])
  refine ⟨4, x, todo, ?_⟩
  simp only [runN, s1, s2, s3, s4]
/-- The way that tells. -/
theorem Sq.to_coin1 {w : World} {vl vk vh : Value} (ht : ∀ q, w.tape w.drawn q = 1) {K : World → Prop}
    (h : wpOps Sq.prog Sq.coin (Exit.then (fun a w => Code.wp Sq.prog (match Sq.body33 with | .seq _ (.seq _ c) => c | _ => .skip) (Sq.panQ K) a w) (Sq.panQ K)) (Region.schedule (Sq.prog.follows .mixedOrders) Sq.coin 1) ⟨(#[vl, vk, vh, .pointer (some ⟨w.heap.size, 0, none⟩), undef, undef, undef, undef, undef, undef, undef, undef, undef, undef, undef, undef, undef, undef, undef, undef, undef, undef, undef, undef, undef, undef, undef] : Array Value), []⟩ { Sq.lay w with drawn := w.drawn + 1 }) :
    Calls Sq.prog 33 #[vl, vk, vh] w fun e w' => (∃ x ch, e = .panicked (x :: ch) ∧ ch.length = 1) ∧ K w' := by
  have hw : Sq.body33.wp Sq.prog (Sq.panQ K) ⟨(#[vl, vk, vh, undef, undef, undef, undef, undef, undef, undef, undef, undef, undef, undef, undef, undef, undef, undef, undef, undef, undef, undef, undef, undef, undef, undef, undef] : Array Value), []⟩ w := by
    refine wp_seq ?_
    refine wp_region ?_
    show wpOps _ _ _ (0 :: []) _ _
    refine wops_val (.pointer (some ⟨w.heap.size, 0, none⟩)) (w' := Sq.lay w) rfl rfl (by simp [Sq.ob, go_sem, Sq.lay]) ?_
    show Code.wp _ _ _ _ _
    refine wp_seq ?_
    refine wp_region_at (t := 1) ?_ ?_
    · exact ht
    · exact h
  intro cs
  let b : Frame := { (default : Frame) with fn := 33, kind := .normal }
  have henter : Frame.enter Sq.prog 33 #[vl, vk, vh] .normal = b.at ⟨(#[vl, vk, vh, undef, undef, undef, undef, undef, undef, undef, undef, undef, undef, undef, undef, undef, undef, undef, undef, undef, undef, undef, undef, undef, undef, undef, undef] : Array Value), []⟩ [.code Sq.body33] := by
    simp [Frame.enter, Frame.at, b, Sq.f33]
  obtain ⟨e, a', w', ⟨ch, rfl, hd, hl, hk⟩, harr⟩ := hw b [] cs
  obtain ⟨todo, n, hn⟩ := harr
  obtain ⟨m, x, todo', hm⟩ := Sq.pan_leave (b := b) (todo := todo) (cs := cs) (w := w') (ch := ch) hd
  refine ⟨.panicked (x :: ch), w', { b.at ⟨a'.tmps, []⟩ todo' with mode := .panicking (x :: ch) }, ⟨⟨x, ch, rfl, hl⟩, hk⟩, ⟨n + m, ?_⟩, rfl, rfl, rfl, Sq.f33, Sq.func33⟩
  rw [henter, runN_add, hn]
  exact hm
end Go.Proofs.Ytpigjhagdpeofaa

namespace Go.Proofs.Ytpigjhagdpeofaa
open Go.Proofs.Ytpigjhagdpeofaa.Sim
set_option linter.unusedVariables false
set_option maxRecDepth 100000
def Sq.rowF (n : Nat) (F : Nat → Int) : Array Value := ((List.range n).map fun p => Value.int .i64 (F p)).toArray
theorem Sq.rowF_at {n : Nat} {F : Nat → Int} {p : Nat} (h : p < n) : (Sq.rowF n F)[p]? = some (.int .i64 (F p)) := by simp [Sq.rowF, h]
/-- The world behind the call, the coin at 0. -/
def Sq.goW (n : Nat) (F : Nat → Int) (w : World) : World := { w with heap := (w.heap.push (.cells #[.int .i64 1] 2 (0, 0))).push (.cells (Sq.rowF n F) 2 (0, 0)), drawn := w.drawn + 1 }
theorem Sq.info2 : Sq.prog.info? 2 = some Try.t2 := by kernel_rfl
def Sq.coinW (w : World) : World := ({ Sq.lay w with drawn := w.drawn + 1 } : World).setCell ⟨w.heap.size, 0, none⟩ (.int .i64 1)
theorem Sq.lay_heap (w : World) : ({ Sq.lay w with drawn := w.drawn + 1 } : World).heap[w.heap.size]? = some (.cells #[.int .i64 0] 2 (0, 0)) := heap_alloc_at
theorem Sq.coin_heap (w : World) : (Sq.coinW w).heap[w.heap.size]? = some (.cells #[.int .i64 1] 2 (0, 0)) := heap_set_at (Sq.lay_heap w)
theorem Sq.coin_old {w : World} {b : Nat} (h : b < w.heap.size) : (Sq.coinW w).heap[b]? = w.heap[b]? := (heap_set_ne (by omega)).trans (heap_alloc_lt h)
theorem Sq.coin_size (w : World) : (Sq.coinW w).heap.size = w.heap.size + 1 := by
  show (({ Sq.lay w with drawn := w.drawn + 1 } : World).setCell _ _).heap.size = _
  simp only [World.setCell, Array.size_modify]
  exact size_alloc'
theorem Sq.heap_ext {w w' : World} (h : ∀ b : Nat, w.heap[b]? = w'.heap[b]?) (h2 : w = { w' with heap := w.heap }) : w = w' := by
  have e : w.heap = w'.heap := Array.ext_getElem? h
  rw [h2, e]
theorem Sq.setRow_at {w : World} {g : Nat} {cs cs' : Array Value} {e : TypeId} (h : w.heap[g]? = some (.cells cs e (0, 0))) : (w.setRow g cs').heap[g]? = some (.cells cs' e (0, 0)) := by
  simp only [World.setRow, Array.getElem?_modify, if_true, h]
  rfl
theorem Sq.go_tail {n cl : Nat} {al : Option Addr} {k : Int} {f : FuncId} {caps : Array Value} {F : Nat → Int} {w : World} {Q : Exit → Act → World → Prop} (hn : n < 1000000000) (h3 : 3 < w.heap.size) (hor : ∀ p, p < n → w.cell? ⟨3, p, none⟩ = some (.int .i64 (F p))) (hQ : Q .ret ⟨(#[.slice al n cl, .int .i64 k, .func (.func f) #[] caps, .pointer (some ⟨w.heap.size, 0, none⟩), .int .i64 0, .bool true, .slice (some ⟨w.heap.size + 1, 0, none⟩) n n, .int .i64 (n : Nat), .slice (some ⟨w.heap.size + 1, 0, none⟩) n n, .int .i64 (n : Nat), undef, undef, undef, undef, undef, undef, undef, undef, undef, undef, undef, undef, undef, undef, undef, undef, undef] : Array Value), []⟩ (Sq.goW n F w)) :
    wpOps Sq.prog Sq.coin (Exit.then (fun a w => Code.wp Sq.prog (match Sq.body33 with | .seq _ (.seq _ c) => c | _ => .skip) Q a w) Q) [0, 1] ⟨(#[.slice al n cl, .int .i64 k, .func (.func f) #[] caps, .pointer (some ⟨w.heap.size, 0, none⟩), undef, undef, undef, undef, undef, undef, undef, undef, undef, undef, undef, undef, undef, undef, undef, undef, undef, undef, undef, undef, undef, undef, undef] : Array Value), []⟩ { Sq.lay w with drawn := w.drawn + 1 } := by
  obtain ⟨c1, c2⟩ := Sim.cell_of_row (Sq.lay_heap w)
  refine wops_val (.int .i64 0) (o := Sq.ob (some 4) (.load 2 (.tmp 3)) 2) (w' := { Sq.lay w with drawn := w.drawn + 1 }) rfl rfl (by simp [Sq.ob, go_sem, c1]) ?_
  show wpOps _ _ _ _ ⟨(#[.slice al n cl, .int .i64 k, .func (.func f) #[] caps, .pointer (some ⟨w.heap.size, 0, none⟩), .int .i64 0, undef, undef, undef, undef, undef, undef, undef, undef, undef, undef, undef, undef, undef, undef, undef, undef, undef, undef, undef, undef, undef, undef] : Array Value), []⟩ _
  refine wops_skip (o := Sq.ob none (.store 2 (.tmp 3) (.const (.int .i64 1))) 0) (w' := Sq.coinW w) rfl rfl (by simp [Sq.ob, go_sem, c1, c2, Sq.coinW]) ?_
  show Code.wp Sq.prog (.seq _ _) _ ⟨(#[.slice al n cl, .int .i64 k, .func (.func f) #[] caps, .pointer (some ⟨w.heap.size, 0, none⟩), .int .i64 0, undef, undef, undef, undef, undef, undef, undef, undef, undef, undef, undef, undef, undef, undef, undef, undef, undef, undef, undef, undef, undef, undef] : Array Value), []⟩ _
  refine wp_seq ?_
  refine wp_region ?_
  show wpOps _ _ _ (0 :: []) _ _
  refine wops_val (.bool true) (o := Sq.ob (some 5) (.binOp .eql 2 (.tmp 4) (.const (.int .i64 0)) 2) 4) (w' := Sq.coinW w) rfl rfl (by simp [Sq.ob, go_sem]) ?_
  show Code.wp Sq.prog (.seq _ _) _ ⟨(#[.slice al n cl, .int .i64 k, .func (.func f) #[] caps, .pointer (some ⟨w.heap.size, 0, none⟩), .int .i64 0, .bool true, undef, undef, undef, undef, undef, undef, undef, undef, undef, undef, undef, undef, undef, undef, undef, undef, undef, undef, undef, undef, undef] : Array Value), []⟩ _
  refine wp_seq ?_
  refine wp_cond_true rfl ?_
  refine wp_skip ?_
  show Code.wp Sq.prog (.seq _ _) _ ⟨(#[.slice al n cl, .int .i64 k, .func (.func f) #[] caps, .pointer (some ⟨w.heap.size, 0, none⟩), .int .i64 0, .bool true, undef, undef, undef, undef, undef, undef, undef, undef, undef, undef, undef, undef, undef, undef, undef, undef, undef, undef, undef, undef, undef] : Array Value), []⟩ _
  refine wp_seq ?_
  refine wp_region ?_
  show wpOps _ _ _ (0 :: [1, 2, 3]) _ _
  refine wops_val (.int .i64 (n : Nat)) (o := Sq.ob (some 7) (.call { callee := .builtin .len, args := #[.tmp 0], argTypes := #[23] }) 3) (w' := Sq.coinW w) rfl rfl (by simp [Sq.ob, go_sem]) ?_
  show wpOps _ _ _ _ ⟨(#[.slice al n cl, .int .i64 k, .func (.func f) #[] caps, .pointer (some ⟨w.heap.size, 0, none⟩), .int .i64 0, .bool true, undef, .int .i64 (n : Nat), undef, undef, undef, undef, undef, undef, undef, undef, undef, undef, undef, undef, undef, undef, undef, undef, undef, undef, undef] : Array Value), []⟩ _
  have hm := run_make (P := Sq.prog) (Sq.coinW w) 23 2 Try.t2 (.int .i64 0) Sq.underlying23 Sq.info2 rfl .i64 .i64 n n (by omega) (Int.le_refl _) (by show (8 : Int) * n ≤ _; omega) (by omega)
  rw [Int.toNat_natCast, show n * Try.t2.size = n from Nat.mul_one n, Sq.coin_size] at hm
  refine wops_val (.slice (some ⟨w.heap.size + 1, 0, none⟩) n n) (o := Sq.ob (some 8) (.makeSlice 23 (.tmp 7) (.tmp 7)) 23) (w' := (Sq.coinW w).alloc (.cells (madeCells #[.int .i64 0] n) 2)) rfl rfl (by simp [Sq.ob, go_sem, hm]) ?_
  show wpOps _ _ _ _ ⟨(#[.slice al n cl, .int .i64 k, .func (.func f) #[] caps, .pointer (some ⟨w.heap.size, 0, none⟩), .int .i64 0, .bool true, undef, .int .i64 (n : Nat), .slice (some ⟨w.heap.size + 1, 0, none⟩) n n, undef, undef, undef, undef, undef, undef, undef, undef, undef, undef, undef, undef, undef, undef, undef, undef, undef, undef] : Array Value), []⟩ _
  have hg : ((Sq.coinW w).alloc (.cells (madeCells #[.int .i64 0] n) 2)).heap[w.heap.size + 1]? = some (.cells (madeCells #[.int .i64 0] n) 2 (0, 0)) := by rw [← Sq.coin_size]; exact heap_alloc_at
  have el : (Sq.rowF n F).toList.length = n := by simp [Sq.rowF]
  have hcp := run_copy_row (P := Sq.prog) ((Sq.coinW w).alloc (.cells (madeCells #[.int .i64 0] n) 2)) 23 23 3 2 (w.heap.size + 1) 0 n n ⟨3, 0, none⟩ 1000000000 1000000000 (madeCells #[.int .i64 0] n) 2 (Sq.rowF n F).toList Sq.underlying23 (by rw [Sq.info2]; rfl) hg (by rw [el]; exact (Nat.min_eq_right (by omega)).symm)
    (fun j v hv => by
      have hj : j < n := by
        have := (List.getElem?_eq_some_iff.1 hv).1
        simpa [Sq.rowF] using this
      have e : (Sq.rowF n F).toList[j]? = some (.int .i64 (F j)) := by simp [Sq.rowF, hj]
      rw [e] at hv
      cases hv
      have e2 : ((⟨3, 0, none⟩ : Addr).add j) = ⟨3, j, none⟩ := by simp [Addr.add]; intro h; exact h.symm
      rw [e2, ← hor j hj]
      unfold World.cell?
      rw [heap_alloc_lt (by show (3 : Nat) < (Sq.coinW w).heap.size; rw [Sq.coin_size]; omega), Sq.coin_old h3])
    (by rw [el, size_madeCells]; omega) (fun v hv => by simp [Sq.rowF] at hv; obtain ⟨p, _, rfl⟩ := hv; rfl)
  have ec : (madeCells #[Value.int .i64 0] n).toList.length = n := by rw [Array.length_toList, size_madeCells]
  rw [List.take_zero, List.nil_append, el, Nat.zero_add, List.drop_of_length_le (Nat.le_of_eq ec), List.append_nil, Array.toArray_toList] at hcp
  refine wops_val (.int .i64 (n : Nat)) (o := Sq.ob (some 9) (.call { callee := .builtin .copy, args := #[.tmp 8, .const (.slice (some ⟨3, 0, none⟩) 1000000000 1000000000)], argTypes := #[23, 23] }) 3) (w' := ((Sq.coinW w).alloc (.cells (madeCells #[.int .i64 0] n) 2)).setRow (w.heap.size + 1) (Sq.rowF n F)) rfl rfl ?_ ?_
  · simp [Sq.ob, execOp, resolve, invoke, builtin, go_sem, hcp]
  show wpOps _ _ _ _ ⟨(#[.slice al n cl, .int .i64 k, .func (.func f) #[] caps, .pointer (some ⟨w.heap.size, 0, none⟩), .int .i64 0, .bool true, undef, .int .i64 (n : Nat), .slice (some ⟨w.heap.size + 1, 0, none⟩) n n, .int .i64 (n : Nat), undef, undef, undef, undef, undef, undef, undef, undef, undef, undef, undef, undef, undef, undef, undef, undef, undef] : Array Value), []⟩ _
  refine wops_val (.slice (some ⟨w.heap.size + 1, 0, none⟩) n n) (o := Sq.ob (some 6) (.assign (.tmp 8)) 23) (w' := ((Sq.coinW w).alloc (.cells (madeCells #[.int .i64 0] n) 2)).setRow (w.heap.size + 1) (Sq.rowF n F)) rfl rfl (by simp [Sq.ob, go_sem]) ?_
  show Code.wp Sq.prog _ _ ⟨(#[.slice al n cl, .int .i64 k, .func (.func f) #[] caps, .pointer (some ⟨w.heap.size, 0, none⟩), .int .i64 0, .bool true, .slice (some ⟨w.heap.size + 1, 0, none⟩) n n, .int .i64 (n : Nat), .slice (some ⟨w.heap.size + 1, 0, none⟩) n n, .int .i64 (n : Nat), undef, undef, undef, undef, undef, undef, undef, undef, undef, undef, undef, undef, undef, undef, undef, undef, undef] : Array Value), []⟩ _
  refine wp_ret ?_
  have hs := Sq.coin_size w
  have ew : ((Sq.coinW w).alloc (.cells (madeCells #[.int .i64 0] n) 2)).setRow (w.heap.size + 1) (Sq.rowF n F) = Sq.goW n F w := ?_
  · rw [ew]; exact hQ
  refine Sq.heap_ext (fun b => ?_) rfl
  show _ = ((w.heap.push (.cells #[.int .i64 1] 2 (0, 0))).push (.cells (Sq.rowF n F) 2 (0, 0)))[b]?
  by_cases hb : b = w.heap.size + 1
  · subst hb
    rw [Sq.setRow_at hg, Array.getElem?_push, if_pos (by simp)]
  · rw [setRow_other _ _ _ _ hb, Array.getElem?_push, if_neg (by simp; omega), Array.getElem?_push]
    by_cases hb2 : b < w.heap.size
    · rw [heap_alloc_lt (by omega), Sq.coin_old hb2, if_neg (by omega)]
    · by_cases hb3 : b = w.heap.size
      · subst hb3
        rw [heap_alloc_lt (by omega), Sq.coin_heap, if_pos rfl]
      · rw [if_neg hb3, Array.getElem?_eq_none (by rw [size_alloc']; omega), Array.getElem?_eq_none (by omega)]
theorem Sq.go33 {n cl : Nat} {al : Option Addr} {k : Int} {f : FuncId} {caps : Array Value} {F : Nat → Int} {w : World} (hn : n < 1000000000) (h3 : 3 < w.heap.size) (ht : ∀ q, w.tape w.drawn q = 0) (hor : ∀ p, p < n → w.cell? ⟨3, p, none⟩ = some (.int .i64 (F p))) :
    Calls Sq.prog 33 #[.slice al n cl, .int .i64 k, .func (.func f) #[] caps] w fun e w' => e = .returned (.slice (some ⟨w.heap.size + 1, 0, none⟩) n n) ∧ w' = Sq.goW n F w := by
  refine Sq.to_coin (t := 0) ht ?_
  rw [Sq.coin0]
  exact Sq.go_tail hn h3 hor ⟨rfl, .slice (some ⟨w.heap.size + 1, 0, none⟩) n n, by simp [results, go_sem], rfl, rfl⟩
/-- The world behind the call, the coin at 1. -/
def Sq.panW (va vb vc : Value) (w : World) : World := ((Sq.coinW w).setCell ⟨2, 1, none⟩ (.func (.func 33) #[] #[va, vb, vc])).setCell ⟨2, 0, none⟩ (.int .i64 1)
theorem Sq.set_cell {w : World} {b i : Nat} {v : Value} {cs : Array Value} {e : TypeId} (h : w.heap[b]? = some (.cells cs e (0, 0))) : (w.setCell ⟨b, i, none⟩ v).heap[b]? = some (.cells (cs.setIfInBounds i v) e (0, 0)) := by
  simp only [World.setCell, Array.getElem?_modify, if_true, h]
  rfl
theorem Sq.cell_in {w : World} {b i : Nat} {cs : Array Value} {e : TypeId} (h : w.heap[b]? = some (.cells cs e (0, 0))) (hi : i < cs.size) : (∃ v, w.cell? ⟨b, i, none⟩ = some v) ∧ w.frozen? ⟨b, i, none⟩ = false := by
  refine ⟨⟨cs[i], ?_⟩, ?_⟩
  · simp [World.cell?, h, hi]
  · simp [World.frozen?, h]
theorem Sq.pan_tail {va vb vc : Value} {w : World} {cs : Array Value} {e0 : TypeId} {Q : Exit → Act → World → Prop} (hb : w.heap[2]? = some (.cells cs e0 (0, 0))) (hcs : cs.size = 2)
    (hQ : ∀ ch a w', Sq.panQ (fun w' => w' = Sq.panW va vb vc w ∧ w'.heap[2]? = some (.cells #[.int .i64 1, .func (.func 33) #[] #[va, vb, vc]] e0 (0, 0))) (.panic ch) a w' → Q (.panic ch) a w') :
    wpOps Sq.prog Sq.coin (Exit.then (fun a w => Code.wp Sq.prog (match Sq.body33 with | .seq _ (.seq _ c) => c | _ => .skip) Q a w) Q) [1, 0] ⟨(#[va, vb, vc, .pointer (some ⟨w.heap.size, 0, none⟩), undef, undef, undef, undef, undef, undef, undef, undef, undef, undef, undef, undef, undef, undef, undef, undef, undef, undef, undef, undef, undef, undef, undef] : Array Value), []⟩ { Sq.lay w with drawn := w.drawn + 1 } := by
  have h2 : 2 < w.heap.size := (Array.getElem?_eq_some_iff.1 hb).1
  obtain ⟨c1, c2⟩ := Sim.cell_of_row (Sq.lay_heap w)
  obtain ⟨d1, d2⟩ := Sim.cell_of_row (Sq.coin_heap w)
  refine wops_skip (o := Sq.ob none (.store 2 (.tmp 3) (.const (.int .i64 1))) 0) (w' := Sq.coinW w) rfl rfl (by simp [Sq.ob, go_sem, c1, c2, Sq.coinW]) ?_
  show wpOps _ _ _ _ ⟨(#[va, vb, vc, .pointer (some ⟨w.heap.size, 0, none⟩), undef, undef, undef, undef, undef, undef, undef, undef, undef, undef, undef, undef, undef, undef, undef, undef, undef, undef, undef, undef, undef, undef, undef] : Array Value), []⟩ _
  refine wops_val (.int .i64 1) (o := Sq.ob (some 4) (.load 2 (.tmp 3)) 2) (w' := Sq.coinW w) rfl rfl (by simp [Sq.ob, go_sem, d1]) ?_
  show Code.wp Sq.prog (.seq _ _) _ ⟨(#[va, vb, vc, .pointer (some ⟨w.heap.size, 0, none⟩), .int .i64 1, undef, undef, undef, undef, undef, undef, undef, undef, undef, undef, undef, undef, undef, undef, undef, undef, undef, undef, undef, undef, undef, undef] : Array Value), []⟩ _
  refine wp_seq ?_
  refine wp_region ?_
  show wpOps _ _ _ (0 :: []) _ _
  refine wops_val (.bool false) (o := Sq.ob (some 5) (.binOp .eql 2 (.tmp 4) (.const (.int .i64 0)) 2) 4) (w' := Sq.coinW w) rfl rfl (by simp [Sq.ob, go_sem]) ?_
  show Code.wp Sq.prog (.seq _ _) _ ⟨(#[va, vb, vc, .pointer (some ⟨w.heap.size, 0, none⟩), .int .i64 1, .bool false, undef, undef, undef, undef, undef, undef, undef, undef, undef, undef, undef, undef, undef, undef, undef, undef, undef, undef, undef, undef, undef] : Array Value), []⟩ _
  refine wp_seq ?_
  refine wp_cond_false rfl ?_
  refine wp_region ?_
  show wpOps _ _ _ (0 :: [1, 2, 3, 4]) _ _
  have e1 : (Sq.coinW w).heap[2]? = some (.cells cs e0 (0, 0)) := (Sq.coin_old h2).trans hb
  obtain ⟨⟨x1, y1⟩, z1⟩ := Sq.cell_in (i := 1) e1 (by omega)
  have e2 := Sq.set_cell (i := 1) (v := .func (.func 33) #[] #[va, vb, vc]) e1
  obtain ⟨⟨x2, y2⟩, z2⟩ := Sq.cell_in (i := 0) e2 (by simp; omega)
  have e3 := Sq.set_cell (i := 0) (v := .int .i64 1) e2
  refine wops_val (.func (.func 33) #[] #[va, vb, vc]) (o := Sq.ob (some 10) (.makeFunc (.func 33) #[] #[.tmp 0, .tmp 1, .tmp 2]) 58) (w' := Sq.coinW w) rfl rfl (by simp [Sq.ob, go_sem, Instr.makeFunc]) ?_
  show wpOps _ _ _ _ ⟨(#[va, vb, vc, .pointer (some ⟨w.heap.size, 0, none⟩), .int .i64 1, .bool false, undef, undef, undef, undef, .func (.func 33) #[] #[va, vb, vc], undef, undef, undef, undef, undef, undef, undef, undef, undef, undef, undef, undef, undef, undef, undef, undef] : Array Value), []⟩ _
  refine wops_skip (o := Sq.ob none (.store 58 (.const (.pointer (some ⟨2, 1, none⟩))) (.tmp 10)) 0) (w' := (Sq.coinW w).setCell ⟨2, 1, none⟩ (.func (.func 33) #[] #[va, vb, vc])) rfl rfl (by simp [Sq.ob, go_sem]; rw [run_store _ _ _ _ _ rfl]; simp [y1, z1]) ?_
  show wpOps _ _ _ _ ⟨(#[va, vb, vc, .pointer (some ⟨w.heap.size, 0, none⟩), .int .i64 1, .bool false, undef, undef, undef, undef, .func (.func 33) #[] #[va, vb, vc], undef, undef, undef, undef, undef, undef, undef, undef, undef, undef, undef, undef, undef, undef, undef, undef] : Array Value), []⟩ _
  refine wops_skip (o := Sq.ob none (.store 2 (.const (.pointer (some ⟨2, 0, none⟩))) (.const (.int .i64 1))) 0) (w' := Sq.panW va vb vc w) rfl rfl (by simp [Sq.ob, go_sem, y2, z2, Sq.panW]) ?_
  show wpOps _ _ _ _ ⟨(#[va, vb, vc, .pointer (some ⟨w.heap.size, 0, none⟩), .int .i64 1, .bool false, undef, undef, undef, undef, .func (.func 33) #[] #[va, vb, vc], undef, undef, undef, undef, undef, undef, undef, undef, undef, undef, undef, undef, undef, undef, undef, undef] : Array Value), []⟩ _
  refine wops_defer { target := .fn (.func 101) #[], args := #[] } (o := Sq.ob none (.defer { callee := .value (.func 101), args := #[], argTypes := #[] }) 0) (w' := Sq.panW va vb vc w) rfl rfl (by simp [Sq.ob, go_sem, Deferred.ofValue]) ?_
  show wpOps _ _ _ _ ⟨(#[va, vb, vc, .pointer (some ⟨w.heap.size, 0, none⟩), .int .i64 1, .bool false, undef, undef, undef, undef, .func (.func 33) #[] #[va, vb, vc], undef, undef, undef, undef, undef, undef, undef, undef, undef, undef, undef, undef, undef, undef, undef, undef] : Array Value), [{ target := .fn (.func 101) #[], args := #[] }]⟩ _
  refine wops_panic (.iface 3 (.int .i64 0)) (o := Sq.ob none (.panic (.const (.iface 3 (.int .i64 0)))) 0) (w' := Sq.panW va vb vc w) rfl rfl (by simp [Sq.ob, go_sem]) ?_
  refine hQ _ _ _ ⟨_, rfl, rfl, rfl, rfl, ?_⟩
  have e6 : (cs.setIfInBounds 1 (.func (.func 33) #[] #[va, vb, vc])).setIfInBounds 0 (.int .i64 1) = #[.int .i64 1, .func (.func 33) #[] #[va, vb, vc]] := by
    obtain ⟨l⟩ := cs
    match l, hcs with
    | [a, b], _ => rfl
  rw [e6] at e3
  exact e3
theorem Sq.pan33 {va vb vc : Value} {w : World} {cs : Array Value} {e0 : TypeId} (ht : ∀ q, w.tape w.drawn q = 1) (hb : w.heap[2]? = some (.cells cs e0 (0, 0))) (hcs : cs.size = 2) :
    Calls Sq.prog 33 #[va, vb, vc] w fun e w' => (∃ x ch, e = .panicked (x :: ch) ∧ ch.length = 1) ∧ w' = Sq.panW va vb vc w ∧ w'.heap[2]? = some (.cells #[.int .i64 1, .func (.func 33) #[] #[va, vb, vc]] e0 (0, 0)) := by
  refine (Sq.to_coin1 ht (K := fun w' => w' = Sq.panW va vb vc w ∧ w'.heap[2]? = some (.cells #[.int .i64 1, .func (.func 33) #[] #[va, vb, vc]] e0 (0, 0))) ?_)
  rw [Sq.coin1]
  exact Sq.pan_tail hb hcs fun _ _ _ h => h
theorem Sq.go_succ (ops : Array Oper) (fuel t : Nat) (listed : Array Bool) (acc l : List Nat) (i : Nat) (hl : Region.ready .any ops listed = l) (hi : l[t % l.length]? = some i) : Region.linearise.go .any ops (fuel + 1) t listed acc = Region.linearise.go .any ops fuel (t / l.length) (listed.setIfInBounds i true) (i :: acc) := by
  subst hl
  have e : Region.linearise.go .any ops (fuel + 1) t listed acc = match (Region.ready .any ops listed)[t % (Region.ready .any ops listed).length]? with
    | some i => Region.linearise.go .any ops fuel (t / (Region.ready .any ops listed).length) (listed.setIfInBounds i true) (i :: acc)
    | none => acc.reverse := by
    simp only [Region.linearise.go]
    rfl
  rw [e, hi]
theorem Sq.coin_lin (t : Nat) : Region.linearise .any Sq.coin t = [0, 1] ∨ Region.linearise .any Sq.coin t = [1, 0] := by
  show Region.linearise.go .any Sq.coin (1 + 1) t #[false, false] [] = _ ∨ Region.linearise.go .any Sq.coin (1 + 1) t #[false, false] [] = _
  rcases Nat.mod_two_eq_zero_or_one t with h | h
  · left
    rw [Sq.go_succ _ 1 t _ [] [0, 1] 0 (by kernel_rfl) (by show ([0, 1] : List Nat)[t % 2]? = _; rw [h]; rfl)]
    rw [Sq.go_succ _ 0 _ _ _ [1] 1 (by kernel_rfl) (by show ([1] : List Nat)[_ % 1]? = _; rw [Nat.mod_one]; rfl)]
    rfl
  · right
    rw [Sq.go_succ _ 1 t _ [] [0, 1] 1 (by kernel_rfl) (by show ([0, 1] : List Nat)[t % 2]? = _; rw [h]; rfl)]
    rw [Sq.go_succ _ 0 _ _ _ [0] 0 (by kernel_rfl) (by show ([0] : List Nat)[_ % 1]? = _; rw [Nat.mod_one]; rfl)]
    rfl
theorem Sq.coin_any (t : Nat) : Region.schedule (Sq.prog.follows .mixedOrders) Sq.coin t = [0, 1] ∨ Region.schedule (Sq.prog.follows .mixedOrders) Sq.coin t = [1, 0] := by
  have hd : Region.departs Sq.coin = false := by kernel_rfl
  simp only [Region.schedule, hd, Bool.not_false, Bool.or_true, if_true]
  exact Sq.coin_lin t
/-- On every tape: it copies the oracle, or it tells. -/
theorem Sq.any33 {n cl : Nat} {al : Option Addr} {k : Int} {f : FuncId} {caps : Array Value} {F : Nat → Int} {w : World} {cs : Array Value} {e0 : TypeId} (hn : n < 1000000000) (h3 : 3 < w.heap.size) (hor : ∀ p, p < n → w.cell? ⟨3, p, none⟩ = some (.int .i64 (F p))) (hb : w.heap[2]? = some (.cells cs e0 (0, 0))) (hcs : cs.size = 2) :
    Calls Sq.prog 33 #[.slice al n cl, .int .i64 k, .func (.func f) #[] caps] w fun e w' =>
      (e = .returned (.slice (some ⟨w.heap.size + 1, 0, none⟩) n n) ∧ w' = Sq.goW n F w) ∨
      ((∃ x ch, e = .panicked (x :: ch) ∧ ch.length = 1) ∧ w' = Sq.panW (.slice al n cl) (.int .i64 k) (.func (.func f) #[] caps) w ∧ w'.heap[2]? = some (.cells #[.int .i64 1, .func (.func 33) #[] #[.slice al n cl, .int .i64 k, .func (.func f) #[] caps]] e0 (0, 0))) := by
  let K : World → Prop := fun w' => w' = Sq.panW (.slice al n cl) (.int .i64 k) (.func (.func f) #[] caps) w ∧ w'.heap[2]? = some (.cells #[.int .i64 1, .func (.func 33) #[] #[.slice al n cl, .int .i64 k, .func (.func f) #[] caps]] e0 (0, 0))
  let Q : Exit → Act → World → Prop := fun e a w' => (e = .ret ∧ a.defers = [] ∧ (results Sq.f33 a.tmps).run Sq.prog w' = .ok (.slice (some ⟨w.heap.size + 1, 0, none⟩) n n) w' ∧ w' = Sq.goW n F w) ∨ Sq.panQ K e a w'
  have hw : Sq.body33.wp Sq.prog Q ⟨(#[.slice al n cl, .int .i64 k, .func (.func f) #[] caps, undef, undef, undef, undef, undef, undef, undef, undef, undef, undef, undef, undef, undef, undef, undef, undef, undef, undef, undef, undef, undef, undef, undef, undef] : Array Value), []⟩ w := by
    refine wp_seq ?_
    refine wp_region ?_
    show wpOps _ _ _ (0 :: []) _ _
    refine wops_val (.pointer (some ⟨w.heap.size, 0, none⟩)) (w' := Sq.lay w) rfl rfl (by simp [Sq.ob, go_sem, Sq.lay]) ?_
    show Code.wp _ _ _ _ _
    refine wp_seq ?_
    refine wp_region_draw fun t => ?_
    show wpOps Sq.prog Sq.coin (Exit.then (fun a w => Code.wp Sq.prog (match Sq.body33 with | .seq _ (.seq _ c) => c | _ => .skip) Q a w) Q) (Region.schedule (Sq.prog.follows .mixedOrders) Sq.coin t) ⟨(#[.slice al n cl, .int .i64 k, .func (.func f) #[] caps, .pointer (some ⟨w.heap.size, 0, none⟩), undef, undef, undef, undef, undef, undef, undef, undef, undef, undef, undef, undef, undef, undef, undef, undef, undef, undef, undef, undef, undef, undef, undef] : Array Value), []⟩ { Sq.lay w with drawn := w.drawn + 1 }
    rcases Sq.coin_any t with e | e <;> rw [e]
    · exact Sq.go_tail hn h3 hor (Or.inl ⟨rfl, rfl, by simp [results, go_sem], rfl⟩)
    · exact Sq.pan_tail hb hcs fun _ _ _ h => Or.inr h
  intro cs
  let b : Frame := { (default : Frame) with fn := 33, kind := .normal }
  have henter : Frame.enter Sq.prog 33 #[.slice al n cl, .int .i64 k, .func (.func f) #[] caps] .normal = b.at ⟨(#[.slice al n cl, .int .i64 k, .func (.func f) #[] caps, undef, undef, undef, undef, undef, undef, undef, undef, undef, undef, undef, undef, undef, undef, undef, undef, undef, undef, undef, undef, undef, undef, undef, undef] : Array Value), []⟩ [.code Sq.body33] := by
    simp [Frame.enter, Frame.at, b, Sq.f33]
  obtain ⟨e, a', w', hq, harr⟩ := hw b [] cs
  rcases hq with ⟨rfl, hd, hr, hG⟩ | ⟨ch, rfl, hd, hl, hk⟩
  · obtain ⟨todo, hs⟩ := harr
    rw [← henter] at hs
    exact ⟨.returned _, w', _, Or.inl ⟨rfl, hG⟩, hs, rfl, rfl, hd, rfl, Sq.f33, Sq.func33, hr⟩
  · obtain ⟨todo, n, hn⟩ := harr
    obtain ⟨m, x, todo', hm⟩ := Sq.pan_leave (b := b) (todo := todo) (cs := cs) (w := w') (ch := ch) hd
    refine ⟨.panicked (x :: ch), w', { b.at ⟨a'.tmps, []⟩ todo' with mode := .panicking (x :: ch) }, Or.inr ⟨⟨x, ch, rfl, hl⟩, hk⟩, ⟨n + m, ?_⟩, rfl, rfl, rfl, Sq.f33, Sq.func33⟩
    rw [henter, runN_add, hn]
    exact hm
end Go.Proofs.Ytpigjhagdpeofaa

namespace Go.Proofs.Ytpigjhagdpeofaa.Sim
open Go Go.Conc
set_option linter.unusedVariables false
/-- The judgement of goroutine 0 between calls of impl.shared: n, F: what each of them answers. -/
inductive Wp (P : Program) (Rd : Nat → Prop) (n : Nat) (F : Nat → Int) (S : (Nat → Prop) → Goroutine → World → Prop) : (Nat → Prop) → Goroutine → World → Prop
  | stop {M : Nat → Prop} {g : Goroutine} {w : World} (h : ∀ w1, Rely M Rd w w1 → S M g w1) : Wp P Rd n F S M g w
  | step' {M : Nat → Prop} {g : Goroutine} {w : World} (hr : g.status = .running) (G' : World → Goroutine) (W' : World → World) (E' : World → Array Event) (M' : World → Nat → Prop)
      (h : ∀ w1, Rely M Rd w w1 → stepG P true g w1 = .go (G' w1) (W' w1) (E' w1) ∧ OwnS M (M' w1) Rd w1 (W' w1) (E' w1)) (k : ∀ w1, Rely M Rd w w1 → Wp P Rd n F S (M' w1) (G' w1) (W' w1)) : Wp P Rd n F S M g w
  | call {M : Nat → Prop} {g : Goroutine} {w : World} {cf : Frame} {cs : List Frame} {gl cl k : Nat} {al : Option Addr} {f : FuncId} {caps : Array Value} {L : Nat → Int} {D : Nat → Prop} (hal : 0 < n → al = some ⟨gl, 0, none⟩) (hg : g = G (Frame.enter P 33 #[.slice al n cl, .int .i64 (k : Nat), .func (.func f) #[] caps] .normal) (cf :: cs)) (hn : n < 1000000000) (hk0 : 0 < k) (hk8 : k ≤ 8)
      (hf : ∀ w1, Rely M Rd w w1 → 2 ≤ w1.heap.size → (∀ c, M c → 2 ≤ c) → gl < w1.heap.size ∧ (∀ j, j < n → w1.cell? ⟨gl, j, none⟩ = some (.int .i64 (L j))) ∧ Clo f caps n F L D w1 ∧ ∀ y, D y → y < w1.heap.size)
      (k : ∀ w1, Rely M Rd w w1 → ∀ o w', Done33 n F w1 o w' → Wp P Rd n F S (fun y => M y ∨ y = o) (G (cf.finish (.slice (some ⟨o, 0, none⟩) n n)) cs) w') : Wp P Rd n F S M g w
theorem Wp.step {P : Program} {Rd : Nat → Prop} {n : Nat} {F : Nat → Int} {S : (Nat → Prop) → Goroutine → World → Prop} {M : Nat → Prop} {g : Goroutine} {w : World} (hr : g.status = .running)
    (h : ∀ w1, Rely M Rd w w1 → ∃ g' w' es M', stepG P true g w1 = .go g' w' es ∧ OwnS M M' Rd w1 w' es ∧ Wp P Rd n F S M' g' w') : Wp P Rd n F S M g w := by
  classical
  refine .step' hr (fun w1 => if h1 : Rely M Rd w w1 then (h w1 h1).choose else g) (fun w1 => if h1 : Rely M Rd w w1 then (h w1 h1).choose_spec.choose else w1) (fun w1 => if h1 : Rely M Rd w w1 then (h w1 h1).choose_spec.choose_spec.choose else #[])
    (fun w1 => if h1 : Rely M Rd w w1 then (h w1 h1).choose_spec.choose_spec.choose_spec.choose else M) (fun w1 h1 => ?_) (fun w1 h1 => ?_)
  · simp only [dif_pos h1]
    exact ⟨(h w1 h1).choose_spec.choose_spec.choose_spec.choose_spec.1, (h w1 h1).choose_spec.choose_spec.choose_spec.choose_spec.2.1⟩
  · simp only [dif_pos h1]
    exact (h w1 h1).choose_spec.choose_spec.choose_spec.choose_spec.2.2
variable {X : Ctx} {r : Ren}
structure Inv2 (X : Ctx) (base : List Frame) (n : Nat) (F : Nat → Int) (T : Frame → World → Prop) (S : (Nat → Prop) → Goroutine → World → Prop) (s : Si) : Prop where
  alike : Fr X s.r s.fr s.fr'
  modes : (s.fr.mode = .run ∧ s.fr'.mode = .run) ∨ (s.fr.mode = .returning ∧ s.fr'.mode = .returning)
  stk : Stk X s.r [c0] base s.cs s.cs'
  rel : WRel X s.r s.wl s.wc
  hh : HH X T s.fr s.cs s.wl s.K s.pre
  no : ¬ Wp X.P (RdX X) n F S (Mine X s.r) (G s.fr' s.cs') s.wc
structure Lk2 (X : Ctx) (s t : Si) : Prop where
  le : s.K ≤ t.K
  pre : ∀ i, i < s.K → t.pre i = s.pre i
  step : ∀ U : Nat → Question → Nat, (∀ i, i < t.K → U i = t.pre i) → ∃ j, 0 < j ∧ runN X.Q j (Go.lone s.fr s.cs (tp s.wl U s.K)) = .next (Go.lone t.fr t.cs (tp t.wl U t.K))
structure Bar2 (X : Ctx) (base : List Frame) (n : Nat) (F : Nat → Int) (T : Frame → World → Prop) (S : (Nat → Prop) → Goroutine → World → Prop) : Prop where
  ords : Ords X 33
  tape : ∀ fr w U K, T fr (tp w U K) → T fr w
  mode : ∀ fr w, T fr w → fr.mode ≠ .run
  fin : ∀ fr w, T fr w → ∃ j o w', runN X.Q j (Go.lone fr [c0] w) = .ended o w'
  stop : ∀ r fr fr' wl wc, Fr X r fr fr' → fr.mode = .returning → fr'.mode = .returning → WRel X r wl wc → T fr wl → Wp X.P (RdX X) n F S (Mine X r) (G fr' base) wc
  spec : ∀ r vs vs' cs cs' wl wc K pre, X.ok 33 = true → vs.size = 3 → ARel X.ok r vs vs' → Stk X r [c0] base cs cs' → WRel X r wl wc → HH X T (Frame.enter X.Q 33 vs .normal) cs wl K pre → ¬ Wp X.P (RdX X) n F S (Mine X r) (G (Frame.enter X.P 33 vs' .normal) cs') wc →
    ∃ t, Inv2 X base n F T S t ∧ Lk2 X ⟨r, Frame.enter X.Q 33 vs .normal, cs, wl, Frame.enter X.P 33 vs' .normal, cs', wc, K, pre⟩ t
  pan : ∀ r fr fr' cs cs' wl wc ch w1 es j fr2 w2, Fr X r fr fr' → fr.mode = .run → Stk X r [c0] base cs cs' → WRel X r wl wc → wl.tape = wc.tape → wl.drawn = wc.drawn → ch.length = 1 →
    stepG X.Q true (G fr cs) wl = .go (G { fr with mode := .panicking ch } cs) w1 es → runN X.Q j (Go.lone { fr with mode := .panicking ch } cs w1) = .next (Go.lone fr2 [c0] w2) → T fr2 w2 → False

set_option maxHeartbeats 1000000 in
theorem bar_next2 {base : List Frame} {n : Nat} {F : Nat → Int} {T : Frame → World → Prop} {S : (Nat → Prop) → Goroutine → World → Prop} (hB : Bar2 X base n F T S) {s : Si} (hI : Inv2 X base n F T S s) :
    ¬ (s.cs = [c0] ∧ T s.fr s.wl) ∧ ∃ t, Inv2 X base n F T S t ∧ Lk2 X s t := by
  obtain ⟨r, fr, cs, wl, fr', cs', wc, K, pre⟩ := s
  obtain ⟨h, m, hs, hw, hH, hn⟩ := hI
  dsimp only at h m hs hw hH hn ⊢
  have hnt : ¬ (cs = [c0] ∧ T fr wl) := by
    rintro ⟨rfl, ht⟩
    have hm : fr.mode = .returning ∧ fr'.mode = .returning := m.resolve_left fun q => hB.mode _ _ ht q.1
    have e : cs' = base := by
      cases hs with
      | nil => rfl
      | cons hc k =>
        have := hc.alike.defers
        cases this
    subst e
    exact hn (hB.stop r fr fr' wl wc h hm.1 hm.2 hw ht)
  refine ⟨hnt, ?_⟩
  -- the others' doing at which it fails
  obtain ⟨w1, hk, hno⟩ : ∃ w1, Rely (Mine X r) (RdX X) wc w1 ∧ ∀ g' w' es M', stepG X.P true (G fr' cs') w1 = .go g' w' es → OwnS (Mine X r) M' (RdX X) w1 w' es → ¬ Wp X.P (RdX X) n F S M' g' w' := by
    apply Classical.byContradiction
    intro hc
    refine hn (.step rfl fun w1 hk => ?_)
    apply Classical.byContradiction
    intro hc2
    exact hc ⟨w1, hk, fun g' w' es M' a b c => hc2 ⟨g', w', es, M', a, b, c⟩⟩
  have hw1 := hw.rely hk
  -- the tape
  let U0 : Nat → Question → Nat := fun i => if i < K then pre i else w1.tape (w1.drawn + (i - K))
  have hU0 : ∀ i, i < K → U0 i = pre i := fun i hi => by show (if i < K then _ else _) = _; rw [if_pos hi]
  have hU1 : ∀ j, U0 (K + j) = w1.tape (w1.drawn + j) := fun j => by
    show (if K + j < K then _ else _) = _
    rw [if_neg (by omega), Nat.add_sub_cancel_left]
  have hR := hH U0 hU0
  have hwf : WRel X r (tp wl U0 K) (tp w1 U0 K) := hw1.tp _ _ _ _
  have hcase : ¬ (cs = [c0] ∧ T fr (tp wl U0 K)) := fun q => hnt ⟨q.1, hB.tape _ _ _ _ q.2⟩
  obtain ⟨nn, fr2, w2, m0, q1, q2, q3⟩ := hR.cases.resolve_left hcase
  -- the lone step
  have hLS : LS X true fr cs (tp wl U0 K) := by
    rcases m with ⟨m1, m2⟩ | ⟨m1, m2⟩
    · exact lone_step hB.ords h m1 hwf rfl rfl
    · cases hs with
      | nil => exact absurd ⟨rfl, Reach.base h m1 hR⟩ hcase
      | cons hc k => exact lone_back h m1 hc.run hwf rfl rfl
  cases hLS with
  | ended q => rw [lone_one, one_ended rfl q] at q1; cases q1
  | bad q b =>
    rw [lone_one, one_go rfl q] at q1
    cases q1
    exact absurd q2 (bad_never nn b)
  | pan q hl =>
    rw [lone_one, one_go rfl q] at q1
    cases q1
    rcases m with ⟨m1, m2⟩ | ⟨m1, m2⟩
    · exact (hB.pan r fr fr' cs cs' _ _ _ _ _ nn fr2 w2 h m1 hs hwf rfl rfl hl q q2 q3).elim
    · -- on the way out nothing panics
      cases hs with
      | nil => exact absurd ⟨rfl, Reach.base h m1 hR⟩ hcase
      | cons hc k => exact (ret_pan h m1 hc.run q).elim
  | go q hm rt =>
    rename_i fr1 cs1 wl1 es
    have e0 : ∀ V J, tp (tp wl U0 K) V J = tp wl V J := fun _ _ => rfl
    have hdr : K ≤ wl1.drawn := rt.drawn
    -- the same step at the company's own tape
    obtain ⟨es2, q4⟩ := rt.run w1.tape w1.drawn fun j qq hj => by
      show w1.tape (w1.drawn + j) qq = U0 (K + j) qq
      rw [hU1]
    rw [e0] at q4
    have hwa : WRel X r (tp wl w1.tape w1.drawn) w1 := hw1.tpl _ _
    have fin : ∀ {r2 : Ren} {fr1' : Frame} {cs1' : List Frame} {wc1 : World} {es' : Array Event}, stepG X.P true (G fr' cs') w1 = .go (G fr1' cs1') wc1 es' → Nexts X 33 [c0] base r w1 fr1 cs1 (tp wl1 w1.tape (w1.drawn + (wl1.drawn - (tp wl U0 K).drawn))) r2 fr1' cs1' wc1 es' →
        ∃ t, Inv2 X base n F T S t ∧ Lk2 X ⟨r, fr, cs, wl, fr', cs', wc, K, pre⟩ t := by
      intro r2 fr1' cs1' wc1 es' hc nx
      have hno1 := hno _ _ _ _ hc (nx.own hwa)
      have hrel : WRel X r2 wl1 wc1 := nx.rel.tpl wl1.tape wl1.drawn
      have hstep : ∀ U : Nat → Question → Nat, (∀ i, i < wl1.drawn → U i = U0 i) → Go.step X.Q (Go.lone fr cs (tp wl U K)) = .next (Go.lone fr1 cs1 (tp wl1 U wl1.drawn)) := by
        intro U hU
        obtain ⟨es3, q5⟩ := rt.run U K fun j qq hj => by
          show U (K + j) qq = U0 (K + j) qq
          have hj' : j < wl1.drawn - K := hj
          rw [hU (K + j) (by omega)]
        have ek : K + (wl1.drawn - (tp wl U0 K).drawn) = wl1.drawn := by
          show K + (wl1.drawn - K) = wl1.drawn
          omega
        rw [e0, ek] at q5
        rw [lone_one, one_go rfl q5]
        rfl
      have hH1 : HH X T fr1 cs1 wl1 wl1.drawn U0 := by
        intro U hU
        have hr2 := hH U fun i hi => by rw [hU i (by omega), hU0 i hi]
        rcases hr2.cases with ⟨a, b⟩ | ⟨n', fr3, w3, m3, a, b, c⟩
        · exact absurd ⟨a, hB.tape _ _ _ _ b⟩ hnt
        · rw [hstep U hU] at a
          cases a
          exact ⟨n', fr3, w3, b, c⟩
      have htop := nx.top
      generalize hfr1 : fr1 = f1 at htop
      generalize hfr1' : fr1' = f1' at htop
      cases htop with
      | ord hf hmo =>
        subst hfr1; subst hfr1'
        exact ⟨⟨r2, fr1, cs1, wl1, fr1', cs1', wc1, wl1.drawn, U0⟩, ⟨hf, hmo, nx.stk, hrel, hH1, hno1⟩, ⟨hdr, hU0, fun U hU => ⟨1, Nat.zero_lt_one, by simp only [runN]; rw [hstep U hU]⟩⟩⟩
      | special ha hok hz =>
        subst hfr1; subst hfr1'
        obtain ⟨t, hIt, hLt⟩ := hB.spec r2 _ _ cs1 cs1' wl1 wc1 wl1.drawn U0 hok (hz rfl) ha nx.stk hrel hH1 hno1
        refine ⟨t, hIt, Nat.le_trans hdr hLt.le, fun i hi => (hLt.pre i (Nat.lt_of_lt_of_le hi hdr)).trans (hU0 i hi), fun U hU => ?_⟩
        obtain ⟨j, hj, hrun⟩ := hLt.step U hU
        refine ⟨j + 1, Nat.succ_pos _, ?_⟩
        rw [runN, hstep U fun i hi => (hU i (Nat.lt_of_lt_of_le hi hLt.le)).trans (hLt.pre i hi)]
        exact hrun
    rcases m with ⟨m1, m2⟩ | ⟨m1, m2⟩
    · rcases step_run (mc := true) hB.ords h m1 m2 hs hwa rfl rfl q4 with ⟨ch, a, b⟩ | ⟨r2, fr1', cs1', wc1, es', a, b⟩
      · exact absurd (by rw [a]) (hm ch)
      · exact fin a b
    · cases hs with
      | nil => exact absurd ⟨rfl, Reach.base h m1 hR⟩ hcase
      | cons hc k =>
        obtain ⟨r2, fr1', cs1', wc1, es', a, b⟩ := step_ret (sp := 33) (mc := true) h m1 m2 (.cons hc k) hc k hwa rfl rfl q4
        exact fin a b

section
variable {base : List Frame} {n : Nat} {F : Nat → Int} {T : Frame → World → Prop} {S : (Nat → Prop) → Goroutine → World → Prop} (nx : ∀ s, Inv2 X base n F T S s → ∃ t, Inv2 X base n F T S t ∧ Lk2 X s t)
noncomputable def chain2 (s0 : Si) (h0 : Inv2 X base n F T S s0) : Nat → { s : Si // Inv2 X base n F T S s }
  | 0 => ⟨s0, h0⟩
  | i + 1 => ⟨(nx (chain2 s0 h0 i).1 (chain2 s0 h0 i).2).choose, (nx (chain2 s0 h0 i).1 (chain2 s0 h0 i).2).choose_spec.1⟩
theorem chain2_lk (s0 : Si) (h0 : Inv2 X base n F T S s0) (i : Nat) : Lk2 X (chain2 nx s0 h0 i).1 (chain2 nx s0 h0 (i + 1)).1 := (nx (chain2 nx s0 h0 i).1 (chain2 nx s0 h0 i).2).choose_spec.2
end
theorem one_tape2 (f : Nat → Si) (hl : ∀ n, Lk2 X (f n) (f (n + 1))) : ∃ U : Nat → Question → Nat, ∀ n i, i < (f n).K → U i = (f n).pre i := by
  classical
  have le : ∀ n m, n ≤ m → (f n).K ≤ (f m).K ∧ ∀ i, i < (f n).K → (f m).pre i = (f n).pre i := by
    intro n m h
    induction h with
    | refl => exact ⟨Nat.le_refl _, fun i _ => rfl⟩
    | step h ih => exact ⟨Nat.le_trans ih.1 (hl _).le, fun i hi => ((hl _).pre i (Nat.lt_of_lt_of_le hi ih.1)).trans (ih.2 i hi)⟩
  refine ⟨fun i => if h : ∃ n, i < (f n).K then (f h.choose).pre i else fun _ => 0, fun n i hi => ?_⟩
  have hx : ∃ n, i < (f n).K := ⟨n, hi⟩
  simp only [dif_pos hx]
  rcases Nat.le_total hx.choose n with h | h
  · exact ((le _ _ h).2 i hx.choose_spec).symm
  · exact (le _ _ h).2 i hi
theorem chain_run2 (f : Nat → Si) (hl : ∀ n, Lk2 X (f n) (f (n + 1))) {U : Nat → Question → Nat} (hU : ∀ n i, i < (f n).K → U i = (f n).pre i) (a : Nat) :
    ∀ n, ∃ m, n ≤ m ∧ runN X.Q m (Go.lone (f a).fr (f a).cs (tp (f a).wl U (f a).K)) = .next (Go.lone (f (a + n)).fr (f (a + n)).cs (tp (f (a + n)).wl U (f (a + n)).K)) := by
  intro n
  induction n generalizing a with
  | zero => exact ⟨0, Nat.le_refl _, rfl⟩
  | succ n ih =>
    obtain ⟨j, hj, h1⟩ := (hl a).step U (hU (a + 1))
    obtain ⟨m, hm, h2⟩ := ih (a + 1)
    refine ⟨j + m, by omega, ?_⟩
    rw [runN_add, h1]
    rw [show a + 1 + n = a + (n + 1) by omega] at h2
    exact h2
/-- A run that has ended does not go on. -/
theorem runN_past {P : Program} {m : Machine} {i j : Nat} {o : Outcome} {w : World} (h : runN P i m = .ended o w) (hij : i ≤ j) : runN P j m = .ended o w := by
  obtain ⟨d, rfl⟩ : ∃ d, j = i + d := ⟨j - i, by omega⟩
  rw [runN_add, h]
/-- The bar: what the goroutine does alone, on every tape, it does in company. -/
theorem bar2 {base : List Frame} {n : Nat} {F : Nat → Int} {T : Frame → World → Prop} {S : (Nat → Prop) → Goroutine → World → Prop} (hB : Bar2 X base n F T S) {r : Ren} {fr fr' : Frame} {cs cs' : List Frame} {wl wc : World} {K : Nat} {pre : Nat → Question → Nat}
    (h : Fr X r fr fr') (m : (fr.mode = .run ∧ fr'.mode = .run) ∨ (fr.mode = .returning ∧ fr'.mode = .returning)) (hs : Stk X r [c0] base cs cs') (hw : WRel X r wl wc) (hh : HH X T fr cs wl K pre) :
    Wp X.P (RdX X) n F S (Mine X r) (G fr' cs') wc := by
  apply Classical.byContradiction
  intro hn
  have nx : ∀ s, Inv2 X base n F T S s → ∃ t, Inv2 X base n F T S t ∧ Lk2 X s t := fun s hI => (bar_next2 hB hI).2
  let s0 : Si := ⟨r, fr, cs, wl, fr', cs', wc, K, pre⟩
  have h0 : Inv2 X base n F T S s0 := ⟨h, m, hs, hw, hh, hn⟩
  let f : Nat → Si := fun n => (chain2 nx s0 h0 n).1
  have hl : ∀ n, Lk2 X (f n) (f (n + 1)) := chain2_lk nx s0 h0
  obtain ⟨U, hU⟩ := one_tape2 f hl
  obtain ⟨i, fr2, w2, q1, q2⟩ := hh U fun i hi => hU 0 i hi
  obtain ⟨j, o, w', q3⟩ := hB.fin fr2 w2 q2
  obtain ⟨k, hk, q4⟩ := chain_run2 f hl hU 0 (i + j)
  have q5 : runN X.Q (i + j) (Go.lone fr cs (tp wl U K)) = .ended o w' := by rw [runN_add, q1]; exact q3
  have q6 := runN_past q5 hk
  have q7 : runN X.Q k (Go.lone fr cs (tp wl U K)) = _ := q4
  rw [q7] at q6
  cases q6
end Go.Proofs.Ytpigjhagdpeofaa.Sim
