/-
  The worker in company, up to its send. No condition.
  The trace of many goroutines, each with its own places and what it may read: no race, and who knows what. No condition.
  Workers that each send once on a channel, and their starter: what is held of each of them, and how it bears the others' doing. No condition.
  Workers that each send once on a channel, and their starter: the invariant of the machine, and that each kind of step keeps it. No condition.
-/
import Derived.Test.YtpigjhagdpeofaaSm7
import Derived.Conc.Beside
import Derived.Conc.CrowdComm

namespace Go.Proofs.Ytpigjhagdpeofaa.Sim
open Go Go.Conc
set_option linter.unusedVariables false
theorem Sat.start {o n k r : Nat} {Rd : Nat → Prop} {F : Nat → Int} {w0 w : World} {M : Nat → Prop} {r0 : Nat} (h : Sat o n k r Rd F w0 M w 0) (hr0 : r0 < k) (hr : r0 % k = r) : Sat o n k r Rd F w0 M w r0 := by
  refine ⟨h.rd, h.keep, h.size, h.olow, ?_⟩
  obtain ⟨cs, a1, a2, a3⟩ := h.out
  refine ⟨cs, a1, a2, fun p hp hp2 => ?_⟩
  rw [Nat.mod_eq_of_lt hr0] at hr
  rw [Nat.mod_eq_of_lt (by omega)] at hp2
  omega
def at6 (a : Act) : Nat := match a.tmps.getD 6 undef with | .int _ z => z.toNat | _ => 0
/-- All but the send. -/
noncomputable def A54 : Code := match Try.f54.body with | some (.seq a _) => a | _ => .skip
def E54 (o n k r : Nat) (Rd : Nat → Prop) (F : Nat → Int) (w0 : World) (bw bl bk bh bo bd : Nat) : Exit → Act → (Nat → Prop) → World → Prop := fun e a M w => e = .normal ∧ ∃ (i : Nat) (u7 u8 u9 u10 u11 u12 u13 u14 u15 u16 u17 u18 u19 u20 u21 u22 u23 u24 : Value), a = ⟨(#[.pointer (some ⟨bw, 0, none⟩), .pointer (some ⟨bl, 0, none⟩), .pointer (some ⟨bk, 0, none⟩), .pointer (some ⟨bh, 0, none⟩), .pointer (some ⟨bo, 0, none⟩), .pointer (some ⟨bd, 0, none⟩), .int .i64 (i : Nat), u7, u8, u9, u10, u11, u12, u13, u14, u15, u16, u17, u18, u19, u20, u21, u22, u23, u24] : Array Value), []⟩ ∧ n ≤ i ∧ Sat o n k r Rd F w0 M w i
set_option maxRecDepth 100000 in
theorem w54 {m : Bool} {o n k r : Nat} {Rd : Nat → Prop} {F L : Nat → Int} {M : Nat → Prop} {w0 w : World} {bw bl bk bh bo bd gl cl co r0 : Nat} {al : Option Addr} {f : FuncId} {caps : Array Value}
    (hn : n < 1000000000) (hk0 : 0 < k) (hk8 : k ≤ 8) (hr0 : r0 < k) (hr : r0 % k = r)
    (dw : Rd bw) (dl : Rd bl) (dk : Rd bk) (dh : Rd bh) (dO : Rd bo) (dg : Rd gl)
    (cw : w0.cell? ⟨bw, 0, none⟩ = some (.int .i64 (r0 : Nat))) (c_l : w0.cell? ⟨bl, 0, none⟩ = some (.slice al n cl)) (hal : 0 < n → al = some ⟨gl, 0, none⟩) (ck : w0.cell? ⟨bk, 0, none⟩ = some (.int .i64 (k : Nat)))
    (ch : w0.cell? ⟨bh, 0, none⟩ = some (.func (.func f) #[] caps)) (cO : w0.cell? ⟨bo, 0, none⟩ = some (.slice (some ⟨o, 0, none⟩) n co)) (cL : ∀ j, j < n → w0.cell? ⟨gl, j, none⟩ = some (.int .i64 (L j)))
    (hs : Sat o n k r Rd F w0 M w 0) (hE : Ent f)
    (hcall : ∀ i, i < n → i % k = r → ∀ base M w, Sat o n k r Rd F w0 M w i → WkG Try.prog m (RelyW o (fun j => j % k = r) Rd) (OwnW o (fun j => j % k = r) Rd) (RetG Try.prog (OwnW o (fun j => j % k = r) Rd) base fun v M' w' => v = .int .i64 (F i) ∧ Sat o n k r Rd F w0 M' w' i) M (G (Frame.enter Try.prog f (#[.int .i64 (L i)] ++ caps) .normal) base) w) :
    wpG Try.prog m (RelyW o (fun j => j % k = r) Rd) (OwnW o (fun j => j % k = r) Rd) 54 A54 (E54 o n k r Rd F w0 bw bl bk bh bo bd) ⟨(#[.pointer (some ⟨bw, 0, none⟩), .pointer (some ⟨bl, 0, none⟩), .pointer (some ⟨bk, 0, none⟩), .pointer (some ⟨bh, 0, none⟩), .pointer (some ⟨bo, 0, none⟩), .pointer (some ⟨bd, 0, none⟩), undef, undef, undef, undef, undef, undef, undef, undef, undef, undef, undef, undef, undef, undef, undef, undef, undef, undef, undef] : Array Value), []⟩ M w := by
  have T := OwnW.terms (o := o) (mine := fun j => j % k = r) (Rd := Rd)
  show wpG _ _ _ _ _ (.seq _ _) _ _ _ _
  refine wpG_seq T ?_
  refine wpG_region T ?_
  refine opsG_still (v := .int .i64 (r0 : Nat)) rfl rfl (fun w1 h1 => ?_) (fun w1 h1 e he => ?_) fun w1 h1 => ?_
  · have hs1 := hs.rely h1
    have hc1 := hs1.cell dw cw
    simp [go_sem, hc1]
  · have hs1 := hs.rely h1
    have hc1 := hs1.cell dw cw
    simp [go_sem, hc1] at he
    subst he
    exact ⟨_, rfl, .inr (.inl dw)⟩
  replace hs := hs.rely h1
  clear h1
  show opsG Try.prog m _ _ 54 _ _ _ ⟨(#[.pointer (some ⟨bw, 0, none⟩), .pointer (some ⟨bl, 0, none⟩), .pointer (some ⟨bk, 0, none⟩), .pointer (some ⟨bh, 0, none⟩), .pointer (some ⟨bo, 0, none⟩), .pointer (some ⟨bd, 0, none⟩), undef, .int .i64 (r0 : Nat), undef, undef, undef, undef, undef, undef, undef, undef, undef, undef, undef, undef, undef, undef, undef, undef, undef] : Array Value), []⟩ _ _
  refine opsG_still (v := .int .i64 (r0 : Nat)) rfl rfl (fun w1 h1 => ?_) (fun w1 h1 e he => ?_) fun w1 h1 => ?_
  · have hs1 := hs.rely h1
    simp [go_sem]
  · have hs1 := hs.rely h1
    simp [go_sem] at he
  replace hs := hs.rely h1
  clear h1
  show opsG Try.prog m _ _ 54 _ _ _ ⟨(#[.pointer (some ⟨bw, 0, none⟩), .pointer (some ⟨bl, 0, none⟩), .pointer (some ⟨bk, 0, none⟩), .pointer (some ⟨bh, 0, none⟩), .pointer (some ⟨bo, 0, none⟩), .pointer (some ⟨bd, 0, none⟩), .int .i64 (r0 : Nat), .int .i64 (r0 : Nat), undef, undef, undef, undef, undef, undef, undef, undef, undef, undef, undef, undef, undef, undef, undef, undef, undef] : Array Value), []⟩ _ _
  refine opsG_nil T ?_
  show wpG _ _ _ _ _ _ _ _ _ _
  refine wpG_block T ?_
  refine wpG_loop T (fun a M w => ∃ (i : Nat) (u7 u8 u9 u10 u11 u12 u13 u14 u15 u16 u17 u18 u19 u20 u21 u22 u23 u24 : Value), a = ⟨(#[.pointer (some ⟨bw, 0, none⟩), .pointer (some ⟨bl, 0, none⟩), .pointer (some ⟨bk, 0, none⟩), .pointer (some ⟨bh, 0, none⟩), .pointer (some ⟨bo, 0, none⟩), .pointer (some ⟨bd, 0, none⟩), .int .i64 (i : Nat), u7, u8, u9, u10, u11, u12, u13, u14, u15, u16, u17, u18, u19, u20, u21, u22, u23, u24] : Array Value), []⟩ ∧ i % k = r ∧ i < n + k ∧ Sat o n k r Rd F w0 M w i) (fun a => n + k - at6 a) ⟨r0, _, _, _, _, _, _, _, _, _, _, _, _, _, _, _, _, _, _, rfl, hr, by omega, hs.start hr0 hr⟩ ?_
  rintro a M w ⟨i, u7, u8, u9, u10, u11, u12, u13, u14, u15, u16, u17, u18, u19, u20, u21, u22, u23, u24, rfl, hi, hin, hs⟩
  refine wpG_seq T ?_
  refine wpG_seq T ?_
  refine wpG_region T ?_
  refine opsG_still (v := .int .i64 (i : Nat)) rfl rfl (fun w1 h1 => ?_) (fun w1 h1 e he => ?_) fun w1 h1 => ?_
  · have hs1 := hs.rely h1
    simp [go_sem]
  · have hs1 := hs.rely h1
    simp [go_sem] at he
  replace hs := hs.rely h1
  clear h1
  show opsG Try.prog m _ _ 54 _ _ _ ⟨(#[.pointer (some ⟨bw, 0, none⟩), .pointer (some ⟨bl, 0, none⟩), .pointer (some ⟨bk, 0, none⟩), .pointer (some ⟨bh, 0, none⟩), .pointer (some ⟨bo, 0, none⟩), .pointer (some ⟨bd, 0, none⟩), .int .i64 (i : Nat), u7, .int .i64 (i : Nat), u9, u10, u11, u12, u13, u14, u15, u16, u17, u18, u19, u20, u21, u22, u23, u24] : Array Value), []⟩ _ _
  refine opsG_still (v := .slice al n cl) rfl rfl (fun w1 h1 => ?_) (fun w1 h1 e he => ?_) fun w1 h1 => ?_
  · have hs1 := hs.rely h1
    have hc1 := hs1.cell dl c_l
    simp [go_sem, hc1]
  · have hs1 := hs.rely h1
    have hc1 := hs1.cell dl c_l
    simp [go_sem, hc1] at he
    subst he
    exact ⟨_, rfl, .inr (.inl dl)⟩
  replace hs := hs.rely h1
  clear h1
  show opsG Try.prog m _ _ 54 _ _ _ ⟨(#[.pointer (some ⟨bw, 0, none⟩), .pointer (some ⟨bl, 0, none⟩), .pointer (some ⟨bk, 0, none⟩), .pointer (some ⟨bh, 0, none⟩), .pointer (some ⟨bo, 0, none⟩), .pointer (some ⟨bd, 0, none⟩), .int .i64 (i : Nat), u7, .int .i64 (i : Nat), .slice al n cl, u10, u11, u12, u13, u14, u15, u16, u17, u18, u19, u20, u21, u22, u23, u24] : Array Value), []⟩ _ _
  refine opsG_still (v := .int .i64 (n : Nat)) rfl rfl (fun w1 h1 => ?_) (fun w1 h1 e he => ?_) fun w1 h1 => ?_
  · have hs1 := hs.rely h1
    simp [go_sem]
  · have hs1 := hs.rely h1
    simp [go_sem] at he
  replace hs := hs.rely h1
  clear h1
  show opsG Try.prog m _ _ 54 _ _ _ ⟨(#[.pointer (some ⟨bw, 0, none⟩), .pointer (some ⟨bl, 0, none⟩), .pointer (some ⟨bk, 0, none⟩), .pointer (some ⟨bh, 0, none⟩), .pointer (some ⟨bo, 0, none⟩), .pointer (some ⟨bd, 0, none⟩), .int .i64 (i : Nat), u7, .int .i64 (i : Nat), .slice al n cl, .int .i64 (n : Nat), u11, u12, u13, u14, u15, u16, u17, u18, u19, u20, u21, u22, u23, u24] : Array Value), []⟩ _ _
  refine opsG_still (v := .bool (decide ((i : Int) < (n : Int)))) rfl rfl (fun w1 h1 => ?_) (fun w1 h1 e he => ?_) fun w1 h1 => ?_
  · have hs1 := hs.rely h1
    simp [go_sem]
  · have hs1 := hs.rely h1
    simp [go_sem] at he
  replace hs := hs.rely h1
  clear h1
  show opsG Try.prog m _ _ 54 _ _ _ ⟨(#[.pointer (some ⟨bw, 0, none⟩), .pointer (some ⟨bl, 0, none⟩), .pointer (some ⟨bk, 0, none⟩), .pointer (some ⟨bh, 0, none⟩), .pointer (some ⟨bo, 0, none⟩), .pointer (some ⟨bd, 0, none⟩), .int .i64 (i : Nat), u7, .int .i64 (i : Nat), .slice al n cl, .int .i64 (n : Nat), .bool (decide ((i : Int) < (n : Int))), u12, u13, u14, u15, u16, u17, u18, u19, u20, u21, u22, u23, u24] : Array Value), []⟩ _ _
  refine opsG_nil T ?_
  show wpG _ _ _ _ _ _ _ _ _ _
  refine wpG_cond T (t := decide ((i : Int) < (n : Int))) rfl ?_
  by_cases hlt : i < n
  · have hd : decide ((i : Int) < (n : Int)) = true := by simpa using hlt
    simp only [hd, if_true]
    obtain rfl := hal (by omega)
    refine wpG_skip T ?_
    show wpG _ _ _ _ _ _ _ _ _ _
    refine wpG_seq T ?_
    refine wpG_block T ?_
    refine w54_r3 hn dl dh dO dg c_l ch cO cL hlt hi hs hE (fun base M w h => hcall i hlt hi base M w h) (fun a M x y h q => wpG_rely T h q) _ _ _ _ _ _ _ _ _ _ _ _ _ _ _ _ _ _ fun M w hs => ?_
    show wpG _ _ _ _ _ _ _ _ _ _
    refine wpG_region T ?_
    refine opsG_still (v := .int .i64 (i : Nat)) rfl rfl (fun w1 h1 => ?_) (fun w1 h1 e he => ?_) fun w1 h1 => ?_
    · have hs1 := hs.rely h1
      simp [go_sem]
    · have hs1 := hs.rely h1
      simp [go_sem] at he
    replace hs := hs.rely h1
    clear h1
    show opsG Try.prog m _ _ 54 _ _ _ ⟨(#[.pointer (some ⟨bw, 0, none⟩), .pointer (some ⟨bl, 0, none⟩), .pointer (some ⟨bk, 0, none⟩), .pointer (some ⟨bh, 0, none⟩), .pointer (some ⟨bo, 0, none⟩), .pointer (some ⟨bd, 0, none⟩), .int .i64 (i : Nat), u7, .int .i64 (i : Nat), .slice (some ⟨gl, 0, none⟩) n cl, .int .i64 (n : Nat), .bool true, .int .i64 (i : Nat), u13, u14, .slice (some ⟨o, 0, none⟩) n co, .int .i64 (i : Nat), .func (.func f) #[] caps, .slice (some ⟨gl, 0, none⟩) n cl, .int .i64 (i : Nat), .pointer (some ⟨gl, i, none⟩), .int .i64 (L i), .int .i64 (F i), .pointer (some ⟨o, i, none⟩), u24] : Array Value), []⟩ _ _
    refine opsG_still (v := .int .i64 (k : Nat)) rfl rfl (fun w1 h1 => ?_) (fun w1 h1 e he => ?_) fun w1 h1 => ?_
    · have hs1 := hs.rely h1
      have hc1 := hs1.cell dk ck
      simp [go_sem, hc1]
    · have hs1 := hs.rely h1
      have hc1 := hs1.cell dk ck
      simp [go_sem, hc1] at he
      subst he
      exact ⟨_, rfl, .inr (.inl dk)⟩
    replace hs := hs.rely h1
    clear h1
    show opsG Try.prog m _ _ 54 _ _ _ ⟨(#[.pointer (some ⟨bw, 0, none⟩), .pointer (some ⟨bl, 0, none⟩), .pointer (some ⟨bk, 0, none⟩), .pointer (some ⟨bh, 0, none⟩), .pointer (some ⟨bo, 0, none⟩), .pointer (some ⟨bd, 0, none⟩), .int .i64 (i : Nat), u7, .int .i64 (i : Nat), .slice (some ⟨gl, 0, none⟩) n cl, .int .i64 (n : Nat), .bool true, .int .i64 (i : Nat), .int .i64 (k : Nat), u14, .slice (some ⟨o, 0, none⟩) n co, .int .i64 (i : Nat), .func (.func f) #[] caps, .slice (some ⟨gl, 0, none⟩) n cl, .int .i64 (i : Nat), .pointer (some ⟨gl, i, none⟩), .int .i64 (L i), .int .i64 (F i), .pointer (some ⟨o, i, none⟩), u24] : Array Value), []⟩ _ _
    refine opsG_still (v := .int .i64 ((i + k : Nat) : Int)) rfl rfl (fun w1 h1 => ?_) (fun w1 h1 e he => ?_) fun w1 h1 => ?_
    · have hs1 := hs.rely h1
      have hc1 : IntKind.i64.wrap ((i : Int) + (k : Int)) = ((i + k : Nat) : Int) := by rw [IntKind.wrap_i64]; omega
      simp [go_sem, hc1]
    · have hs1 := hs.rely h1
      have hc1 : IntKind.i64.wrap ((i : Int) + (k : Int)) = ((i + k : Nat) : Int) := by rw [IntKind.wrap_i64]; omega
      simp [go_sem, hc1] at he
    replace hs := hs.rely h1
    clear h1
    show opsG Try.prog m _ _ 54 _ _ _ ⟨(#[.pointer (some ⟨bw, 0, none⟩), .pointer (some ⟨bl, 0, none⟩), .pointer (some ⟨bk, 0, none⟩), .pointer (some ⟨bh, 0, none⟩), .pointer (some ⟨bo, 0, none⟩), .pointer (some ⟨bd, 0, none⟩), .int .i64 (i : Nat), u7, .int .i64 (i : Nat), .slice (some ⟨gl, 0, none⟩) n cl, .int .i64 (n : Nat), .bool true, .int .i64 (i : Nat), .int .i64 (k : Nat), .int .i64 ((i + k : Nat) : Int), .slice (some ⟨o, 0, none⟩) n co, .int .i64 (i : Nat), .func (.func f) #[] caps, .slice (some ⟨gl, 0, none⟩) n cl, .int .i64 (i : Nat), .pointer (some ⟨gl, i, none⟩), .int .i64 (L i), .int .i64 (F i), .pointer (some ⟨o, i, none⟩), u24] : Array Value), []⟩ _ _
    refine opsG_still (v := .int .i64 ((i + k : Nat) : Int)) rfl rfl (fun w1 h1 => ?_) (fun w1 h1 e he => ?_) fun w1 h1 => ?_
    · have hs1 := hs.rely h1
      simp [go_sem]
    · have hs1 := hs.rely h1
      simp [go_sem] at he
    replace hs := hs.rely h1
    clear h1
    show opsG Try.prog m _ _ 54 _ _ _ ⟨(#[.pointer (some ⟨bw, 0, none⟩), .pointer (some ⟨bl, 0, none⟩), .pointer (some ⟨bk, 0, none⟩), .pointer (some ⟨bh, 0, none⟩), .pointer (some ⟨bo, 0, none⟩), .pointer (some ⟨bd, 0, none⟩), .int .i64 ((i + k : Nat) : Int), u7, .int .i64 (i : Nat), .slice (some ⟨gl, 0, none⟩) n cl, .int .i64 (n : Nat), .bool true, .int .i64 (i : Nat), .int .i64 (k : Nat), .int .i64 ((i + k : Nat) : Int), .slice (some ⟨o, 0, none⟩) n co, .int .i64 (i : Nat), .func (.func f) #[] caps, .slice (some ⟨gl, 0, none⟩) n cl, .int .i64 (i : Nat), .pointer (some ⟨gl, i, none⟩), .int .i64 (L i), .int .i64 (F i), .pointer (some ⟨o, i, none⟩), u24] : Array Value), []⟩ _ _
    refine opsG_nil T ?_
    refine ⟨⟨i + k, _, _, _, _, _, _, _, _, _, _, _, _, _, _, _, _, _, _, rfl, by rw [Nat.add_mod_right]; exact hi, by omega, hs⟩, ?_⟩
    have e1 : ((i : Int) + (k : Int)).toNat = i + k := by omega
    show n + k - (Int.toNat ((i + k : Nat) : Int)) < n + k - (Int.toNat (i : Int))
    omega
  · have hd : decide ((i : Int) < (n : Int)) = false := by simpa using hlt
    simp only [hd]
    refine wpG_exit T ?_
    exact ⟨rfl, i, _, _, _, _, _, _, _, _, _, _, _, _, _, _, _, _, _, _, rfl, by omega, hs⟩
end Go.Proofs.Ytpigjhagdpeofaa.Sim

namespace Go.Proofs.Ytpigjhagdpeofaa.Sim
open Go Go.Conc
set_option linter.unusedVariables false

theorem memOf {g : Nat} {fn : FuncId} {pos : String} {es : Array Event} {op : MemOp} (h : op ∈ MemOp.ofEvents g fn pos es) : ∃ e ∈ es, op = { g, fn, pos, act := .ofEvent e } := Go.Conc.mem_ofEvents h
/-- A: who is at work; Cl: who may touch what (and write it); every touched block lies below B. -/
structure TI (A : Nat → Prop) (Cl : Nat → Addr → Bool → Prop) (B : Nat) (t : Trace) : Prop where
  words : Wordless t
  clean : ∀ said, ¬ Race said t
  seen : ∀ op ∈ t, op.act.low B
  know : ∀ g, A g → ∀ i x, touchAt t i = some x → Knows t g i ∨ ∀ a wr, Cl g a wr → x.loc = .cell a → x.write = false ∧ wr = false
  who : ∀ i x, touchAt t i = some x → x.loc.isMemory = true → Knows t 0 i ∨ ∃ g, g ≠ 0 ∧ A g ∧ t.g? i = some g ∧ ∃ a, x.loc = .cell a ∧ Cl g a x.write
/-- What a step may list. -/
def EvC (C : Addr → Bool → Prop) (B : Nat) (e : Event) : Prop := e = ⟨.mark .noRoom, false, true⟩ ∨ ∃ (a : Addr) (wr : Bool), e = ⟨.cell a, wr, false⟩ ∧ C a wr ∧ a.block < B

section
variable {A : Nat → Prop} {Cl : Nat → Addr → Bool → Prop} {B : Nat} {t : Trace}
theorem touch_evC {C : Addr → Bool → Prop} {B : Nat} {e : Event} (h : EvC C B e) {x : Touch} (hx : (MemAct.ofEvent e).touch? = some x) : ∃ a, x.loc = .cell a ∧ C a x.write ∧ a.block < B := by
  rcases h with rfl | ⟨a, wr, rfl, h1, h2⟩
  · simp [MemAct.ofEvent, MemAct.touch?] at hx
  · simp only [ofEvent_cell0, MemAct.touch?, Option.some.injEq] at hx
    subst hx
    exact ⟨a, rfl, h1, h2⟩
theorem low_evC {C : Addr → Bool → Prop} {B : Nat} {e : Event} (h : EvC C B e) : (MemAct.ofEvent e).low B := by
  rcases h with rfl | ⟨a, wr, rfl, h1, h2⟩
  · simp [MemAct.ofEvent, MemAct.low]
  · rw [ofEvent_cell0]; exact h2
theorem word_evC {C : Addr → Bool → Prop} {B : Nat} {e : Event} (h : EvC C B e) {m : Mark} (hm : MemAct.ofEvent e = .mark m) : Neutral m := by
  rcases h with rfl | ⟨a, wr, rfl, h1, h2⟩
  · simp only [MemAct.ofEvent, MemAct.mark.injEq] at hm
    exact hm.symm
  · rw [ofEvent_cell0] at hm; cases hm
theorem TI.low_at (h : TI A Cl B t) {i : Nat} {x : Touch} (hx : touchAt t i = some x) {a : Addr} (ha : x.loc = .cell a) : a.block < B := by
  obtain ⟨op, ho, hox⟩ := touch_of hx
  have := h.seen op (mem_of_getElem? ho)
  cases hact : op.act with
  | access e =>
    rw [hact] at this hox
    simp only [MemAct.touch?, Option.some.injEq] at hox
    subst hox
    have ha : e.loc = .cell a := ha
    have this : e.loc.low B := this
    rw [ha] at this
    exact this
  | mark m =>
    rw [hact] at this hox
    cases m <;> simp only [MemAct.touch?, Option.some.injEq, reduceCtorEq] at hox
    all_goals
      subst hox
      cases ha
      exact this
  | _ => rw [hact] at hox; cases hox
theorem low_to {B B' : Nat} (hB : B ≤ B') {u : Trace} (h : ∀ op ∈ u, op.act.low B) : ∀ op ∈ u, op.act.low B' := fun op ho => MemAct.low_mono hB (h op ho)
theorem TI.mono {A' : Nat → Prop} {B' : Nat} (h : TI A Cl B t) (hB : B ≤ B') (hA : ∀ g, A g ↔ A' g) : TI A' Cl B' t :=
  ⟨h.words, h.clean, low_to hB h.seen, fun g hg => h.know g ((hA g).2 hg), fun i x hx hm => (h.who i x hx hm).imp id fun ⟨g, h1, h2, h3⟩ => ⟨g, h1, (hA g).1 h2, h3⟩⟩

/-- A step of one that is at work. -/
theorem TI.own {Cl' : Nat → Addr → Bool → Prop} {B' : Nat} {g : Nat} {fn : FuncId} {pos : String} {es : Array Event} (h : TI A Cl B t) (hg : A g) (hB : B ≤ B') (hcl : ∀ a wr, Cl' g a wr → Cl g a wr ∨ B ≤ a.block) (hmono : ∀ a wr, Cl g a wr → Cl' g a wr)
    (ho : ∀ g', g' ≠ g → ∀ a wr, Cl' g' a wr ↔ Cl g' a wr) (hdis : ∀ g', A g' → g' ≠ g → ∀ a wr wr', Cl' g a wr → Cl' g' a wr' → wr = false ∧ wr' = false) (hes : ∀ e ∈ es, EvC (Cl' g) B' e) : TI A Cl' B' (t ++ MemOp.ofEvents g fn pos es) := by
  refine ⟨h.words.append fun op hop m hm => ?_, fun said => noRace_append (g := g) (h.clean said) (fun op hop => ?_) fun i a ha op hop b hb hc => ?_, seen_app (low_to hB h.seen) fun op hop => ?_, fun g' hg' i x hx => ?_, fun i x hx hm => ?_⟩
  · obtain ⟨e, he, rfl⟩ := memOf hop
    exact word_evC (hes e he) hm
  · obtain ⟨e, he, rfl⟩ := memOf hop
    rfl
  · obtain ⟨e, he, rfl⟩ := memOf hop
    obtain ⟨ad, h1, h2, h3⟩ := touch_evC (hes e he) hb
    rcases h.know g hg i a ha with hk | hk
    · exact hk
    · exfalso
      have hl : a.loc = .cell ad := hc.1.trans h1
      rcases hcl _ _ h2 with h4 | h4
      · obtain ⟨e1, e2⟩ := hk _ _ h4 hl
        rcases hc.2.2.1 with e3 | e3
        · rw [e1] at e3; cases e3
        · rw [e2] at e3; cases e3
      · have := h.low_at ha hl
        omega
  · obtain ⟨e, he, rfl⟩ := memOf hop
    exact low_evC (hes e he)
  · obtain ⟨op, hop, hox⟩ := touch_of hx
    rcases getElem?_append_cases hop with ⟨hi, hop'⟩ | ⟨hi, hopu⟩
    · have hx' : touchAt t i = some x := by rw [touchAt_of hop']; exact hox
      rcases h.know g' hg' i x hx' with hk | hk
      · exact .inl (hk.app _)
      · refine .inr fun a wr hc hl => ?_
        by_cases e : g' = g
        · subst e
          rcases hcl _ _ hc with h4 | h4
          · exact hk _ _ h4 hl
          · have := h.low_at hx' hl
            omega
        · exact hk _ _ ((ho g' e a wr).1 hc) hl
    · obtain ⟨ev, he, rfl⟩ := memOf hopu
      by_cases e : g' = g
      · subst e
        exact .inl (knows_own hop)
      · refine .inr fun a wr hc hl => ?_
        obtain ⟨ad, h1, h2, h3⟩ := touch_evC (hes ev he) hox
        rw [h1] at hl
        cases hl
        exact hdis g' hg' e _ _ _ h2 hc
  · obtain ⟨op, hop, hox⟩ := touch_of hx
    rcases getElem?_append_cases hop with ⟨hi, hop'⟩ | ⟨hi, hopu⟩
    · have hx' : touchAt t i = some x := by rw [touchAt_of hop']; exact hox
      rcases h.who i x hx' hm with hk | ⟨g', h1, h2, h3, a, h4, h5⟩
      · exact .inl (hk.app _)
      · refine .inr ⟨g', h1, h2, by rw [g?_old hi]; exact h3, a, h4, ?_⟩
        by_cases e : g' = g
        · subst e; exact hmono _ _ h5
        · exact (ho g' e _ _).2 h5
    · obtain ⟨ev, he, rfl⟩ := memOf hopu
      obtain ⟨ad, h1, h2, h3⟩ := touch_evC (hes ev he) hox
      by_cases e : g = 0
      · subst e
        exact .inl (knows_own hop)
      · exact .inr ⟨g, e, hg, by simp [Trace.g?, hop], ad, h1, h2⟩

/-- Operations that touch nothing. -/
theorem noRace_mute {said : Bool} : ∀ (u : List MemOp) {t : Trace}, ¬ Race said t → (∀ op ∈ u, op.act.touch? = none) → ¬ Race said (t ++ u.toArray)
  | [], t, h, hu => by simpa using h
  | x :: u, t, h, hu => by
    have e : t ++ (x :: u).toArray = (t ++ #[x]) ++ u.toArray := by simp
    rw [e]
    refine noRace_mute u (noRace_append (g := x.g) h (fun op hop => by simp at hop; rw [hop]) fun i a ha op hop b hb hc => ?_) fun op hop => hu op (by simp [hop])
    simp at hop
    subst hop
    rw [hu op (by simp)] at hb
    cases hb
theorem old_touch {u : Trace} (hu : ∀ op ∈ u, op.act.touch? = none) {i : Nat} {x : Touch} (hx : touchAt (t ++ u) i = some x) : i < t.size ∧ touchAt t i = some x ∧ ∃ op, t[i]? = some op := by
  obtain ⟨op, hop, hox⟩ := touch_of hx
  rcases getElem?_append_cases hop with ⟨hi, hop'⟩ | ⟨hi, hopu⟩
  · exact ⟨hi, by rw [touchAt_of hop']; exact hox, op, hop'⟩
  · rw [hu op hopu] at hox; cases hox

/-- Goroutine 0 starts another. -/
theorem TI.spawn {Cl' : Nat → Addr → Bool → Prop} {n : Nat} {x y : MemOp} (h : TI A Cl B t) (h0 : A 0) (hn : n ≠ 0) (hx : x.g = 0 ∧ x.act = .go n) (hy : y.g = n ∧ y.act = .start)
    (hle : ∀ g, g ≠ n → ∀ a wr, Cl' g a wr → Cl g a wr) (heq : ∀ g, g ≠ 0 → g ≠ n → ∀ a wr, Cl g a wr → Cl' g a wr) (hna : ¬ A n)
    (hdis : ∀ g, A g → g ≠ 0 → ∀ a wr wr', Cl' n a wr → Cl g a wr' → wr = false ∧ wr' = false) : TI (fun g => A g ∨ g = n) Cl' B (t ++ #[x, y]) := by
  have hu : ∀ op ∈ (#[x, y] : Trace), op.act.touch? = none := by
    intro op hop
    simp at hop
    rcases hop with rfl | rfl
    · rw [hx.2]; rfl
    · rw [hy.2]; rfl
  have ex : (t ++ #[x, y])[t.size]? = some x := by simp
  have ey : (t ++ #[x, y])[t.size + 1]? = some y := by simp
  have hw : Wordless (t ++ #[x, y]) := h.words.append fun op hop m hm => by
    simp at hop
    rcases hop with rfl | rfl
    · rw [hx.2] at hm; cases hm
    · rw [hy.2] at hm; cases hm
  refine ⟨hw, fun said => noRace_mute [x, y] (h.clean said) fun op hop => hu op (by simpa using hop), seen_app h.seen fun op hop => ?_, fun g hg i z hz => ?_, fun i z hz hm => ?_⟩
  · simp at hop
    rcases hop with rfl | rfl
    · rw [hx.2]; trivial
    · rw [hy.2]; trivial
  · obtain ⟨hi, hz', op, hop⟩ := old_touch hu hz
    by_cases e : g = n
    · subst e
      by_cases hmm : z.loc.isMemory = true
      · rcases h.who i z hz' hmm with ⟨q, zq, h1, h2, h3⟩ | ⟨g', h1, h2, h3, a, h4, h5⟩
        · left
          have hq := lt_size_of_getElem? h1
          have b1 : HappensBefore (t ++ #[x, y]) i t.size := (h3.app _).hb (hb_po hq (by rw [getElem?_append_old hq]; exact h1) ex (h2.trans hx.1.symm))
          have b2 : HappensBefore (t ++ #[x, y]) t.size (t.size + 1) := .single (.inr ⟨.spawn (child := g) (by rw [act?_of ex, hx.2]) (by rw [act?_of ey, hy.2]) (by simp [Trace.g?, hy.1]), hw.heard ex, hw.heard ey⟩)
          exact ⟨_, y, ey, hy.1, .inr (b1.trans b2)⟩
        · right
          intro a' wr hc hl
          rw [h4] at hl
          cases hl
          have := hdis g' h2 h1 _ _ _ hc h5
          exact ⟨this.2, this.1⟩
      · right
        intro a' wr hc hl
        rw [hl] at hmm
        exact absurd rfl hmm
    · have hg' : A g := hg.resolve_right e
      rcases h.know g hg' i z hz' with hk | hk
      · exact .inl (hk.app _)
      · exact .inr fun a wr hc hl => hk a wr (hle g e a wr hc) hl
  · obtain ⟨hi, hz', op, hop⟩ := old_touch hu hz
    rcases h.who i z hz' hm with hk | ⟨g', h1, h2, h3, a, h4, h5⟩
    · exact .inl (hk.app _)
    · exact .inr ⟨g', h1, .inl h2, by rw [g?_old hi]; exact h3, a, h4, heq g' h1 (fun e => hna (e ▸ h2)) _ _ h5⟩

/-- A meeting at a channel: what the sender has done is known to goroutine 0. -/
theorem TI.meet {g c s r cap : Nat} {x1 x2 x3 x4 : MemOp} (h : TI A Cl B t) (hc : c < B) (hsr : s = r) (h1 : x1.g = g ∧ x1.act = .send c s) (h2 : x2.g = 0 ∧ x2.act = .recv c r cap) (h3 : x3.g = g ∧ x3.act = .sendDone c s) (h4 : x4.g = 0 ∧ x4.act = .recvDone c r) :
    TI (fun g' => A g' ∧ g' ≠ g) Cl B (t ++ #[x1, x2, x3, x4]) := by
  subst hsr
  have hu : ∀ op ∈ (#[x1, x2, x3, x4] : Trace), op.act.touch? = none := by
    intro op hop
    simp at hop
    rcases hop with rfl | rfl | rfl | rfl
    · rw [h1.2]; rfl
    · rw [h2.2]; rfl
    · rw [h3.2]; rfl
    · rw [h4.2]; rfl
  have e1 : (t ++ #[x1, x2, x3, x4])[t.size]? = some x1 := by simp
  have e4 : (t ++ #[x1, x2, x3, x4])[t.size + 3]? = some x4 := by simp
  have hw : Wordless (t ++ #[x1, x2, x3, x4]) := h.words.append fun op hop m hm => by
    simp at hop
    rcases hop with rfl | rfl | rfl | rfl
    · rw [h1.2] at hm; cases hm
    · rw [h2.2] at hm; cases hm
    · rw [h3.2] at hm; cases hm
    · rw [h4.2] at hm; cases hm
  refine ⟨hw, fun said => noRace_mute [x1, x2, x3, x4] (h.clean said) fun op hop => hu op (by simpa using hop), seen_app h.seen fun op hop => ?_, fun g' hg' i z hz => ?_, fun i z hz hm => ?_⟩
  · simp at hop
    rcases hop with rfl | rfl | rfl | rfl
    · rw [h1.2]; exact hc
    · rw [h2.2]; exact hc
    · rw [h3.2]; exact hc
    · rw [h4.2]; exact hc
  · obtain ⟨hi, hz', op, hop⟩ := old_touch hu hz
    exact (h.know g' hg'.1 i z hz').imp (·.app _) id
  · obtain ⟨hi, hz', op, hop⟩ := old_touch hu hz
    rcases h.who i z hz' hm with hk | ⟨g', k1, k2, k3, a, k4, k5⟩
    · exact .inl (hk.app _)
    · by_cases e : g' = g
      · subst e
        left
        have hog : op.g = g' := by simpa [Trace.g?, hop] using k3
        have b1 : HappensBefore (t ++ #[x1, x2, x3, x4]) i t.size := hb_po hi (by rw [getElem?_append_old hi]; exact hop) e1 (hog.trans h1.1.symm)
        have b2 : HappensBefore (t ++ #[x1, x2, x3, x4]) t.size (t.size + 3) := .single (.inr ⟨.handOver (c := c) (k := s) (by rw [act?_of e1, h1.2]) (by rw [act?_of e4, h4.2]), hw.heard e1, hw.heard e4⟩)
        exact ⟨_, x4, e4, h4.1, .inr (b1.trans b2)⟩
      · exact .inr ⟨g', k1, ⟨k2, e⟩, by rw [g?_old hi]; exact k3, a, k4, k5⟩

/-- Nobody but goroutine 0 is at work: all is known. -/
theorem TI.past (h : TI A Cl B t) (hA : ∀ g, A g → g = 0) : Past (fun _ => False) B t := by
  have known : ∀ i a, touchAt t i = some a → a.loc.isMemory = true → Knows t 0 i := fun i a ha hm => (h.who i a ha hm).elim id fun ⟨g, h1, h2, _⟩ => absurd (hA g h2) h1
  refine ⟨h.clean, fun i a ha hm => .inl (known i a ha hm), fun i g hg hne hc => ?_, h.words.deaf 0 t.size, h.seen⟩
  obtain ⟨x, hx, hm, _⟩ := hc
  obtain ⟨q, z, h1, h2, h3⟩ := known i x hx hm
  refine ⟨q, by simp [Trace.g?, h1, h2], ?_⟩
  rcases h3 with rfl | h3
  · simp [Trace.g?, h1, h2] at hg
    exact absurd hg.symm hne
  · exact h3
theorem TI.of_past (h : Past (fun _ => False) B t) (hw : Wordless t) (Cl : Nat → Addr → Bool → Prop) : TI (fun g => g = 0) Cl B t := by
  have known : ∀ i a, touchAt t i = some a → a.loc.isMemory = true → Knows t 0 i := fun i a ha hm => (h.known i a ha hm).elim id fun h => h.1.elim
  refine ⟨hw, h.clean, h.seen, fun g hg i x hx => ?_, fun i x hx hm => .inl (known i x hx hm)⟩
  subst hg
  by_cases hm : x.loc.isMemory = true
  · exact .inl (known i x hx hm)
  · refine .inr fun a wr _ hl => ?_
    rw [hl] at hm
    exact absurd rfl hm
end
end Go.Proofs.Ytpigjhagdpeofaa.Sim

namespace Go.Proofs.Ytpigjhagdpeofaa.Sim
open Go Go.Conc
set_option linter.unusedVariables false

/-- The class of goroutine x: its places of the row that many write (b: the first worker; k: how many). -/
def cls (b k x p : Nat) : Prop := b ≤ x ∧ p % k = x - b
theorem cls_one {b k x y p : Nat} (h : cls b k x p) (h' : cls b k y p) : x = y := by
  obtain ⟨a1, a2⟩ := h
  obtain ⟨b1, b2⟩ := h'
  omega
def Filled (o n k b : Nat) (F : Nat → Int) (w : World) (x : Nat) : Prop := ∀ p, p < n → cls b k x p → w.cell? ⟨o, p, none⟩ = some (.int .i64 (F p))
abbrev RW (o k b x : Nat) (Rd M : Nat → Prop) (w w1 : World) : Prop := RelyW o (cls b k x) Rd M w w1
abbrev DW (o k b x : Nat) (Rd M M' : Nat → Prop) (w w' : World) (es : Array Event) : Prop := OwnW o (cls b k x) Rd M M' w w' es
/-- A worker's stop: it stands at its send; its places are filled; behind the send it only leaves. -/
def SW (P : Program) (o c n k b : Nat) (F : Nat → Int) (x : Nat) (M : Nat → Prop) (g : Goroutine) (w : World) : Prop :=
  g.status = .running ∧ ∃ g2 z q, stepG P false g w = .comm g2 #[scase c (.bool true) z] true .send w #[] ∧ QuitsIn P q (Go.Conc.served g2 undef) ∧ Filled o n k b F w x
/-- The starter's stops: s: how many communications and starts are left. -/
def S0 (P : Program) (o c n k b : Nat) (F : Nat → Int) (K : Nat → Prop) (Fin : (Nat → Prop) → Goroutine → World → Prop) : Nat → (Nat → Prop) → Goroutine → World → Prop
  | 0 => fun M g w => g.status = .running ∧ Fin M g w
  | s + 1 => fun M g w => g.status = .running ∧ (
      (s < k ∧ ∃ g2 z, stepG P true g w = .comm g2 #[rcase c z] true (.recv false) w #[] ∧ ∀ w', RW o k b 0 K M w w' → WkG P true (RW o k b 0 K) (DW o k b 0 K) (S0 P o c n k b F K Fin s) M (Go.Conc.served g2 (.bool true)) w') ∨
      (k ≤ s ∧ ∃ g' child Rx, stepG P true g w = .spawn g' child w #[] ∧ (∀ y, Rx y → K y ∨ M y) ∧ WkG P true (RW o k b 0 K) (DW o k b 0 K) (S0 P o c n k b F K Fin s) (fun y => M y ∧ ¬ Rx y) g' w ∧
        WkG P false (RW o k b (b + (2 * k - 1 - s)) Rx) (DW o k b (b + (2 * k - 1 - s)) Rx) (SW P o c n k b F (b + (2 * k - 1 - s))) (fun _ => False) child w))

inductive Fl where
  | run | blk | out
  deriving DecidableEq
section
variable {P : Program} {o c n k b : Nat} {F : Nat → Int} {K : Nat → Prop} {Fin : (Nat → Prop) → Goroutine → World → Prop}

inductive GS (P : Program) (o c n k b : Nat) (F : Nat → Int) (K : Nat → Prop) (Fin : (Nat → Prop) → Goroutine → World → Prop) (s x : Nat) (M Rd : Nat → Prop) (g : Goroutine) (w : World) : Fl → Tr × Nat → Prop
  | run0 {τ : Tr} (hx : x = 0) (hK : Rd = K) (h : WkT P true (RW o k b 0 K) (DW o k b 0 K) (S0 P o c n k b F K Fin s) τ M g w) : GS P o c n k b F K Fin s x M Rd g w .run (τ, 1)
  | run1 {τ : Tr} (hx : b ≤ x) (h : WkT P false (RW o k b x Rd) (DW o k b x Rd) (SW P o c n k b F x) τ M g w) : GS P o c n k b F K Fin s x M Rd g w .run (τ, 1)
  | blk0 {s' : Nat} {g2 : Goroutine} {z : Value} (hx : x = 0) (hK : Rd = K) (hs : s = s' + 1) (hk : s' < k) (hg : g = parked g2 #[rcase c z] (.recv false)) (h : ∀ w', RW o k b 0 K M w w' → WkG P true (RW o k b 0 K) (DW o k b 0 K) (S0 P o c n k b F K Fin s') M (Go.Conc.served g2 (.bool true)) w') : GS P o c n k b F K Fin s x M Rd g w .blk (.stop, 0)
  | blk1 {g2 : Goroutine} {z : Value} {q : Nat} (hx : b ≤ x) (hg : g = parked g2 #[scase c (.bool true) z] .send) (hq : QuitsIn P q (Go.Conc.served g2 undef)) (hf : Filled o n k b F w x) : GS P o c n k b F K Fin s x M Rd g w .blk (.stop, 0)
  | out {q : Nat} (hx : x ≠ 0) (h : QuitsIn P q g) (hf : Filled o n k b F w x) : GS P o c n k b F K Fin s x M Rd g w .out (.stop, q)

variable {s x : Nat} {M Rd : Nat → Prop} {g : Goroutine} {w w1 : World} {f : Fl} {r : Tr × Nat}
theorem Filled.row (h : Filled o n k b F w x) (hr : ∃ cs e fz, w.heap[o]? = some (.cells cs e fz)) (hk : ∀ cs e fz, w.heap[o]? = some (.cells cs e fz) → ∃ cs', w1.heap[o]? = some (.cells cs' e fz) ∧ cs'.size = cs.size ∧ ∀ p, cls b k x p → cs'[p]? = cs[p]?) : Filled o n k b F w1 x := by
  intro p hp hc
  obtain ⟨cs, e, fz, h0⟩ := hr
  obtain ⟨cs', h1, _, h2⟩ := hk cs e fz h0
  have h3 := h p hp hc
  simp only [World.cell?, h0, h1, Option.isSome_none, Bool.false_eq_true, if_false] at h3 ⊢
  rw [h2 p hc]
  exact h3
theorem GS.to (h : GS P o c n k b F K Fin s x M Rd g w f r) (hr : f ≠ .out → RW o k b x Rd M w w1) (hf : Filled o n k b F w x → Filled o n k b F w1 x) : GS P o c n k b F K Fin s x M Rd g w1 f r := by
  cases h with
  | run0 hx hK h => subst hx; subst hK; exact .run0 rfl rfl (h.rely OwnW.terms (hr (by simp)))
  | run1 hx h => exact .run1 hx (h.rely OwnW.terms (hr (by simp)))
  | blk0 hx hK hs hk hg h => subst hx; subst hK; exact .blk0 rfl rfl hs hk hg fun w' k' => h w' ((hr (by simp)).trans k')
  | blk1 hx hg hq h => exact .blk1 hx hg hq (hf h)
  | out hx h hf' => exact .out hx h (hf hf')
theorem S0.running (h : S0 P o c n k b F K Fin s M g w) : g.status = .running := by
  cases s <;> exact h.1
theorem WkT.running {I : Type} {m : Bool} {R : I → World → World → Prop} {D : I → I → World → World → Array Event → Prop} {S : I → Goroutine → World → Prop} {i : I} {τ : Tr} (h : WkT P m R D S τ i g w) (hr : R i w w) (hS : ∀ i g w, S i g w → g.status = .running) : g.status = .running := by
  cases τ with
  | stop => exact hS _ _ _ (h w hr)
  | step f => exact h.1
theorem GS.status (h : GS P o c n k b F K Fin s x M Rd g w f r) : (f = .run → g.status = .running) ∧ (f = .blk → g.status = .blocked) ∧ (f = .out → g.status = .running ∨ g.status = .finished) := by
  cases h with
  | run0 hx hK h => exact ⟨fun _ => h.running (RelyW.refl _ _) fun _ _ _ => S0.running, fun e => (by cases e), fun e => (by cases e)⟩
  | run1 hx h => exact ⟨fun _ => h.running (RelyW.refl _ _) fun _ _ _ h => h.1, fun e => (by cases e), fun e => (by cases e)⟩
  | blk0 hx hK hs hk hg h => exact ⟨fun e => (by cases e), fun _ => (by rw [hg]; rfl), fun e => (by cases e)⟩
  | blk1 hx hg hq h => exact ⟨fun e => (by cases e), fun _ => (by rw [hg]; rfl), fun e => (by cases e)⟩
  | out hx h hf' => exact ⟨fun e => (by cases e), fun e => (by cases e), fun _ => h.status⟩
theorem GS.side (h : GS P o c n k b F K Fin s x M Rd g w f r) : (f = .out → x ≠ 0 ∧ ∃ q, QuitsIn P q g ∧ Filled o n k b F w x ∧ r = (.stop, q)) ∧ (f ≠ .out → x = 0 ∨ b ≤ x) := by
  cases h with
  | run0 hx hK h => exact ⟨fun e => (by cases e), fun _ => .inl hx⟩
  | run1 hx h => exact ⟨fun e => (by cases e), fun _ => .inr hx⟩
  | blk0 hx hK hs hk hg h => exact ⟨fun e => (by cases e), fun _ => .inl hx⟩
  | blk1 hx hg hq h => exact ⟨fun e => (by cases e), fun _ => .inr hx⟩
  | out hx h hf' => exact ⟨fun _ => ⟨hx, _, h, hf', rfl⟩, fun e => absurd rfl e⟩
/-- Of one that is not the starter the starter's count says nothing. -/
theorem GS.other (h : GS P o c n k b F K Fin s x M Rd g w f r) (h0 : x ≠ 0) (s' : Nat) : GS P o c n k b F K Fin s' x M Rd g w f r := by
  cases h with
  | run0 hx _ _ => exact absurd hx h0
  | run1 hx h => exact .run1 hx h
  | blk0 hx _ _ _ _ _ => exact absurd hx h0
  | blk1 hx hg hq h => exact .blk1 hx hg hq h
  | out hx h hf' => exact .out hx h hf'
theorem GS.awake (h : GS P o c n k b F K Fin s x M Rd g w f r) : awake g := by
  obtain ⟨h1, h2, h3⟩ := h.status
  cases f with
  | run => exact awake_of (.inl (h1 rfl))
  | blk => exact awake_of (.inr (.inl (h2 rfl)))
  | out => exact awake_of ((h3 rfl).elim .inl fun h => .inr (.inr h))
theorem GS.woken (h : GS P o c n k b F K Fin s x M Rd g w f r) {w' : World} {cap r1 r2 : Nat} {buf : Array Value} {tm : Bool} (hc : w'.heap[c]? = some (.chan cap buf false r1 r2 tm)) (a a' : Goroutine) : woken P a a' w' g = g := by
  obtain ⟨h1, h2, h3⟩ := h.status
  cases h with
  | run0 hx hK h => exact woken_run (h1 rfl)
  | run1 hx h => exact woken_run (h1 rfl)
  | blk0 hx hK hs hk hg h => rw [hg]; exact woken_recv_open _ _ hc
  | blk1 hx hg hq h => rw [hg]; exact woken_send_open _ _ hc
  | out hx h hf' =>
    unfold Go.Conc.woken
    split
    · exact again_running _ h.status
    · rfl
/-- What a blocked one offers. -/
theorem GS.offers (h : GS P o c n k b F K Fin s x M Rd g w f r) (hf : f ≠ .blk) (ch : Nat) (sd : Bool) : offersAt g ch sd = [] := by
  refine offersAt_of_not_blocked (fun e => ?_) ch sd
  obtain ⟨h1, h2, h3⟩ := h.status
  cases f with
  | run => rw [h1 rfl] at e; cases e
  | blk => exact hf rfl
  | out => rcases h3 rfl with h | h <;> (rw [h] at e; cases e)
/-- The world with another count of draws, the channel passed once more. -/
theorem RelyW.chan {mine : Nat → Prop} {M Rd : Nat → Prop} {w : World} {d cap s' r' : Nat} {buf : Array Value} {cl tm : Bool} (hc : ∀ y, M y ∨ Rd y → y ≠ c) (ho : o ≠ c) : RelyW o mine Rd M w ((w.at d).setChan c cap buf cl s' r' tm) := by
  refine ⟨⟨rfl, rfl, rfl, by simp [World.setChan, World.at], fun y hy hm => ?_⟩, fun cs e fz h => ⟨cs, ?_, rfl, fun _ _ => rfl⟩⟩
  · simp only [World.setChan, World.at]
    rw [Array.getElem?_setIfInBounds_ne (fun e => hc y hm e.symm)]
  · simp only [World.setChan, World.at]
    rw [Array.getElem?_setIfInBounds_ne (fun e => ho e.symm)]
    exact h
theorem RelyW.at {mine : Nat → Prop} {M Rd : Nat → Prop} {w : World} (d : Nat) : RelyW o mine Rd M w (w.at d) := ⟨⟨rfl, rfl, rfl, Nat.le_refl _, fun _ _ _ => rfl⟩, fun cs e fz h => ⟨cs, h, rfl, fun _ _ => rfl⟩⟩
theorem Filled.chan {d cap s' r' : Nat} {buf : Array Value} {cl tm : Bool} (ho : o ≠ c) (h : Filled o n k b F w x) : Filled o n k b F ((w.at d).setChan c cap buf cl s' r' tm) x := by
  intro p hp hc
  rw [← h p hp hc]
  simp only [World.cell?, World.setChan, World.at]
  rw [Array.getElem?_setIfInBounds_ne (fun e => ho e.symm)]
end
end Go.Proofs.Ytpigjhagdpeofaa.Sim

namespace Go.Proofs.Ytpigjhagdpeofaa.Sim
open Go Go.Conc
set_option linter.unusedVariables false

def stt (k s : Nat) : Nat := if k ≤ s then 2 * k - s else k
def rcv (k s : Nat) : Nat := if k ≤ s then 0 else k - s
def outs (f : Fl) : Nat := if f = .out then 1 else 0
def act (N : Nat) (fl : Nat → Fl) (x : Nat) : Prop := x < N ∧ fl x ≠ .out
def Clm (o k b : Nat) (W Rr : Nat → Nat → Prop) (x : Nat) (a : Addr) (wr : Bool) : Prop := W x a.block ∨ (wr = false ∧ Rr x a.block) ∨ (a.block = o ∧ cls b k x a.off)
theorem clm_dis {o k b : Nat} {W Rr : Nat → Nat → Prop} {x x' : Nat} (h1 : ∀ y, W x y → ¬ W x' y ∧ ¬ Rr x' y) (h2 : ∀ y, W x' y → ¬ W x y ∧ ¬ Rr x y) (h3 : ∀ y, W x y ∨ Rr x y → y ≠ o) (h4 : ∀ y, W x' y ∨ Rr x' y → y ≠ o) (hne : x ≠ x')
    {a : Addr} {wr wr' : Bool} (h : Clm o k b W Rr x a wr) (h' : Clm o k b W Rr x' a wr') : wr = false ∧ wr' = false := by
  rcases h with h | ⟨h, h5⟩ | ⟨h, h5⟩ <;> rcases h' with h' | ⟨h', h6⟩ | ⟨h', h6⟩
  · exact absurd h' (h1 _ h).1
  · exact absurd h6 (h1 _ h).2
  · exact absurd h' (h3 _ (.inl h))
  · exact absurd h5 (h2 _ h').2
  · exact ⟨h, h'⟩
  · exact absurd h' (h3 _ (.inr h5))
  · exact absurd h (h4 _ (.inl h'))
  · exact absurd h (h4 _ (.inr h6))
  · exact absurd (cls_one h5 h6) hne

structure PI (P : Program) (o c n k b : Nat) (F : Nat → Int) (K : Nat → Prop) (Fin : (Nat → Prop) → Goroutine → World → Prop) (s : Nat) (ρ : Nat → Tr × Nat) (gs : Array Goroutine) (w : World) (t : Trace) (fl : Nat → Fl) (W Rr : Nat → Nat → Prop) : Prop where
  size : gs.size = b + stt k s
  le : s ≤ 2 * k
  bpos : 0 < b
  gsx : ∀ x g, gs[x]? = some g → GS P o c n k b F K Fin s x (W x) (Rr x) g w (fl x) (ρ x)
  cnt : ConcN.sumTo (stt k s) (fun y => outs (fl (b + y))) = rcv k s
  excl : fl 0 = .blk → ∀ x, b ≤ x → x < gs.size → fl x ≠ .blk
  chan : ∃ r tm, w.heap[c]? = some (.chan 0 #[] false r r tm)
  row : ∃ cs, w.heap[o]? = some (.cells cs 2 (0, 0)) ∧ cs.size = n
  dis : ∀ x x', act gs.size fl x → act gs.size fl x' → x ≠ x' → ∀ y, W x y → ¬ W x' y ∧ ¬ Rr x' y
  bnd : ∀ x, act gs.size fl x → ∀ y, W x y ∨ Rr x y → y < w.heap.size ∧ y ≠ o ∧ y ≠ c
  ti : TI (act gs.size fl) (Clm o k b W Rr) w.heap.size t

section
variable {P : Program} {o c n k b : Nat} {F : Nat → Int} {K : Nat → Prop} {Fin : (Nat → Prop) → Goroutine → World → Prop} {s : Nat} {ρ : Nat → Tr × Nat} {gs : Array Goroutine} {w : World} {t : Trace} {fl : Nat → Fl} {W Rr : Nat → Nat → Prop}
theorem PI.one (h : PI P o c n k b F K Fin s ρ gs w t fl W Rr) : o ≠ c := by
  rintro rfl
  obtain ⟨r, tm, h1⟩ := h.chan
  obtain ⟨cs, h2, _⟩ := h.row
  rw [h1] at h2
  cases h2
theorem PI.clt (h : PI P o c n k b F K Fin s ρ gs w t fl W Rr) : c < w.heap.size := by
  obtain ⟨r, tm, h1⟩ := h.chan
  exact (Array.getElem?_eq_some_iff.1 h1).1
theorem PI.olt (h : PI P o c n k b F K Fin s ρ gs w t fl W Rr) : o < w.heap.size := by
  obtain ⟨cs, h1, _⟩ := h.row
  exact (Array.getElem?_eq_some_iff.1 h1).1
theorem PI.at (h : PI P o c n k b F K Fin s ρ gs w t fl W Rr) (d : Nat) : PI P o c n k b F K Fin s ρ gs (w.at d) t fl W Rr :=
  ⟨h.size, h.le, h.bpos, fun x g hg => (h.gsx x g hg).to (fun _ => RelyW.at d) fun hf => hf, h.cnt, h.excl, h.chan, h.row, h.dis, h.bnd, h.ti⟩
theorem PI.lt (h : PI P o c n k b F K Fin s ρ gs w t fl W Rr) : 0 < gs.size := by have := h.size; have := h.bpos; omega
theorem PI.fl0 (h : PI P o c n k b F K Fin s ρ gs w t fl W Rr) : fl 0 ≠ .out := fun e => ((h.gsx 0 (gs[0]'h.lt) (Array.getElem?_eq_getElem h.lt)).side.1 e).1 rfl
theorem PI.act0 (h : PI P o c n k b F K Fin s ρ gs w t fl W Rr) : act gs.size fl 0 := ⟨h.lt, h.fl0⟩
theorem PI.ge (h : PI P o c n k b F K Fin s ρ gs w t fl W Rr) {x : Nat} (hx : act gs.size fl x) (h0 : x ≠ 0) : b ≤ x :=
  ((h.gsx x (gs[x]'hx.1) (Array.getElem?_eq_getElem hx.1)).side.2 hx.2).resolve_left h0

/-- What one owns bears another's step. -/
theorem PI.rely (h : PI P o c n k b F K Fin s ρ gs w t fl W Rr) {x : Nat} {M' : Nat → Prop} {w' : World} {es : Array Event} (hx : act gs.size fl x) (hd : DW o k b x (Rr x) (W x) M' w w' es) {y : Nat} (hy : act gs.size fl y) (hne : y ≠ x) : RW o k b y (Rr y) (W y) w w' := by
  refine ⟨⟨hd.tape, hd.os, hd.output, hd.size, fun a ha hm => ?_⟩, fun cs e fz ho => ?_⟩
  · refine hd.keep a ha (fun hw => ?_) (h.bnd y hy a hm).2.1
    have := h.dis x y hx hy (fun e => hne e.symm) a hw
    rcases hm with hm | hm
    · exact this.1 hm
    · exact this.2 hm
  · obtain ⟨cs', h1, h2, h3⟩ := hd.out cs e fz ho
    exact ⟨cs', h1, h2, fun p hp => h3 p fun hp' => hne (cls_one hp hp')⟩
theorem PI.fill (h : PI P o c n k b F K Fin s ρ gs w t fl W Rr) {x : Nat} {M' : Nat → Prop} {w' : World} {es : Array Event} (hd : DW o k b x (Rr x) (W x) M' w w' es) {y : Nat} (hne : y ≠ x) (hf : Filled o n k b F w y) : Filled o n k b F w' y := by
  obtain ⟨cs, h1, _⟩ := h.row
  refine hf.row ⟨cs, _, _, h1⟩ fun cs e fz ho => ?_
  obtain ⟨cs', h1, h2, h3⟩ := hd.out cs e fz ho
  exact ⟨cs', h1, h2, fun p hp => h3 p fun hp' => hne (cls_one hp hp')⟩

theorem get_step {gs : Array Goroutine} {x y : Nat} {f : Goroutine → Goroutine} {g' gy : Goroutine} (hlt : x < gs.size) (h : ((gs.map f).setIfInBounds x g')[y]? = some gy) : (y = x ∧ gy = g') ∨ (y ≠ x ∧ ∃ z, gs[y]? = some z ∧ gy = f z) := by
  by_cases e : x = y
  · subst e
    rw [Array.getElem?_setIfInBounds_self_of_lt (by simpa using hlt)] at h
    exact .inl ⟨rfl, (Option.some.inj h).symm⟩
  · rw [Array.getElem?_setIfInBounds_ne e, Array.getElem?_map] at h
    obtain ⟨z, hz, e2⟩ := Option.map_eq_some_iff.1 h
    exact .inr ⟨fun e3 => e e3.symm, z, hz, e2.symm⟩

/-- A step of one's own. -/
theorem PI.own (h : PI P o c n k b F K Fin s ρ gs w t fl W Rr) {x : Nat} {g g' : Goroutine} {w' : World} {es : Array Event} {M' : Nat → Prop} {r' : Tr × Nat} {fn : FuncId} {pos : String} (hx : gs[x]? = some g) (hf : fl x = .run) (hd : DW o k b x (Rr x) (W x) M' w w' es)
    (hg : GS P o c n k b F K Fin s x M' (Rr x) g' w' .run r') : PI P o c n k b F K Fin s (ConcN.upd ρ x r') ((gs.map (Go.Conc.woken P g g' w')).setIfInBounds x g') w' (t ++ MemOp.ofEvents x fn pos es) fl (ConcN.upd W x M') Rr := by
  have hlt : x < gs.size := (Array.getElem?_eq_some_iff.1 hx).1
  have hax : act gs.size fl x := ⟨hlt, by rw [hf]; simp⟩
  have hsz : ((gs.map (Go.Conc.woken P g g' w')).setIfInBounds x g').size = gs.size := by simp
  have hch : ∃ r tm, w'.heap[c]? = some (.chan 0 #[] false r r tm) := by
    obtain ⟨r, tm, h1⟩ := h.chan
    exact ⟨r, tm, (hd.keep c h.clt (fun hw => (h.bnd x hax c (.inl hw)).2.2 rfl) h.one.symm).trans h1⟩
  have hdis : ∀ y y', act gs.size fl y → act gs.size fl y' → y ≠ y' → ∀ a, ConcN.upd W x M' y a → ¬ ConcN.upd W x M' y' a ∧ ¬ Rr y' a := by
    intro y y' hy hy' hne a ha
    by_cases e : y = x
    · subst e
      rw [ConcN.upd_same] at ha
      rw [ConcN.upd_ne W M' hne.symm]
      rcases hd.new a ha with h1 | h1
      · exact h.dis y y' hy hy' hne a h1
      · exact ⟨fun h2 => absurd (h.bnd y' hy' a (.inl h2)).1 (by omega), fun h2 => absurd (h.bnd y' hy' a (.inr h2)).1 (by omega)⟩
    · rw [ConcN.upd_ne W M' e] at ha
      by_cases e' : y' = x
      · subst e'
        rw [ConcN.upd_same]
        refine ⟨fun h2 => ?_, (h.dis y y' hy hy' hne a ha).2⟩
        rcases hd.new a h2 with h1 | h1
        · exact (h.dis y y' hy hy' hne a ha).1 h1
        · have := (h.bnd y hy a (.inl ha)).1
          omega
      · rw [ConcN.upd_ne W M' e']
        exact h.dis y y' hy hy' hne a ha
  have hbnd : ∀ y, act gs.size fl y → ∀ a, ConcN.upd W x M' y a ∨ Rr y a → a < w'.heap.size ∧ a ≠ o ∧ a ≠ c := by
    intro y hy a ha
    have hs := hd.size
    by_cases e : y = x
    · subst e
      rw [ConcN.upd_same] at ha
      rcases ha with ha | ha
      · rcases hd.new a ha with h1 | h1
        · have := h.bnd y hy a (.inl h1)
          exact ⟨by omega, this.2⟩
        · have h2 := h.olt
          have h3 := h.clt
          exact ⟨h1.2, by omega, by omega⟩
      · have := h.bnd y hy a (.inr ha)
        exact ⟨by omega, this.2⟩
    · rw [ConcN.upd_ne W M' e] at ha
      have := h.bnd y hy a ha
      exact ⟨by omega, this.2⟩
  refine ⟨hsz.trans h.size, h.le, h.bpos, fun y gy hy => ?_, h.cnt, fun h0 y h1 h2 => h.excl h0 y h1 (by rw [hsz] at h2; exact h2), hch, ?_, by rw [hsz]; exact hdis, by rw [hsz]; exact hbnd, ?_⟩
  · rcases get_step hlt hy with ⟨rfl, rfl⟩ | ⟨hne, z, hz, rfl⟩
    · rw [ConcN.upd_same, ConcN.upd_same, hf]; exact hg
    · rw [ConcN.upd_ne _ _ hne, ConcN.upd_ne _ _ hne]
      have hz' := h.gsx y z hz
      obtain ⟨r, tm, h1⟩ := hch
      rw [hz'.woken h1]
      exact hz'.to (fun hf' => h.rely hax hd ⟨(Array.getElem?_eq_some_iff.1 hz).1, hf'⟩ hne) (h.fill hd hne)
  · obtain ⟨cs, h1, h2⟩ := h.row
    obtain ⟨cs', h3, h4, _⟩ := hd.out cs _ _ h1
    exact ⟨cs', h3, h4.trans h2⟩
  · rw [hsz]
    refine h.ti.own hax hd.size (fun a wr hc => ?_) (fun a wr hc => ?_) (fun y hne a wr => ?_) (fun y hy hne a wr wr' hc hc' => ?_) fun e he => ?_
    · rcases hc with hc | hc
      · rw [ConcN.upd_same] at hc
        rcases hd.new _ hc with h1 | h1
        · exact .inl (.inl h1)
        · exact .inr h1.1
      · exact .inl (.inr hc)
    · rcases hc with hc | hc
      · exact .inl (by rw [ConcN.upd_same]; exact hd.sub _ hc)
      · exact .inr hc
    · unfold Clm
      rw [ConcN.upd_ne W M' hne]
    · exact clm_dis (hdis x y hax hy hne.symm) (hdis y x hy hax hne) (fun z hz => (hbnd x hax z hz).2.1) (fun z hz => (hbnd y hy z hz).2.1) hne.symm hc hc'
    · rcases hd.evs e he with h1 | ⟨a, wr, h1, h2⟩
      · exact .inl h1
      · refine .inr ⟨a, wr, h1, ?_, ?_⟩
        · rcases h2 with h2 | h2 | h2
          · exact .inl (by rw [ConcN.upd_same]; exact h2)
          · exact .inr (.inl h2)
          · exact .inr (.inr h2)
        · rcases h2 with h2 | h2 | h2
          · exact (hbnd x hax a.block (.inl (by rw [ConcN.upd_same]; exact h2))).1
          · exact (hbnd x hax a.block (.inr h2.2)).1
          · have := h.olt
            have := hd.size
            omega

/-- One that leaves takes a step. -/
theorem PI.slip (h : PI P o c n k b F K Fin s ρ gs w t fl W Rr) {x : Nat} {g g' : Goroutine} {q : Nat} {fn : FuncId} {pos : String} (hx : gs[x]? = some g) (hf : fl x = .out) (hq : QuitsIn P q g') : PI P o c n k b F K Fin s (ConcN.upd ρ x (.stop, q)) ((gs.map (Go.Conc.woken P g g' w)).setIfInBounds x g') w (t ++ MemOp.ofEvents x fn pos #[]) fl W Rr := by
  have hlt : x < gs.size := (Array.getElem?_eq_some_iff.1 hx).1
  have hsz : ((gs.map (Go.Conc.woken P g g' w)).setIfInBounds x g').size = gs.size := by simp
  have et : t ++ MemOp.ofEvents x fn pos #[] = t := by simp [MemOp.ofEvents]
  refine ⟨hsz.trans h.size, h.le, h.bpos, fun y gy hy => ?_, h.cnt, fun h0 y h1 h2 => h.excl h0 y h1 (by rw [hsz] at h2; exact h2), h.chan, h.row, by rw [hsz]; exact h.dis, by rw [hsz]; exact h.bnd, by rw [hsz, et]; exact h.ti⟩
  rcases get_step hlt hy with ⟨rfl, rfl⟩ | ⟨hne, z, hz, rfl⟩
  · have h1 := h.gsx y g hx
    obtain ⟨hx0, _, _, hf', _⟩ := h1.side.1 hf
    rw [hf, ConcN.upd_same]
    exact .out hx0 hq hf'
  · rw [ConcN.upd_ne _ _ hne]
    have hz' := h.gsx y z hz
    obtain ⟨r, tm, h1⟩ := h.chan
    rw [hz'.woken h1]
    exact hz'

/-- One lies down at the channel. -/
theorem PI.park (h : PI P o c n k b F K Fin s ρ gs w t fl W Rr) {x : Nat} {g g' : Goroutine} {fn : FuncId} {pos : String} (hx : gs[x]? = some g) (hf : fl x = .run) (hg : GS P o c n k b F K Fin s x (W x) (Rr x) g' w .blk (.stop, 0))
    (he : (x = 0 → ∀ y, b ≤ y → y < gs.size → fl y ≠ .blk) ∧ (x ≠ 0 → fl 0 ≠ .blk)) : PI P o c n k b F K Fin s (ConcN.upd ρ x (.stop, 0)) (gs.setIfInBounds x g') w (t ++ MemOp.ofEvents x fn pos #[]) (ConcN.upd fl x .blk) W Rr := by
  have hlt : x < gs.size := (Array.getElem?_eq_some_iff.1 hx).1
  have hsz : (gs.setIfInBounds x g').size = gs.size := by simp
  have et : t ++ MemOp.ofEvents x fn pos #[] = t := by simp [MemOp.ofEvents]
  have hact : ∀ y, act gs.size fl y ↔ act gs.size (ConcN.upd fl x .blk) y := by
    intro y
    unfold act
    by_cases e : y = x
    · subst e; rw [ConcN.upd_same, hf]; simp
    · rw [ConcN.upd_ne _ _ e]
  refine ⟨hsz.trans h.size, h.le, h.bpos, fun y gy hy => ?_, ?_, fun h0 y h1 h2 => ?_, h.chan, h.row, ?_, ?_, ?_⟩
  · by_cases e : x = y
    · subst e
      rw [Array.getElem?_setIfInBounds_self_of_lt hlt] at hy
      cases hy
      rw [ConcN.upd_same, ConcN.upd_same]
      exact hg
    · rw [Array.getElem?_setIfInBounds_ne e] at hy
      rw [ConcN.upd_ne _ _ (fun e2 => e e2.symm), ConcN.upd_ne _ _ (fun e2 => e e2.symm)]
      exact h.gsx y gy hy
  · rw [← h.cnt]
    refine ConcN.sumTo_congr fun y hy => ?_
    by_cases e : b + y = x
    · rw [e, ConcN.upd_same, hf]; rfl
    · rw [ConcN.upd_ne _ _ e]
  · rw [hsz] at h2
    by_cases e0 : x = 0
    · subst e0
      have hb := h.bpos
      rw [ConcN.upd_ne _ _ (by omega)]
      exact he.1 rfl y h1 h2
    · rw [ConcN.upd_ne _ _ (fun e => e0 e.symm)] at h0
      exact absurd h0 (he.2 e0)
  · rw [hsz]
    intro y y' hy hy'
    exact h.dis y y' ((hact y).2 hy) ((hact y').2 hy')
  · rw [hsz]
    intro y hy
    exact h.bnd y ((hact y).2 hy)
  · rw [hsz, et]
    exact h.ti.mono (Nat.le_refl _) hact

/-- A sender and the starter meet. -/
theorem PI.meet {s' : Nat} (h : PI P o c n k b F K Fin (s' + 1) ρ gs w t fl W Rr) (hk : s' < k) {x : Nat} (hb : b ≤ x) (hlt : x < gs.size) (hfx : fl x ≠ .out) {gx g0 : Goroutine} {gs' : Array Goroutine} {q r d : Nat} {tm : Bool} (hr : w.heap[c]? = some (.chan 0 #[] false r r tm))
    (hsz : gs'.size = gs.size) (hx : gs'[x]? = some gx) (h0 : gs'[0]? = some g0) (hrest : ∀ y, y ≠ x → y ≠ 0 → gs'[y]? = gs[y]?) (hq : QuitsIn P q gx) (hfill : Filled o n k b F w x) (hR : Rr 0 = K)
    (hm : WkG P true (RW o k b 0 K) (DW o k b 0 K) (S0 P o c n k b F K Fin s') (W 0) g0 ((w.at d).setChan c 0 #[] false (r + 1) (r + 1) tm)) {x1 x2 x3 x4 : MemOp} (h1 : x1.g = x ∧ x1.act = .send c r) (h2 : x2.g = 0 ∧ x2.act = .recv c r 0) (h3 : x3.g = x ∧ x3.act = .sendDone c r) (h4 : x4.g = 0 ∧ x4.act = .recvDone c r) :
    ∃ ρ' fl', PI P o c n k b F K Fin s' ρ' gs' ((w.at d).setChan c 0 #[] false (r + 1) (r + 1) tm) (t ++ #[x1, x2, x3, x4]) fl' W Rr := by
  have hbp := h.bpos
  have ho := h.one
  obtain ⟨τ, hτ⟩ := hm.tree
  have hact : ∀ y, act gs.size (ConcN.upd (ConcN.upd fl x .out) 0 .run) y ↔ act gs.size fl y ∧ y ≠ x := by
    intro y
    unfold act
    by_cases e0 : y = 0
    · subst e0
      rw [ConcN.upd_same]
      have := h.act0
      exact ⟨fun a => ⟨this, by omega⟩, fun a => ⟨a.1.1, by simp⟩⟩
    · rw [ConcN.upd_ne _ _ e0]
      by_cases e : y = x
      · subst e; rw [ConcN.upd_same]; simp
      · rw [ConcN.upd_ne _ _ e]
        exact ⟨fun a => ⟨a, e⟩, fun a => a.1⟩
  have hst : stt k (s' + 1) = k ∧ stt k s' = k := by
    unfold stt
    constructor
    · split <;> omega
    · rw [if_neg (by omega)]
  have hw : ((w.at d).setChan c 0 #[] false (r + 1) (r + 1) tm).heap.size = w.heap.size := by simp [World.setChan, World.at]
  refine ⟨ConcN.upd (ConcN.upd ρ x (.stop, q)) 0 (τ, 1), ConcN.upd (ConcN.upd fl x .out) 0 .run, hsz.trans (by rw [h.size, hst.1, hst.2]), ?_, hbp, fun y gy hy => ?_, ?_, fun e => ?_, ?_, ?_, ?_, ?_, ?_⟩
  · have := h.le; omega
  · by_cases e0 : y = 0
    · subst e0
      rw [h0] at hy
      cases hy
      rw [ConcN.upd_same, ConcN.upd_same]
      exact .run0 rfl hR hτ
    · rw [ConcN.upd_ne _ _ e0, ConcN.upd_ne _ _ e0]
      by_cases e : y = x
      · subst e
        rw [hx] at hy
        cases hy
        rw [ConcN.upd_same, ConcN.upd_same]
        exact .out e0 hq (hfill.chan ho)
      · rw [ConcN.upd_ne _ _ e, ConcN.upd_ne _ _ e]
        rw [hrest y e e0] at hy
        have h5 := h.gsx y gy hy
        have h6 := h5.to (w1 := (w.at d).setChan c 0 #[] false (r + 1) (r + 1) tm) (fun hf => RelyW.chan (fun z hz => (h.bnd y ⟨(Array.getElem?_eq_some_iff.1 hy).1, hf⟩ z hz).2.2) ho) fun hf => hf.chan ho
        exact h6.other e0 _
  · have e1 : ∀ y, ConcN.upd (ConcN.upd fl x .out) 0 .run (b + y) = ConcN.upd (fun y => fl (b + y)) (x - b) .out y := by
      intro y
      rw [ConcN.upd_ne _ _ (by omega)]
      unfold ConcN.upd
      by_cases e : y = x - b
      · rw [if_pos (by omega), if_pos e]
      · rw [if_neg (by omega), if_neg e]
    have e2 := ConcN.sumTo_upd (fun y => fl (b + y)) Fl.out outs (i := x - b) (j := k) (by have := h.size; rw [hst.1] at this; omega)
    have e3 := h.cnt
    rw [hst.1] at e3
    rw [hst.2]
    simp only [e1]
    have e4 : b + (x - b) = x := by omega
    have e5 : outs (fl (b + (x - b))) = 0 := by rw [e4]; unfold outs; rw [if_neg hfx]
    have e6 : rcv k (s' + 1) + 1 = rcv k s' := by
      unfold rcv
      rw [if_neg (show ¬ k ≤ s' by omega)]
      split <;> omega
    have e7 : outs .out = 1 := rfl
    simp only [e5, e7] at e2
    omega
  · rw [ConcN.upd_same] at e; cases e
  · refine ⟨r + 1, tm, ?_⟩
    have := h.clt
    simp only [World.setChan, World.at]
    rw [Array.getElem?_setIfInBounds_self_of_lt this]
  · obtain ⟨cs, h5, h6⟩ := h.row
    refine ⟨cs, ?_, h6⟩
    simp only [World.setChan, World.at]
    rw [Array.getElem?_setIfInBounds_ne (fun e => ho e.symm)]
    exact h5
  · rw [hsz]
    intro y y' hy hy'
    exact h.dis y y' ((hact y).1 hy).1 ((hact y').1 hy').1
  · rw [hsz, hw]
    intro y hy
    exact h.bnd y ((hact y).1 hy).1
  · rw [hsz, hw]
    exact (h.ti.meet (g := x) h.clt rfl h1 h2 h3 h4).mono (Nat.le_refl _) fun y => (hact y).symm

/-- The starter starts one more. -/
theorem PI.start {s' : Nat} (h : PI P o c n k b F K Fin (s' + 1) ρ gs w t fl W Rr) (hk : k ≤ s') {g g' child : Goroutine} {Rx : Nat → Prop} (hf0 : fl 0 = .run) (hR : Rr 0 = K) (hRx : ∀ y, Rx y → K y ∨ W 0 y)
    (hm : WkG P true (RW o k b 0 K) (DW o k b 0 K) (S0 P o c n k b F K Fin s') (fun y => W 0 y ∧ ¬ Rx y) g' w)
    (hc : WkG P false (RW o k b (b + (2 * k - 1 - s')) Rx) (DW o k b (b + (2 * k - 1 - s')) Rx) (SW P o c n k b F (b + (2 * k - 1 - s'))) (fun _ => False) child w)
    {x1 x2 : MemOp} (h1 : x1.g = 0 ∧ x1.act = .go gs.size) (h2 : x2.g = gs.size ∧ x2.act = .start) :
    ∃ ρ' fl' W' Rr', PI P o c n k b F K Fin s' ρ' ((gs.setIfInBounds 0 g').push child) w (t ++ #[x1, x2]) fl' W' Rr' := by
  have hbp := h.bpos
  obtain ⟨τ, hτ⟩ := hm.tree
  obtain ⟨τc, hτc⟩ := hc.tree
  have hle := h.le
  have hN : gs.size = b + (2 * k - 1 - s') := by
    rw [h.size]
    unfold stt
    rw [if_pos (by omega)]
    omega
  rw [← hN] at hτc
  have hst : stt k s' = stt k (s' + 1) + 1 := by
    unfold stt
    rw [if_pos hk, if_pos (by omega)]
    omega
  have hsz : ((gs.setIfInBounds 0 g').push child).size = gs.size + 1 := by simp
  have hlt := h.lt
  have h0N : (0 : Nat) ≠ gs.size := by omega
  let fl' := ConcN.upd fl gs.size .run
  let W' : Nat → Nat → Prop := ConcN.upd (ConcN.upd W 0 (fun y => W 0 y ∧ ¬ Rx y)) gs.size (fun _ => False)
  let Rr' : Nat → Nat → Prop := ConcN.upd Rr gs.size Rx
  have hact : ∀ y, act (gs.size + 1) fl' y ↔ act gs.size fl y ∨ y = gs.size := by
    intro y
    show y < gs.size + 1 ∧ ConcN.upd fl gs.size .run y ≠ .out ↔ _
    unfold act
    by_cases e : y = gs.size
    · subst e; rw [ConcN.upd_same]; simp
    · rw [ConcN.upd_ne _ _ e]
      constructor
      · rintro ⟨a, b⟩; exact .inl ⟨by omega, b⟩
      · rintro (⟨a, b⟩ | a)
        · exact ⟨by omega, b⟩
        · exact absurd a e
  have w0 : W' 0 = fun y => W 0 y ∧ ¬ Rx y := by show ConcN.upd (ConcN.upd W 0 _) gs.size _ 0 = _; rw [ConcN.upd_ne _ _ h0N, ConcN.upd_same]
  have wN : W' gs.size = fun _ => False := by show ConcN.upd (ConcN.upd W 0 _) gs.size _ gs.size = _; rw [ConcN.upd_same]
  have wo : ∀ y, y ≠ 0 → y ≠ gs.size → W' y = W y := fun y e1 e2 => by show ConcN.upd (ConcN.upd W 0 _) gs.size _ y = _; rw [ConcN.upd_ne _ _ e2, ConcN.upd_ne _ _ e1]
  have rN : Rr' gs.size = Rx := by show ConcN.upd Rr gs.size Rx gs.size = _; rw [ConcN.upd_same]
  have ro : ∀ y, y ≠ gs.size → Rr' y = Rr y := fun y e2 => by show ConcN.upd Rr gs.size Rx y = _; rw [ConcN.upd_ne _ _ e2]
  have wle : ∀ y a, W' y a → y ≠ gs.size ∧ W y a ∧ (y = 0 → ¬ Rx a) := by
    intro y a hw
    by_cases e : y = gs.size
    · subst e; rw [wN] at hw; exact hw.elim
    · by_cases e0 : y = 0
      · subst e0; rw [w0] at hw; exact ⟨e, hw.1, fun _ => hw.2⟩
      · rw [wo y e0 e] at hw; exact ⟨e, hw, fun x => absurd x e0⟩
  have nRx : ∀ y, act gs.size fl y → y ≠ 0 → ∀ a, Rx a → ¬ W y a := by
    intro y hy e0 a ha hw
    have := h.dis y 0 hy h.act0 e0 a hw
    rcases hRx a ha with h3 | h3
    · rw [hR] at this; exact this.2 h3
    · exact this.1 h3
  have aN : ¬ act gs.size fl gs.size := fun a => absurd a.1 (Nat.lt_irrefl _)
  have dis' : ∀ y y', act (gs.size + 1) fl' y → act (gs.size + 1) fl' y' → y ≠ y' → ∀ a, W' y a → ¬ W' y' a ∧ ¬ Rr' y' a := by
    intro y y' hy hy' hne a hw
    obtain ⟨e1, e2, e3⟩ := wle y a hw
    have ay : act gs.size fl y := ((hact y).1 hy).resolve_right e1
    by_cases e : y' = gs.size
    · subst e
      rw [wN, rN]
      refine ⟨id, fun hx => ?_⟩
      by_cases e0 : y = 0
      · exact e3 e0 hx
      · exact nRx y ay e0 a hx e2
    · have ay' : act gs.size fl y' := ((hact y').1 hy').resolve_right e
      have := h.dis y y' ay ay' hne a e2
      rw [ro y' e]
      exact ⟨fun hx => this.1 (wle y' a hx).2.1, this.2⟩
  have bnd' : ∀ y, act (gs.size + 1) fl' y → ∀ a, W' y a ∨ Rr' y a → a < w.heap.size ∧ a ≠ o ∧ a ≠ c := by
    intro y hy a ha
    by_cases e : y = gs.size
    · subst e
      rw [wN, rN] at ha
      rcases hRx a (ha.resolve_left id) with h3 | h3
      · exact h.bnd 0 h.act0 a (.inr (by rw [hR]; exact h3))
      · exact h.bnd 0 h.act0 a (.inl h3)
    · have ay : act gs.size fl y := ((hact y).1 hy).resolve_right e
      rw [ro y e] at ha
      exact h.bnd y ay a (ha.imp (fun x => (wle y a x).2.1) id)
  refine ⟨ConcN.upd (ConcN.upd ρ 0 (τ, 1)) gs.size (τc, 1), fl', W', Rr', ?_, by omega, hbp, fun y gy hy => ?_, ?_, fun e => ?_, h.chan, h.row, by rw [hsz]; exact dis', by rw [hsz]; exact bnd', ?_⟩
  · rw [hsz, hst, h.size]; omega
  · rw [Array.getElem?_push] at hy
    have es : (gs.setIfInBounds 0 g').size = gs.size := by simp
    rw [es] at hy
    by_cases e : y = gs.size
    · subst e
      rw [if_pos rfl] at hy
      cases hy
      show GS P o c n k b F K Fin s' gs.size (W' gs.size) (Rr' gs.size) child w (ConcN.upd fl gs.size .run gs.size) (ConcN.upd (ConcN.upd ρ 0 (τ, 1)) gs.size (τc, 1) gs.size)
      rw [ConcN.upd_same, ConcN.upd_same, wN, rN]
      exact .run1 (by omega) hτc
    · rw [if_neg e] at hy
      show GS P o c n k b F K Fin s' y (W' y) (Rr' y) gy w (ConcN.upd fl gs.size .run y) (ConcN.upd (ConcN.upd ρ 0 (τ, 1)) gs.size (τc, 1) y)
      rw [ConcN.upd_ne _ _ e, ConcN.upd_ne _ _ e, ro y e]
      by_cases e0 : y = 0
      · subst e0
        rw [Array.getElem?_setIfInBounds_self_of_lt hlt] at hy
        cases hy
        rw [ConcN.upd_same, w0, hf0]
        exact .run0 rfl hR hτ
      · rw [Array.getElem?_setIfInBounds_ne (fun e2 => e0 e2.symm)] at hy
        rw [ConcN.upd_ne _ _ e0, wo y e0 e]
        have h6 := h.gsx y gy hy
        exact h6.other e0 _
  · have e3 := h.cnt
    have e5 : rcv k (s' + 1) = 0 ∧ rcv k s' = 0 := by
      unfold rcv
      rw [if_pos hk, if_pos (by omega)]
      exact ⟨rfl, rfl⟩
    rw [hst, e5.2]
    rw [e5.1] at e3
    show ConcN.sumTo (stt k (s' + 1)) (fun y => outs (ConcN.upd fl gs.size .run (b + y))) + outs (ConcN.upd fl gs.size .run (b + stt k (s' + 1))) = 0
    rw [← h.size, ConcN.upd_same, ConcN.sumTo_congr (g := fun y => outs (fl (b + y))) (fun y hy => by rw [ConcN.upd_ne _ _ (by have := h.size; omega)]), e3]
    rfl
  · exfalso
    have e' : ConcN.upd fl gs.size .run 0 = .blk := e
    rw [ConcN.upd_ne _ _ h0N, hf0] at e'
    cases e'
  · rw [hsz]
    refine (h.ti.spawn (Cl' := Clm o k b W' Rr') (n := gs.size) h.act0 (by omega) h1 h2 (fun y hne a wr hc => ?_) (fun y h0 hne a wr hc => ?_) aN (fun y hy h0 a wr wr' hc hc' => ?_)).mono (Nat.le_refl _) fun y => (hact y).symm
    · rcases hc with hc | hc | hc
      · exact .inl (wle y _ hc).2.1
      · rw [ro y hne] at hc; exact .inr (.inl hc)
      · exact .inr (.inr hc)
    · rcases hc with hc | hc | hc
      · exact .inl (by rw [wo y h0 hne]; exact hc)
      · exact .inr (.inl (by rw [ro y hne]; exact hc))
      · exact .inr (.inr hc)
    · have hyN : y ≠ gs.size := fun e => by have := hy.1; omega
      have ay' : act (gs.size + 1) fl' y := (hact y).2 (.inl hy)
      have aN' : act (gs.size + 1) fl' gs.size := (hact _).2 (.inr rfl)
      have hc2 : Clm o k b W' Rr' y a wr' := by
        rcases hc' with hc' | hc' | hc'
        · exact .inl (by rw [wo y h0 hyN]; exact hc')
        · exact .inr (.inl (by rw [ro y hyN]; exact hc'))
        · exact .inr (.inr hc')
      exact clm_dis (dis' _ _ aN' ay' hyN.symm) (dis' _ _ ay' aN' hyN) (fun z hz => (bnd' _ aN' z hz).2.1) (fun z hz => (bnd' y ay' z hz).2.1) hyN.symm hc hc2
end
end Go.Proofs.Ytpigjhagdpeofaa.Sim
