/-
  impl.shared in company, ahead of its workers: the row and the channel, made in any order. No condition.
  impl.shared in company: it starts its workers, and hears them. No condition.
  impl.shared in company: it starts its workers. No condition.
  The closure that is handed over, called by a worker in company: from its contract alone. No condition.
-/
import Derived.Test.YtpigjhagdpeofaaSm9

namespace Go.Proofs.Ytpigjhagdpeofaa.Sim
open Go Go.Conc
set_option linter.unusedVariables false
set_option maxRecDepth 100000
theorem info2' : Try.prog.info? 2 = some Try.t2 := by kernel_rfl
theorem info4' : Try.prog.info? 4 = some Try.t4 := by kernel_rfl
structure HB (N0 n k : Nat) (vl vh : Value) (w0 : World) (b2 b3 b4 b5 b6 b7 : Bool) (v7 v8 v12 v13 : Value) (w : World) : Prop where
  ha : HA N0 k vl vh w0 w
  lo : N0 + 3 ≤ w.heap.size
  ho : b2 = true → ∃ o, v12 = .slice (some ⟨o, 0, none⟩) n n ∧ N0 + 3 ≤ o ∧ w.heap[o]? = some (.cells (madeCells #[.int .i64 0] n) 2 (0, 0))
  hc : b3 = true → ∃ c, v13 = .chan (some c) ∧ N0 + 3 ≤ c ∧ w.heap[c]? = some (.chan 0 #[] false 0 0 false)
  hbo : b4 = true → ∃ x v, v7 = .pointer (some ⟨x, 0, none⟩) ∧ N0 + 3 ≤ x ∧ w.heap[x]? = some (.cells #[v] 23 (0, 0)) ∧ (b6 = true → v = v12)
  hbd : b5 = true → ∃ x v, v8 = .pointer (some ⟨x, 0, none⟩) ∧ N0 + 3 ≤ x ∧ w.heap[x]? = some (.cells #[v] 71 (0, 0)) ∧ (b7 = true → v = v13)
  h6 : b6 = true → b2 = true ∧ b4 = true
  h7 : b7 = true → b3 = true ∧ b5 = true
section
variable {N0 n k : Nat} {vl vh : Value} {w0 w w' : World} {b2 b3 b4 b5 b6 b7 : Bool} {v7 v8 v12 v13 : Value}
theorem HA.to (h : HA N0 k vl vh w0 w) (ht : w'.tape = w.tape) (hos : w'.os = w.os) (ho : w'.output = w.output) (hsz : N0 ≤ w'.heap.size) (hk : ∀ x, x < N0 + 3 → w'.heap[x]? = w.heap[x]?) : HA N0 k vl vh w0 w' :=
  ⟨⟨ht.trans h.ext.tape, hos.trans h.ext.os, ho.trans h.ext.output, hsz, fun c hc => (hk c (by omega)).trans (h.ext.keep c hc)⟩, (hk _ (by omega)).trans h.b0, (hk _ (by omega)).trans h.b1, (hk _ (by omega)).trans h.b2⟩
theorem HB.at (h : HB N0 n k vl vh w0 b2 b3 b4 b5 b6 b7 v7 v8 v12 v13 w) (d : Nat) : HB N0 n k vl vh w0 b2 b3 b4 b5 b6 b7 v7 v8 v12 v13 (w.at d) :=
  ⟨⟨h.ha.ext.at d, h.ha.b0, h.ha.b1, h.ha.b2⟩, h.lo, h.ho, h.hc, h.hbo, h.hbd, h.h6, h.h7⟩
/-- A new block is laid: what is known of the elder ones stands. -/
theorem HB.new (h : HB N0 n k vl vh w0 b2 b3 b4 b5 b6 b7 v7 v8 v12 v13 w) (ob : Obj) : HB N0 n k vl vh w0 b2 b3 b4 b5 b6 b7 v7 v8 v12 v13 (w.alloc ob) := by
  have hl := h.lo
  refine ⟨h.ha.to rfl rfl rfl (by rw [size_alloc']; omega) fun x hx => heap_alloc_lt (by omega), by rw [size_alloc']; omega, fun e => ?_, fun e => ?_, fun e => ?_, fun e => ?_, h.h6, h.h7⟩
  · obtain ⟨o, h1, h2, h3⟩ := h.ho e; exact ⟨o, h1, h2, heap_alloc_old h3⟩
  · obtain ⟨o, h1, h2, h3⟩ := h.hc e; exact ⟨o, h1, h2, heap_alloc_old h3⟩
  · obtain ⟨x, v, h1, h2, h3, h4⟩ := h.hbo e; exact ⟨x, v, h1, h2, heap_alloc_old h3, h4⟩
  · obtain ⟨x, v, h1, h2, h3, h4⟩ := h.hbd e; exact ⟨x, v, h1, h2, heap_alloc_old h3, h4⟩
end
noncomputable def oB0 : Oper := { dst := some 10, op := .load 23 (.tmp 3), type := 23, pos := placed ops33_1 0, after := #[], guard := none }
theorem oB0_at : ops33_1[0]? = some oB0 := by kernel_rfl
noncomputable def oB1 : Oper := { dst := some 11, op := .call { callee := .builtin .len, args := #[.tmp 10], argTypes := #[23] }, type := 3, pos := placed ops33_1 1, after := #[{ on := 0, ground := Ground.data }], guard := none }
theorem oB1_at : ops33_1[1]? = some oB1 := by kernel_rfl
noncomputable def oB2 : Oper := { dst := some 12, op := .makeSlice 23 (.tmp 11) (.tmp 11), type := 23, pos := placed ops33_1 2, after := #[{ on := 1, ground := Ground.data }, { on := 1, ground := Ground.data }], guard := none }
theorem oB2_at : ops33_1[2]? = some oB2 := by kernel_rfl
noncomputable def oB3 : Oper := { dst := some 13, op := .makeChan 71 (.const (.int .i64 0)), type := 71, pos := placed ops33_1 3, after := #[], guard := none }
theorem oB3_at : ops33_1[3]? = some oB3 := by kernel_rfl
noncomputable def oB4 : Oper := { dst := some 7, op := .alloc 23, type := 0, pos := placed ops33_1 4, after := #[], guard := none }
theorem oB4_at : ops33_1[4]? = some oB4 := by kernel_rfl
noncomputable def oB5 : Oper := { dst := some 8, op := .alloc 71, type := 0, pos := placed ops33_1 5, after := #[], guard := none }
theorem oB5_at : ops33_1[5]? = some oB5 := by kernel_rfl
noncomputable def oB6 : Oper := { dst := none, op := .store 23 (.tmp 7) (.tmp 12), type := 0, pos := placed ops33_1 6, after := #[{ on := 4, ground := Ground.data }, { on := 2, ground := Ground.data }, { on := 0, ground := Ground.phase }, { on := 1, ground := Ground.phase }, { on := 2, ground := Ground.phase }, { on := 3, ground := .textOnly Departure.lateStoresUnsure }, { on := 4, ground := Ground.phase }, { on := 5, ground := Ground.phase }], guard := none }
theorem oB6_at : ops33_1[6]? = some oB6 := by kernel_rfl
noncomputable def oB7 : Oper := { dst := none, op := .store 71 (.tmp 8) (.tmp 13), type := 0, pos := placed ops33_1 7, after := #[{ on := 5, ground := Ground.data }, { on := 3, ground := Ground.data }, { on := 6, ground := Ground.chain }, { on := 0, ground := Ground.phase }, { on := 1, ground := Ground.phase }, { on := 2, ground := Ground.phase }, { on := 3, ground := Ground.phase }, { on := 4, ground := Ground.phase }, { on := 5, ground := Ground.phase }, { on := 6, ground := Ground.phase }], guard := none }
theorem oB7_at : ops33_1[7]? = some oB7 := by kernel_rfl
theorem ready33 (b2 b3 b4 b5 b6 b7 : Bool) : (Region.ready .any ops33_1 #[true, true, b2, b3, b4, b5, b6, b7]).all (fun x => (x == 2 && !b2) || (x == 3 && !b3) || (x == 4 && !b4) || (x == 5 && !b5) || (x == 6 && !b6 && b2 && b4) || (x == 7 && !b7 && b3 && b5)) = true := by
  cases b2 <;> cases b3 <;> cases b4 <;> cases b5 <;> cases b6 <;> cases b7 <;> kernel_rfl
theorem done33 (b2 b3 b4 b5 b6 b7 : Bool) : (!(Region.ready .any ops33_1 #[true, true, b2, b3, b4, b5, b6, b7]).isEmpty || (b2 && b3 && b4 && b5 && b6 && b7)) = true := by
  cases b2 <;> cases b3 <;> cases b4 <;> cases b5 <;> cases b6 <;> cases b7 <;> kernel_rfl
theorem full33 : Region.ready .any ops33_1 #[true, true, true, true, true, true, true, true] = [] := by kernel_rfl
def cf (b : Bool) : Nat := if b then 0 else 1
def J33 (N0 n k : Nat) (vl vh : Value) (w0 : World) (cnt : Nat) (listed : Array Bool) (a : Act) (i : Unit) (w : World) : Prop :=
  ∃ (b2 b3 b4 b5 b6 b7 : Bool) (v7 v8 v12 v13 : Value), listed = #[true, true, b2, b3, b4, b5, b6, b7] ∧ a = ⟨(#[vl, .int .i64 (k : Nat), vh, .pointer (some ⟨N0, 0, none⟩), .pointer (some ⟨(N0 + 1), 0, none⟩), .pointer (some ⟨(N0 + 2), 0, none⟩), .slice none 0 0, v7, v8, undef, vl, .int .i64 (n : Nat), v12, v13, undef, undef, undef, undef, undef, undef, undef, undef, undef, undef, undef, undef, undef] : Array Value), []⟩ ∧ cnt = cf b2 + cf b3 + cf b4 + cf b5 + cf b6 + cf b7 ∧ HB N0 n k vl vh w0 b2 b3 b4 b5 b6 b7 v7 v8 v12 v13 w
theorem j33_step {N0 n k : Nat} {vl vh : Value} {w0 : World} (hn : n < 1000000000) (cnt : Nat) (listed : Array Bool) (a : Act) (i : Unit) (w : World) (x : Nat) (hj : J33 N0 n k vl vh w0 cnt listed a i w) (hx : x ∈ Region.ready .any ops33_1 listed) :
    OpG Try.prog true RA (fun _ _ => DA N0) 33 ops33_1 x (fun a' i' w' => ∃ c', c' < cnt ∧ J33 N0 n k vl vh w0 c' (listed.setIfInBounds x true) a' i' w') a i w := by
  obtain ⟨b2, b3, b4, b5, b6, b7, v7, v8, v12, v13, rfl, rfl, rfl, hb⟩ := hj
  have hr := List.all_eq_true.1 (ready33 b2 b3 b4 b5 b6 b7) x hx
  simp only [Bool.or_eq_true, Bool.and_eq_true, beq_iff_eq, Bool.not_eq_true'] at hr
  rcases hr with ((((⟨rfl, rfl⟩ | ⟨rfl, rfl⟩) | ⟨rfl, rfl⟩) | ⟨rfl, rfl⟩) | ⟨⟨⟨rfl, rfl⟩, rfl⟩, rfl⟩) | ⟨⟨⟨rfl, rfl⟩, rfl⟩, rfl⟩
  · -- the row
    refine OpG.value oB2_at rfl fun w1 h1 => ?_
    obtain ⟨d, rfl⟩ := h1
    have hb := hb.at d
    have hl := hb.lo
    have hm := run_make (P := Try.prog) (w.at d) 23 2 Try.t2 (.int .i64 0) Try.underlying23 info2' rfl .i64 .i64 n n (by omega) (Int.le_refl _) (by show (8 : Int) * n ≤ _; omega) (by omega)
    have he := events_make (P := Try.prog) (w.at d) 23 2 Try.t2 (.int .i64 0) Try.underlying23 info2' rfl .i64 .i64 n n (by omega) (Int.le_refl _) (by show (8 : Int) * n ≤ _; omega) (by omega) (by show (n : Int).toNat * 8 ≤ _; omega) #[]
    rw [Int.toNat_natCast, show n * Try.t2.size = n from Nat.mul_one n] at hm
    have hN := hb.new (.cells (madeCells #[.int .i64 0] n) 2)
    refine ⟨.slice (some ⟨w.heap.size, 0, none⟩) n n, (w.at d).alloc (.cells (madeCells #[.int .i64 0] n) 2), (), ?_, DA.alloc (by omega) fun e h => ?_, _, ?_, true, b3, b4, b5, b6, b7, v7, v8, .slice (some ⟨w.heap.size, 0, none⟩) n n, v13, rfl, rfl, rfl, ?_⟩
    · simp [oB2, go_sem, hm]; rfl
    · replace h := mem_seen h
      simp [oB2, go_sem, he] at h
    · simp [cf]; try omega
    · exact ⟨hN.ha, hN.lo, fun _ => ⟨w.heap.size, rfl, hl, heap_alloc_at (w := w.at d)⟩, hN.hc, fun e4 => (by obtain ⟨y, v, q1, q2, q3, q4⟩ := hN.hbo e4; exact ⟨y, v, q1, q2, q3, fun e6 => absurd (hN.h6 e6).1 (by simp)⟩), hN.hbd, fun e6 => absurd (hN.h6 e6).1 (by simp), hN.h7⟩
  · -- the channel
    refine OpG.value oB3_at rfl fun w1 h1 => ?_
    obtain ⟨d, rfl⟩ := h1
    have hb := hb.at d
    have hl := hb.lo
    have he : (Instr.makeChan 71 (.int .i64 0)).events Try.prog (w.at d) #[] = #[] := events_makeChan (P := Try.prog) (w := w.at d) Try.underlying71 info4' .i64 0 (by omega) (by omega) #[]
    have hN := hb.new (.chan 0 #[] false 0 0 false)
    refine ⟨.chan (some w.heap.size), (w.at d).alloc (.chan 0 #[] false 0 0 false), (), ?_, DA.alloc (by omega) fun e h => ?_, _, ?_, b2, true, b4, b5, b6, b7, v7, v8, v12, .chan (some w.heap.size), rfl, rfl, rfl, ?_⟩
    · simp [oB3, go_sem]; rfl
    · replace h := mem_seen h
      simp [oB3, go_sem, he] at h
    · simp [cf]; try omega
    · exact ⟨hN.ha, hN.lo, hN.ho, fun _ => ⟨w.heap.size, rfl, hl, heap_alloc_at (w := w.at d)⟩, hN.hbo, fun e5 => (by obtain ⟨y, v, q1, q2, q3, q4⟩ := hN.hbd e5; exact ⟨y, v, q1, q2, q3, fun e7 => absurd (hN.h7 e7).1 (by simp)⟩), hN.h6, fun e7 => absurd (hN.h7 e7).1 (by simp)⟩
  · refine OpG.value oB4_at rfl fun w1 h1 => ?_
    obtain ⟨d, rfl⟩ := h1
    have hb := hb.at d
    have hl := hb.lo
    have hN := hb.new (.cells #[.slice none 0 0] 23)
    refine ⟨.pointer (some ⟨w.heap.size, 0, none⟩), (w.at d).alloc (.cells #[.slice none 0 0] 23), (), ?_, DA.alloc (by omega) fun e h => ?_, _, ?_, b2, b3, true, b5, b6, b7, .pointer (some ⟨w.heap.size, 0, none⟩), v8, v12, v13, rfl, rfl, rfl, ?_⟩
    · simp [oB4, go_sem]; rfl
    · replace h := mem_seen h
      simp [oB4, go_sem] at h
    · simp [cf]; try omega
    · exact ⟨hN.ha, hN.lo, hN.ho, hN.hc, fun _ => ⟨w.heap.size, _, rfl, hl, heap_alloc_at (w := w.at d), fun e6 => absurd (hN.h6 e6).2 (by simp)⟩, hN.hbd, fun e6 => absurd (hN.h6 e6).2 (by simp), hN.h7⟩
  · refine OpG.value oB5_at rfl fun w1 h1 => ?_
    obtain ⟨d, rfl⟩ := h1
    have hb := hb.at d
    have hl := hb.lo
    have hN := hb.new (.cells #[.chan none] 71)
    refine ⟨.pointer (some ⟨w.heap.size, 0, none⟩), (w.at d).alloc (.cells #[.chan none] 71), (), ?_, DA.alloc (by omega) fun e h => ?_, _, ?_, b2, b3, b4, true, b6, b7, v7, .pointer (some ⟨w.heap.size, 0, none⟩), v12, v13, rfl, rfl, rfl, ?_⟩
    · simp [oB5, go_sem]; rfl
    · replace h := mem_seen h
      simp [oB5, go_sem] at h
    · simp [cf]; try omega
    · exact ⟨hN.ha, hN.lo, hN.ho, hN.hc, hN.hbo, fun _ => ⟨w.heap.size, _, rfl, hl, heap_alloc_at (w := w.at d), fun e7 => absurd (hN.h7 e7).2 (by simp)⟩, hN.h6, fun e7 => absurd (hN.h7 e7).2 (by simp)⟩
  · refine OpG.skip oB6_at rfl fun w1 h1 => ?_
    obtain ⟨d, rfl⟩ := h1
    have hb := hb.at d
    have hl := hb.lo
    obtain ⟨y, v, rfl, q2, q3, _⟩ := hb.hbo rfl
    obtain ⟨o, rfl, p2, p3⟩ := hb.ho rfl
    obtain ⟨hc1, hc2⟩ := cell_of_row q3
    have hne : ∀ z ob, (w.at d).heap[z]? = some ob → (∀ u, ob ≠ Obj.cells u 23 (0, 0)) → ((w.at d).setCell ⟨y, 0, none⟩ (.slice (some ⟨o, 0, none⟩) n n)).heap[z]? = some ob := fun z ob hz hob => by
      rw [heap_set_ne (fun e => by subst e; rw [q3] at hz; cases hz; exact hob _ rfl)]
      exact hz
    have hsz : ((w.at d).setCell ⟨y, 0, none⟩ (.slice (some ⟨o, 0, none⟩) n n)).heap.size = w.heap.size := by simp [World.setCell]; rfl
    refine ⟨(w.at d).setCell ⟨y, 0, none⟩ (.slice (some ⟨o, 0, none⟩) n n), (), ?_, DA.set (by omega) fun e h => ?_, _, ?_, true, b3, true, b5, true, b7, .pointer (some ⟨y, 0, none⟩), v8, .slice (some ⟨o, 0, none⟩) n n, v13, rfl, rfl, rfl, ?_⟩
    · simp [oB6, go_sem, hc1, hc2]
    · replace h := mem_seen h
      simp [oB6, go_sem] at h
      rw [events_store _ _ _ _ _ _ rfl] at h
      simp [hc1, hc2] at h
      subst h
      exact .inr ⟨_, true, rfl, trivial, (Array.getElem?_eq_some_iff.1 q3).1⟩
    · simp [cf]; try omega
    · refine ⟨hb.ha.to rfl rfl rfl (by rw [hsz]; have := hb.lo; have h3 : (w.at d).heap.size = w.heap.size := rfl; omega) fun x hx => heap_set_ne (by omega), by rw [hsz]; exact hl, ?_, ?_, ?_, ?_, ?_, ?_⟩
      · exact fun _ => ⟨o, rfl, p2, hne _ _ p3 fun u e => by cases e⟩
      · exact fun e3 => by obtain ⟨z, r1, r2, r3⟩ := hb.hc e3; exact ⟨z, r1, r2, hne _ _ r3 fun u e => by cases e⟩
      · exact fun _ => ⟨y, _, rfl, q2, heap_set_at q3, fun _ => rfl⟩
      · exact fun e5 => by obtain ⟨z, v', r1, r2, r3, r4⟩ := hb.hbd e5; exact ⟨z, v', r1, r2, hne _ _ r3 (fun u e => by cases e), r4⟩
      · exact fun _ => ⟨rfl, rfl⟩
      · exact hb.h7
  · refine OpG.skip oB7_at rfl fun w1 h1 => ?_
    obtain ⟨d, rfl⟩ := h1
    have hb := hb.at d
    have hl := hb.lo
    obtain ⟨y, v, rfl, q2, q3, _⟩ := hb.hbd rfl
    obtain ⟨o, rfl, p2, p3⟩ := hb.hc rfl
    obtain ⟨hc1, hc2⟩ := cell_of_row q3
    have hne : ∀ z ob, (w.at d).heap[z]? = some ob → (∀ u, ob ≠ Obj.cells u 71 (0, 0)) → ((w.at d).setCell ⟨y, 0, none⟩ (.chan (some o))).heap[z]? = some ob := fun z ob hz hob => by
      rw [heap_set_ne (fun e => by subst e; rw [q3] at hz; cases hz; exact hob _ rfl)]
      exact hz
    have hsz : ((w.at d).setCell ⟨y, 0, none⟩ (.chan (some o))).heap.size = w.heap.size := by simp [World.setCell]; rfl
    refine ⟨(w.at d).setCell ⟨y, 0, none⟩ (.chan (some o)), (), ?_, DA.set (by omega) fun e h => ?_, _, ?_, b2, true, b4, true, b6, true, v7, .pointer (some ⟨y, 0, none⟩), v12, .chan (some o), rfl, rfl, rfl, ?_⟩
    · simp [oB7, go_sem, hc1, hc2]
    · replace h := mem_seen h
      simp [oB7, go_sem, hc1, hc2] at h
      subst h
      exact .inr ⟨_, true, rfl, trivial, (Array.getElem?_eq_some_iff.1 q3).1⟩
    · simp [cf]; try omega
    · refine ⟨hb.ha.to rfl rfl rfl (by rw [hsz]; have := hb.lo; have h3 : (w.at d).heap.size = w.heap.size := rfl; omega) fun x hx => heap_set_ne (by omega), by rw [hsz]; exact hl, ?_, ?_, ?_, ?_, ?_, ?_⟩
      · exact fun e2 => by obtain ⟨z, r1, r2, r3⟩ := hb.ho e2; exact ⟨z, r1, r2, hne _ _ r3 fun u e => by cases e⟩
      · exact fun _ => ⟨o, rfl, p2, hne _ _ p3 fun u e => by cases e⟩
      · exact fun e4 => by obtain ⟨z, v', r1, r2, r3, r4⟩ := hb.hbo e4; exact ⟨z, v', r1, r2, hne _ _ r3 (fun u e => by cases e), r4⟩
      · exact fun _ => ⟨y, _, rfl, q2, heap_set_at q3, fun _ => rfl⟩
      · exact hb.h6
      · exact fun _ => ⟨rfl, rfl⟩
/-- Behind the row and the channel. -/
structure HC (N0 n k : Nat) (vl vh : Value) (w0 : World) (o c bo bd : Nat) (w : World) : Prop where
  ha : HA N0 k vl vh w0 w
  ro : w.heap[o]? = some (.cells (madeCells #[.int .i64 0] n) 2 (0, 0))
  rc : w.heap[c]? = some (.chan 0 #[] false 0 0 false)
  rbo : w.heap[bo]? = some (.cells #[.slice (some ⟨o, 0, none⟩) n n] 23 (0, 0))
  rbd : w.heap[bd]? = some (.cells #[.chan (some c)] 71 (0, 0))
  lo : N0 + 3 ≤ o ∧ N0 + 3 ≤ c ∧ N0 + 3 ≤ bo ∧ N0 + 3 ≤ bd
theorem a33_r1 {N0 n k cl : Nat} {vl vh : Value} {al : Option Addr} {w0 w : World} {Q : Exit → Act → Unit → World → Prop} (hn : n < 1000000000) (hl : vl = .slice al n cl) (ha : HA N0 k vl vh w0 w) (hs : w.heap.size = N0 + 3) (hQr : ∀ a i x y, Q .normal a i x → RA i x y → Q .normal a i y)
    (hQ : ∀ o c bo bd w2, HC N0 n k vl vh w0 o c bo bd w2 → Q .normal ⟨(#[vl, .int .i64 (k : Nat), vh, .pointer (some ⟨N0, 0, none⟩), .pointer (some ⟨(N0 + 1), 0, none⟩), .pointer (some ⟨(N0 + 2), 0, none⟩), .slice none 0 0, .pointer (some ⟨bo, 0, none⟩), .pointer (some ⟨bd, 0, none⟩), undef, vl, .int .i64 (n : Nat), .slice (some ⟨o, 0, none⟩) n n, .chan (some c), undef, undef, undef, undef, undef, undef, undef, undef, undef, undef, undef, undef, undef] : Array Value), []⟩ () w2) :
    wpG Try.prog true RA (fun _ _ => DA N0) 33 r33_1 Q ⟨(#[vl, .int .i64 (k : Nat), vh, .pointer (some ⟨N0, 0, none⟩), .pointer (some ⟨(N0 + 1), 0, none⟩), .pointer (some ⟨(N0 + 2), 0, none⟩), .slice none 0 0, undef, undef, undef, undef, undef, undef, undef, undef, undef, undef, undef, undef, undef, undef, undef, undef, undef, undef, undef, undef] : Array Value), []⟩ () w := by
  have T := DA.terms N0
  show wpG _ _ _ _ _ (.region 1 ops33_1 true) _ _ _ _
  refine wpG_region_held (S := fun _ w => HA N0 k vl vh w0 w ∧ N0 + 3 ≤ w.heap.size) (fun _ w => DA.draw N0 w) T (by kernel_rfl) fun w1 h1 => ?_
  obtain ⟨d, rfl⟩ := h1
  have hsz : ({ w.at d with drawn := (w.at d).drawn + 1 } : World).heap.size = N0 + 3 := hs
  have ha : HA N0 k vl vh w0 { w.at d with drawn := (w.at d).drawn + 1 } := ⟨⟨ha.ext.tape, ha.ext.os, ha.ext.output, ha.ext.size, ha.ext.keep⟩, ha.b0, ha.b1, ha.b2⟩
  generalize ({ w.at d with drawn := (w.at d).drawn + 1 } : World) = w at ha hsz ⊢
  refine anyG_take T (fun _ _ _ h q => by obtain ⟨d, rfl⟩ := q; exact ⟨⟨h.1.ext.at d, h.1.b0, h.1.b1, h.1.b2⟩, h.2⟩) hQr (n := 0) (v := vl) oB0_at (by kernel_rfl) (by kernel_rfl) (by kernel_rfl) (.inl ⟨rfl, fun M2 w2 h2 => ⟨?_, DA.quiet fun e he => ?_⟩⟩) ⟨ha, by omega⟩ ?_
  · have hc1 := (cell_of_row h2.1.b0).1
    simp [oB0, go_sem, hc1]
  · replace he := mem_seen he
    have hc1 := (cell_of_row h2.1.b0).1
    simp [oB0, go_sem, hc1] at he
    subst he
    exact .inr ⟨_, false, rfl, trivial, (Array.getElem?_eq_some_iff.1 h2.1.b0).1⟩
  show AnyG Try.prog true _ _ 33 _ _ Q _ _ _ ⟨(#[vl, .int .i64 (k : Nat), vh, .pointer (some ⟨N0, 0, none⟩), .pointer (some ⟨(N0 + 1), 0, none⟩), .pointer (some ⟨(N0 + 2), 0, none⟩), .slice none 0 0, undef, undef, undef, vl, undef, undef, undef, undef, undef, undef, undef, undef, undef, undef, undef, undef, undef, undef, undef, undef] : Array Value), []⟩ _ _
  refine anyG_take T (fun _ _ _ h q => by obtain ⟨d, rfl⟩ := q; exact ⟨⟨h.1.ext.at d, h.1.b0, h.1.b1, h.1.b2⟩, h.2⟩) hQr (n := 1) (v := .int .i64 (n : Nat)) oB1_at (by kernel_rfl) (by kernel_rfl) (by kernel_rfl) (.inl ⟨rfl, fun M2 w2 h2 => ⟨?_, DA.quiet fun e he => ?_⟩⟩) ⟨ha, by omega⟩ ?_
  · simp [oB1, go_sem, hl]
  · replace he := mem_seen he
    simp [oB1, go_sem, hl] at he
  show AnyG Try.prog true _ _ 33 _ _ Q _ _ #[true, true, false, false, false, false, false, false] ⟨(#[vl, .int .i64 (k : Nat), vh, .pointer (some ⟨N0, 0, none⟩), .pointer (some ⟨(N0 + 1), 0, none⟩), .pointer (some ⟨(N0 + 2), 0, none⟩), .slice none 0 0, undef, undef, undef, vl, .int .i64 (n : Nat), undef, undef, undef, undef, undef, undef, undef, undef, undef, undef, undef, undef, undef, undef, undef] : Array Value), []⟩ _ _
  have key := anyG_inv (P := Try.prog) (m := true) (R := RA) (D := fun _ _ => DA N0) (fn := 33) (ops := ops33_1) (Q := Q) (md := .any) (S := fun _ w => HA N0 k vl vh w0 w ∧ N0 + 3 ≤ w.heap.size) (J := J33 N0 n k vl vh w0) (fun c listed a i w hj => by obtain ⟨_, _, _, _, _, _, _, _, _, _, _, _, _, hb⟩ := hj; exact ⟨hb.ha, hb.lo⟩) (fun c listed a i w hj hr => ?_) (fun listed a i w hj => ?_) (fun c listed a i w x hj hx => j33_step hn c listed a i w x hj hx) 6 6 #[true, true, false, false, false, false, false, false] ⟨(#[vl, .int .i64 (k : Nat), vh, .pointer (some ⟨N0, 0, none⟩), .pointer (some ⟨(N0 + 1), 0, none⟩), .pointer (some ⟨(N0 + 2), 0, none⟩), .slice none 0 0, undef, undef, undef, vl, .int .i64 (n : Nat), undef, undef, undef, undef, undef, undef, undef, undef, undef, undef, undef, undef, undef, undef, undef] : Array Value), []⟩ () w (Nat.le_refl _)
    ⟨false, false, false, false, false, false, undef, undef, undef, undef, rfl, rfl, rfl, ha, by omega, fun e => (by cases e), fun e => (by cases e), fun e => (by cases e), fun e => (by cases e), fun e => (by cases e), fun e => (by cases e)⟩
  · exact key
  · obtain ⟨b2, b3, b4, b5, b6, b7, v7, v8, v12, v13, rfl, rfl, rfl, hb⟩ := hj
    have hd := done33 b2 b3 b4 b5 b6 b7
    rw [hr] at hd
    simp only [List.isEmpty_nil, Bool.not_true, Bool.false_or, Bool.and_eq_true] at hd
    obtain ⟨⟨⟨⟨⟨rfl, rfl⟩, rfl⟩, rfl⟩, rfl⟩, rfl⟩ := hd
    obtain ⟨o, rfl, p2, p3⟩ := hb.ho rfl
    obtain ⟨c, rfl, q2, q3⟩ := hb.hc rfl
    obtain ⟨bo, v, rfl, r2, r3, r4⟩ := hb.hbo rfl
    obtain ⟨bd, v', rfl, s2, s3, s4⟩ := hb.hbd rfl
    obtain rfl := r4 rfl
    obtain rfl := s4 rfl
    exact hQ o c bo bd w ⟨hb.ha, p3, q3, r3, s3, p2, q2, r2, s2⟩
  · obtain ⟨b2, b3, b4, b5, b6, b7, v7, v8, v12, v13, rfl, rfl, hc, hb⟩ := hj
    unfold cf at hc
    cases b2 <;> cases b3 <;> cases b4 <;> cases b5 <;> cases b6 <;> cases b7 <;> first | (exfalso; simp at hc; done) | exact full33
end Go.Proofs.Ytpigjhagdpeofaa.Sim

namespace Go.Proofs.Ytpigjhagdpeofaa.Sim
open Go Go.Conc
set_option linter.unusedVariables false
set_option maxRecDepth 100000
section
variable {I : Type} {P : Program} {m : Bool} {R : I → World → World → Prop} {D : I → I → World → World → Array Event → Prop} {S : I → Goroutine → World → Prop} {b : Frame} {a : Act} {i : I} {w : World} {ops : Array Oper} {x : Nat} {rest : List Nat} {o : Oper} {k : List Item} {cs : List Frame}
/-- An operation that leaves the world as it is. -/
theorem WkG.still (v : Value) (ho : ops[x]? = some o) (hw : Region.wanted o (yielded ops a.tmps) = true) (hk : b.kind ≠ .early)
    (h : ∀ w1, R i w w1 → (execOp a.eval o).run P w1 = .ok (.value v) w1 ∧ D i i w1 w1 (listed P b.fn a o w1) ∧ WkG P m R D S i (G (b.at (a.put o.dst v) (.inRegion ops rest :: k)) cs) w1) : WkG P m R D S i (G (b.at a (.inRegion ops (x :: rest) :: k)) cs) w := by
  refine .step rfl fun w1 h1 => ?_
  obtain ⟨h2, h3, h4⟩ := h w1 h1
  exact ⟨_, _, _, i, stepG_value ho hw hk h2, h3, h4⟩
end
noncomputable def t33 : Code := match Try.f33.body with | some (.seq _ (.seq _ t)) => t | _ => .skip
noncomputable def c33a : Code := match t33 with | .seq (.seq r _) _ => r | _ => .skip
noncomputable def c33b : Code := match t33 with | .seq (.seq _ (.block _ (.loop r))) _ => r | _ => .skip
noncomputable def c33c : Code := match t33 with | .seq _ (.seq (.seq r _) _) => r | _ => .skip
noncomputable def c33d : Code := match t33 with | .seq _ (.seq (.seq _ (.block _ (.loop r))) _) => r | _ => .skip
noncomputable def c33e : Code := match t33 with | .seq _ (.seq _ t) => t | _ => .skip
theorem t33_eq : t33 = .seq (.seq c33a (.block 0 (.loop c33b))) (.seq (.seq c33c (.block 2 (.loop c33d))) c33e) := by kernel_rfl
def b33 : Frame := { (default : Frame) with fn := 33, kind := .normal }
def rgO (c : Code) : Array Oper := match c with | .region _ o _ => o | _ => #[]
noncomputable def rE : Array Oper := match c33d with | .seq (.region _ o _) _ => o | _ => #[]
noncomputable def rF : Array Oper := match c33d with | .seq _ (.seq _ (.seq (.block _ (.region _ o _)) _)) => o | _ => #[]
noncomputable def rG : Array Oper := match c33d with | .seq _ (.seq _ (.seq _ (.region _ o _))) => o | _ => #[]
theorem c33d_eq : c33d = .seq (.region 8 rE false) (.seq (.cond (.tmp 22) .skip (.exit 2)) (.seq (.block 3 (.region 9 rF false)) (.region 10 rG false))) := by kernel_rfl
noncomputable def rI : Array Oper := match c33b with | .seq (.region _ o _) _ => o | _ => #[]
noncomputable def rK : Array Oper := match c33b with | .seq _ (.seq _ (.seq (.block _ (.seq (.region _ o _) _)) _)) => o | _ => #[]
noncomputable def rM : Array Oper := match c33b with | .seq _ (.seq _ (.seq (.block _ (.seq _ (.region _ o _))) _)) => o | _ => #[]
noncomputable def rN : Array Oper := match c33b with | .seq _ (.seq _ (.seq _ (.region _ o _))) => o | _ => #[]
theorem c33b_eq : c33b = .seq (.region 3 rI false) (.seq (.cond (.tmp 16) .skip (.exit 0)) (.seq (.block 1 (.seq (.region 4 rK false) (.region 5 rM false))) (.region 6 rN false))) := by kernel_rfl
noncomputable def oE0 : Oper := { dst := some 22, op := .binOp .lss 2 (.tmp 21) (.tmp 20) 2, type := 4, pos := placed rE 0, after := #[], guard := none }
theorem oE0_at : rE[0]? = some oE0 := by kernel_rfl
noncomputable def oF0 : Oper := { dst := some 23, op := .load 71 (.tmp 8), type := 71, pos := placed rF 0, after := #[], guard := none }
theorem oF0_at : rF[0]? = some oF0 := by kernel_rfl
noncomputable def oF1 : Oper := { dst := some 24, op := .recv 71 (.tmp 23) false, type := 4, pos := placed rF 1, after := #[{ on := 0, ground := Ground.data }], guard := none }
theorem oF1_at : rF[1]? = some oF1 := by kernel_rfl
noncomputable def oG0 : Oper := { dst := some 25, op := .binOp .add 2 (.tmp 21) (.const (.int .i64 1)) 2, type := 2, pos := placed rG 0, after := #[], guard := none }
theorem oG0_at : rG[0]? = some oG0 := by kernel_rfl
noncomputable def oG1 : Oper := { dst := some 21, op := .move (.tmp 25), type := 2, pos := placed rG 1, after := #[{ on := 0, ground := Ground.data }], guard := none }
theorem oG1_at : rG[1]? = some oG1 := by kernel_rfl
noncomputable def oI0 : Oper := { dst := some 16, op := .binOp .lss 2 (.tmp 15) (.tmp 14) 2, type := 4, pos := placed rI 0, after := #[], guard := none }
theorem oI0_at : rI[0]? = some oI0 := by kernel_rfl
noncomputable def oK0 : Oper := { dst := some 17, op := .move (.tmp 15), type := 2, pos := placed rK 0, after := #[], guard := none }
theorem oK0_at : rK[0]? = some oK0 := by kernel_rfl
noncomputable def oK1 : Oper := { dst := some 9, op := .alloc 2, type := 0, pos := placed rK 1, after := #[], guard := none }
theorem oK1_at : rK[1]? = some oK1 := by kernel_rfl
noncomputable def oK2 : Oper := { dst := none, op := .store 2 (.tmp 9) (.tmp 17), type := 0, pos := placed rK 2, after := #[{ on := 1, ground := Ground.data }, { on := 0, ground := Ground.data }, { on := 0, ground := Ground.phase }, { on := 1, ground := Ground.phase }], guard := none }
theorem oK2_at : rK[2]? = some oK2 := by kernel_rfl
noncomputable def oM0 : Oper := { dst := some 18, op := .makeFunc (.func 54) #[] #[.tmp 9, .tmp 3, .tmp 4, .tmp 5, .tmp 7, .tmp 8], type := 1, pos := placed rM 0, after := #[], guard := none }
theorem oM0_at : rM[0]? = some oM0 := by kernel_rfl
noncomputable def oM1 : Oper := { dst := none, op := .go { callee := .value (.tmp 18), args := #[], argTypes := #[] }, type := 0, pos := placed rM 1, after := #[{ on := 0, ground := Ground.data }], guard := none }
theorem oM1_at : rM[1]? = some oM1 := by kernel_rfl
noncomputable def oN0 : Oper := { dst := some 19, op := .binOp .add 2 (.tmp 15) (.const (.int .i64 1)) 2, type := 2, pos := placed rN 0, after := #[], guard := none }
theorem oN0_at : rN[0]? = some oN0 := by kernel_rfl
noncomputable def oN1 : Oper := { dst := some 15, op := .move (.tmp 19), type := 2, pos := placed rN 1, after := #[{ on := 0, ground := Ground.data }], guard := none }
theorem oN1_at : rN[1]? = some oN1 := by kernel_rfl

/-- What the starter knows of the memory while its workers work. -/
structure HM (N1 o c n : Nat) (w1 w : World) : Prop where
  keep : ∀ y, y < N1 → y ≠ o → y ≠ c → w.heap[y]? = w1.heap[y]?
  size : N1 ≤ w.heap.size
  row : ∃ cs, w.heap[o]? = some (.cells cs 2 (0, 0)) ∧ cs.size = n
  env : w.tape = w1.tape ∧ w.os = w1.os ∧ w.output = w1.output
def KK (N1 o c y : Nat) : Prop := y < N1 ∧ y ≠ o ∧ y ≠ c
theorem HM.rely {N1 o c n k b : Nat} {w1 w w2 : World} {M : Nat → Prop} (h : HM N1 o c n w1 w) (q : RW o k b 0 (KK N1 o c) M w w2) : HM N1 o c n w1 w2 := by
  refine ⟨fun y h1 h2 h3 => (q.rely.keep y (Nat.lt_of_lt_of_le h1 h.size) (.inr ⟨h1, h2, h3⟩)).trans (h.keep y h1 h2 h3), Nat.le_trans h.size q.rely.size, ?_, q.rely.tape.trans h.env.1, q.rely.os.trans h.env.2.1, q.rely.output.trans h.env.2.2⟩
  obtain ⟨cs, a1, a2⟩ := h.row
  obtain ⟨cs', b1, b2, _⟩ := q.out cs _ _ a1
  exact ⟨cs', b1, b2.trans a2⟩
theorem HM.cell {N1 o c n : Nat} {w1 w : World} {b : Addr} {v : Value} (h : HM N1 o c n w1 w) (hb : KK N1 o c b.block) (hc : w1.cell? b = some v) : w.cell? b = some v := by
  unfold World.cell? at hc ⊢
  rw [h.keep _ hb.1 hb.2.1 hb.2.2]
  exact hc
/-- At its end. -/
def Fin33 (N1 o c n cl k : Nat) (al : Option Addr) (bl bk bh bo bd : Nat) (vh : Value) (w1 : World) (cs : List Frame) (M : Nat → Prop) (g : Goroutine) (w : World) : Prop :=
  HM N1 o c n w1 w ∧ ∃ (u6 u9 u10 u11 u12 u13 u14 u15 u16 u17 u18 u19 u20 u21 u22 u23 u24 u25 u26 : Value), g = G (b33.at ⟨(#[.slice al n cl, .int .i64 (k : Nat), vh, .pointer (some ⟨bl, 0, none⟩), .pointer (some ⟨bk, 0, none⟩), .pointer (some ⟨bh, 0, none⟩), u6, .pointer (some ⟨bo, 0, none⟩), .pointer (some ⟨bd, 0, none⟩), u9, u10, u11, u12, u13, u14, u15, u16, u17, u18, u19, u20, u21, u22, u23, u24, u25, u26] : Array Value), []⟩ [.code c33e]) cs
section
variable {N1 o c n cl k b bl bk bh bo bd : Nat} {al : Option Addr} {F : Nat → Int} {vh : Value} {w1 : World} {cs : List Frame}
/-- It hears its workers. -/
theorem hears33 (hk8 : k ≤ 8) (kd : KK N1 o c bd) (cd : w1.cell? ⟨bd, 0, none⟩ = some (.chan (some c))) : ∀ (r i : Nat) (M : Nat → Prop) (w : World) (u6 u9 u10 u11 u12 u13 u14 u15 u16 u17 u18 u19 u22 u23 u24 u25 u26 : Value), i + r = k → HM N1 o c n w1 w →
    WkG Try.prog true (RW o k b 0 (KK N1 o c)) (DW o k b 0 (KK N1 o c)) (S0 Try.prog o c n k b F (KK N1 o c) (Fin33 N1 o c n cl k al bl bk bh bo bd vh w1 cs) r) M (G (b33.at ⟨(#[.slice al n cl, .int .i64 (k : Nat), vh, .pointer (some ⟨bl, 0, none⟩), .pointer (some ⟨bk, 0, none⟩), .pointer (some ⟨bh, 0, none⟩), u6, .pointer (some ⟨bo, 0, none⟩), .pointer (some ⟨bd, 0, none⟩), u9, u10, u11, u12, u13, u14, u15, u16, u17, u18, u19, .int .i64 (k : Nat), .int .i64 (i : Nat), u22, u23, u24, u25, u26] : Array Value), []⟩ (.code c33d :: .inLoop c33d :: .inBlock 2 :: [.code c33e])) cs) w := by
  have T := OwnW.terms (o := o) (mine := cls b k 0) (Rd := KK N1 o c)
  intro r
  induction r with
  | zero =>
    intro i M w u6 u9 u10 u11 u12 u13 u14 u15 u16 u17 u18 u19 u22 u23 u24 u25 u26 hi hm
    rw [c33d_eq]
    refine WkG.idle T rfl (fun w => stepG_seq) ?_
    refine WkG.idle T rfl (fun w => stepG_region) ?_
    show WkG _ _ _ _ _ _ (G (b33.at _ (.inRegion rE (0 :: []) :: _)) _) _
    refine WkG.still (.bool false) oE0_at rfl (by decide) fun w2 h2 => ⟨?_, OwnW.same M rfl rfl rfl rfl fun e he => ?_, ?_⟩
    · have hlt : ¬ ((i : Int) < (k : Int)) := by omega
      simp [oE0, go_sem, hlt]
    · replace he := mem_listed he
      simp [oE0, go_sem] at he
    replace hm := hm.rely h2
    refine WkG.idle T rfl (fun w => stepG_region_end) ?_
    refine WkG.idle T rfl (fun w => stepG_seq) ?_
    refine WkG.idle T rfl (fun w => stepG_cond (t := false) rfl) ?_
    refine WkG.idle T rfl (fun w => stepG_exit (k' := [.code c33e]) rfl) ?_
    exact .stop fun w3 h3 => ⟨rfl, hm.rely h3, _, _, _, _, _, _, _, _, _, _, _, _, _, _, _, _, _, _, _, rfl⟩
  | succ r ih =>
    intro i M w u6 u9 u10 u11 u12 u13 u14 u15 u16 u17 u18 u19 u22 u23 u24 u25 u26 hi hm
    rw [c33d_eq]
    refine WkG.idle T rfl (fun w => stepG_seq) ?_
    refine WkG.idle T rfl (fun w => stepG_region) ?_
    show WkG _ _ _ _ _ _ (G (b33.at _ (.inRegion rE (0 :: []) :: _)) _) _
    refine WkG.still (.bool true) oE0_at rfl (by decide) fun w2 h2 => ⟨?_, OwnW.same M rfl rfl rfl rfl fun e he => ?_, ?_⟩
    · have hlt : (i : Int) < (k : Int) := by omega
      simp [oE0, go_sem, hlt]
    · replace he := mem_listed he
      simp [oE0, go_sem] at he
    replace hm := hm.rely h2
    refine WkG.idle T rfl (fun w => stepG_region_end) ?_
    refine WkG.idle T rfl (fun w => stepG_seq) ?_
    refine WkG.idle T rfl (fun w => stepG_cond (t := true) rfl) ?_
    refine WkG.idle T rfl (fun w => stepG_skip) ?_
    refine WkG.idle T rfl (fun w => stepG_seq) ?_
    refine WkG.idle T rfl (fun w => stepG_block) ?_
    refine WkG.idle T rfl (fun w => stepG_region) ?_
    show WkG _ _ _ _ _ _ (G (b33.at ⟨(#[.slice al n cl, .int .i64 (k : Nat), vh, .pointer (some ⟨bl, 0, none⟩), .pointer (some ⟨bk, 0, none⟩), .pointer (some ⟨bh, 0, none⟩), u6, .pointer (some ⟨bo, 0, none⟩), .pointer (some ⟨bd, 0, none⟩), u9, u10, u11, u12, u13, u14, u15, u16, u17, u18, u19, .int .i64 (k : Nat), .int .i64 (i : Nat), .bool true, u23, u24, u25, u26] : Array Value), []⟩ (.inRegion rF (0 :: [1]) :: _)) _) _
    refine WkG.still (.chan (some c)) oF0_at rfl (by decide) fun w3 h3 => ⟨?_, OwnW.same M rfl rfl rfl rfl fun e he => ?_, ?_⟩
    · have hc1 := (hm.rely h3).cell kd cd
      simp [oF0, go_sem, hc1]
    · have hc1 := (hm.rely h3).cell kd cd
      replace he := mem_listed he
      simp [oF0, go_sem, hc1] at he
      subst he
      exact ⟨_, rfl, .inr (.inl kd)⟩
    replace hm := hm.rely h3
    show WkG _ _ _ _ _ _ (G (b33.at ⟨(#[.slice al n cl, .int .i64 (k : Nat), vh, .pointer (some ⟨bl, 0, none⟩), .pointer (some ⟨bk, 0, none⟩), .pointer (some ⟨bh, 0, none⟩), u6, .pointer (some ⟨bo, 0, none⟩), .pointer (some ⟨bd, 0, none⟩), u9, u10, u11, u12, u13, u14, u15, u16, u17, u18, u19, .int .i64 (k : Nat), .int .i64 (i : Nat), .bool true, .chan (some c), u24, u25, u26] : Array Value), []⟩ (.inRegion rF (1 :: []) :: _)) _) _
    refine .stop fun w4 h4 => ⟨rfl, .inl ⟨by omega, G (b33.at ⟨(#[.slice al n cl, .int .i64 (k : Nat), vh, .pointer (some ⟨bl, 0, none⟩), .pointer (some ⟨bk, 0, none⟩), .pointer (some ⟨bh, 0, none⟩), u6, .pointer (some ⟨bo, 0, none⟩), .pointer (some ⟨bd, 0, none⟩), u9, u10, u11, u12, u13, u14, u15, u16, u17, u18, u19, .int .i64 (k : Nat), .int .i64 (i : Nat), .bool true, .chan (some c), u24, u25, u26] : Array Value), []⟩ (.inRegion rF (1 :: []) :: .inBlock 3 :: .code (.region 10 rG false) :: .inLoop c33d :: .inBlock 2 :: [.code c33e])) cs, .bool false, ?_, fun w5 h5 => ?_⟩⟩
    · rw [← c33d_eq]
      rw [stepG_comm (cases := #[rcase c (.bool false)]) (blocking := true) (shape := .recv false) (w' := w4) oF1_at rfl (by decide) (by simp [oF1, go_sem, execOp, rcase])]
      simp [oF1, listed, execOp, seen, go_sem]
    replace hm := (hm.rely h4).rely h5
    rw [served_G]
    refine WkG.idle T rfl (fun w => stepG_region_end) ?_
    refine WkG.idle T rfl (fun w => stepG_inBlock) ?_
    refine WkG.idle T rfl (fun w => stepG_region) ?_
    show WkG _ _ _ _ _ _ (G (b33.at ⟨(#[.slice al n cl, .int .i64 (k : Nat), vh, .pointer (some ⟨bl, 0, none⟩), .pointer (some ⟨bk, 0, none⟩), .pointer (some ⟨bh, 0, none⟩), u6, .pointer (some ⟨bo, 0, none⟩), .pointer (some ⟨bd, 0, none⟩), u9, u10, u11, u12, u13, u14, u15, u16, u17, u18, u19, .int .i64 (k : Nat), .int .i64 (i : Nat), .bool true, .chan (some c), .bool true, u25, u26] : Array Value), []⟩ (.inRegion rG (0 :: [1]) :: _)) _) _
    refine WkG.still (.int .i64 ((i + 1 : Nat) : Int)) oG0_at rfl (by decide) fun w6 h6 => ⟨?_, OwnW.same M rfl rfl rfl rfl fun e he => ?_, ?_⟩
    · have hc1 : IntKind.i64.wrap ((i : Int) + 1) = ((i + 1 : Nat) : Int) := by rw [IntKind.wrap_i64]; omega
      simp [oG0, go_sem, hc1]
    · replace he := mem_listed he
      simp [oG0, go_sem] at he
    replace hm := hm.rely h6
    show WkG _ _ _ _ _ _ (G (b33.at ⟨(#[.slice al n cl, .int .i64 (k : Nat), vh, .pointer (some ⟨bl, 0, none⟩), .pointer (some ⟨bk, 0, none⟩), .pointer (some ⟨bh, 0, none⟩), u6, .pointer (some ⟨bo, 0, none⟩), .pointer (some ⟨bd, 0, none⟩), u9, u10, u11, u12, u13, u14, u15, u16, u17, u18, u19, .int .i64 (k : Nat), .int .i64 (i : Nat), .bool true, .chan (some c), .bool true, .int .i64 ((i + 1 : Nat) : Int), u26] : Array Value), []⟩ (.inRegion rG (1 :: []) :: _)) _) _
    refine WkG.still (.int .i64 ((i + 1 : Nat) : Int)) oG1_at rfl (by decide) fun w7 h7 => ⟨?_, OwnW.same M rfl rfl rfl rfl fun e he => ?_, ?_⟩
    · simp [oG1, go_sem]
    · replace he := mem_listed he
      simp [oG1, go_sem] at he
    replace hm := hm.rely h7
    refine WkG.idle T rfl (fun w => stepG_region_end) ?_
    refine WkG.idle T rfl (fun w => stepG_inLoop) ?_
    exact ih (i + 1) M w7 _ _ _ _ _ _ _ _ _ _ _ _ _ _ _ _ _ (by omega) hm
end
end Go.Proofs.Ytpigjhagdpeofaa.Sim

namespace Go.Proofs.Ytpigjhagdpeofaa.Sim
open Go Go.Conc
set_option linter.unusedVariables false
set_option maxRecDepth 100000
section
variable {o : Nat} {mine Rd M : Nat → Prop} {w : World}
theorem OwnW.made {ob : Obj} {es : Array Event} (ho : o < w.heap.size) (he : ∀ e ∈ es, False) : OwnW o mine Rd M (fun y => M y ∨ y = w.heap.size) w (w.alloc ob) es := by
  refine ⟨rfl, rfl, rfl, by rw [size_alloc']; omega, fun _ h => .inl h, fun y hy => hy.imp id fun e => ⟨by omega, by rw [size_alloc']; omega⟩, fun y hy _ _ => heap_alloc_lt hy, fun cs e fz h => ⟨cs, heap_alloc_old h, rfl, fun _ _ => rfl⟩, fun y h1 h2 => .inr ?_, fun e h => (he e h).elim⟩
  rw [size_alloc'] at h2
  omega
theorem OwnW.laid {b : Nat} {v : Value} {es : Array Event} (hb : M b) (hbo : b ≠ o) (he : ∀ e ∈ es, e = ⟨.cell ⟨b, 0, none⟩, true, false⟩) : OwnW o mine Rd M M w (w.setCell ⟨b, 0, none⟩ v) es := by
  have hs : (w.setCell ⟨b, 0, none⟩ v).heap.size = w.heap.size := by simp [World.setCell]
  refine ⟨rfl, rfl, rfl, Nat.le_of_eq hs.symm, fun _ h => h, fun _ h => .inl h, fun y hy hm _ => heap_set_ne (fun e => hm (e ▸ hb)), fun cs e fz h => ⟨cs, by rw [heap_set_ne (fun e => hbo e.symm)]; exact h, rfl, fun _ _ => rfl⟩, fun y h1 h2 => by omega, fun e h => .inr ⟨⟨b, 0, none⟩, true, he e h, .inl hb⟩⟩
end
theorem HM.alloc {N1 o c n : Nat} {w1 w : World} {ob : Obj} (h : HM N1 o c n w1 w) (ho : o < N1) : HM N1 o c n w1 (w.alloc ob) := by
  have hs := h.size
  obtain ⟨cs, a1, a2⟩ := h.row
  exact ⟨fun y h1 h2 h3 => (heap_alloc_lt (by omega)).trans (h.keep y h1 h2 h3), by rw [size_alloc']; omega, ⟨cs, heap_alloc_old a1, a2⟩, h.env⟩
theorem HM.set {N1 o c n b : Nat} {w1 w : World} {v : Value} (h : HM N1 o c n w1 w) (hb : N1 ≤ b) (hbo : b ≠ o) : HM N1 o c n w1 (w.setCell ⟨b, 0, none⟩ v) := by
  obtain ⟨cs, a1, a2⟩ := h.row
  exact ⟨fun y h1 h2 h3 => (heap_set_ne (by omega)).trans (h.keep y h1 h2 h3), by simpa [World.setCell] using h.size, ⟨cs, by rw [heap_set_ne (fun e => hbo e.symm)]; exact a1, a2⟩, h.env⟩
noncomputable def rD : Array Oper := match c33c with | .region _ o _ => o | _ => #[]
theorem c33c_eq : c33c = .region 7 rD false := by kernel_rfl
noncomputable def oD0 : Oper := { dst := some 20, op := .load 2 (.tmp 4), type := 2, pos := placed rD 0, after := #[], guard := none }
theorem oD0_at : rD[0]? = some oD0 := by kernel_rfl
noncomputable def oD1 : Oper := { dst := some 21, op := .move (.const (.int .i64 0)), type := 2, pos := placed rD 1, after := #[], guard := none }
theorem oD1_at : rD[1]? = some oD1 := by kernel_rfl
section
variable {N1 o c n cl k b gl bl bk bh bo bd co : Nat} {al : Option Addr} {F L : Nat → Int} {f : FuncId} {caps : Array Value} {vh : Value} {w1 : World} {cs : List Frame}
/-- What the starter knows as it comes to its first loop. -/
structure Kn (al : Option Addr) (N1 o c n cl k gl bl bk bh bo bd co : Nat) (L : Nat → Int) (f : FuncId) (caps : Array Value) (w1 : World) : Prop where
  kl : KK N1 o c bl
  kk : KK N1 o c bk
  kh : KK N1 o c bh
  kO : KK N1 o c bo
  kd : KK N1 o c bd
  kg : KK N1 o c gl
  oN : o < N1
  cN : c < N1
  hal : 0 < n → al = some ⟨gl, 0, none⟩
  c_l : w1.cell? ⟨bl, 0, none⟩ = some (.slice al n cl)
  ck : w1.cell? ⟨bk, 0, none⟩ = some (.int .i64 (k : Nat))
  ch : w1.cell? ⟨bh, 0, none⟩ = some (.func (.func f) #[] caps)
  cO : w1.cell? ⟨bo, 0, none⟩ = some (.slice (some ⟨o, 0, none⟩) n co)
  cd : w1.cell? ⟨bd, 0, none⟩ = some (.chan (some c))
  cL : ∀ j, j < n → w1.cell? ⟨gl, j, none⟩ = some (.int .i64 (L j))
theorem starts33 (hn : n < 1000000000) (hk0 : 0 < k) (hk8 : k ≤ 8) (hK : Kn al N1 o c n cl k gl bl bk bh bo bd co L f caps w1) (hE : Ent f)
    (hclo : ∀ (x : Nat) (Rd : Nat → Prop) (w0 : World), b ≤ x → x - b < k → (∀ y, KK N1 o c y → Rd y) → HM N1 o c n w1 w0 → ∀ i, i < n → i % k = x - b → ∀ base M w, Sat o n k (x - b) Rd F w0 M w i → WkG Try.prog false (RW o k b x Rd) (DW o k b x Rd) (RetG Try.prog (DW o k b x Rd) base fun v M' w' => v = .int .i64 (F i) ∧ Sat o n k (x - b) Rd F w0 M' w' i) M (G (Frame.enter Try.prog f (#[.int .i64 (L i)] ++ caps) .normal) base) w) :
    ∀ (r j : Nat) (M : Nat → Prop) (w : World) (u6 u9 u10 u11 u12 u13 u16 u17 u18 u19 u20 u21 u22 u23 u24 u25 u26 : Value), j + r = k → HM N1 o c n w1 w →
    WkG Try.prog true (RW o k b 0 (KK N1 o c)) (DW o k b 0 (KK N1 o c)) (S0 Try.prog o c n k b F (KK N1 o c) (Fin33 N1 o c n cl k al bl bk bh bo bd vh w1 cs) (k + r)) M (G (b33.at ⟨(#[.slice al n cl, .int .i64 (k : Nat), vh, .pointer (some ⟨bl, 0, none⟩), .pointer (some ⟨bk, 0, none⟩), .pointer (some ⟨bh, 0, none⟩), u6, .pointer (some ⟨bo, 0, none⟩), .pointer (some ⟨bd, 0, none⟩), u9, u10, u11, u12, u13, .int .i64 (k : Nat), .int .i64 (j : Nat), u16, u17, u18, u19, u20, u21, u22, u23, u24, u25, u26] : Array Value), []⟩ (.code c33b :: .inLoop c33b :: .inBlock 0 :: [.code (.seq (.seq c33c (.block 2 (.loop c33d))) c33e)])) cs) w := by
  have T := OwnW.terms (o := o) (mine := cls b k 0) (Rd := KK N1 o c)
  intro r
  induction r with
  | zero =>
    intro j M w u6 u9 u10 u11 u12 u13 u16 u17 u18 u19 u20 u21 u22 u23 u24 u25 u26 hj hm
    rw [c33b_eq]
    refine WkG.idle T rfl (fun w => stepG_seq) ?_
    refine WkG.idle T rfl (fun w => stepG_region) ?_
    show WkG _ _ _ _ _ _ (G (b33.at ⟨(#[.slice al n cl, .int .i64 (k : Nat), vh, .pointer (some ⟨bl, 0, none⟩), .pointer (some ⟨bk, 0, none⟩), .pointer (some ⟨bh, 0, none⟩), u6, .pointer (some ⟨bo, 0, none⟩), .pointer (some ⟨bd, 0, none⟩), u9, u10, u11, u12, u13, .int .i64 (k : Nat), .int .i64 (j : Nat), u16, u17, u18, u19, u20, u21, u22, u23, u24, u25, u26] : Array Value), []⟩ (.inRegion rI (0 :: []) :: _)) _) _
    refine WkG.still (.bool false) oI0_at rfl (by decide) fun w2 h2 => ⟨?_, OwnW.same _ rfl rfl rfl rfl fun e he => ?_, ?_⟩
    · have hlt : ¬ ((j : Int) < (k : Int)) := by omega
      simp [oI0, go_sem, hlt]
    · have hlt : ¬ ((j : Int) < (k : Int)) := by omega
      replace he := mem_listed he
      simp [oI0, go_sem] at he
    replace hm := hm.rely h2
    refine WkG.idle T rfl (fun w => stepG_region_end) ?_
    refine WkG.idle T rfl (fun w => stepG_seq) ?_
    refine WkG.idle T rfl (fun w => stepG_cond (t := false) rfl) ?_
    refine WkG.idle T rfl (fun w => stepG_exit (k' := [.code (.seq (.seq c33c (.block 2 (.loop c33d))) c33e)]) rfl) ?_
    refine WkG.idle T rfl (fun w => stepG_seq) ?_
    refine WkG.idle T rfl (fun w => stepG_seq) ?_
    rw [c33c_eq]
    refine WkG.idle T rfl (fun w => stepG_region) ?_
    show WkG _ _ _ _ _ _ (G (b33.at ⟨(#[.slice al n cl, .int .i64 (k : Nat), vh, .pointer (some ⟨bl, 0, none⟩), .pointer (some ⟨bk, 0, none⟩), .pointer (some ⟨bh, 0, none⟩), u6, .pointer (some ⟨bo, 0, none⟩), .pointer (some ⟨bd, 0, none⟩), u9, u10, u11, u12, u13, .int .i64 (k : Nat), .int .i64 (j : Nat), .bool false, u17, u18, u19, u20, u21, u22, u23, u24, u25, u26] : Array Value), []⟩ (.inRegion rD (0 :: [1]) :: _)) _) _
    refine WkG.still (.int .i64 (k : Nat)) oD0_at rfl (by decide) fun w2 h2 => ⟨?_, OwnW.same _ rfl rfl rfl rfl fun e he => ?_, ?_⟩
    · have hc1 := (hm.rely h2).cell hK.kk hK.ck
      simp [oD0, go_sem, hc1]
    · have hc1 := (hm.rely h2).cell hK.kk hK.ck
      replace he := mem_listed he
      simp [oD0, go_sem, hc1] at he
      subst he
      exact ⟨_, rfl, .inr (.inl hK.kk)⟩
    replace hm := hm.rely h2
    show WkG _ _ _ _ _ _ (G (b33.at ⟨(#[.slice al n cl, .int .i64 (k : Nat), vh, .pointer (some ⟨bl, 0, none⟩), .pointer (some ⟨bk, 0, none⟩), .pointer (some ⟨bh, 0, none⟩), u6, .pointer (some ⟨bo, 0, none⟩), .pointer (some ⟨bd, 0, none⟩), u9, u10, u11, u12, u13, .int .i64 (k : Nat), .int .i64 (j : Nat), .bool false, u17, u18, u19, .int .i64 (k : Nat), u21, u22, u23, u24, u25, u26] : Array Value), []⟩ (.inRegion rD (1 :: []) :: _)) _) _
    refine WkG.still (.int .i64 ((0 : Nat) : Int)) oD1_at rfl (by decide) fun w2 h2 => ⟨?_, OwnW.same _ rfl rfl rfl rfl fun e he => ?_, ?_⟩
    · simp [oD1, go_sem]
    · replace he := mem_listed he
      simp [oD1, go_sem] at he
    replace hm := hm.rely h2
    refine WkG.idle T rfl (fun w => stepG_region_end) ?_
    refine WkG.idle T rfl (fun w => stepG_block) ?_
    refine WkG.idle T rfl (fun w => stepG_loop) ?_
    exact hears33 hk8 hK.kd hK.cd k 0 M _ _ _ _ _ _ _ _ _ _ _ _ _ _ _ _ _ _ (by omega) hm
  | succ r ih =>
    intro j M w u6 u9 u10 u11 u12 u13 u16 u17 u18 u19 u20 u21 u22 u23 u24 u25 u26 hj hm
    rw [c33b_eq]
    refine WkG.idle T rfl (fun w => stepG_seq) ?_
    refine WkG.idle T rfl (fun w => stepG_region) ?_
    show WkG _ _ _ _ _ _ (G (b33.at ⟨(#[.slice al n cl, .int .i64 (k : Nat), vh, .pointer (some ⟨bl, 0, none⟩), .pointer (some ⟨bk, 0, none⟩), .pointer (some ⟨bh, 0, none⟩), u6, .pointer (some ⟨bo, 0, none⟩), .pointer (some ⟨bd, 0, none⟩), u9, u10, u11, u12, u13, .int .i64 (k : Nat), .int .i64 (j : Nat), u16, u17, u18, u19, u20, u21, u22, u23, u24, u25, u26] : Array Value), []⟩ (.inRegion rI (0 :: []) :: _)) _) _
    refine WkG.still (.bool true) oI0_at rfl (by decide) fun w2 h2 => ⟨?_, OwnW.same _ rfl rfl rfl rfl fun e he => ?_, ?_⟩
    · have hlt : (j : Int) < (k : Int) := by omega
      simp [oI0, go_sem, hlt]
    · have hlt : (j : Int) < (k : Int) := by omega
      replace he := mem_listed he
      simp [oI0, go_sem] at he
    replace hm := hm.rely h2
    refine WkG.idle T rfl (fun w => stepG_region_end) ?_
    refine WkG.idle T rfl (fun w => stepG_seq) ?_
    refine WkG.idle T rfl (fun w => stepG_cond (t := true) rfl) ?_
    refine WkG.idle T rfl (fun w => stepG_skip) ?_
    refine WkG.idle T rfl (fun w => stepG_seq) ?_
    refine WkG.idle T rfl (fun w => stepG_block) ?_
    refine WkG.idle T rfl (fun w => stepG_seq) ?_
    refine WkG.idle T rfl (fun w => stepG_region) ?_
    show WkG _ _ _ _ _ _ (G (b33.at ⟨(#[.slice al n cl, .int .i64 (k : Nat), vh, .pointer (some ⟨bl, 0, none⟩), .pointer (some ⟨bk, 0, none⟩), .pointer (some ⟨bh, 0, none⟩), u6, .pointer (some ⟨bo, 0, none⟩), .pointer (some ⟨bd, 0, none⟩), u9, u10, u11, u12, u13, .int .i64 (k : Nat), .int .i64 (j : Nat), .bool true, u17, u18, u19, u20, u21, u22, u23, u24, u25, u26] : Array Value), []⟩ (.inRegion rK (0 :: [1, 2]) :: _)) _) _
    refine WkG.still (.int .i64 (j : Nat)) oK0_at rfl (by decide) fun w2 h2 => ⟨?_, OwnW.same _ rfl rfl rfl rfl fun e he => ?_, ?_⟩
    · simp [oK0, go_sem]
    · replace he := mem_listed he
      simp [oK0, go_sem] at he
    replace hm := hm.rely h2
    show WkG _ _ _ _ _ _ (G (b33.at ⟨(#[.slice al n cl, .int .i64 (k : Nat), vh, .pointer (some ⟨bl, 0, none⟩), .pointer (some ⟨bk, 0, none⟩), .pointer (some ⟨bh, 0, none⟩), u6, .pointer (some ⟨bo, 0, none⟩), .pointer (some ⟨bd, 0, none⟩), u9, u10, u11, u12, u13, .int .i64 (k : Nat), .int .i64 (j : Nat), .bool true, .int .i64 (j : Nat), u18, u19, u20, u21, u22, u23, u24, u25, u26] : Array Value), []⟩ (.inRegion rK (1 :: [2]) :: _)) _) _
    clear h2
    rename_i w2
    refine .step rfl fun w3 h3 => ?_
    replace hm := hm.rely h3
    have hsz := hm.size
    have hoN := hK.oN
    have hcN := hK.cN
    refine ⟨_, _, _, fun y => M y ∨ y = w3.heap.size, stepG_value (v := .pointer (some ⟨w3.heap.size, 0, none⟩)) (w' := w3.alloc (.cells #[.int .i64 0] 2)) oK1_at rfl (by decide) (by simp [oK1, go_sem]), OwnW.made (by omega) fun e he => ?_, ?_⟩
    · replace he := mem_listed he
      simp [oK1, go_sem] at he
    have hbw : (w3.alloc (.cells #[.int .i64 0] 2)).heap[w3.heap.size]? = some (.cells #[.int .i64 0] 2 (0, 0)) := heap_alloc_at
    replace hm := hm.alloc (ob := .cells #[.int .i64 0] 2) hoN
    generalize hw4 : w3.alloc (.cells #[.int .i64 0] 2) = w4 at hbw hm
    generalize hbb : w3.heap.size = bw at *
    clear hw4
    show WkG _ _ _ _ _ _ (G (b33.at ⟨(#[.slice al n cl, .int .i64 (k : Nat), vh, .pointer (some ⟨bl, 0, none⟩), .pointer (some ⟨bk, 0, none⟩), .pointer (some ⟨bh, 0, none⟩), u6, .pointer (some ⟨bo, 0, none⟩), .pointer (some ⟨bd, 0, none⟩), .pointer (some ⟨bw, 0, none⟩), u10, u11, u12, u13, .int .i64 (k : Nat), .int .i64 (j : Nat), .bool true, .int .i64 (j : Nat), u18, u19, u20, u21, u22, u23, u24, u25, u26] : Array Value), []⟩ (.inRegion rK (2 :: []) :: _)) _) _
    refine .step rfl fun w5 h5 => ?_
    replace hm := hm.rely h5
    replace hbw : w5.heap[bw]? = some (.cells #[.int .i64 0] 2 (0, 0)) := (h5.rely.keep bw (Array.getElem?_eq_some_iff.1 hbw).1 (.inl (.inr rfl))).trans hbw
    obtain ⟨hc1, hc2⟩ := cell_of_row hbw
    refine ⟨_, _, _, fun y => M y ∨ y = bw, stepG_none (w' := w5.setCell ⟨bw, 0, none⟩ (.int .i64 (j : Nat))) oK2_at rfl (by decide) (by simp [oK2, go_sem, hc1, hc2]), OwnW.laid (.inr rfl) (by omega) fun e he => ?_, ?_⟩
    · replace he := mem_listed he
      simp [oK2, go_sem, hc1, hc2] at he
      exact he
    replace hbw : (w5.setCell ⟨bw, 0, none⟩ (.int .i64 (j : Nat))).heap[bw]? = some (.cells #[.int .i64 (j : Nat)] 2 (0, 0)) := heap_set_at hbw
    replace hm := hm.set (b := bw) (v := .int .i64 (j : Nat)) hsz (by omega)
    clear hc1 hc2
    generalize w5.setCell ⟨bw, 0, none⟩ (.int .i64 (j : Nat)) = w6 at hbw hm
    show WkG _ _ _ _ _ _ (G (b33.at ⟨(#[.slice al n cl, .int .i64 (k : Nat), vh, .pointer (some ⟨bl, 0, none⟩), .pointer (some ⟨bk, 0, none⟩), .pointer (some ⟨bh, 0, none⟩), u6, .pointer (some ⟨bo, 0, none⟩), .pointer (some ⟨bd, 0, none⟩), .pointer (some ⟨bw, 0, none⟩), u10, u11, u12, u13, .int .i64 (k : Nat), .int .i64 (j : Nat), .bool true, .int .i64 (j : Nat), u18, u19, u20, u21, u22, u23, u24, u25, u26] : Array Value), []⟩ (.inRegion rK [] :: _)) _) _
    refine WkG.idle T rfl (fun w => stepG_region_end) ?_
    refine WkG.idle T rfl (fun w => stepG_region) ?_
    show WkG _ _ _ _ _ _ (G (b33.at ⟨(#[.slice al n cl, .int .i64 (k : Nat), vh, .pointer (some ⟨bl, 0, none⟩), .pointer (some ⟨bk, 0, none⟩), .pointer (some ⟨bh, 0, none⟩), u6, .pointer (some ⟨bo, 0, none⟩), .pointer (some ⟨bd, 0, none⟩), .pointer (some ⟨bw, 0, none⟩), u10, u11, u12, u13, .int .i64 (k : Nat), .int .i64 (j : Nat), .bool true, .int .i64 (j : Nat), u18, u19, u20, u21, u22, u23, u24, u25, u26] : Array Value), []⟩ (.inRegion rM (0 :: [1]) :: _)) _) _
    refine WkG.still (.func (.func 54) #[] #[.pointer (some ⟨bw, 0, none⟩), .pointer (some ⟨bl, 0, none⟩), .pointer (some ⟨bk, 0, none⟩), .pointer (some ⟨bh, 0, none⟩), .pointer (some ⟨bo, 0, none⟩), .pointer (some ⟨bd, 0, none⟩)]) oM0_at rfl (by decide) fun w2 h2 => ⟨?_, OwnW.same _ rfl rfl rfl rfl fun e he => ?_, ?_⟩
    · simp [oM0, go_sem, Instr.makeFunc]
    · replace he := mem_listed he
      simp [oM0, go_sem, Instr.makeFunc] at he
    replace hm := hm.rely h2
    replace hbw := (h2.rely.keep bw (Array.getElem?_eq_some_iff.1 hbw).1 (.inl (.inr rfl))).trans hbw
    show WkG _ _ _ _ _ _ (G (b33.at ⟨(#[.slice al n cl, .int .i64 (k : Nat), vh, .pointer (some ⟨bl, 0, none⟩), .pointer (some ⟨bk, 0, none⟩), .pointer (some ⟨bh, 0, none⟩), u6, .pointer (some ⟨bo, 0, none⟩), .pointer (some ⟨bd, 0, none⟩), .pointer (some ⟨bw, 0, none⟩), u10, u11, u12, u13, .int .i64 (k : Nat), .int .i64 (j : Nat), .bool true, .int .i64 (j : Nat), .func (.func 54) #[] #[.pointer (some ⟨bw, 0, none⟩), .pointer (some ⟨bl, 0, none⟩), .pointer (some ⟨bk, 0, none⟩), .pointer (some ⟨bh, 0, none⟩), .pointer (some ⟨bo, 0, none⟩), .pointer (some ⟨bd, 0, none⟩)], u19, u20, u21, u22, u23, u24, u25, u26] : Array Value), []⟩ (.inRegion rM (1 :: []) :: _)) _) _
    refine .stop fun w7 h7 => ⟨rfl, .inr ⟨Nat.le_add_right k r, G (b33.at ⟨(#[.slice al n cl, .int .i64 (k : Nat), vh, .pointer (some ⟨bl, 0, none⟩), .pointer (some ⟨bk, 0, none⟩), .pointer (some ⟨bh, 0, none⟩), u6, .pointer (some ⟨bo, 0, none⟩), .pointer (some ⟨bd, 0, none⟩), .pointer (some ⟨bw, 0, none⟩), u10, u11, u12, u13, .int .i64 (k : Nat), .int .i64 (j : Nat), .bool true, .int .i64 (j : Nat), .func (.func 54) #[] #[.pointer (some ⟨bw, 0, none⟩), .pointer (some ⟨bl, 0, none⟩), .pointer (some ⟨bk, 0, none⟩), .pointer (some ⟨bh, 0, none⟩), .pointer (some ⟨bo, 0, none⟩), .pointer (some ⟨bd, 0, none⟩)], u19, u20, u21, u22, u23, u24, u25, u26] : Array Value), []⟩ (.inRegion rM [] :: .inBlock 1 :: .code (.region 6 rN false) :: .inLoop c33b :: .inBlock 0 :: [.code (.seq (.seq c33c (.block 2 (.loop c33d))) c33e)])) cs, born Try.prog (d54 bw bl bk bh bo bd), fun y => KK N1 o c y ∨ y = bw, ?_, fun y hy => hy.imp id .inr, ?_, ?_⟩⟩
    · rw [← c33b_eq]
      rw [stepG_spawn (d := d54 bw bl bk bh bo bd) (w' := w7) (f := .func 54) oM1_at rfl (by decide) (by simp [oM1, go_sem, Deferred.ofValue, d54]) rfl]
      simp [oM1, listed, seen, go_sem, Deferred.ofValue]
      rfl
    · rename_i w2'
      replace hm := hm.rely h7
      refine WkG.idle T rfl (fun w => stepG_region_end) ?_
      refine WkG.idle T rfl (fun w => stepG_inBlock) ?_
      refine WkG.idle T rfl (fun w => stepG_region) ?_
      show WkG _ _ _ _ _ _ (G (b33.at ⟨(#[.slice al n cl, .int .i64 (k : Nat), vh, .pointer (some ⟨bl, 0, none⟩), .pointer (some ⟨bk, 0, none⟩), .pointer (some ⟨bh, 0, none⟩), u6, .pointer (some ⟨bo, 0, none⟩), .pointer (some ⟨bd, 0, none⟩), .pointer (some ⟨bw, 0, none⟩), u10, u11, u12, u13, .int .i64 (k : Nat), .int .i64 (j : Nat), .bool true, .int .i64 (j : Nat), .func (.func 54) #[] #[.pointer (some ⟨bw, 0, none⟩), .pointer (some ⟨bl, 0, none⟩), .pointer (some ⟨bk, 0, none⟩), .pointer (some ⟨bh, 0, none⟩), .pointer (some ⟨bo, 0, none⟩), .pointer (some ⟨bd, 0, none⟩)], u19, u20, u21, u22, u23, u24, u25, u26] : Array Value), []⟩ (.inRegion rN (0 :: [1]) :: _)) _) _
      refine WkG.still (.int .i64 ((j + 1 : Nat) : Int)) oN0_at rfl (by decide) fun w2 h2 => ⟨?_, OwnW.same _ rfl rfl rfl rfl fun e he => ?_, ?_⟩
      · have hc1 : IntKind.i64.wrap ((j : Int) + 1) = ((j + 1 : Nat) : Int) := by rw [IntKind.wrap_i64]; omega
        simp [oN0, go_sem, hc1]
      · have hc1 : IntKind.i64.wrap ((j : Int) + 1) = ((j + 1 : Nat) : Int) := by rw [IntKind.wrap_i64]; omega
        replace he := mem_listed he
        simp [oN0, go_sem] at he
      replace hm := hm.rely h2
      show WkG _ _ _ _ _ _ (G (b33.at ⟨(#[.slice al n cl, .int .i64 (k : Nat), vh, .pointer (some ⟨bl, 0, none⟩), .pointer (some ⟨bk, 0, none⟩), .pointer (some ⟨bh, 0, none⟩), u6, .pointer (some ⟨bo, 0, none⟩), .pointer (some ⟨bd, 0, none⟩), .pointer (some ⟨bw, 0, none⟩), u10, u11, u12, u13, .int .i64 (k : Nat), .int .i64 (j : Nat), .bool true, .int .i64 (j : Nat), .func (.func 54) #[] #[.pointer (some ⟨bw, 0, none⟩), .pointer (some ⟨bl, 0, none⟩), .pointer (some ⟨bk, 0, none⟩), .pointer (some ⟨bh, 0, none⟩), .pointer (some ⟨bo, 0, none⟩), .pointer (some ⟨bd, 0, none⟩)], .int .i64 ((j + 1 : Nat) : Int), u20, u21, u22, u23, u24, u25, u26] : Array Value), []⟩ (.inRegion rN (1 :: []) :: _)) _) _
      refine WkG.still (.int .i64 ((j + 1 : Nat) : Int)) oN1_at rfl (by decide) fun w2 h2 => ⟨?_, OwnW.same _ rfl rfl rfl rfl fun e he => ?_, ?_⟩
      · simp [oN1, go_sem]
      · replace he := mem_listed he
        simp [oN1, go_sem] at he
      replace hm := hm.rely h2
      refine WkG.idle T rfl (fun w => stepG_region_end) ?_
      refine WkG.idle T rfl (fun w => stepG_inLoop) ?_
      exact ih (j + 1) _ _ _ _ _ _ _ _ _ _ _ _ _ _ _ _ _ _ _ (by omega) hm
    · replace hm := hm.rely h7
      replace hbw := (h7.rely.keep bw (Array.getElem?_eq_some_iff.1 hbw).1 (.inl (.inr rfl))).trans hbw
      have e : b + (2 * k - 1 - (k + r)) = b + j := by omega
      rw [show k.add r = k + r from rfl, e]
      have ej : b + j - b = j := by omega
      have cut : ∀ {x : Addr} {v : Value}, KK N1 o c x.block → w1.cell? x = some v → w7.cell? x = some v := fun h1 h2 => hm.cell h1 h2
      refine worker54 (x := b + j) (w0 := w7) (gl := gl) (cl := cl) (co := co) (L := L) (f := f) (caps := caps) hn hk0 hk8 (by omega) (by omega) (.inr rfl) (.inl hK.kl) (.inl hK.kk) (.inl hK.kh) (.inl hK.kO) (.inl hK.kd) (.inl hK.kg)
        (by rw [ej]; exact (cell_of_row hbw).1) (cut hK.kl hK.c_l) hK.hal (cut hK.kk hK.ck) (cut hK.kh hK.ch) (cut hK.kO hK.cO) (cut hK.kd hK.cd) (fun i hi => cut hK.kg (hK.cL i hi)) ?_ hE
        (fun i hi hik base M w hs => hclo (b + j) _ w7 (by omega) (by omega) (fun y hy => .inl hy) hm i hi hik base M w hs)
      have hbwlt := (Array.getElem?_eq_some_iff.1 hbw).1
      obtain ⟨cs', a1, a2⟩ := hm.row
      refine ⟨fun y hy => ?_, fun _ _ => rfl, Nat.le_refl _, ⟨by have := hm.size; omega, id⟩, cs', a1, a2, fun p hp => by omega⟩
      rcases hy with ⟨h1, h2, h3⟩ | rfl
      · exact ⟨by have := hm.size; omega, id, h2⟩
      · exact ⟨hbwlt, id, by omega⟩
end
end Go.Proofs.Ytpigjhagdpeofaa.Sim

namespace Go.Proofs.Ytpigjhagdpeofaa.Sim
open Go Go.Conc
set_option linter.unusedVariables false
/-- What is asked of the closure: it reads the blocks D alone, and answers F at the list's places L. -/
structure Clo (f : FuncId) (caps : Array Value) (n : Nat) (F L : Nat → Int) (D : Nat → Prop) (w : World) : Prop where
  ent : Ent f
  ok : Sq.mem Sq.workFns f = true
  args : ∀ (x : Int) (i : Nat) v, (#[Value.int .i64 x] ++ caps)[i]? = some v → VRel (Sq.mem Sq.workFns) (Sq.ren D) v v
  cls : ∀ (x : Int) (h : Array Obj) (i : Nat) v, (#[Value.int .i64 x] ++ caps)[i]? = some v → InCls (Sq.ctx h (Sq.ren D) Sq.workFns) (Sq.cl f i) v
  run : ∃ m : Nat → Nat, Sq.Read m w Sq.workFns D ∧ ∀ w2 : World, (∀ y, D y → w2.heap[y]? = w.heap[y]?) → ∀ i, i < n → ∀ U : Nat → Question → Nat, Calls Sq.prog f (#[.int .i64 (L i)] ++ caps) (tp (Sq.heldM m w2) U 0) fun e _ => e = .returned (.int .i64 (F i))
theorem readTo {m : Nat → Nat} {w w2 : World} {l : List Nat} {D : Nat → Prop} (h : Sq.Read m w l D) (hs : w.heap.size ≤ w2.heap.size) (hk : ∀ y, D y → w2.heap[y]? = w.heap[y]?) : Sq.Read m w2 l D := by
  refine ⟨Nat.le_trans h.two hs, h.low, fun b hb => ?_⟩
  rw [hk b hb]
  exact h.row b hb
theorem Clo.hclo {f : FuncId} {caps : Array Value} {n : Nat} {F L : Nat → Int} {D : Nat → Prop} {w1 : World} {N1 o c k b : Nat} (h : Clo f caps n F L D w1) (hD : ∀ y, D y → KK N1 o c y) (hN : w1.heap.size = N1) :
    ∀ (x : Nat) (Rd : Nat → Prop) (w0 : World), b ≤ x → x - b < k → (∀ y, KK N1 o c y → Rd y) → HM N1 o c n w1 w0 → ∀ i, i < n → i % k = x - b → ∀ base M w, Sat o n k (x - b) Rd F w0 M w i → WkG Try.prog false (RW o k b x Rd) (DW o k b x Rd) (RetG Try.prog (DW o k b x Rd) base fun v M' w' => v = .int .i64 (F i) ∧ Sat o n k (x - b) Rd F w0 M' w' i) M (G (Frame.enter Try.prog f (#[.int .i64 (L i)] ++ caps) .normal) base) w := by
  intro x Rd w0 hb hx hRd hm i hi hik base M w hs
  have hkeep : ∀ y, D y → w.heap[y]? = w1.heap[y]? := fun y hy => (hs.keep y (hRd y (hD y hy))).trans (hm.keep y (hD y hy).1 (hD y hy).2.1 (hD y hy).2.2)
  obtain ⟨m, hrd, hcl⟩ := h.run
  have hread := readTo hrd (by rw [hN]; exact Nat.le_trans hm.size hs.size) hkeep
  have k1 : ∀ U : Nat → Question → Nat, Calls Sq.prog f (#[.int .i64 (L i)] ++ caps) (tp (Sq.heldM m w) U 0) fun e _ => ∃ v, e = .returned v ∧ v = .int .i64 (F i) := fun U => (hcl w hkeep i hi U).mono fun e w' he => ⟨_, he, rfl⟩
  have k2 : ∀ v, v = Value.int .i64 (F i) → Sim.flat v = true := fun v hv => by rw [hv]; rfl
  have k3 := h.args (L i)
  have k4 := h.cls (L i) (Sq.h (Sq.restM m w))
  generalize #[Value.int .i64 (L i)] ++ caps = args at k1 k3 k4 ⊢
  have key := Sq.call_wk (Post := fun v => v = .int .i64 (F i)) (mc := false) (base := base) hread h.ok k3 k4 k2 k1
  refine key.toW (o := o) (mine := Sim.cls b k x) (Rd := Rd) (N := M) (w0 := w) (i := M) ⟨?_, fun y hy => hRd y (hD y hy), fun y hy => ⟨Nat.lt_of_lt_of_le (hs.rd y hy).1 hs.size, id, (hs.rd y hy).2.2⟩, ⟨Nat.lt_of_lt_of_le hs.olow.1 hs.size, id⟩, Nat.le_refl _, fun _ _ => rfl, fun cs e fz ho => ⟨cs, ho, rfl, fun _ _ => rfl⟩⟩ ?_
  · funext y
    exact propext ⟨.inr, fun hy => hy.elim False.elim id⟩
  · intro v M' i' w' hv hB
    refine ⟨hv, fun y hy => ⟨(hs.rd y hy).1, ?_, (hs.rd y hy).2.2⟩, fun y hy => (hB.keep y hy).trans (hs.keep y hy), Nat.le_trans hs.size hB.size, ⟨hs.olow.1, ?_⟩, ?_⟩
    · rw [hB.eq]
      rintro (h1 | h1)
      · exact (hB.low y hy).2.1 h1
      · exact (hs.rd y hy).2.1 h1
    · rw [hB.eq]
      rintro (h1 | h1)
      · exact hB.olow.2 h1
      · exact hs.olow.2 h1
    · obtain ⟨cs, a1, a2, a3⟩ := hs.out
      obtain ⟨cs', b1, b2, b3⟩ := hB.out cs _ _ a1
      exact ⟨cs', b1, b2.trans a2, fun p hp hp2 hp3 => (b3 p ⟨hb, hp2⟩).trans (a3 p hp hp2 hp3)⟩
end Go.Proofs.Ytpigjhagdpeofaa.Sim
