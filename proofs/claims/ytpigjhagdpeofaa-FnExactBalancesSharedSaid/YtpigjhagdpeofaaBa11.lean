/-
  The starter in company, ahead of its workers: the head of impl.shared. No condition.
  The second program's impl.shared: it copies the oracle, or it tells what it was handed and panics. No condition.
  The second program's impl.shared as the functions meet it that call it: a row of its own, or a told call. No condition.
  toEntryS gives a copy in new memory, whose row holds no more than the copy. Condition: fewer than 1000000000 records.
  impl.BalancesShared over the second program: what it returns, or what it tells. No condition but the oracle.
  spec.l00Min and spec.l00Max by their contracts. No condition.
  spec.BalancesShared over the second program. No condition.
  toInt64S gives a copy in new memory. Condition: at most 1048576 integers.
  toEntryS gives a copy in new memory. Condition: fewer than 1000000000 records.
-/
import Derived.Test.YtpigjhagdpeofaaBa10
import Derived.Conc.SmallLaws
import Derived.Conc.AppendWalk
import Derived.Laws.MakeOwn
import Derived.Test.YtpigjhagdpeofaaBa7
import Derived.Test.YtpigjhagdpeofaaBa3
import Derived.Test.YtpigjhagdpeofaaBa2
import Derived.Test.YtpigjhagdpeofaaProg
import Derived.Test.YtpigjhagdpeofaaBa1

namespace Go.Proofs.Ytpigjhagdpeofaa.Sim
open Go Go.Conc
set_option linter.unusedVariables false
set_option maxRecDepth 100000

section
variable {I : Type} {P : Program} {m : Bool} {R : I → World → World → Prop} {D : I → I → World → World → Array Event → Prop} {fn : FuncId} {ops : Array Oper} {Q : Exit → Act → I → World → Prop} {md : Region.Mode} {S : I → World → Prop}
theorem OpG.value {n : Nat} {K : Act → I → World → Prop} {a : Act} {i : I} {w : World} {o : Oper} (ho : ops[n]? = some o) (hw : Region.wanted o (yielded ops a.tmps) = true)
    (h : ∀ w1, R i w w1 → ∃ v w' j, (execOp a.eval o).run P w1 = .ok (.value v) w' ∧ D i j w1 w' (evG P fn a o w1) ∧ K (a.put o.dst v) j w') : OpG P m R D fn ops n K a i w := by
  unfold OpG
  simp only [ho, hw, if_true]
  intro w1 h1
  obtain ⟨v, w', j, hr, hd, hk⟩ := h w1 h1
  rw [hr]
  exact ⟨j, hd, hk⟩
/-- A drawn region by an invariant over what has been taken. -/
theorem anyG_inv {J : Nat → Array Bool → Act → I → World → Prop} (hS : ∀ c listed a i w, J c listed a i w → S i w) (h0 : ∀ c listed a i w, J c listed a i w → Region.ready md ops listed = [] → Q .normal a i w) (hz : ∀ listed a i w, J 0 listed a i w → Region.ready md ops listed = [])
    (hstep : ∀ c listed a i w n, J c listed a i w → n ∈ Region.ready md ops listed → OpG P m R D fn ops n (fun a' i' w' => ∃ c', c' < c ∧ J c' (listed.setIfInBounds n true) a' i' w') a i w) :
    ∀ fuel c listed a i w, c ≤ fuel → J c listed a i w → AnyG P m R D fn md ops Q S fuel listed a i w := by
  intro fuel
  induction fuel with
  | zero =>
    intro c listed a i w hc hj
    obtain rfl : c = 0 := by omega
    exact ⟨hz _ _ _ _ hj, h0 _ _ _ _ _ hj (hz _ _ _ _ hj)⟩
  | succ fuel ih =>
    intro c listed a i w hc hj
    refine ⟨fun h => h0 _ _ _ _ _ hj h, fun n hn => OpG_mono (fun a' i' w' ⟨c', h1, h2⟩ => ⟨hS _ _ _ _ _ h2, ih c' _ _ _ _ (by omega) h2⟩) (hstep _ _ _ _ _ n hj hn)⟩
end

/-! ### alone but for goroutines that only leave -/
def RA : Unit → World → World → Prop := fun _ w w1 => AtRel w w1
/-- Blocks below N stand. -/
structure DA (N : Nat) (w w' : World) (es : Array Event) : Prop where
  tape : w'.tape = w.tape
  os : w'.os = w.os
  output : w'.output = w.output
  size : w.heap.size ≤ w'.heap.size
  keep : ∀ c, c < N → w'.heap[c]? = w.heap[c]?
  evs : ∀ e ∈ es, EvC (fun _ _ => True) w'.heap.size e
theorem DA.terms (N : Nat) : TermsG RA (fun _ _ => DA N) := ⟨fun _ w => atRel_refl w, fun _ a b c h k => atRel_trans a b c h k, fun _ w => ⟨rfl, rfl, rfl, Nat.le_refl _, fun _ _ => rfl, fun e he => by simp at he⟩⟩
theorem DA.quiet {N : Nat} {w : World} {es : Array Event} (h : ∀ e ∈ es, EvC (fun _ _ => True) w.heap.size e) : DA N w w es := ⟨rfl, rfl, rfl, Nat.le_refl _, fun _ _ => rfl, h⟩
theorem DA.draw (N : Nat) (w : World) : DA N w { w with drawn := w.drawn + 1 } #[] := ⟨rfl, rfl, rfl, Nat.le_refl _, fun _ _ => rfl, fun e he => by simp at he⟩
theorem heap_alloc_old {w : World} {ob y : Obj} {x : Nat} (h : w.heap[x]? = some y) : (w.alloc ob).heap[x]? = some y := by
  have := (Array.getElem?_eq_some_iff.1 h).1
  simp only [World.alloc, Array.getElem?_push]
  rw [if_neg (by omega)]
  exact h
theorem heap_alloc_lt {w : World} {ob : Obj} {x : Nat} (h : x < w.heap.size) : (w.alloc ob).heap[x]? = w.heap[x]? := by
  simp only [World.alloc, Array.getElem?_push]
  rw [if_neg (by omega)]
theorem heap_alloc_at {w : World} {ob : Obj} : (w.alloc ob).heap[w.heap.size]? = some ob := by show (w.heap.push ob)[w.heap.size]? = some ob; simp
theorem size_alloc' {w : World} {ob : Obj} : (w.alloc ob).heap.size = w.heap.size + 1 := by show (w.heap.push ob).size = _; simp
theorem DA.alloc {N : Nat} {w : World} {ob : Obj} {es : Array Event} (hN : N ≤ w.heap.size) (h : ∀ e ∈ es, EvC (fun _ _ => True) w.heap.size e) : DA N w (w.alloc ob) es :=
  ⟨rfl, rfl, rfl, by rw [size_alloc']; omega, fun c hc => heap_alloc_lt (by omega), fun e he => by
    rcases h e he with h | ⟨a, wr, h1, h2, h3⟩
    · exact .inl h
    · exact .inr ⟨a, wr, h1, h2, by rw [size_alloc']; omega⟩⟩
theorem heap_set_ne {w : World} {b x : Nat} {v : Value} (h : x ≠ b) : (w.setCell ⟨b, 0, none⟩ v).heap[x]? = w.heap[x]? := by
  simp only [World.setCell, Array.getElem?_modify]
  rw [if_neg (fun e => h e.symm)]
theorem heap_set_at {w : World} {b : Nat} {v u : Value} {e : TypeId} (h : w.heap[b]? = some (.cells #[u] e (0, 0))) : (w.setCell ⟨b, 0, none⟩ v).heap[b]? = some (.cells #[v] e (0, 0)) := by
  simp only [World.setCell, Array.getElem?_modify, if_true, h]
  rfl
theorem DA.set {N b : Nat} {w : World} {v : Value} {es : Array Event} (hN : N ≤ b) (h : ∀ e ∈ es, EvC (fun _ _ => True) w.heap.size e) : DA N w (w.setCell ⟨b, 0, none⟩ v) es := by
  have hs : (w.setCell ⟨b, 0, none⟩ v).heap.size = w.heap.size := by simp [World.setCell]
  refine ⟨rfl, rfl, rfl, Nat.le_of_eq hs.symm, fun c hc => heap_set_ne (by omega), fun e he => ?_⟩
  rw [hs]
  exact h e he
theorem cell_of_row {w : World} {b : Nat} {v : Value} {e : TypeId} (h : w.heap[b]? = some (.cells #[v] e (0, 0))) : w.cell? ⟨b, 0, none⟩ = some v ∧ w.frozen? ⟨b, 0, none⟩ = false := by
  simp [World.cell?, World.frozen?, h]
end Go.Proofs.Ytpigjhagdpeofaa.Sim

namespace Go.Proofs.Ytpigjhagdpeofaa
open Go.Proofs.Ytpigjhagdpeofaa.Sim
set_option linter.unusedVariables false
set_option maxRecDepth 100000
def Sq.rowF (n : Nat) (F : Nat → Int) : Array Value := ((List.range n).map fun p => Value.int .i64 (F p)).toArray
theorem Sq.rowF_at {n : Nat} {F : Nat → Int} {p : Nat} (h : p < n) : (Sq.rowF n F)[p]? = some (.int .i64 (F p)) := by simp [Sq.rowF, h]
/-- The world behind the call, the coin at 0. -/
def Sq.goW (n : Nat) (F : Nat → Int) (w : World) : World := { w with heap := (w.heap.push (.cells #[.int .i64 1] 2 (0, 0))).push (.cells (Sq.rowF n F) 2 (0, 0)), drawn := w.drawn + 1 }
theorem Sq.info2 : Sq.prog.info? 2 = some Try.t2 := by kernel_rfl
def Sq.coinW (w : World) : World := ({ Sq.lay w with drawn := w.drawn + 1 } : World).setCell ⟨w.heap.size, 0, none⟩ (.int .i64 1)
theorem Sq.lay_heap (w : World) : ({ Sq.lay w with drawn := w.drawn + 1 } : World).heap[w.heap.size]? = some (.cells #[.int .i64 0] 2 (0, 0)) := heap_alloc_at
theorem Sq.coin_heap (w : World) : (Sq.coinW w).heap[w.heap.size]? = some (.cells #[.int .i64 1] 2 (0, 0)) := heap_set_at (Sq.lay_heap w)
theorem Sq.coin_old {w : World} {b : Nat} (h : b < w.heap.size) : (Sq.coinW w).heap[b]? = w.heap[b]? := (heap_set_ne (by omega)).trans (heap_alloc_lt h)
theorem Sq.coin_size (w : World) : (Sq.coinW w).heap.size = w.heap.size + 1 := by
  show (({ Sq.lay w with drawn := w.drawn + 1 } : World).setCell _ _).heap.size = _
  simp only [World.setCell, Array.size_modify]
  exact size_alloc'
theorem Sq.heap_ext {w w' : World} (h : ∀ b : Nat, w.heap[b]? = w'.heap[b]?) (h2 : w = { w' with heap := w.heap }) : w = w' := by
  have e : w.heap = w'.heap := Array.ext_getElem? h
  rw [h2, e]
theorem Sq.setRow_at {w : World} {g : Nat} {cs cs' : Array Value} {e : TypeId} (h : w.heap[g]? = some (.cells cs e (0, 0))) : (w.setRow g cs').heap[g]? = some (.cells cs' e (0, 0)) := by
  simp only [World.setRow, Array.getElem?_modify, if_true, h]
  rfl
theorem Sq.go_tail {n cl : Nat} {al : Option Addr} {k : Int} {f : FuncId} {caps : Array Value} {F : Nat → Int} {w : World} {Q : Exit → Act → World → Prop} (hn : n < 1000000000) (h3 : 3 < w.heap.size) (hor : ∀ p, p < n → w.cell? ⟨3, p, none⟩ = some (.int .i64 (F p))) (hQ : Q .ret ⟨(#[.slice al n cl, .int .i64 k, .func (.func f) #[] caps, .pointer (some ⟨w.heap.size, 0, none⟩), .int .i64 0, .bool true, .slice (some ⟨w.heap.size + 1, 0, none⟩) n n, .int .i64 (n : Nat), .slice (some ⟨w.heap.size + 1, 0, none⟩) n n, .int .i64 (n : Nat), undef, undef, undef, undef, undef, undef, undef, undef, undef, undef, undef, undef, undef, undef, undef, undef, undef] : Array Value), []⟩ (Sq.goW n F w)) :
    wpOps Sq.prog Sq.coin (Exit.then (fun a w => Code.wp Sq.prog (match Sq.body33 with | .seq _ (.seq _ c) => c | _ => .skip) Q a w) Q) [0, 1] ⟨(#[.slice al n cl, .int .i64 k, .func (.func f) #[] caps, .pointer (some ⟨w.heap.size, 0, none⟩), undef, undef, undef, undef, undef, undef, undef, undef, undef, undef, undef, undef, undef, undef, undef, undef, undef, undef, undef, undef, undef, undef, undef] : Array Value), []⟩ { Sq.lay w with drawn := w.drawn + 1 } := by
  obtain ⟨c1, c2⟩ := Sim.cell_of_row (Sq.lay_heap w)
  refine wops_val (.int .i64 0) (o := Sq.ob (some 4) (.load 2 (.tmp 3)) 2) (w' := { Sq.lay w with drawn := w.drawn + 1 }) rfl rfl (by simp [Sq.ob, go_sem, c1]) ?_
  show wpOps _ _ _ _ ⟨(#[.slice al n cl, .int .i64 k, .func (.func f) #[] caps, .pointer (some ⟨w.heap.size, 0, none⟩), .int .i64 0, undef, undef, undef, undef, undef, undef, undef, undef, undef, undef, undef, undef, undef, undef, undef, undef, undef, undef, undef, undef, undef, undef] : Array Value), []⟩ _
  refine wops_skip (o := Sq.ob none (.store 2 (.tmp 3) (.const (.int .i64 1))) 0) (w' := Sq.coinW w) rfl rfl (by simp [Sq.ob, go_sem, c1, c2, Sq.coinW]) ?_
  show Code.wp Sq.prog (.seq _ _) _ ⟨(#[.slice al n cl, .int .i64 k, .func (.func f) #[] caps, .pointer (some ⟨w.heap.size, 0, none⟩), .int .i64 0, undef, undef, undef, undef, undef, undef, undef, undef, undef, undef, undef, undef, undef, undef, undef, undef, undef, undef, undef, undef, undef, undef] : Array Value), []⟩ _
  refine wp_seq ?_
  refine wp_region ?_
  show wpOps _ _ _ (0 :: []) _ _
  refine wops_val (.bool true) (o := Sq.ob (some 5) (.binOp .eql 2 (.tmp 4) (.const (.int .i64 0)) 2) 4) (w' := Sq.coinW w) rfl rfl (by simp [Sq.ob, go_sem]) ?_
  show Code.wp Sq.prog (.seq _ _) _ ⟨(#[.slice al n cl, .int .i64 k, .func (.func f) #[] caps, .pointer (some ⟨w.heap.size, 0, none⟩), .int .i64 0, .bool true, undef, undef, undef, undef, undef, undef, undef, undef, undef, undef, undef, undef, undef, undef, undef, undef, undef, undef, undef, undef, undef] : Array Value), []⟩ _
  refine wp_seq ?_
  refine wp_cond_true rfl ?_
  refine wp_skip ?_
  show Code.wp Sq.prog (.seq _ _) _ ⟨(#[.slice al n cl, .int .i64 k, .func (.func f) #[] caps, .pointer (some ⟨w.heap.size, 0, none⟩), .int .i64 0, .bool true, undef, undef, undef, undef, undef, undef, undef, undef, undef, undef, undef, undef, undef, undef, undef, undef, undef, undef, undef, undef, undef] : Array Value), []⟩ _
  refine wp_seq ?_
  refine wp_region ?_
  show wpOps _ _ _ (0 :: [1, 2, 3]) _ _
  refine wops_val (.int .i64 (n : Nat)) (o := Sq.ob (some 7) (.call { callee := .builtin .len, args := #[.tmp 0], argTypes := #[23] }) 3) (w' := Sq.coinW w) rfl rfl (by simp [Sq.ob, go_sem]) ?_
  show wpOps _ _ _ _ ⟨(#[.slice al n cl, .int .i64 k, .func (.func f) #[] caps, .pointer (some ⟨w.heap.size, 0, none⟩), .int .i64 0, .bool true, undef, .int .i64 (n : Nat), undef, undef, undef, undef, undef, undef, undef, undef, undef, undef, undef, undef, undef, undef, undef, undef, undef, undef, undef] : Array Value), []⟩ _
  have hm := run_make (P := Sq.prog) (Sq.coinW w) 23 2 Try.t2 (.int .i64 0) Sq.underlying23 Sq.info2 rfl .i64 .i64 n n (by omega) (Int.le_refl _) (by show (8 : Int) * n ≤ _; omega) (by omega)
  rw [Int.toNat_natCast, show n * Try.t2.size = n from Nat.mul_one n, Sq.coin_size] at hm
  refine wops_val (.slice (some ⟨w.heap.size + 1, 0, none⟩) n n) (o := Sq.ob (some 8) (.makeSlice 23 (.tmp 7) (.tmp 7)) 23) (w' := (Sq.coinW w).alloc (.cells (madeCells #[.int .i64 0] n) 2)) rfl rfl (by simp [Sq.ob, go_sem, hm]) ?_
  show wpOps _ _ _ _ ⟨(#[.slice al n cl, .int .i64 k, .func (.func f) #[] caps, .pointer (some ⟨w.heap.size, 0, none⟩), .int .i64 0, .bool true, undef, .int .i64 (n : Nat), .slice (some ⟨w.heap.size + 1, 0, none⟩) n n, undef, undef, undef, undef, undef, undef, undef, undef, undef, undef, undef, undef, undef, undef, undef, undef, undef, undef] : Array Value), []⟩ _
  have hg : ((Sq.coinW w).alloc (.cells (madeCells #[.int .i64 0] n) 2)).heap[w.heap.size + 1]? = some (.cells (madeCells #[.int .i64 0] n) 2 (0, 0)) := by rw [← Sq.coin_size]; exact heap_alloc_at
  have el : (Sq.rowF n F).toList.length = n := by simp [Sq.rowF]
  have hcp := run_copy_row (P := Sq.prog) ((Sq.coinW w).alloc (.cells (madeCells #[.int .i64 0] n) 2)) 23 23 3 2 (w.heap.size + 1) 0 n n ⟨3, 0, none⟩ 1000000000 1000000000 (madeCells #[.int .i64 0] n) 2 (Sq.rowF n F).toList Sq.underlying23 (by rw [Sq.info2]; rfl) hg (by rw [el]; exact (Nat.min_eq_right (by omega)).symm)
    (fun j v hv => by
      have hj : j < n := by
        have := (List.getElem?_eq_some_iff.1 hv).1
        simpa [Sq.rowF] using this
      have e : (Sq.rowF n F).toList[j]? = some (.int .i64 (F j)) := by simp [Sq.rowF, hj]
      rw [e] at hv
      cases hv
      have e2 : ((⟨3, 0, none⟩ : Addr).add j) = ⟨3, j, none⟩ := by simp [Addr.add]; intro h; exact h.symm
      rw [e2, ← hor j hj]
      unfold World.cell?
      rw [heap_alloc_lt (by show (3 : Nat) < (Sq.coinW w).heap.size; rw [Sq.coin_size]; omega), Sq.coin_old h3])
    (by rw [el, size_madeCells]; omega) (fun v hv => by simp [Sq.rowF] at hv; obtain ⟨p, _, rfl⟩ := hv; rfl)
  have ec : (madeCells #[Value.int .i64 0] n).toList.length = n := by rw [Array.length_toList, size_madeCells]
  rw [List.take_zero, List.nil_append, el, Nat.zero_add, List.drop_of_length_le (Nat.le_of_eq ec), List.append_nil, Array.toArray_toList] at hcp
  refine wops_val (.int .i64 (n : Nat)) (o := Sq.ob (some 9) (.call { callee := .builtin .copy, args := #[.tmp 8, .const (.slice (some ⟨3, 0, none⟩) 1000000000 1000000000)], argTypes := #[23, 23] }) 3) (w' := ((Sq.coinW w).alloc (.cells (madeCells #[.int .i64 0] n) 2)).setRow (w.heap.size + 1) (Sq.rowF n F)) rfl rfl ?_ ?_
  · simp [Sq.ob, execOp, resolve, invoke, builtin, go_sem, hcp]
  show wpOps _ _ _ _ ⟨(#[.slice al n cl, .int .i64 k, .func (.func f) #[] caps, .pointer (some ⟨w.heap.size, 0, none⟩), .int .i64 0, .bool true, undef, .int .i64 (n : Nat), .slice (some ⟨w.heap.size + 1, 0, none⟩) n n, .int .i64 (n : Nat), undef, undef, undef, undef, undef, undef, undef, undef, undef, undef, undef, undef, undef, undef, undef, undef, undef] : Array Value), []⟩ _
  refine wops_val (.slice (some ⟨w.heap.size + 1, 0, none⟩) n n) (o := Sq.ob (some 6) (.assign (.tmp 8)) 23) (w' := ((Sq.coinW w).alloc (.cells (madeCells #[.int .i64 0] n) 2)).setRow (w.heap.size + 1) (Sq.rowF n F)) rfl rfl (by simp [Sq.ob, go_sem]) ?_
  show Code.wp Sq.prog _ _ ⟨(#[.slice al n cl, .int .i64 k, .func (.func f) #[] caps, .pointer (some ⟨w.heap.size, 0, none⟩), .int .i64 0, .bool true, .slice (some ⟨w.heap.size + 1, 0, none⟩) n n, .int .i64 (n : Nat), .slice (some ⟨w.heap.size + 1, 0, none⟩) n n, .int .i64 (n : Nat), undef, undef, undef, undef, undef, undef, undef, undef, undef, undef, undef, undef, undef, undef, undef, undef, undef] : Array Value), []⟩ _
  refine wp_ret ?_
  have hs := Sq.coin_size w
  have ew : ((Sq.coinW w).alloc (.cells (madeCells #[.int .i64 0] n) 2)).setRow (w.heap.size + 1) (Sq.rowF n F) = Sq.goW n F w := ?_
  · rw [ew]; exact hQ
  refine Sq.heap_ext (fun b => ?_) rfl
  show _ = ((w.heap.push (.cells #[.int .i64 1] 2 (0, 0))).push (.cells (Sq.rowF n F) 2 (0, 0)))[b]?
  by_cases hb : b = w.heap.size + 1
  · subst hb
    rw [Sq.setRow_at hg, Array.getElem?_push, if_pos (by simp)]
  · rw [setRow_other _ _ _ _ hb, Array.getElem?_push, if_neg (by simp; omega), Array.getElem?_push]
    by_cases hb2 : b < w.heap.size
    · rw [heap_alloc_lt (by omega), Sq.coin_old hb2, if_neg (by omega)]
    · by_cases hb3 : b = w.heap.size
      · subst hb3
        rw [heap_alloc_lt (by omega), Sq.coin_heap, if_pos rfl]
      · rw [if_neg hb3, Array.getElem?_eq_none (by rw [size_alloc']; omega), Array.getElem?_eq_none (by omega)]
theorem Sq.go33 {n cl : Nat} {al : Option Addr} {k : Int} {f : FuncId} {caps : Array Value} {F : Nat → Int} {w : World} (hn : n < 1000000000) (h3 : 3 < w.heap.size) (ht : ∀ q, w.tape w.drawn q = 0) (hor : ∀ p, p < n → w.cell? ⟨3, p, none⟩ = some (.int .i64 (F p))) :
    Calls Sq.prog 33 #[.slice al n cl, .int .i64 k, .func (.func f) #[] caps] w fun e w' => e = .returned (.slice (some ⟨w.heap.size + 1, 0, none⟩) n n) ∧ w' = Sq.goW n F w := by
  refine Sq.to_coin (t := 0) ht ?_
  rw [Sq.coin0]
  exact Sq.go_tail hn h3 hor ⟨rfl, .slice (some ⟨w.heap.size + 1, 0, none⟩) n n, by simp [results, go_sem], rfl, rfl⟩
/-- The world behind the call, the coin at 1. -/
def Sq.panW (va vb vc : Value) (w : World) : World := ((Sq.coinW w).setCell ⟨2, 1, none⟩ (.func (.func 33) #[] #[va, vb, vc])).setCell ⟨2, 0, none⟩ (.int .i64 1)
theorem Sq.set_cell {w : World} {b i : Nat} {v : Value} {cs : Array Value} {e : TypeId} (h : w.heap[b]? = some (.cells cs e (0, 0))) : (w.setCell ⟨b, i, none⟩ v).heap[b]? = some (.cells (cs.setIfInBounds i v) e (0, 0)) := by
  simp only [World.setCell, Array.getElem?_modify, if_true, h]
  rfl
theorem Sq.cell_in {w : World} {b i : Nat} {cs : Array Value} {e : TypeId} (h : w.heap[b]? = some (.cells cs e (0, 0))) (hi : i < cs.size) : (∃ v, w.cell? ⟨b, i, none⟩ = some v) ∧ w.frozen? ⟨b, i, none⟩ = false := by
  refine ⟨⟨cs[i], ?_⟩, ?_⟩
  · simp [World.cell?, h, hi]
  · simp [World.frozen?, h]
theorem Sq.pan_tail {va vb vc : Value} {w : World} {cs : Array Value} {e0 : TypeId} {Q : Exit → Act → World → Prop} (hb : w.heap[2]? = some (.cells cs e0 (0, 0))) (hcs : cs.size = 2)
    (hQ : ∀ ch a w', Sq.panQ (fun w' => w' = Sq.panW va vb vc w ∧ w'.heap[2]? = some (.cells #[.int .i64 1, .func (.func 33) #[] #[va, vb, vc]] e0 (0, 0))) (.panic ch) a w' → Q (.panic ch) a w') :
    wpOps Sq.prog Sq.coin (Exit.then (fun a w => Code.wp Sq.prog (match Sq.body33 with | .seq _ (.seq _ c) => c | _ => .skip) Q a w) Q) [1, 0] ⟨(#[va, vb, vc, .pointer (some ⟨w.heap.size, 0, none⟩), undef, undef, undef, undef, undef, undef, undef, undef, undef, undef, undef, undef, undef, undef, undef, undef, undef, undef, undef, undef, undef, undef, undef] : Array Value), []⟩ { Sq.lay w with drawn := w.drawn + 1 } := by
  have h2 : 2 < w.heap.size := (Array.getElem?_eq_some_iff.1 hb).1
  obtain ⟨c1, c2⟩ := Sim.cell_of_row (Sq.lay_heap w)
  obtain ⟨d1, d2⟩ := Sim.cell_of_row (Sq.coin_heap w)
  refine wops_skip (o := Sq.ob none (.store 2 (.tmp 3) (.const (.int .i64 1))) 0) (w' := Sq.coinW w) rfl rfl (by simp [Sq.ob, go_sem, c1, c2, Sq.coinW]) ?_
  show wpOps _ _ _ _ ⟨(#[va, vb, vc, .pointer (some ⟨w.heap.size, 0, none⟩), undef, undef, undef, undef, undef, undef, undef, undef, undef, undef, undef, undef, undef, undef, undef, undef, undef, undef, undef, undef, undef, undef, undef] : Array Value), []⟩ _
  refine wops_val (.int .i64 1) (o := Sq.ob (some 4) (.load 2 (.tmp 3)) 2) (w' := Sq.coinW w) rfl rfl (by simp [Sq.ob, go_sem, d1]) ?_
  show Code.wp Sq.prog (.seq _ _) _ ⟨(#[va, vb, vc, .pointer (some ⟨w.heap.size, 0, none⟩), .int .i64 1, undef, undef, undef, undef, undef, undef, undef, undef, undef, undef, undef, undef, undef, undef, undef, undef, undef, undef, undef, undef, undef, undef] : Array Value), []⟩ _
  refine wp_seq ?_
  refine wp_region ?_
  show wpOps _ _ _ (0 :: []) _ _
  refine wops_val (.bool false) (o := Sq.ob (some 5) (.binOp .eql 2 (.tmp 4) (.const (.int .i64 0)) 2) 4) (w' := Sq.coinW w) rfl rfl (by simp [Sq.ob, go_sem]) ?_
  show Code.wp Sq.prog (.seq _ _) _ ⟨(#[va, vb, vc, .pointer (some ⟨w.heap.size, 0, none⟩), .int .i64 1, .bool false, undef, undef, undef, undef, undef, undef, undef, undef, undef, undef, undef, undef, undef, undef, undef, undef, undef, undef, undef, undef, undef] : Array Value), []⟩ _
  refine wp_seq ?_
  refine wp_cond_false rfl ?_
  refine wp_region ?_
  show wpOps _ _ _ (0 :: [1, 2, 3, 4]) _ _
  have e1 : (Sq.coinW w).heap[2]? = some (.cells cs e0 (0, 0)) := (Sq.coin_old h2).trans hb
  obtain ⟨⟨x1, y1⟩, z1⟩ := Sq.cell_in (i := 1) e1 (by omega)
  have e2 := Sq.set_cell (i := 1) (v := .func (.func 33) #[] #[va, vb, vc]) e1
  obtain ⟨⟨x2, y2⟩, z2⟩ := Sq.cell_in (i := 0) e2 (by simp; omega)
  have e3 := Sq.set_cell (i := 0) (v := .int .i64 1) e2
  refine wops_val (.func (.func 33) #[] #[va, vb, vc]) (o := Sq.ob (some 10) (.makeFunc (.func 33) #[] #[.tmp 0, .tmp 1, .tmp 2]) 58) (w' := Sq.coinW w) rfl rfl (by simp [Sq.ob, go_sem, Instr.makeFunc]) ?_
  show wpOps _ _ _ _ ⟨(#[va, vb, vc, .pointer (some ⟨w.heap.size, 0, none⟩), .int .i64 1, .bool false, undef, undef, undef, undef, .func (.func 33) #[] #[va, vb, vc], undef, undef, undef, undef, undef, undef, undef, undef, undef, undef, undef, undef, undef, undef, undef, undef] : Array Value), []⟩ _
  refine wops_skip (o := Sq.ob none (.store 58 (.const (.pointer (some ⟨2, 1, none⟩))) (.tmp 10)) 0) (w' := (Sq.coinW w).setCell ⟨2, 1, none⟩ (.func (.func 33) #[] #[va, vb, vc])) rfl rfl (by simp [Sq.ob, go_sem]; rw [run_store _ _ _ _ _ rfl]; simp [y1, z1]) ?_
  show wpOps _ _ _ _ ⟨(#[va, vb, vc, .pointer (some ⟨w.heap.size, 0, none⟩), .int .i64 1, .bool false, undef, undef, undef, undef, .func (.func 33) #[] #[va, vb, vc], undef, undef, undef, undef, undef, undef, undef, undef, undef, undef, undef, undef, undef, undef, undef, undef] : Array Value), []⟩ _
  refine wops_skip (o := Sq.ob none (.store 2 (.const (.pointer (some ⟨2, 0, none⟩))) (.const (.int .i64 1))) 0) (w' := Sq.panW va vb vc w) rfl rfl (by simp [Sq.ob, go_sem, y2, z2, Sq.panW]) ?_
  show wpOps _ _ _ _ ⟨(#[va, vb, vc, .pointer (some ⟨w.heap.size, 0, none⟩), .int .i64 1, .bool false, undef, undef, undef, undef, .func (.func 33) #[] #[va, vb, vc], undef, undef, undef, undef, undef, undef, undef, undef, undef, undef, undef, undef, undef, undef, undef, undef] : Array Value), []⟩ _
  refine wops_defer { target := .fn (.func 101) #[], args := #[] } (o := Sq.ob none (.defer { callee := .value (.func 101), args := #[], argTypes := #[] }) 0) (w' := Sq.panW va vb vc w) rfl rfl (by simp [Sq.ob, go_sem, Deferred.ofValue]) ?_
  show wpOps _ _ _ _ ⟨(#[va, vb, vc, .pointer (some ⟨w.heap.size, 0, none⟩), .int .i64 1, .bool false, undef, undef, undef, undef, .func (.func 33) #[] #[va, vb, vc], undef, undef, undef, undef, undef, undef, undef, undef, undef, undef, undef, undef, undef, undef, undef, undef] : Array Value), [{ target := .fn (.func 101) #[], args := #[] }]⟩ _
  refine wops_panic (.iface 3 (.int .i64 0)) (o := Sq.ob none (.panic (.const (.iface 3 (.int .i64 0)))) 0) (w' := Sq.panW va vb vc w) rfl rfl (by simp [Sq.ob, go_sem]) ?_
  refine hQ _ _ _ ⟨_, rfl, rfl, rfl, rfl, ?_⟩
  have e6 : (cs.setIfInBounds 1 (.func (.func 33) #[] #[va, vb, vc])).setIfInBounds 0 (.int .i64 1) = #[.int .i64 1, .func (.func 33) #[] #[va, vb, vc]] := by
    obtain ⟨l⟩ := cs
    match l, hcs with
    | [a, b], _ => rfl
  rw [e6] at e3
  exact e3
theorem Sq.pan33 {va vb vc : Value} {w : World} {cs : Array Value} {e0 : TypeId} (ht : ∀ q, w.tape w.drawn q = 1) (hb : w.heap[2]? = some (.cells cs e0 (0, 0))) (hcs : cs.size = 2) :
    Calls Sq.prog 33 #[va, vb, vc] w fun e w' => (∃ x ch, e = .panicked (x :: ch) ∧ ch.length = 1) ∧ w' = Sq.panW va vb vc w ∧ w'.heap[2]? = some (.cells #[.int .i64 1, .func (.func 33) #[] #[va, vb, vc]] e0 (0, 0)) := by
  refine (Sq.to_coin1 ht (K := fun w' => w' = Sq.panW va vb vc w ∧ w'.heap[2]? = some (.cells #[.int .i64 1, .func (.func 33) #[] #[va, vb, vc]] e0 (0, 0))) ?_)
  rw [Sq.coin1]
  exact Sq.pan_tail hb hcs fun _ _ _ h => h
theorem Sq.go_succ (ops : Array Oper) (fuel t : Nat) (listed : Array Bool) (acc l : List Nat) (i : Nat) (hl : Region.ready .any ops listed = l) (hi : l[t % l.length]? = some i) : Region.linearise.go .any ops (fuel + 1) t listed acc = Region.linearise.go .any ops fuel (t / l.length) (listed.setIfInBounds i true) (i :: acc) := by
  subst hl
  have e : Region.linearise.go .any ops (fuel + 1) t listed acc = match (Region.ready .any ops listed)[t % (Region.ready .any ops listed).length]? with
    | some i => Region.linearise.go .any ops fuel (t / (Region.ready .any ops listed).length) (listed.setIfInBounds i true) (i :: acc)
    | none => acc.reverse := by
    simp only [Region.linearise.go]
    rfl
  rw [e, hi]
theorem Sq.coin_lin (t : Nat) : Region.linearise .any Sq.coin t = [0, 1] ∨ Region.linearise .any Sq.coin t = [1, 0] := by
  show Region.linearise.go .any Sq.coin (1 + 1) t #[false, false] [] = _ ∨ Region.linearise.go .any Sq.coin (1 + 1) t #[false, false] [] = _
  rcases Nat.mod_two_eq_zero_or_one t with h | h
  · left
    rw [Sq.go_succ _ 1 t _ [] [0, 1] 0 (by kernel_rfl) (by show ([0, 1] : List Nat)[t % 2]? = _; rw [h]; rfl)]
    rw [Sq.go_succ _ 0 _ _ _ [1] 1 (by kernel_rfl) (by show ([1] : List Nat)[_ % 1]? = _; rw [Nat.mod_one]; rfl)]
    rfl
  · right
    rw [Sq.go_succ _ 1 t _ [] [0, 1] 1 (by kernel_rfl) (by show ([0, 1] : List Nat)[t % 2]? = _; rw [h]; rfl)]
    rw [Sq.go_succ _ 0 _ _ _ [0] 0 (by kernel_rfl) (by show ([0] : List Nat)[_ % 1]? = _; rw [Nat.mod_one]; rfl)]
    rfl
theorem Sq.coin_any (t : Nat) : Region.schedule (Sq.prog.follows .mixedOrders) Sq.coin t = [0, 1] ∨ Region.schedule (Sq.prog.follows .mixedOrders) Sq.coin t = [1, 0] := by
  have hd : Region.departs Sq.coin = false := by kernel_rfl
  simp only [Region.schedule, hd, Bool.not_false, Bool.or_true, if_true]
  exact Sq.coin_lin t
/-- On every tape: it copies the oracle, or it tells. -/
theorem Sq.any33 {n cl : Nat} {al : Option Addr} {k : Int} {f : FuncId} {caps : Array Value} {F : Nat → Int} {w : World} {cs : Array Value} {e0 : TypeId} (hn : n < 1000000000) (h3 : 3 < w.heap.size) (hor : ∀ p, p < n → w.cell? ⟨3, p, none⟩ = some (.int .i64 (F p))) (hb : w.heap[2]? = some (.cells cs e0 (0, 0))) (hcs : cs.size = 2) :
    Calls Sq.prog 33 #[.slice al n cl, .int .i64 k, .func (.func f) #[] caps] w fun e w' =>
      (e = .returned (.slice (some ⟨w.heap.size + 1, 0, none⟩) n n) ∧ w' = Sq.goW n F w) ∨
      ((∃ x ch, e = .panicked (x :: ch) ∧ ch.length = 1) ∧ w' = Sq.panW (.slice al n cl) (.int .i64 k) (.func (.func f) #[] caps) w ∧ w'.heap[2]? = some (.cells #[.int .i64 1, .func (.func 33) #[] #[.slice al n cl, .int .i64 k, .func (.func f) #[] caps]] e0 (0, 0))) := by
  let K : World → Prop := fun w' => w' = Sq.panW (.slice al n cl) (.int .i64 k) (.func (.func f) #[] caps) w ∧ w'.heap[2]? = some (.cells #[.int .i64 1, .func (.func 33) #[] #[.slice al n cl, .int .i64 k, .func (.func f) #[] caps]] e0 (0, 0))
  let Q : Exit → Act → World → Prop := fun e a w' => (e = .ret ∧ a.defers = [] ∧ (results Sq.f33 a.tmps).run Sq.prog w' = .ok (.slice (some ⟨w.heap.size + 1, 0, none⟩) n n) w' ∧ w' = Sq.goW n F w) ∨ Sq.panQ K e a w'
  have hw : Sq.body33.wp Sq.prog Q ⟨(#[.slice al n cl, .int .i64 k, .func (.func f) #[] caps, undef, undef, undef, undef, undef, undef, undef, undef, undef, undef, undef, undef, undef, undef, undef, undef, undef, undef, undef, undef, undef, undef, undef, undef] : Array Value), []⟩ w := by
    refine wp_seq ?_
    refine wp_region ?_
    show wpOps _ _ _ (0 :: []) _ _
    refine wops_val (.pointer (some ⟨w.heap.size, 0, none⟩)) (w' := Sq.lay w) rfl rfl (by simp [Sq.ob, go_sem, Sq.lay]) ?_
    show Code.wp _ _ _ _ _
    refine wp_seq ?_
    refine wp_region_draw fun t => ?_
    show wpOps Sq.prog Sq.coin (Exit.then (fun a w => Code.wp Sq.prog (match Sq.body33 with | .seq _ (.seq _ c) => c | _ => .skip) Q a w) Q) (Region.schedule (Sq.prog.follows .mixedOrders) Sq.coin t) ⟨(#[.slice al n cl, .int .i64 k, .func (.func f) #[] caps, .pointer (some ⟨w.heap.size, 0, none⟩), undef, undef, undef, undef, undef, undef, undef, undef, undef, undef, undef, undef, undef, undef, undef, undef, undef, undef, undef, undef, undef, undef, undef] : Array Value), []⟩ { Sq.lay w with drawn := w.drawn + 1 }
    rcases Sq.coin_any t with e | e <;> rw [e]
    · exact Sq.go_tail hn h3 hor (Or.inl ⟨rfl, rfl, by simp [results, go_sem], rfl⟩)
    · exact Sq.pan_tail hb hcs fun _ _ _ h => Or.inr h
  intro cs
  let b : Frame := { (default : Frame) with fn := 33, kind := .normal }
  have henter : Frame.enter Sq.prog 33 #[.slice al n cl, .int .i64 k, .func (.func f) #[] caps] .normal = b.at ⟨(#[.slice al n cl, .int .i64 k, .func (.func f) #[] caps, undef, undef, undef, undef, undef, undef, undef, undef, undef, undef, undef, undef, undef, undef, undef, undef, undef, undef, undef, undef, undef, undef, undef, undef] : Array Value), []⟩ [.code Sq.body33] := by
    simp [Frame.enter, Frame.at, b, Sq.f33]
  obtain ⟨e, a', w', hq, harr⟩ := hw b [] cs
  rcases hq with ⟨rfl, hd, hr, hG⟩ | ⟨ch, rfl, hd, hl, hk⟩
  · obtain ⟨todo, hs⟩ := harr
    rw [← henter] at hs
    exact ⟨.returned _, w', _, Or.inl ⟨rfl, hG⟩, hs, rfl, rfl, hd, rfl, Sq.f33, Sq.func33, hr⟩
  · obtain ⟨todo, n, hn⟩ := harr
    obtain ⟨m, x, todo', hm⟩ := Sq.pan_leave (b := b) (todo := todo) (cs := cs) (w := w') (ch := ch) hd
    refine ⟨.panicked (x :: ch), w', { b.at ⟨a'.tmps, []⟩ todo' with mode := .panicking (x :: ch) }, Or.inr ⟨⟨x, ch, rfl, hl⟩, hk⟩, ⟨n + m, ?_⟩, rfl, rfl, rfl, Sq.f33, Sq.func33⟩
    rw [henter, runN_add, hn]
    exact hm
end Go.Proofs.Ytpigjhagdpeofaa

namespace Go.Proofs.Ytpigjhagdpeofaa
open Go.RowKit Go.Proofs.Ytpigjhagdpeofaa.Sim
set_option linter.unusedVariables false
theorem Sq.rowF_tab (n : Nat) (F : Nat → Int) : (Sq.rowF n F).toList = (tab F n).map (Value.int .i64) := by
  refine List.ext_getElem? fun i => ?_
  by_cases h : i < n
  · rw [Array.getElem?_toList, Sq.rowF_at h, List.getElem?_map]
    have hl : i < (tab F n).length := by rw [tab_length]; exact h
    rw [List.getElem?_eq_getElem hl]
    have := tab_get F n i h
    rw [List.getD_eq_getElem?_getD, List.getElem?_eq_getElem hl] at this
    simp only [Option.getD_some] at this
    rw [this]
    rfl
  · rw [List.getElem?_eq_none (by simp [Sq.rowF]; omega), List.getElem?_eq_none (by rw [List.length_map, tab_length]; omega)]
theorem Sq.goW_own {n : Nat} {F : Nat → Int} {w : World} (hn : n < 1000000000) : Own 2 (Sq.goW n F w) w.heap.size (.slice (some ⟨w.heap.size + 1, 0, none⟩) n n) (tab F n) := by
  refine ⟨by simp, .inr ⟨w.heap.size + 1, n, Sq.rowF n F, by rw [tab_length], by omega, ?_, by rw [tab_length]; exact Nat.le_refl _, ?_, by simp [Sq.rowF], ?_⟩⟩
  · show ((w.heap.push _).push _)[w.heap.size + 1]? = _
    rw [Array.getElem?_push, if_pos (by simp)]
  · have : (1000000000 : Nat) ≤ maxLen := by decide
    omega
  · rw [tab_length, Nat.mul_one, List.take_of_length_le (by simp [Sq.rowF]), Sq.rowF_tab]
theorem Sq.goW_below {n : Nat} {F : Nat → Int} {w : World} : Below w.heap.size w (Sq.goW n F w) := by
  refine ⟨rfl, rfl, rfl, by simp [Sq.goW]; omega, fun b hb => ?_⟩
  show ((w.heap.push _).push _)[b]? = _
  rw [Array.getElem?_push, if_neg (by simp; omega), Array.getElem?_push, if_neg (by omega)]
theorem Sq.panW_old {va vb vc : Value} {w : World} {b : Nat} (hb : b < w.heap.size) (h2 : b ≠ 2) : (Sq.panW va vb vc w).heap[b]? = w.heap[b]? := by
  show (((Sq.coinW w).setCell ⟨2, 1, none⟩ _).setCell ⟨2, 0, none⟩ _).heap[b]? = _
  simp only [World.setCell, Array.getElem?_modify]
  rw [if_neg (fun e => h2 e.symm), if_neg (fun e => h2 e.symm)]
  have := Sq.coin_old hb
  exact this
/-- What is told. -/
def Told (Pre : World → Value → Value → Value → Prop) (e : Ending) (w' : World) : Prop :=
  ∃ x ch va vb vc e0, e = .panicked (x :: ch) ∧ ch.length = 1 ∧ w'.heap[2]? = some (.cells #[.int .i64 1, .func (.func 33) #[] #[va, vb, vc]] e0 (0, 0)) ∧ Pre w' va vb vc
/-- A world with a letter box, and the oracle's row. -/
structure Sat2 (n : Nat) (F : Nat → Int) (w : World) : Prop where
  box : ∃ cs e0, w.heap[2]? = some (.cells cs e0 (0, 0)) ∧ cs.size = 2
  orc : ∀ p, p < n → w.cell? ⟨3, p, none⟩ = some (.int .i64 (F p))
  low : 3 < w.heap.size
theorem Sat2.below {n : Nat} {F : Nat → Int} {w w' : World} (h : Sat2 n F w) (hb : Below w.heap.size w w') : Sat2 n F w' := by
  have h3 := h.low
  refine ⟨?_, fun p hp => ?_, Nat.lt_of_lt_of_le h3 hb.size⟩
  · rw [hb.block 2 (by omega)]; exact h.box
  · rw [← h.orc p hp]
    unfold World.cell?
    rw [hb.block 3 h3]
theorem Sq.sh33 {n cl gl : Nat} {k : Int} {f : FuncId} {caps : Array Value} {F : Nat → Int} {w : World} {Pre : World → Value → Value → Value → Prop} (hn : n < 1000000000) (hs : Sat2 n F w)
    (hPre : ∀ w', (∀ b, b ≠ 2 → b < w.heap.size → w'.heap[b]? = w.heap[b]?) → Pre w' (.slice (some ⟨gl, 0, none⟩) n cl) (.int .i64 k) (.func (.func f) #[] caps)) :
    Calls Sq.prog 33 #[.slice (some ⟨gl, 0, none⟩) n cl, .int .i64 k, .func (.func f) #[] caps] w fun e w' => (∃ v, e = .returned v ∧ Own 2 w' w.heap.size v (tab F n) ∧ Below w.heap.size w w') ∨ Told Pre e w' := by
  obtain ⟨cs, e0, hb, hcs⟩ := hs.box
  refine (Sq.any33 hn hs.low hs.orc hb hcs).mono ?_
  rintro e w' (⟨rfl, rfl⟩ | ⟨⟨x, ch, rfl, hl⟩, rfl, hlet⟩)
  · exact .inl ⟨_, rfl, Sq.goW_own hn, Sq.goW_below⟩
  · exact .inr ⟨x, ch, _, _, _, e0, rfl, hl, hlet, hPre _ fun b h1 h2 => Sq.panW_old h2 h1⟩
end Go.Proofs.Ytpigjhagdpeofaa

namespace Go.Proofs.Ytpigjhagdpeofaa
open Go.RowKit
set_option linter.unusedVariables false
/-- A block is a row of just m cells. -/
def Full (w : World) (g m : Nat) : Prop := ∃ cs e fz, w.heap[g]? = some (.cells cs e fz) ∧ cs.size = m
theorem Full.below {w w' : World} {g m B : Nat} (h : Full w g m) (hb : Below B w w') (hg : g < B) : Full w' g m := by
  obtain ⟨cs, e, fz, h1, h2⟩ := h
  exact ⟨cs, e, fz, by rw [hb.block g hg, h1], h2⟩
theorem Full.lt {w : World} {g m : Nat} (h : Full w g m) : g < w.heap.size := by
  obtain ⟨cs, e, fz, h1, h2⟩ := h
  exact (Array.getElem?_eq_some_iff.1 h1).1
theorem Full.set {w : World} {g m : Nat} (h : Full w g m) (b i : Nat) (v : Value) : Full (w.setCell ⟨b, i, none⟩ v) g m := by
  obtain ⟨cs, e, fz, h1, h2⟩ := h
  by_cases hb : b = g
  · subst hb
    refine ⟨cs.setIfInBounds i v, e, fz, ?_, by rw [Array.size_setIfInBounds]; exact h2⟩
    simp only [World.setCell, Array.getElem?_modify, if_true, h1]
    rfl
  · refine ⟨cs, e, fz, ?_, h2⟩
    simp only [World.setCell, Array.getElem?_modify]
    rw [if_neg hb]
    exact h1
theorem full_owns {w : World} {B g n size : Nat} {E : TypeId} {xs : List Value} (h : w.ownsRow B E size (.slice (some ⟨g, 0, none⟩) n n) n xs) : Full w g (n * size) := by
  obtain ⟨_, h2⟩ := h
  rcases h2 with ⟨h2, _⟩ | ⟨g', cap, cur, hv, _, hg, _, _, hs, _⟩
  · cases h2
  · cases hv
    exact ⟨cur, E, _, hg, hs⟩
def RowF (k : Nat) (w : World) (B : Nat) (v : Value) (X : Rec) : Prop := RowR k w B v X ∧ ∀ g, v.ownBlock = some g → Full w g (X.length * k)
theorem RowF.below {k : Nat} {w w' : World} {B : Nat} {v : Value} {X : Rec} (h : RowF k w B v X) (hb : Below w.heap.size w w') : RowF k w' B v X :=
  ⟨h.1.below hb, fun g hg => (h.2 g hg).below hb (h.1.lt g hg).2⟩
theorem wpList_mkF {P : Program} (w : World) {ops : Array Oper} {rest : List Oper} {o : Oper} {a : Act} {Q : Exit → Act → World → Prop}
    (hg : o.guard = none) (l c : Operand) (t : TypeId) (hop : o.op = Op.makeSlice t l c)
    (E : TypeId) (z : Value) (size bytes : Nat) (hi : (P.info? E).map (fun i => (i.zero, i.size, i.bytes)) = some (some z, size, bytes)) (hby : bytes ≤ 100) (ht : P.underlying t = some (.slice E))
    (kl kc : IntKind) (L C : Int) (n : Nat) (hl : a.eval l = .int kl L) (hc : a.eval c = .int kc C) (hL : L = (n : Int)) (hC : C = (n : Int)) (hn : n < 1000000000)
    (hK : ∀ w', There w' w.heap.size (n * size) → Full w' w.heap.size (n * size) → Below w.heap.size w w' → wpList P ops Q rest (a.put o.dst (.slice (some ⟨w.heap.size, 0, none⟩) n n)) w') :
    wpList P ops Q (o :: rest) a w := by
  obtain ⟨i0, hi0, hz0, hz1, hz2⟩ := info_parts hi
  have hb : i0.bytes * n ≤ 281474976710656 := by
    rw [hz2]
    have : bytes * n ≤ 100 * n := Nat.mul_le_mul_right n hby
    omega
  refine wpList_make_full w hg l c t hop w.heap.size E i0 z size ht hi0 hz0 hz1 kl kc L C n hl hc hL hC hb (by unfold maxLen; omega) (Nat.le_refl _) fun w' hown hgr => hK w' ⟨(World.ownsRow.lt hown _ rfl).2, fun i hi => ?_, fun i => World.ownsRow.frozenAt hown i⟩ (full_owns hown) ((Below.refl _ _).grown hgr (Nat.le_refl _) (fun k hk => by cases hk))
  have hlen := hown.1
  have := World.ownsRow.cells hown rfl i _ (List.getElem?_eq_getElem (by omega))
  have e1 : (⟨w.heap.size, 0, none⟩ : Addr).add i = ⟨w.heap.size, i, none⟩ := by unfold Addr.add; split <;> simp_all
  rw [e1] at this
  rw [this]
  rfl
theorem toEntry_anyF (a b c d : Int) (w : World) :
    Calls Sq.prog 29 #[.agg #[.int .i64 a, .int .i64 b, .int .i64 c, .int .i64 d]] w fun e w' => e = .returned (.agg #[.int .i64 a, .int .i64 b, .int .i64 c, .int .i64 d]) ∧ Below w.heap.size w w' := by
  go_enter Sq.func29, Sq.ntmps29
  go_wp2
  go_returns
  exact ⟨rfl, by go_grown⟩

set_option maxRecDepth 8000 in
set_option maxHeartbeats 400000 in
theorem toEntryS_coreF (n cap g off : Nat) (f : Nat → Int) (w : World) (hn : n < 1000000000) (hI : RowC w g off n 4 f) :
    Calls Sq.prog 8 #[.slice (some ⟨g, off, none⟩) n cap] w fun e w' => ∃ v, e = .returned v ∧ RowF 4 w' w.heap.size v ⟨n, f⟩ ∧ Below w.heap.size w w' := by
  go_enter Sq.func8, Sq.ntmps8
  go_wp2_with (first | (at_make; refine wpList_mkF _ rfl _ _ 27 rfl 52 (.agg #[.int .i64 0, .int .i64 0, .int .i64 0, .int .i64 0]) 4 32 (by kernel_rfl) (by decide) Sq.underlying27 _ _ _ _ n rfl rfl rfl rfl hn ?_; intro w1 hth hfu hb))
  go_loopw [4] (fun i wr => ∃ k : Nat, k ≤ n ∧ i = .int .i64 k ∧ There wr w.heap.size (n * 4) ∧ CellsTo wr w.heap.size (k * 4) f ∧ Full wr w.heap.size (n * 4) ∧ Below w.heap.size w wr) (fun i _ => n - (intOf i).toNat)
  case atStart => exact ⟨0, Nat.zero_le _, rfl, hth, fun i hi => absurd hi (by omega), hfu, hb⟩
  case round =>
    obtain ⟨k, hk, rfl, ht, hr, hf0, hbr⟩ := hrel
    by_cases hlt : k < n
    · have hc0 := Below.cellOf hbr rfl (hI k hlt 0 (by decide))
      have hc1 := Below.cellOf hbr rfl (hI k hlt 1 (by decide))
      have hc2 := Below.cellOf hbr rfl (hI k hlt 2 (by decide))
      have hc3 := Below.cellOf hbr rfl (hI k hlt 3 (by decide))
      rw [Nat.add_zero] at hc0
      go_wp2_with (first | (go_at_call 29; refine (toEntry_anyF _ _ _ _ _).mono ?_; rintro e w2 ⟨rfl, hb2⟩; have ht2 := ht.below hb2; have hr2 := hr.below hb2; have hf2 := hf0.below hb2 hf0.lt; obtain ⟨x0, y0⟩ := ht2.at (k * 4) (by omega); obtain ⟨x1, y1⟩ := ht2.at (k * 4 + 1) (by omega); obtain ⟨x2, y2⟩ := ht2.at (k * 4 + 2) (by omega); obtain ⟨x3, y3⟩ := ht2.at (k * 4 + 3) (by omega); have z0 := ht2.2.2 (k * 4); have z1 := ht2.2.2 (k * 4 + 1); have z2 := ht2.2.2 (k * 4 + 2); have z3 := ht2.2.2 (k * 4 + 3); clear ht))
      go_roundw
      have s0 : CellsTo (w2.setCell ⟨w.heap.size, k * 4, none⟩ (.int .i64 (f (k * 4)))) w.heap.size (k * 4 + 1) f := hr2.set ht2 (by omega)
      have t0 := ht2.set (k * 4) (.int .i64 (f (k * 4)))
      have s1 := s0.set (v := k * 4 + 1) t0 (by omega)
      have t1 := t0.set (k * 4 + 1) (.int .i64 (f (k * 4 + 1)))
      have s2 := s1.set (v := k * 4 + 2) t1 (by omega)
      have t2 := t1.set (k * 4 + 2) (.int .i64 (f (k * 4 + 2)))
      have s3 := s2.set (v := k * 4 + 3) t2 (by omega)
      have t3 := t2.set (k * 4 + 3) (.int .i64 (f (k * 4 + 3)))
      case rel => exact ⟨k + 1, by omega, by go_num, t3, by rw [show (k + 1) * 4 = k * 4 + 4 by omega]; exact s3, (((hf2.set _ _ _).set _ _ _).set _ _ _).set _ _ _, (((((hbr.trans (hb2.mono hbr.size)).setCell (Nat.le_refl _) _).setCell (Nat.le_refl _) _).setCell (Nat.le_refl _) _).setCell (Nat.le_refl _) _)⟩
      case measure => simp [intOf]; omega
    · obtain rfl : k = n := by omega
      go_wp2
      go_ret
      exact ⟨_, rfl, ⟨⟨w.heap.size, rfl, Nat.le_refl _, ht.1, hn, hr.row, ht.2.2⟩, fun g hg => by cases hg; exact hf0⟩, hbr⟩

theorem toEntryS_noneF (a : Option Addr) (cap : Nat) (f : Nat → Int) (w : World) :
    Calls Sq.prog 8 #[.slice a 0 cap] w fun e w' => ∃ v, e = .returned v ∧ RowF 4 w' w.heap.size v ⟨0, f⟩ ∧ Below w.heap.size w w' := by
  go_enter Sq.func8, Sq.ntmps8
  go_wp2_with (first | (at_make; refine wpList_mkF _ rfl _ _ 27 rfl 52 (.agg #[.int .i64 0, .int .i64 0, .int .i64 0, .int .i64 0]) 4 32 (by kernel_rfl) (by decide) Sq.underlying27 _ _ _ _ 0 rfl rfl rfl rfl (by decide) ?_; intro w1 hth hfu hb))
  go_rounds 1
  go_ret
  exact ⟨_, rfl, ⟨⟨w.heap.size, rfl, Nat.le_refl _, hth.1, by show (0 : Nat) < 1000000000; decide, fun i hi => absurd hi (Nat.not_lt_zero _), hth.2.2⟩, fun g hg => by cases hg; exact hfu⟩, hb⟩

theorem to_eF {w : World} {v : Value} {X : Rec} (h : InR 4 w v X) (hn : X.length < 1000000000) :
    Calls Sq.prog 8 #[v] w (fun e w' => ∃ v, e = .returned v ∧ RowF 4 w' w.heap.size v X ∧ Below w.heap.size w w') := by
  obtain ⟨a, cap, rfl, _, ha⟩ := h
  obtain ⟨n, f⟩ := X
  by_cases h0 : n = 0
  · subst h0; exact toEntryS_noneF a cap f w
  · obtain ⟨g, off, rfl, hI⟩ := ha h0
    exact toEntryS_coreF n cap g off f w hn hI
end Go.Proofs.Ytpigjhagdpeofaa

namespace Go.Proofs.Ytpigjhagdpeofaa
open Go.RowKit Go.Proofs.Ytpigjhagdpeofaa.Sim
set_option linter.unusedVariables false
def BalSh_r1 (X : Rec) (nd : Nat) (a : Nat → Int) (k : Int) : Bool := entriesOk X.f X.length && cntB a nd 0 16 0 36524 && isWorkers k
def BalSh_F (X : Rec) (a : Nat → Int) (i : Nat) : Int := posF X.f X.length (a i)
def BalSh_r0 (X : Rec) (nd : Nat) (a : Nat → Int) (k : Int) : List Int := bif BalSh_r1 X nd a k then tab (BalSh_F X a) nd else []
theorem balSh_no {X : Rec} {nd : Nat} {a : Nat → Int} {k : Int} (h : BalSh_r1 X nd a k = false) : BalSh_r0 X nd a k = [] := by simp only [BalSh_r0, h, cond_false]
theorem balSh_yes {X : Rec} {nd : Nat} {a : Nat → Int} {k : Int} (h : BalSh_r1 X nd a k = true) : BalSh_r0 X nd a k = tab (BalSh_F X a) nd := by simp only [BalSh_r0, h, cond_true]
/-- What the told call shows. -/
def PreB (N0 n : Nat) (F : Nat → Int) (w : World) (va vb vc : Value) : Prop :=
  ∃ (gl cl k m g p : Nat) (f L : Nat → Int), va = .slice (some ⟨gl, 0, none⟩) n cl ∧ vb = .int .i64 (k : Nat) ∧ 0 < k ∧ k ≤ 8 ∧ vc = .func (.func 34) #[] #[.pointer (some ⟨p, 0, none⟩)] ∧ N0 ≤ gl ∧ N0 ≤ g ∧ N0 ≤ p ∧
    Ints w gl 0 n L ∧ w.heap[p]? = some (.cells #[.slice (some ⟨g, 0, none⟩) m m] 27 (0, 0)) ∧ RowC w g 0 m 4 f ∧ Full w g (m * 4) ∧ entriesOk f m = true ∧ (∀ i, i < n → F i = posF f m (L i)) ∧ n ≤ 1048576
set_option maxHeartbeats 1600000 in
theorem balSh_core {w : World} {B gd cd : Nat} {u : Value} {X : Rec} {nd : Nat} {a : Nat → Int} {k : Int} (hu : RowF 4 w B u X) (hdB : B ≤ gd) (hdw : gd < w.heap.size) (hId : Ints w gd 0 nd a) (hnd : nd < 1000000000) (h4 : 3 < B) (hS : BalSh_r1 X nd a k = true → Sat2 nd (BalSh_F X a) w) :
    Calls Sq.prog 10 #[u, .slice (some ⟨gd, 0, none⟩) nd cd, .int .i64 k] w fun e w' => RetL1 2 w (BalSh_r0 X nd a k) (BalSh_r1 X nd a k) e w' ∨ Told (PreB B nd (BalSh_F X a)) e w' := by
  obtain ⟨⟨g, rfl, hgB, hgw, hn, hI, _⟩, hfu⟩ := hu
  have hfu := hfu g rfl
  obtain ⟨n, f⟩ := X
  have hb0 : Below w.heap.size w (w.alloc (.cells #[.slice (some ⟨g, 0, none⟩) n n] 27)) := by go_grown
  have hI1 := hI.below hb0
  have hId1 := hId.below hb0
  cases h : BalSh_r1 ⟨n, f⟩ nd a k
  · rw [balSh_no h]
    rcases first_no3 (show (entriesOk f n && cntB a nd 0 16 0 36524 && isWorkers k) = false from h) with h1 | ⟨h1, h2 | ⟨h2, h3⟩⟩
    all_goals clear h
    · go_enter Sq.func10, Sq.ntmps10
      go_wp2_with (first | (go_at_call 32; refine (impl_isWorkers_any _ _).mono ?_; rintro e w' ⟨rfl, rfl⟩) | (go_at_call 31; refine (hasCount_any nd gd 0 cd a _ _ _ _ _ hnd (hId1.below hb)).mono ?_; rintro e w2 ⟨rfl, hb2⟩; replace hb := hb.trans (hb2.mono hb.size)) | (go_at_call 30; refine (entries_impl n g f _ hn hI1).mono ?_; rintro e w1 ⟨rfl, hb⟩))
      go_ret2
      exact Or.inl (RetL1.no _ (bnext hb0 hb))
    · go_enter Sq.func10, Sq.ntmps10
      go_wp2_with (first | (go_at_call 32; refine (impl_isWorkers_any _ _).mono ?_; rintro e w' ⟨rfl, rfl⟩) | (go_at_call 31; refine (hasCount_any nd gd 0 cd a _ _ _ _ _ hnd (hId1.below hb)).mono ?_; rintro e w2 ⟨rfl, hb2⟩; replace hb := hb.trans (hb2.mono hb.size)) | (go_at_call 30; refine (entries_impl n g f _ hn hI1).mono ?_; rintro e w1 ⟨rfl, hb⟩))
      go_ret2
      exact Or.inl (RetL1.no _ (bnext hb0 hb))
    · go_enter Sq.func10, Sq.ntmps10
      go_wp2_with (first | (go_at_call 32; refine (impl_isWorkers_any _ _).mono ?_; rintro e w' ⟨rfl, rfl⟩; rw [h3]) | (go_at_call 31; refine (hasCount_any nd gd 0 cd a _ _ _ _ _ hnd (hId1.below hb)).mono ?_; rintro e w2 ⟨rfl, hb2⟩; replace hb := hb.trans (hb2.mono hb.size)) | (go_at_call 30; refine (entries_impl n g f _ hn hI1).mono ?_; rintro e w1 ⟨rfl, hb⟩))
      go_ret2
      exact Or.inl (RetL1.no _ (bnext hb0 hb))
  · rw [balSh_yes h]
    have hSat := hS h
    clear hS
    obtain ⟨h1, h2, h3⟩ := all_yes3 (show (entriesOk f n && cntB a nd 0 16 0 36524 && isWorkers k) = true from h)
    obtain ⟨k1, k8⟩ := win_iff.1 h3
    have H1 := Lib.hid h1
    have HL := Lib.hid (show nd ≤ 16 by have := (cntB_iff.1 h2).1.2; omega)
    clear h
    go_enter Sq.func10, Sq.ntmps10
    go_wp2_with (first | (go_at_call 32; refine (impl_isWorkers_any _ _).mono ?_; rintro e w' ⟨rfl, rfl⟩; rw [h3]) | (go_at_call 31; refine (hasCount_any nd gd 0 cd a _ _ _ _ _ hnd (hId1.below hb)).mono ?_; rintro e w2 ⟨rfl, hb2⟩; replace hb := hb.trans (hb2.mono hb.size)) | (go_at_call 30; refine (entries_impl n g f _ hn hI1).mono ?_; rintro e w1 ⟨rfl, hb⟩))
    have C := bnext hb0 hb
    obtain ⟨kk, rfl⟩ : ∃ kk : Nat, k = (kk : Int) := ⟨k.toNat, by omega⟩
    have hbox : w2.heap[w.heap.size]? = some (.cells #[.slice (some ⟨g, 0, none⟩) n n] 27 (0, 0)) := by
      rw [hb.block _ (by simp)]
      exact heap_alloc_at
    have hI2 := hI1.below hb
    have hId2 := hId1.below hb
    have hF2 := hfu.below C hgw
    refine (Sq.sh33 (Pre := PreB B nd (BalSh_F ⟨n, f⟩ a)) (F := BalSh_F ⟨n, f⟩ a) hnd (hSat.below C) ?_).mono ?_
    · intro w' hw'
      have hs := C.size
      have hgt := hF2.lt
      have hpt : w.heap.size < w2.heap.size := (Array.getElem?_eq_some_iff.1 hbox).1
      have cell : ∀ b i : Nat, 3 < b → b < w2.heap.size → w'.cell? ⟨b, i, none⟩ = w2.cell? ⟨b, i, none⟩ := fun b i h h' => by
        unfold World.cell?
        rw [hw' b (by omega) h']
      refine ⟨gd, cd, kk, n, g, w.heap.size, f, a, rfl, rfl, by omega, by omega, rfl, hdB, hgB, by omega, fun i hi => ?_, by rw [hw' _ (by omega) hpt]; exact hbox, fun i hi j hj => ?_, ?_, H1.out, fun i _ => rfl, by have := HL.out; omega⟩
      · rw [cell _ _ (by omega) (by omega)]; exact hId2 i hi
      · rw [cell _ _ (by omega) hgt]; exact hI2 i hi j hj
      · obtain ⟨cs, e, fz, q1, q2⟩ := hF2
        exact ⟨cs, e, fz, by rw [hw' _ (by omega) hgt]; exact q1, q2⟩
    · rintro e w3 (⟨v3, rfl, hv3, hb3⟩ | ⟨x, ch, va, vb, vc, e0, rfl, q1, q2, q3⟩)
      · go_wp2
        go_ret2
        exact Or.inl ⟨_, rfl, hv3.mono C.size, by rw [tab_length]; omega, bnext C hb3⟩
      · exact ⟨rfl, Or.inr ⟨x, ch, va, vb, vc, e0, rfl, q1, q2, q3⟩⟩
theorem BalSh_impl {w : World} {B : Nat} {u v : Value} {X : Rec} {ds : List Int} {k : Int} (hu : RowF 4 w B u X) (hv : RowI 2 w B v ds) (h4 : 3 < B) (hS : BalSh_r1 X ds.length (fun i => ds.getD i 0) k = true → Sat2 ds.length (BalSh_F X fun i => ds.getD i 0) w) :
    Calls Sq.prog 10 #[u, v, .int .i64 k] w fun e w' => RetL1 2 w (BalSh_r0 X ds.length (fun i => ds.getD i 0) k) (BalSh_r1 X ds.length (fun i => ds.getD i 0) k) e w' ∨ Told (PreB B ds.length (BalSh_F X fun i => ds.getD i 0)) e w' := by
  obtain ⟨gd, cd, rfl, hdB, hdw, _, _, hId, _, hnd⟩ := hv.form
  exact balSh_core hu hdB hdw hId hnd h4 hS
end Go.Proofs.Ytpigjhagdpeofaa

namespace Go.Proofs.Ytpigjhagdpeofaa
open Go.RowKit
set_option linter.unusedVariables false
theorem spec_l00Max_any (a b : Int) (w : World) : Calls Sq.prog 28 #[.int .i64 a, .int .i64 b] w fun e w' => e = .returned (.int .i64 (max a b)) ∧ w = w' := by
  go_enter Sq.func28, Sq.ntmps28
  go_wp2
  all_goals (go_ret; exact ⟨ret_int (by omega), rfl⟩)
theorem spec_l00Min_any (a b : Int) (w : World) : Calls Sq.prog 73 #[.int .i64 a, .int .i64 b] w fun e w' => e = .returned (.int .i64 (min a b)) ∧ w = w' := by
  go_enter Sq.func73, Sq.ntmps73
  go_wp2
  all_goals (go_ret; exact ⟨ret_int (by omega), rfl⟩)
end Go.Proofs.Ytpigjhagdpeofaa

namespace Go.Proofs.Ytpigjhagdpeofaa
open Go.RowKit Go.Proofs.Ytpigjhagdpeofaa.Sim
set_option linter.unusedVariables false
set_option maxHeartbeats 3200000 in
theorem balSh_spec_core {w : World} {g gd cd : Nat} {n nd : Nat} {f a : Nat → Int} {k : Int} (hn : n < 1000000000) (hI : RowC w g 0 n 4 f) (hId : Ints w gd 0 nd a) (hnd : nd < 1000000000) :
    Calls Sq.prog 7 #[.slice (some ⟨g, 0, none⟩) n n, .slice (some ⟨gd, 0, none⟩) nd cd, .int .i64 k] w (RetL1 2 w (BalSh_r0 ⟨n, f⟩ nd a k) (BalSh_r1 ⟨n, f⟩ nd a k)) := by
  have er : BalSh_r1 ⟨n, f⟩ nd a k = (entriesOk f n && cntB a nd 0 16 0 36524 && isWorkers k) := rfl
  rcases Bool.eq_false_or_eq_true (entriesOk f n) |>.symm with h1 | h1
  · have h : BalSh_r1 ⟨n, f⟩ nd a k = false := by rw [er, h1]; rfl
    rw [balSh_no h, h]
    clear h er
    go_enter Sq.func7, Sq.ntmps7
    go_wp2_with (first | (go_at_call 24; refine (entries_spec n g f _ hn hI).mono ?_; rintro e w1 ⟨rfl, hb⟩))
    go_ret2
    exact RetL1.no _ hb
  rcases Nat.lt_or_ge 16 nd with h2 | h2
  · have h : BalSh_r1 ⟨n, f⟩ nd a k = false := by
      rw [er, h1]
      cases hc : cntB a nd 0 16 0 36524
      · rfl
      · have := (cntB_iff.1 hc).1.2; omega
    rw [balSh_no h, h]
    clear h er
    go_enter Sq.func7, Sq.ntmps7
    go_wp2_with (first | (go_at_call 24; refine (entries_spec n g f _ hn hI).mono ?_; rintro e w1 ⟨rfl, hb⟩))
    go_ret2
    exact RetL1.no _ hb
  rcases Bool.eq_false_or_eq_true (isWorkers k) |>.symm with h3 | h3
  · have h : BalSh_r1 ⟨n, f⟩ nd a k = false := by rw [er, h3, Bool.and_false]
    rw [balSh_no h, h]
    clear h er
    go_enter Sq.func7, Sq.ntmps7
    go_wp2_with (first | (go_at_call 25; refine (spec_l00In_any _ _ _ _).mono ?_; rintro e w' ⟨rfl, rfl⟩) | (go_at_call 24; refine (entries_spec n g f _ hn hI).mono ?_; rintro e w1 ⟨rfl, hb⟩))
    go_ret2
    exact RetL1.no _ hb
  have H1 := Lib.hid h1
  have H3 := Lib.hid h3
  have HR := Lib.hid er
  obtain ⟨hn64, he⟩ := entries_is h1
  have HB : Hid (∀ d a, balF f d n a ≤ 64000000000) := fun d a => by
    have := bal_bd (d := d) (fun i hi => (he i hi).2.2.2) n (Nat.le_refl _) a
    omega
  have HS : Hid (∀ d k, k ≤ 12 → 0 ≤ sumTo (fun j => max (balF f d n j) 0) k ∧ sumTo (fun j => max (balF f d n j) 0) k ≤ 64000000000 * 12) := fun d k hk => by
    have := sumTo_bd (f := fun j => max (balF f d n j) 0) (l := 0) (h := 64000000000) (n := 12) (fun i _ => ⟨by omega, by have := HB.out d i; omega⟩) (by omega) (by omega) k hk
    omega
  clear er he
  go_enter Sq.func7, Sq.ntmps7
  go_wp2_with (first | (go_at_call 25; refine (spec_l00In_any _ _ _ _).mono ?_; rintro e w' ⟨rfl, rfl⟩) | (go_at_call 24; refine (entries_spec n g f _ hn hI).mono ?_; rintro e w1 ⟨rfl, hb⟩))
  go_loopw [8, 29] (fun v i wr => ∃ q : Nat, q ≤ nd ∧ i = .int .i64 q ∧ (∀ j, j < q → 0 ≤ a j ∧ a j ≤ 36524) ∧ Own 2 wr w.heap.size v (tab (BalSh_F ⟨n, f⟩ a) q) ∧ Below w.heap.size w wr) (fun _ i _ => nd - (intOf i).toNat)
  case atStart => exact ⟨0, Nat.zero_le _, rfl, fun j hj => absurd hj (Nat.not_lt_zero _), Own.made _ _ hb.size, hb.alloc hb.size _⟩
  case round =>
    obtain ⟨q, hq, rfl, hdays, hown, hbr⟩ := hrel
    by_cases hlt : q < nd
    · have hc := Below.cellOf hbr rfl (hId.at0 q hlt)
      cases hday : isDay (a q)
      · have h : BalSh_r1 ⟨n, f⟩ nd a k = false := by
          rw [HR.out]
          cases hc : cntB a nd 0 16 0 36524
          · simp
          · have := win_iff.2 ((cntB_iff.1 hc).2 q hlt)
            rw [show win (a q) 0 36524 = false from hday] at this
            cases this
        have H := Lib.hid h
        clear h
        go_wp2_with (first | (go_at_call 26; refine (spec_l03Day_any _ _).mono ?_; rintro e w' ⟨rfl, rfl⟩))
        go_ret2
        rw [balSh_no H.out, H.out]
        exact RetL1.no _ hbr
      · have hd2 := win_iff.1 hday
        have HD := Lib.hid hd2
        clear hd2
        go_wp2_with (first | (go_at_call 26; refine (spec_l03Day_any _ _).mono ?_; rintro e w' ⟨rfl, rfl⟩))
        refine (bal_spec n n g f (a q) _ (hI.below hbr) H1.out).mono ?_
        rintro e w2 ⟨v2, rfl, hv2, hb2⟩
        obtain ⟨a2, cap2, rfl, hs2⟩ := hv2.shape
        obtain ⟨g2, rfl, _⟩ := hs2 (by intro e; have := congrArg List.length e; rw [tab_length] at this; cases this)
        have HT := Lib.hid (tab_length (balF f (a q) n) 12)
        rw [HT.out]
        rw [HT.out] at hv2
        clear hs2
        have hown2 := hown.below hb2
        have hbr2 := hbr.trans (hb2.mono hbr.size)
        have HL := Lib.hid (tab_length (BalSh_F ⟨n, f⟩ a) q)
        go_wp2
        go_loop [11, 46] (fun s i => ∃ j : Nat, j ≤ 12 ∧ i = .int .i64 j ∧ s = .int .i64 (sumTo (fun j => max (balF f (a q) n j) 0) j)) (fun _ i => 12 - (intOf i).toNat)
        case atStart => exact ⟨0, Nat.zero_le _, rfl, rfl⟩
        case round =>
          obtain ⟨j, hj, rfl, rfl⟩ := hrel
          by_cases hlj : j < 12
          · have hcj := hv2.cellAt j (by rw [tab_length]; exact hlj)
            rw [tab_get _ _ _ hlj] at hcj
            have s1 := HS.out (a q) j hj
            have b1 := HB.out (a q) j
            have HE : Hid (sumTo (fun j => max (balF f (a q) n j) 0) (j + 1) = sumTo (fun j => max (balF f (a q) n j) 0) j + max (balF f (a q) n j) 0) := rfl
            go_wp2_with (first | (go_at_call 28; refine (spec_l00Max_any _ _ _).mono ?_; rintro e w' ⟨rfl, rfl⟩))
            go_round
            case rel => exact ⟨j + 1, by omega, by go_num, by rw [HE.out]; congr 2; omega⟩
            case measure => simp [intOf]; omega
          · obtain rfl : j = 12 := by omega
            go_wp2_with (first | (at_builtin; refine wpList_app1 _ rfl _ _ 23 rfl w.heap.size 2 Sq.infoI Sq.underlying23 _ _ rfl hown2 _ rfl (by have := HL.out; omega) hbr2.size ?_; intro v' w3 hown3 hb3))
            go_roundw
            case rel => exact ⟨q + 1, by omega, by go_num, fun j hj => by rcases Nat.lt_succ_iff_lt_or_eq.1 hj with h | rfl; exact hdays j h; exact HD.out, hown3, hbr2.trans hb3⟩
            case measure => simp [intOf]; omega
    · obtain rfl : q = nd := by omega
      have h : BalSh_r1 ⟨n, f⟩ q a k = true := by
        rw [HR.out, H1.out, H3.out, Bool.and_true, Bool.true_and]
        exact cntB_iff.2 ⟨⟨by omega, by omega⟩, fun i hi => hdays i hi⟩
      have H := Lib.hid h
      clear h
      go_wp2
      go_ret2
      rw [balSh_yes H.out, H.out]
      exact ⟨_, rfl, hown, by rw [tab_length]; exact hnd, hbr⟩
theorem BalSh_spec {w : World} {B B' : Nat} {u v : Value} {X : Rec} {ds : List Int} {k : Int} (hu : RowR 4 w B u X) (hv : RowI 2 w B' v ds) :
    Calls Sq.prog 7 #[u, v, .int .i64 k] w (RetL1 2 w (BalSh_r0 X ds.length (fun i => ds.getD i 0) k) (BalSh_r1 X ds.length (fun i => ds.getD i 0) k)) := by
  obtain ⟨g, rfl, _, _, hn, hI, _⟩ := hu
  obtain ⟨gd, cd, rfl, _, _, _, _, hId, _, hnd⟩ := hv.form
  exact balSh_spec_core hn hI hId hnd
end Go.Proofs.Ytpigjhagdpeofaa

namespace Go.Proofs.Ytpigjhagdpeofaa
open Go.RowKit
set_option linter.unusedVariables false

theorem copy_set (xs : List Int) (k : Nat) (h : k < xs.length) : (xs.take k ++ List.replicate (xs.length - k) 0).set k (xs.getD k 0) = xs.take (k + 1) ++ List.replicate (xs.length - (k + 1)) 0 := by
  rw [List.set_append]
  have hl : (xs.take k).length = k := by simp; omega
  have hr : xs.length - k = (xs.length - (k + 1)) + 1 := by omega
  rw [hl, if_neg (by omega), Nat.sub_self, hr, List.replicate_succ, List.set_cons_zero, List.take_succ_eq_append_getElem h, List.append_assoc, List.singleton_append]
  simp [List.getD, h]

set_option maxHeartbeats 400000 in
theorem to_core (a : Option Addr) (cap : Nat) (xs : List Int) (w : World) (hn : xs.length < 1000000000) (ha : xs ≠ [] → ∃ g off, a = some ⟨g, off, none⟩ ∧ Ints w g off xs.length (fun i => xs.getD i 0)) :
    Calls Sq.prog 9 #[.slice a xs.length cap] w fun e w' =>
      e = .returned (.slice (some ⟨w.heap.size, 0, none⟩) xs.length xs.length) ∧ Own 2 w' w.heap.size (.slice (some ⟨w.heap.size, 0, none⟩) xs.length xs.length) xs ∧ Below w.heap.size w w' := by
  obtain ⟨n, hN⟩ : ∃ n, n = xs.length := ⟨_, rfl⟩
  have HN := Lib.hid hN
  have H0 : n = 0 ∨ ∃ g off, a = some ⟨g, off, none⟩ ∧ Ints w g off n (fun i => xs.getD i 0) := by
    by_cases hx : xs = []
    · left; rw [hN, hx]; rfl
    · right; rw [hN]; exact ha hx
  rw [← hN] at hn ⊢
  clear hN ha
  rcases H0 with h0 | ⟨g, off, rfl, hI⟩
  · subst h0
    have hx : xs = [] := List.eq_nil_of_length_eq_zero HN.out.symm
    have HX := Lib.hid hx
    clear hx
    go_enter Sq.func9, Sq.ntmps9
    go_wp2_with (at_make; refine wpList_mk _ rfl _ _ 23 rfl w.heap.size 2 Sq.infoI Sq.underlying23 _ _ _ _ 0 rfl rfl rfl rfl (by omega) (Nat.le_refl _) ?_; intro w1 hown hb)
    go_rounds 1
    go_ret
    exact ⟨rfl, by rw [HX.out]; exact hown, hb⟩
  · go_enter Sq.func9, Sq.ntmps9
    go_wp2_with (at_make; refine wpList_mk _ rfl _ _ 23 rfl w.heap.size 2 Sq.infoI Sq.underlying23 _ _ _ _ n rfl rfl rfl rfl hn (Nat.le_refl _) ?_; intro w1 hown hb)
    go_loopw [4] (fun i wr => ∃ k : Nat, k ≤ n ∧ i = .int .i64 k ∧ Own 2 wr w.heap.size (.slice (some ⟨w.heap.size, 0, none⟩) n n) (xs.take k ++ List.replicate (n - k) 0) ∧ Below w.heap.size w wr) (fun i _ => n - (intOf i).toNat)
    case atStart => exact ⟨0, Nat.zero_le _, rfl, by simpa using hown, hb⟩
    case round =>
      obtain ⟨k, hk, rfl, ho, hbr⟩ := hrel
      have hl : (xs.take k ++ List.replicate (n - k) 0).length = n := by have := HN.out; simp; omega
      by_cases hlt : k < n
      · have hc := Below.cellOf hbr rfl (hI.at k hlt)
        obtain ⟨x, hx⟩ : ∃ x, wr.cell? ⟨w.heap.size, k, none⟩ = some x := ⟨_, ho.cellAt k (by omega)⟩
        have hf := ho.freeAt k
        have hd : (xs.getD k 0) = xs.getD k 0 := rfl
        have R := ho.set hl.symm k (xs.getD k 0)
        rw [HN.out, copy_set xs k (by rw [← HN.out]; exact hlt), ← HN.out] at R
        have HR := Lib.hid R
        have HL := Lib.hid hl
        generalize xs.getD k 0 = y at hc HR
        clear R hl ho hd
        go_wp2
        go_roundw
        case rel => exact ⟨k + 1, by omega, by go_num, HR.out, hbr.setCell (Nat.le_refl _) _⟩
        case measure => simp [intOf]; omega
      · obtain rfl : k = n := by omega
        have R : Own 2 wr w.heap.size (.slice (some ⟨w.heap.size, 0, none⟩) k k) xs := by
          have := ho
          rwa [List.take_of_length_le (by rw [HN.out]; exact Nat.le_refl _), Nat.sub_self, List.replicate_zero, List.append_nil] at this
        have HR := Lib.hid R
        have HL := Lib.hid hl
        clear R hl ho
        go_wp2
        go_ret
        exact ⟨rfl, HR.out, hbr⟩

/-- What toInt64S gives. -/
def CopyI (E : TypeId) (w : World) (xs : List Int) (e : Ending) (w' : World) : Prop := ∃ v, e = .returned v ∧ RowI E w' w.heap.size v xs ∧ Below w.heap.size w w'

theorem to_i {w : World} {v : Value} {xs : List Int} (h : InI w v xs) (hn : xs.length < 1000000000) :
    Calls Sq.prog 9 #[v] w (CopyI 2 w xs) := by
  obtain ⟨a, cap, rfl, ha⟩ := h
  exact (to_core a cap xs w hn ha).mono fun e w' ⟨he, ho, hb⟩ => ⟨_, he, ⟨ho, ⟨_, _, rfl⟩, hn⟩, hb⟩
end Go.Proofs.Ytpigjhagdpeofaa

namespace Go.Proofs.Ytpigjhagdpeofaa
open Go.RowKit
set_option linter.unusedVariables false

theorem toEntry_any (a b c d : Int) (w : World) :
    Calls Sq.prog 29 #[.agg #[.int .i64 a, .int .i64 b, .int .i64 c, .int .i64 d]] w fun e w' => e = .returned (.agg #[.int .i64 a, .int .i64 b, .int .i64 c, .int .i64 d]) ∧ Below w.heap.size w w' := by
  go_enter Sq.func29, Sq.ntmps29
  go_wp2
  go_returns
  exact ⟨rfl, by go_grown⟩

set_option maxRecDepth 8000 in
set_option maxHeartbeats 400000 in
theorem toEntryS_core (n cap g off : Nat) (f : Nat → Int) (w : World) (hn : n < 1000000000) (hI : RowC w g off n 4 f) :
    Calls Sq.prog 8 #[.slice (some ⟨g, off, none⟩) n cap] w fun e w' => ∃ v, e = .returned v ∧ RowR 4 w' w.heap.size v ⟨n, f⟩ ∧ Below w.heap.size w w' := by
  go_enter Sq.func8, Sq.ntmps8
  go_wp2_with (first | (at_make; refine wpList_mkR _ rfl _ _ 27 rfl 52 (.agg #[.int .i64 0, .int .i64 0, .int .i64 0, .int .i64 0]) 4 32 (by kernel_rfl) (by decide) Sq.underlying27 _ _ _ _ n rfl rfl rfl rfl hn ?_; intro w1 hth hb))
  go_loopw [4] (fun i wr => ∃ k : Nat, k ≤ n ∧ i = .int .i64 k ∧ There wr w.heap.size (n * 4) ∧ CellsTo wr w.heap.size (k * 4) f ∧ Below w.heap.size w wr) (fun i _ => n - (intOf i).toNat)
  case atStart => exact ⟨0, Nat.zero_le _, rfl, hth, fun i hi => absurd hi (by omega), hb⟩
  case round =>
    obtain ⟨k, hk, rfl, ht, hr, hbr⟩ := hrel
    by_cases hlt : k < n
    · have hc0 := Below.cellOf hbr rfl (hI k hlt 0 (by decide))
      have hc1 := Below.cellOf hbr rfl (hI k hlt 1 (by decide))
      have hc2 := Below.cellOf hbr rfl (hI k hlt 2 (by decide))
      have hc3 := Below.cellOf hbr rfl (hI k hlt 3 (by decide))
      rw [Nat.add_zero] at hc0
      go_wp2_with (first | (go_at_call 29; refine (toEntry_any _ _ _ _ _).mono ?_; rintro e w2 ⟨rfl, hb2⟩; have ht2 := ht.below hb2; have hr2 := hr.below hb2; obtain ⟨x0, y0⟩ := ht2.at (k * 4) (by omega); obtain ⟨x1, y1⟩ := ht2.at (k * 4 + 1) (by omega); obtain ⟨x2, y2⟩ := ht2.at (k * 4 + 2) (by omega); obtain ⟨x3, y3⟩ := ht2.at (k * 4 + 3) (by omega); have z0 := ht2.2.2 (k * 4); have z1 := ht2.2.2 (k * 4 + 1); have z2 := ht2.2.2 (k * 4 + 2); have z3 := ht2.2.2 (k * 4 + 3); clear ht))
      go_roundw
      have s0 : CellsTo (w2.setCell ⟨w.heap.size, k * 4, none⟩ (.int .i64 (f (k * 4)))) w.heap.size (k * 4 + 1) f := hr2.set ht2 (by omega)
      have t0 := ht2.set (k * 4) (.int .i64 (f (k * 4)))
      have s1 := s0.set (v := k * 4 + 1) t0 (by omega)
      have t1 := t0.set (k * 4 + 1) (.int .i64 (f (k * 4 + 1)))
      have s2 := s1.set (v := k * 4 + 2) t1 (by omega)
      have t2 := t1.set (k * 4 + 2) (.int .i64 (f (k * 4 + 2)))
      have s3 := s2.set (v := k * 4 + 3) t2 (by omega)
      have t3 := t2.set (k * 4 + 3) (.int .i64 (f (k * 4 + 3)))
      case rel => exact ⟨k + 1, by omega, by go_num, t3, by rw [show (k + 1) * 4 = k * 4 + 4 by omega]; exact s3, (((((hbr.trans (hb2.mono hbr.size)).setCell (Nat.le_refl _) _).setCell (Nat.le_refl _) _).setCell (Nat.le_refl _) _).setCell (Nat.le_refl _) _)⟩
      case measure => simp [intOf]; omega
    · obtain rfl : k = n := by omega
      go_wp2
      go_ret
      exact ⟨_, rfl, ⟨w.heap.size, rfl, Nat.le_refl _, ht.1, hn, hr.row, ht.2.2⟩, hbr⟩

theorem toEntryS_none (a : Option Addr) (cap : Nat) (f : Nat → Int) (w : World) :
    Calls Sq.prog 8 #[.slice a 0 cap] w fun e w' => ∃ v, e = .returned v ∧ RowR 4 w' w.heap.size v ⟨0, f⟩ ∧ Below w.heap.size w w' := by
  go_enter Sq.func8, Sq.ntmps8
  go_wp2_with (first | (at_make; refine wpList_mkR _ rfl _ _ 27 rfl 52 (.agg #[.int .i64 0, .int .i64 0, .int .i64 0, .int .i64 0]) 4 32 (by kernel_rfl) (by decide) Sq.underlying27 _ _ _ _ 0 rfl rfl rfl rfl (by decide) ?_; intro w1 hth hb))
  go_rounds 1
  go_ret
  exact ⟨_, rfl, ⟨w.heap.size, rfl, Nat.le_refl _, hth.1, by show (0 : Nat) < 1000000000; decide, fun i hi => absurd hi (Nat.not_lt_zero _), hth.2.2⟩, hb⟩

theorem to_e {w : World} {v : Value} {X : Rec} (h : InR 4 w v X) (hn : X.length < 1000000000) :
    Calls Sq.prog 8 #[v] w (fun e w' => ∃ v, e = .returned v ∧ RowR 4 w' w.heap.size v X ∧ Below w.heap.size w w') := by
  obtain ⟨a, cap, rfl, _, ha⟩ := h
  obtain ⟨n, f⟩ := X
  by_cases h0 : n = 0
  · subst h0; exact toEntryS_none a cap f w
  · obtain ⟨g, off, rfl, hI⟩ := ha h0
    exact toEntryS_core n cap g off f w hn hI
end Go.Proofs.Ytpigjhagdpeofaa
