/-
  The laws' helpers on slices of integers, by contracts: eqInt64S of two slices that hold the same integers is true; markInt64S writes k, k + 1, ..; heldInt64S of what was so marked is k + its length. Condition: fewer than 1000000000 integers.
  How the slices of integers among a call's arguments are opened: each reads as a list of integers. No program in sight. No condition.
  How slices of structs of integers among a call's arguments are opened. No program in sight. No condition.
  eqEntryS of two copies of the same records is true; szEntryS. Condition: fewer than 1000000000 records.
  markEntryS writes k, k + 1, .. into a copy of records in the call's own memory. Condition: fewer than 1000000000 records.
  impl.shared in company, ahead of its workers: its variables, its row, its channel. No condition.
  impl.shared in company, ahead of its workers: the row and the channel, made in any order. No condition.
-/
import Derived.Test.YtpigjhagdpeofaaBa2
import Derived.Test.YtpigjhagdpeofaaProg
import Derived.Test.YtpigjhagdpeofaaBa1
import Derived.OpenShut
import Derived.Below
import Derived.Carry
import Derived.Lib.SmallJoins
import Derived.Test.YtpigjhagdpeofaaBa3
import Derived.Deep.Slices
import Derived.Deep.Fields
import Derived.ChangeSame
import Derived.Deep.RegionHeld3
import Derived.Test.YtpigjhagdpeofaaBa11

namespace Go.Proofs.Ytpigjhagdpeofaa
open Go.RowKit
set_option linter.unusedVariables false

/-- k, k + 1, .. -/
def marks (k : Int) : Nat → List Int
  | 0 => []
  | n + 1 => marks k n ++ [k + n]
theorem marks_length (k : Int) (n : Nat) : (marks k n).length = n := by
  induction n with
  | zero => rfl
  | succ n ih => simp [marks, ih]
theorem marks_get (k : Int) (n i : Nat) (h : i < n) : (marks k n).getD i 0 = k + i := by
  induction n with
  | zero => omega
  | succ n ih =>
    have hl := marks_length k n
    by_cases hi : i < n
    · have := ih hi
      simp only [marks, List.getD, List.getElem?_append, hl, hi, if_true] at this ⊢
      exact this
    · obtain rfl : i = n := by omega
      simp [marks, List.getD, hl]

set_option maxHeartbeats 400000 in
theorem eq_core (n g1 g2 c1 c2 : Nat) (f : Nat → Int) (w : World) (hn : n < 1000000000) (H1 : Ints w g1 0 n f) (H2 : Ints w g2 0 n f) :
    Calls Sq.prog 11 #[.slice (some ⟨g1, 0, none⟩) n c1, .slice (some ⟨g2, 0, none⟩) n c2] w fun e w' => e = .returned (.bool true) ∧ Below w.heap.size w w' := by
  go_enter Sq.func11, Sq.ntmps11
  go_wp2
  go_loopw [5] (fun i wr => ∃ k : Nat, k ≤ n ∧ i = .int .i64 k ∧ Below w.heap.size w wr) (fun i _ => n - (intOf i).toNat)
  case atStart => exact ⟨0, Nat.zero_le _, rfl, Below.refl _ _⟩
  case round =>
    obtain ⟨k, hk, rfl, hb⟩ := hrel
    by_cases hlt : k < n
    · have c1 := Below.cellOf hb rfl (H1.at0 k hlt)
      have c2 := Below.cellOf hb rfl (H2.at0 k hlt)
      go_wp2
      go_quiet (fail)
      go_wp2
      go_roundw
      case rel => exact ⟨k + 1, by omega, by go_num, Below.drewN' hb _⟩
      case measure => simp [intOf]; omega
    · go_wp2
      go_ret
      exact ⟨rfl, hb⟩

theorem eq_none (a1 a2 : Option Addr) (c1 c2 : Nat) (w : World) :
    Calls Sq.prog 11 #[.slice a1 0 c1, .slice a2 0 c2] w fun e w' => e = .returned (.bool true) ∧ Below w.heap.size w w' := by
  go_enter Sq.func11, Sq.ntmps11
  go_wp2
  go_rounds 1
  go_ret
  exact ⟨rfl, Below.refl _ _⟩

theorem eq_i {E : TypeId} {w : World} {B1 B2 : Nat} {v1 v2 : Value} {xs : List Int} (h1 : Own E w B1 v1 xs) (h2 : Own E w B2 v2 xs) (hn : xs.length < 1000000000) :
    Calls Sq.prog 11 #[v1, v2] w fun e w' => e = .returned (.bool true) ∧ Below w.heap.size w w' := by
  obtain ⟨a1, c1, rfl, k1⟩ := h1.shape
  obtain ⟨a2, c2, rfl, k2⟩ := h2.shape
  by_cases hx : xs = []
  · subst hx
    exact eq_none a1 a2 c1 c2 w
  · obtain ⟨g1, rfl, _, _, _, _, i1, _⟩ := k1 hx
    obtain ⟨g2, rfl, _, _, _, _, i2, _⟩ := k2 hx
    exact eq_core xs.length g1 g2 c1 c2 _ w hn i1 i2
theorem marks_set (k : Int) (xs : List Int) (j : Nat) (h : j < xs.length) : (marks k j ++ xs.drop j).set j (k + j) = marks k (j + 1) ++ xs.drop (j + 1) := by
  have hl := marks_length k j
  rw [List.set_append]
  simp only [hl, Nat.lt_irrefl, if_false, Nat.sub_self]
  rw [List.drop_eq_getElem_cons h]
  simp only [List.set_cons_zero, marks, List.append_assoc, List.singleton_append]

set_option maxHeartbeats 400000 in
theorem mark_core {E : TypeId} (g c B : Nat) (xs : List Int) (k0 : Int) (w : World) (hn : xs.length < 1000000000) (hk0 : 0 ≤ k0) (hk1 : k0 < 100000000000) (h : Own E w B (.slice (some ⟨g, 0, none⟩) xs.length c) xs) :
    Calls Sq.prog 14 #[.slice (some ⟨g, 0, none⟩) xs.length c, .int .i64 k0] w fun e w' =>
      e = .returned (.int .i64 (k0 + xs.length)) ∧ Own E w' B (.slice (some ⟨g, 0, none⟩) xs.length c) (marks k0 xs.length) ∧ Only g (g + 1) w w' := by
  obtain ⟨n, hN⟩ : ∃ n, n = xs.length := ⟨_, rfl⟩
  have HN := Lib.hid hN
  rw [← hN] at h hn ⊢
  clear hN
  go_enter Sq.func14, Sq.ntmps14
  go_wp2
  go_loopw [1, 5] (fun kv i wr => ∃ j : Nat, j ≤ n ∧ i = .int .i64 j ∧ kv = .int .i64 (k0 + j) ∧ Own E wr B (.slice (some ⟨g, 0, none⟩) n c) (marks k0 j ++ xs.drop j) ∧ Only g (g + 1) w wr) (fun _ i _ => n - (intOf i).toNat)
  case atStart => exact ⟨0, Nat.zero_le _, rfl, by go_num, by simpa [marks] using h, Only.refl _ _ _⟩
  case round =>
    obtain ⟨j, hj, rfl, rfl, ho, hb⟩ := hrel
    have hl : (marks k0 j ++ xs.drop j).length = n := by rw [HN.out, List.length_append, marks_length, List.length_drop]; rw [HN.out] at hj; omega
    by_cases hlt : j < n
    · obtain ⟨x, hx⟩ : ∃ x, wr.cell? ⟨g, j, none⟩ = some x := by
        rcases ho.form with ⟨h0, _⟩ | ⟨g', c', hv, _, _, _, _, hi, _⟩
        · cases h0
        · simp only [Value.slice.injEq, Option.some.injEq, Addr.mk.injEq, and_true] at hv
          obtain ⟨rfl, _, rfl⟩ := hv
          exact ⟨_, hi.at0 j (by omega)⟩
      have hf : wr.frozen? ⟨g, j, none⟩ = false := by
        rcases ho.form with ⟨h0, _⟩ | ⟨g', c', hv, _, _, _, _, _, hfz⟩
        · cases h0
        · simp only [Value.slice.injEq, Option.some.injEq, Addr.mk.injEq, and_true] at hv
          obtain ⟨rfl, _, rfl⟩ := hv
          exact hfz j
      have R := ho.set hl.symm j (k0 + j)
      rw [marks_set k0 xs j (by rw [← HN.out]; exact hlt)] at R
      have HR := Lib.hid R
      have HL := Lib.hid hl
      clear R hl ho
      go_wp2
      go_roundw
      case rel => exact ⟨j + 1, by omega, by go_num, by go_num, HR.out, hb.setCell (Nat.le_refl _) (Nat.lt_succ_self _) _⟩
      case measure => simp [intOf]; omega
    · obtain rfl : j = n := by omega
      have R : Own E wr B (.slice (some ⟨g, 0, none⟩) j c) (marks k0 j) := by
        have := ho
        rwa [List.drop_of_length_le (by rw [HN.out]; exact Nat.le_refl _), List.append_nil] at this
      have HR := Lib.hid R
      have HL := Lib.hid hl
      clear R hl ho
      go_wp2
      go_ret
      exact ⟨rfl, HR.out, hb⟩

theorem mark_none (a : Option Addr) (c : Nat) (k0 : Int) (w : World) :
    Calls Sq.prog 14 #[.slice a 0 c, .int .i64 k0] w fun e w' => e = .returned (.int .i64 k0) ∧ w = w' := by
  go_enter Sq.func14, Sq.ntmps14
  go_wp2
  go_rounds 1
  go_ret
  exact ⟨rfl, rfl⟩

/-- What marking leaves. -/
def Marked (E : TypeId) (w : World) (B : Nat) (v : Value) (n : Nat) (k0 : Int) (e : Ending) (w' : World) : Prop :=
  e = .returned (.int .i64 (k0 + n)) ∧ Own E w' B v (marks k0 n) ∧ ∀ lo hi, (∀ b, v.ownBlock = some b → lo ≤ b ∧ b < hi) → Only lo hi w w'

theorem mark_i {E : TypeId} {w : World} {B : Nat} {v : Value} {xs : List Int} (k0 : Int) (h : Own E w B v xs) (hn : xs.length < 1000000000) (hk0 : 0 ≤ k0) (hk1 : k0 < 100000000000) :
    Calls Sq.prog 14 #[v, .int .i64 k0] w (Marked E w B v xs.length k0) := by
  have h0 := h
  obtain ⟨a, c, rfl, k⟩ := h.shape
  by_cases hx : xs = []
  · subst hx
    refine (mark_none a c k0 w).mono fun e w' ⟨he, hw⟩ => ?_
    subst hw
    exact ⟨by rw [he]; simp, h0, fun _ _ _ => Only.refl _ _ _⟩
  · obtain ⟨g, rfl, _⟩ := k hx
    refine (mark_core g c B xs k0 w hn hk0 hk1 h0).mono fun e w' ⟨he, ho, hb⟩ => ⟨he, ho, fun lo hi hr => ?_⟩
    obtain ⟨h1, h2⟩ := hr g rfl
    exact ⟨hb.os, hb.tape, hb.output, hb.size, fun k hk hd => hb.block k hk (by omega)⟩

set_option maxHeartbeats 400000 in
theorem held_core (n g c : Nat) (k0 : Int) (w : World) (hn : n < 1000000000) (hk0 : 0 ≤ k0) (hk1 : k0 < 100000000000) (H : Ints w g 0 n (fun i => k0 + i)) :
    Calls Sq.prog 15 #[.slice (some ⟨g, 0, none⟩) n c, .int .i64 k0] w fun e w' => e = .returned (.int .i64 (k0 + n)) ∧ Below w.heap.size w w' := by
  go_enter Sq.func15, Sq.ntmps15
  go_wp2
  go_loopw [1, 5] (fun kv i wr => ∃ j : Nat, j ≤ n ∧ i = .int .i64 j ∧ kv = .int .i64 (k0 + j) ∧ Below w.heap.size w wr) (fun _ i _ => n - (intOf i).toNat)
  case atStart => exact ⟨0, Nat.zero_le _, rfl, by go_num, Below.refl _ _⟩
  case round =>
    obtain ⟨j, hj, rfl, rfl, hb⟩ := hrel
    by_cases hlt : j < n
    · have c1 := Below.cellOf hb rfl (H.at0 j hlt)
      go_wp2
      go_roundw
      case rel => exact ⟨j + 1, by omega, by go_num, by go_num, hb⟩
      case measure => simp [intOf]; omega
    · obtain rfl : j = n := by omega
      go_wp2
      go_ret
      exact ⟨rfl, hb⟩

theorem held_none (a : Option Addr) (c : Nat) (k0 : Int) (w : World) :
    Calls Sq.prog 15 #[.slice a 0 c, .int .i64 k0] w fun e w' => e = .returned (.int .i64 k0) ∧ w = w' := by
  go_enter Sq.func15, Sq.ntmps15
  go_wp2
  go_rounds 1
  go_ret
  exact ⟨rfl, rfl⟩

theorem held_i {E : TypeId} {w : World} {B : Nat} {v : Value} {n : Nat} (k0 : Int) (h : Own E w B v (marks k0 n)) (hn : n < 1000000000) (hk0 : 0 ≤ k0) (hk1 : k0 < 100000000000) :
    Calls Sq.prog 15 #[v, .int .i64 k0] w fun e w' => e = .returned (.int .i64 (k0 + n)) ∧ Below w.heap.size w w' := by
  obtain ⟨a, c, rfl, k⟩ := h.shape
  have hl := marks_length k0 n
  by_cases hx : n = 0
  · subst hx
    refine (held_none a c k0 w).mono fun e w' ⟨he, hw⟩ => ?_
    subst hw
    exact ⟨by rw [he]; simp, Below.refl _ _⟩
  · obtain ⟨g, rfl, _, _, _, _, hi, _⟩ := k (fun e => by rw [e] at hl; simp at hl; omega)
    rw [hl] at hi ⊢
    refine held_core n g c k0 w hn hk0 hk1 fun i h => ?_
    rw [hi i h]
    exact congrArg (fun x => some (Value.int .i64 x)) (marks_get k0 n i h)
end Go.Proofs.Ytpigjhagdpeofaa

namespace Go.Proofs.Ytpigjhagdpeofaa
open Go.ChangeShapes Go.WideShapes Go.RowKit

theorem openI {H : Type} {enc : TypeId × Value → H} {P : Program} {w : World} {fuel : Nat} {t e : TypeId} {v : Value} {x : DataW H × List MemPlace} (ht : P.underlying t = some (.slice e)) (he : P.underlying e = some (.int .i64)) (hc : P.cellsOf e = 1)
    (h : DataW.trod enc P w 0 (fun _ => true) true fuel t [v] = some x) : ∃ (xs : List Int) (ad : Option Addr) (cap : Nat), v = .slice ad xs.length cap ∧ InI w (.slice ad xs.length cap) xs := by
  rcases open_ints ht he hc h with ⟨hcs, _⟩ | ⟨a, len, cap, zs, hcs, _, hl, hm, hz, hx, hcell, hwz⟩
  · simp at hcs
    subst hcs
    exact ⟨[], none, 0, rfl, none, 0, rfl, fun h => absurd rfl h⟩
  · simp at hcs
    subst hcs
    have hz' : zs.length = cap := by simpa using hz
    have hlen : (zs.take len).length = len := by rw [List.length_take]; omega
    refine ⟨zs.take len, some a, cap, by rw [hlen], some a, cap, by rw [hlen], fun hne => ?_⟩
    have h0 : 0 < zs.length := by
      rcases Nat.eq_zero_or_pos zs.length with h0 | h0
      · exfalso; apply hne; rw [List.eq_nil_of_length_eq_zero h0, List.take_nil]
      · exact h0
    obtain ⟨b, off, spot⟩ := a
    have hspot : spot = none := by simpa [Addr.add] using World.cell?_spot (hcell 0 h0)
    subst hspot
    refine ⟨b, off, rfl, fun i hi => ?_⟩
    have hi' : i < len := by omega
    have := hcell i (by omega)
    have e1 : (⟨b, off, none⟩ : Addr).add i = ⟨b, off + i, none⟩ := by unfold Addr.add; split <;> simp_all
    rw [e1] at this
    rw [this]
    simp [List.getD, hi']
theorem openI' {H : Type} {enc : TypeId × Value → H} {P : Program} {w : World} {t e : TypeId} {v : Value} {d : DataW H} {p : List MemPlace} (ht : P.underlying t = some (.slice e)) (he : P.underlying e = some (.int .i64)) (hc : P.cellsOf e = 1)
    {r : Reach} {b0 : Nat} (hv : Value.okWide P w r b0 t v) (h : DataW.Trod enc P w 0 (fun _ => true) true t v d p) : ∃ (xs : List Int) (ad : Option Addr) (cap : Nat), v = .slice ad xs.length cap ∧ InI w (.slice ad xs.length cap) xs := by
  obtain ⟨a, len, cap, rfl⟩ := okWide_slice ht hv
  obtain ⟨fuel, hf⟩ := h
  exact openI ht he hc (by simpa [Value.cells] using hf)
theorem lt_of_trod {H : Type} {enc : TypeId × Value → H} {P : Program} {w : World} {b : Nat} {s : Nat → Bool} {hd : Bool} {t : TypeId} {v : Value} {d : DataW H} {p : List MemPlace} (h : DataW.Trod enc P w b s hd t v d p) : ∀ x ∈ p, x.block < w.heap.size := by
  obtain ⟨m, hm⟩ := h
  exact DataW.trod_lt m _ _ _ hm
end Go.Proofs.Ytpigjhagdpeofaa

namespace Go.Proofs.Ytpigjhagdpeofaa
open Go.ChangeShapes Go.WideShapes Go.RowKit Go.Deep
set_option linter.unusedVariables false

def isI64 : Option TypeDesc → Bool
  | some (.int .i64) => true
  | _ => false
theorem isI64_is {o : Option TypeDesc} (h : isI64 o = true) : o = some (.int .i64) := by
  unfold isI64 at h
  split at h
  · rfl
  · cases h
def cellInt : Option Value → Int
  | some (.int _ z) => z
  | _ => 0
theorem openRec {H : Type} {enc : TypeId × Value → H} {P : Program} {w : World} {t e : TypeId} {fs : Array Field} {v : Value} {d : DataW H} {p : List MemPlace} (ht : P.underlying t = some (.slice e)) (he : P.underlying e = some (.struct fs))
    (hone : oneCellFields P fs = true) (hC : P.cellsOf e = fs.size) (hpos : 0 < fs.size) (hint : (List.range fs.size).all (fun j => match fs[j]? with | some f => isI64 (P.underlying f.type) | none => false) = true)
    {r : Reach} {b0 : Nat} (hv : Value.okWide P w r b0 t v) (h : DataW.Trod enc P w 0 (fun _ => true) true t v d p) :
    ∃ (X : Rec) (ad : Option Addr) (cap : Nat), v = .slice ad X.length cap ∧ InR fs.size w (.slice ad X.length cap) X := by
  obtain ⟨a0, len0, cap0, rfl⟩ := okWide_slice ht hv
  obtain ⟨fuel, hf⟩ := h
  rcases open_slice ht (by simpa [Value.cells] using hf) with ⟨hcs, _⟩ | ⟨a, len, cap, m, n, D, Pl, hcs, hb, hl, hm, hmm, hx, hi⟩
  · simp at hcs
    obtain ⟨rfl, rfl, rfl⟩ := hcs
    exact ⟨⟨0, fun _ => 0⟩, none, 0, rfl, none, 0, rfl, Nat.zero_le _, fun h => absurd rfl h⟩
  · simp at hcs
    obtain ⟨rfl, rfl, rfl⟩ := hcs
    have hmc : m = cap0 := by simpa using hmm
    obtain ⟨b, off, spot⟩ := a
    have cell : ∀ i, i < len0 → ∀ j, j < fs.size → ∃ z, w.cell? ((⟨b, off, spot⟩ : Addr).add (i * fs.size + j)) = some (.int .i64 z) := by
      intro i hil j hj
      obtain ⟨cs', hc, ht'⟩ := hi i (by omega)
      rw [hC] at hc
      obtain ⟨ys, n', hn', hy, hlen, hyl, hfl⟩ := DataW.trod_struct he ht'
      obtain ⟨_, hcl, hat⟩ := World.cells?_some hc
      obtain ⟨f, hfj⟩ : ∃ f, fs[j]? = some f := ⟨_, Array.getElem?_eq_getElem hj⟩
      have hin := List.all_eq_true.1 hint j (List.mem_range.2 hj)
      rw [hfj] at hin
      obtain ⟨ho, hk⟩ := hone_of hone j f hfj
      have h1 := hfl j f hfj
      rw [ho, hk] at h1
      have hone' : (cs'.drop j).take 1 = [cs'[j]'(by omega)] := by
        rw [List.drop_eq_getElem_cons (by omega)]; rfl
      rw [hone'] at h1
      have hys : ys[j]? = some (ys[j]'(by omega)) := List.getElem?_eq_getElem (by omega)
      obtain ⟨z, hz, _, _⟩ := DataW.trod_int (isI64_is hin) (h1.trans hys)
      refine ⟨z, ?_⟩
      rw [← Go.Deep.add_add, hat j hj, List.getElem?_eq_getElem (by omega)]
      simp at hz
      rw [hz]
    refine ⟨⟨len0, fun q => cellInt (w.cell? ((⟨b, off, spot⟩ : Addr).add q))⟩, some ⟨b, off, spot⟩, cap0, rfl, some ⟨b, off, spot⟩, cap0, rfl, by show len0 ≤ maxLen; omega, fun hne => ?_⟩
    have hne' : len0 ≠ 0 := hne
    obtain ⟨z0, hz0⟩ := cell 0 (by omega) 0 hpos
    have hspot : spot = none := by simpa [Addr.add] using World.cell?_spot hz0
    subst hspot
    refine ⟨b, off, rfl, fun i hi' j hj => ?_⟩
    obtain ⟨z, hzz⟩ := cell i hi' j hj
    have e1 : (⟨b, off, none⟩ : Addr).add (i * fs.size + j) = ⟨b, off + i * fs.size + j, none⟩ := by unfold Addr.add; split <;> simp_all [Nat.add_assoc]
    show _ = some (Value.int .i64 (cellInt (w.cell? ((⟨b, off, none⟩ : Addr).add (i * fs.size + j)))))
    rw [hzz, ← e1, hzz]; rfl
end Go.Proofs.Ytpigjhagdpeofaa

namespace Go.Proofs.Ytpigjhagdpeofaa
open Go.RowKit
set_option linter.unusedVariables false

theorem eqEntry_any (a b c d : Int) (w : World) :
    Calls Sq.prog 36 #[.agg #[.int .i64 a, .int .i64 b, .int .i64 c, .int .i64 d], .agg #[.int .i64 a, .int .i64 b, .int .i64 c, .int .i64 d]] w (RetV w (.bool true)) := by
  go_enter Sq.func36, Sq.ntmps36
  go_wp2
  go_ret
  exact ⟨rfl, by go_grown⟩

set_option maxHeartbeats 800000 in
theorem eqEntryS_core (n g1 g2 : Nat) (f : Nat → Int) (w : World) (hn : n < 1000000000) (hn0 : 0 < n) (I1 : RowC w g1 0 n 4 f) (I2 : RowC w g2 0 n 4 f) :
    Calls Sq.prog 12 #[.slice (some ⟨g1, 0, none⟩) n n, .slice (some ⟨g2, 0, none⟩) n n] w (RetV w (.bool true)) := by
  go_enter Sq.func12, Sq.ntmps12
  go_wp2
  go_loopw [5] (fun i wr => ∃ k : Nat, k ≤ n ∧ i = .int .i64 k ∧ Below w.heap.size w wr) (fun i _ => n - (intOf i).toNat)
  case atStart => exact ⟨0, Nat.zero_le _, rfl, Below.refl _ _⟩
  case round =>
    obtain ⟨k, hk, rfl, hb⟩ := hrel
    by_cases hlt : k < n
    · have c10 : wr.cell? ⟨g1, k * 4, none⟩ = some (.int .i64 (f (k * 4))) := Below.cellOf hb rfl (by have := I1 k hlt 0 (by decide); simpa only [Nat.zero_add, Nat.add_zero] using this)
      have c11 : wr.cell? ⟨g1, k * 4 + 1, none⟩ = some (.int .i64 (f (k * 4 + 1))) := Below.cellOf hb rfl (by have := I1 k hlt 1 (by decide); simpa only [Nat.zero_add, Nat.add_zero] using this)
      have c12 : wr.cell? ⟨g1, k * 4 + 2, none⟩ = some (.int .i64 (f (k * 4 + 2))) := Below.cellOf hb rfl (by have := I1 k hlt 2 (by decide); simpa only [Nat.zero_add, Nat.add_zero] using this)
      have c13 : wr.cell? ⟨g1, k * 4 + 3, none⟩ = some (.int .i64 (f (k * 4 + 3))) := Below.cellOf hb rfl (by have := I1 k hlt 3 (by decide); simpa only [Nat.zero_add, Nat.add_zero] using this)
      have c20 : wr.cell? ⟨g2, k * 4, none⟩ = some (.int .i64 (f (k * 4))) := Below.cellOf hb rfl (by have := I2 k hlt 0 (by decide); simpa only [Nat.zero_add, Nat.add_zero] using this)
      have c21 : wr.cell? ⟨g2, k * 4 + 1, none⟩ = some (.int .i64 (f (k * 4 + 1))) := Below.cellOf hb rfl (by have := I2 k hlt 1 (by decide); simpa only [Nat.zero_add, Nat.add_zero] using this)
      have c22 : wr.cell? ⟨g2, k * 4 + 2, none⟩ = some (.int .i64 (f (k * 4 + 2))) := Below.cellOf hb rfl (by have := I2 k hlt 2 (by decide); simpa only [Nat.zero_add, Nat.add_zero] using this)
      have c23 : wr.cell? ⟨g2, k * 4 + 3, none⟩ = some (.int .i64 (f (k * 4 + 3))) := Below.cellOf hb rfl (by have := I2 k hlt 3 (by decide); simpa only [Nat.zero_add, Nat.add_zero] using this)
      have e1 : (k : Int) < n := by omega
      go_wp2_with fail
      go_region_held3 (fun w' => w'.cell? ⟨g1, k * 4, none⟩ = some (.int .i64 (f (k * 4))) ∧ w'.cell? ⟨g1, k * 4 + 1, none⟩ = some (.int .i64 (f (k * 4 + 1))) ∧ w'.cell? ⟨g1, k * 4 + 2, none⟩ = some (.int .i64 (f (k * 4 + 2))) ∧ w'.cell? ⟨g1, k * 4 + 3, none⟩ = some (.int .i64 (f (k * 4 + 3))) ∧ w'.cell? ⟨g2, k * 4, none⟩ = some (.int .i64 (f (k * 4))) ∧ w'.cell? ⟨g2, k * 4 + 1, none⟩ = some (.int .i64 (f (k * 4 + 1))) ∧ w'.cell? ⟨g2, k * 4 + 2, none⟩ = some (.int .i64 (f (k * 4 + 2))) ∧ w'.cell? ⟨g2, k * 4 + 3, none⟩ = some (.int .i64 (f (k * 4 + 3))))
        (first | go_keep | (go_split_ands; refine ⟨?_, ?_, ?_, ?_, ?_, ?_, ?_, ?_⟩ <;> (apply Below.cellOf (by assumption) rfl; assumption)))
        ((first | (go_at_call 36; refine (eqEntry_any _ _ _ _ _).mono ?_; rintro e w3 ⟨rfl, hb3⟩)))
      go_wp2
      go_roundw
      case rel => exact ⟨k + 1, by omega, by go_num, hb.drew.trans (hb3.mono hb.size)⟩
      case measure => simp [intOf]; omega
    · obtain rfl : k = n := by omega
      go_wp2
      go_ret
      exact ⟨rfl, hb⟩

theorem eqEntryS_none (a1 a2 : Option Addr) (c1 c2 : Nat) (w : World) : Calls Sq.prog 12 #[.slice a1 0 c1, .slice a2 0 c2] w (RetV w (.bool true)) := by
  go_enter Sq.func12, Sq.ntmps12
  go_wp2
  go_rounds 1
  go_ret
  exact ⟨rfl, Below.refl _ _⟩

theorem eq_e {w : World} {B1 B2 : Nat} {v1 v2 : Value} {X : Rec} (h1 : RowR 4 w B1 v1 X) (h2 : RowR 4 w B2 v2 X) (hn : X.length < 1000000000) :
    Calls Sq.prog 12 #[v1, v2] w (RetV w (.bool true)) := by
  obtain ⟨g1, rfl, _, _, _, I1, _⟩ := h1
  obtain ⟨g2, rfl, _, _, _, I2, _⟩ := h2
  by_cases h0 : X.length = 0
  · rw [h0]; exact eqEntryS_none _ _ _ _ w
  · exact eqEntryS_core X.length g1 g2 X.f w hn (by omega) I1 I2

theorem sz_e_no {w : World} {v : Value} {X : Rec} (h : InR 4 w v X) {L : Int} (hs : L < X.length) (hL : 0 ≤ L ∧ L ≤ 1048576) : Calls Sq.prog 6 #[v, .int .i64 L] w (RetV w (.int .i64 (-1))) := by
  obtain ⟨a, cap, rfl, hm, _⟩ := h
  unfold maxLen at hm
  generalize X.length = n at *
  go_enter Sq.func6, Sq.ntmps6
  go_wp2
  go_ret
  exact ⟨rfl, Below.refl _ _⟩
theorem sz_e_yes {w : World} {v : Value} {X : Rec} (h : InR 4 w v X) {L : Int} (hs : (X.length : Int) ≤ L) (hL : 0 ≤ L ∧ L ≤ 1048576) : Calls Sq.prog 6 #[v, .int .i64 L] w (RetV w (.int .i64 (L - X.length))) := by
  obtain ⟨a, cap, rfl, hm, _⟩ := h
  unfold maxLen at hm
  generalize X.length = n at *
  go_enter Sq.func6, Sq.ntmps6
  go_wp2
  go_ret
  exact ⟨rfl, Below.refl _ _⟩

set_option maxRecDepth 100000 in
theorem Sq.openEntryS {H : Type} {enc : TypeId × Value → H} {w : World} {v : Value} {d : DataW H} {p : List MemPlace} {r : Reach} {b0 : Nat} (hv : Value.okWide Sq.prog w r b0 22 v) (h : DataW.Trod enc Sq.prog w 0 (fun _ => true) true 22 v d p) :
    ∃ (X : Rec) (ad : Option Addr) (cap : Nat), v = .slice ad X.length cap ∧ InR 4 w (.slice ad X.length cap) X :=
  openRec Sq.underlying22 Sq.underlying54 (by kernel_rfl) (by kernel_rfl) (of_decide_eq_true (by kernel_rfl)) (by kernel_rfl) hv h
end Go.Proofs.Ytpigjhagdpeofaa

namespace Go.Proofs.Ytpigjhagdpeofaa
open Go.RowKit
set_option linter.unusedVariables false

theorem RowR.only {k : Nat} {w w' : World} {B lo hi : Nat} {v : Value} {X : Rec} (h : RowR k w B v X) (ho : Only lo hi w w') (hd : ∀ b, v.ownBlock = some b → b < lo ∨ hi ≤ b) : RowR k w' B v X := by
  obtain ⟨g, rfl, h1, h2, h3, h4, h5⟩ := h
  have hb := ho.block g h2 (hd g rfl)
  refine ⟨g, rfl, h1, Nat.lt_of_lt_of_le h2 ho.size, h3, fun i hi j hj => ?_, fun i => ?_⟩
  · have := h4 i hi j hj
    unfold World.cell? at this ⊢
    rw [hb]
    exact this
  · have := h5 i
    unfold World.frozen? at this ⊢
    rw [hb]
    exact this
/-- What marking leaves. -/
def MarkedEntry (w : World) (B : Nat) (v : Value) (n : Nat) (k0 : Int) (e : Ending) (w' : World) : Prop :=
  e = .returned (.int .i64 (k0 + 4 * n)) ∧ RowR 4 w' B v ⟨n, fun i => k0 + i⟩ ∧ ∀ lo hi, (∀ b, v.ownBlock = some b → lo ≤ b ∧ b < hi) → Only lo hi w w'
set_option maxRecDepth 8000 in
set_option maxHeartbeats 1600000 in
theorem markEntry_core (n g : Nat) (k0 : Int) (w : World) (hn : n < 1000000000) (hk0 : 0 ≤ k0) (hk1 : k0 < 100000000000) (h : There w g (n * 4)) :
    Calls Sq.prog 13 #[.slice (some ⟨g, 0, none⟩) n n, .int .i64 k0] w fun e w' => e = .returned (.int .i64 (k0 + 4 * n)) ∧ There w' g (n * 4) ∧ CellsTo w' g (n * 4) (fun i => k0 + i) ∧ Only g (g + 1) w w' := by
  go_enter Sq.func13, Sq.ntmps13
  go_wp2
  go_loopw [1, 5] (fun kv i wr => ∃ j : Nat, j ≤ n ∧ i = .int .i64 j ∧ kv = .int .i64 (k0 + 4 * j) ∧ There wr g (n * 4) ∧ CellsTo wr g (j * 4) (fun i => k0 + i) ∧ Only g (g + 1) w wr) (fun _ i _ => n - (intOf i).toNat)
  case atStart => exact ⟨0, Nat.zero_le _, rfl, by go_num, h, fun i hi => absurd hi (by omega), Only.refl _ _ _⟩
  case round =>
    obtain ⟨j, hj, rfl, rfl, ht, hc, ho⟩ := hrel
    by_cases hlt : j < n
    · obtain ⟨x0, y0⟩ := ht.at (j * 4) (by omega)
      have z0 := ht.2.2 (j * 4)
      obtain ⟨x1, y1⟩ := ht.at (j * 4 + 1) (by omega)
      have z1 := ht.2.2 (j * 4 + 1)
      obtain ⟨x2, y2⟩ := ht.at (j * 4 + 2) (by omega)
      have z2 := ht.2.2 (j * 4 + 2)
      obtain ⟨x3, y3⟩ := ht.at (j * 4 + 3) (by omega)
      have z3 := ht.2.2 (j * 4 + 3)
      have HC := Lib.hid hc
      have HT := Lib.hid ht
      clear hc ht
      go_wp2
      have s0 : CellsTo (wr.setCell ⟨g, j * 4, none⟩ (.int .i64 (k0 + 4 * j))) g (j * 4 + 1) (fun i => k0 + i) := by
        have := HC.out.set HT.out (show j * 4 < n * 4 by omega)
        rwa [show (k0 : Int) + ((j * 4 : Nat) : Int) = k0 + 4 * j by omega] at this
      have t0 := HT.out.set (j * 4) (.int .i64 (k0 + 4 * j))
      have s1 : CellsTo _ g (j * 4 + 2) (fun i => k0 + i) := s0.set (v := j * 4 + 1) t0 (by omega)
      rw [show (k0 : Int) + ((j * 4 + 1 : Nat) : Int) = k0 + 4 * j + 1 by omega] at s1
      have t1 := t0.set (j * 4 + 1) (.int .i64 (k0 + 4 * j + 1))
      have s2 : CellsTo _ g (j * 4 + 3) (fun i => k0 + i) := s1.set (v := j * 4 + 2) t1 (by omega)
      rw [show (k0 : Int) + ((j * 4 + 2 : Nat) : Int) = k0 + 4 * j + 1 + 1 by omega] at s2
      have t2 := t1.set (j * 4 + 2) (.int .i64 (k0 + 4 * j + 1 + 1))
      have s3 : CellsTo _ g (j * 4 + 4) (fun i => k0 + i) := s2.set (v := j * 4 + 3) t2 (by omega)
      rw [show (k0 : Int) + ((j * 4 + 3 : Nat) : Int) = k0 + 4 * j + 1 + 1 + 1 by omega] at s3
      have t3 := t2.set (j * 4 + 3) (.int .i64 (k0 + 4 * j + 1 + 1 + 1))
      go_roundw
      case rel => exact ⟨j + 1, by omega, by go_num, by go_num, t3, by rw [show (j + 1) * 4 = j * 4 + 4 by omega]; exact s3, ((((ho.setCell (Nat.le_refl _) (Nat.lt_succ_self _) _).setCell (Nat.le_refl _) (Nat.lt_succ_self _) _).setCell (Nat.le_refl _) (Nat.lt_succ_self _) _).setCell (Nat.le_refl _) (Nat.lt_succ_self _) _)⟩
      case measure => simp [intOf]; omega
    · obtain rfl : j = n := by omega
      go_wp2
      go_ret
      exact ⟨rfl, ht, hc, ho⟩
theorem markEntry_none (a : Option Addr) (cap : Nat) (k0 : Int) (w : World) : Calls Sq.prog 13 #[.slice a 0 cap, .int .i64 k0] w fun e w' => e = .returned (.int .i64 k0) ∧ w = w' := by
  go_enter Sq.func13, Sq.ntmps13
  go_wp2
  go_rounds 1
  go_ret
  exact ⟨rfl, rfl⟩
theorem mark_e {w : World} {B : Nat} {v : Value} {X : Rec} (k0 : Int) (h : RowR 4 w B v X) (hn : X.length < 1000000000) (hk0 : 0 ≤ k0) (hk1 : k0 < 100000000000) :
    Calls Sq.prog 13 #[v, .int .i64 k0] w (MarkedEntry w B v X.length k0) := by
  obtain ⟨g, rfl, h1, h2, h3, h4, h5⟩ := h
  have ht : There w g (X.length * 4) := ⟨h2, fun i hi => by
    have := h4 (i / 4) (by omega) (i % 4) (by omega)
    rw [Nat.zero_add, show i / 4 * 4 + i % 4 = i by omega] at this
    rw [this]; rfl, h5⟩
  refine (markEntry_core X.length g k0 w hn hk0 hk1 ht).mono ?_
  rintro e w' ⟨rfl, t, c, o⟩
  refine ⟨rfl, ⟨g, rfl, h1, t.1, h3, c.row, t.2.2⟩, fun lo hi hr => ?_⟩
  obtain ⟨p, q⟩ := hr g rfl
  exact ⟨o.os, o.tape, o.output, o.size, fun b hb hd => o.block b hb (by omega)⟩
end Go.Proofs.Ytpigjhagdpeofaa

namespace Go.Proofs.Ytpigjhagdpeofaa.Sim
open Go Go.Conc
set_option linter.unusedVariables false
set_option maxRecDepth 100000
/-- What has been laid on top of a world of N blocks. -/
structure Ext (N : Nat) (w0 w : World) : Prop where
  tape : w.tape = w0.tape
  os : w.os = w0.os
  output : w.output = w0.output
  size : N ≤ w.heap.size
  keep : ∀ c, c < N → w.heap[c]? = w0.heap[c]?
theorem Ext.at {N : Nat} {w0 w : World} (h : Ext N w0 w) (d : Nat) : Ext N w0 (w.at d) := ⟨h.tape, h.os, h.output, h.size, h.keep⟩
theorem Ext.da {N : Nat} {w0 w w' : World} {es : Array Event} (h : Ext N w0 w) (k : DA N w w' es) : Ext N w0 w' := ⟨k.tape.trans h.tape, k.os.trans h.os, k.output.trans h.output, Nat.le_trans h.size k.size, fun c hc => (k.keep c hc).trans (h.keep c hc)⟩
noncomputable def r33_0 : Code := match Try.f33.body with | some (.seq r _) => r | _ => .skip
noncomputable def r33_1 : Code := match Try.f33.body with | some (.seq _ (.seq r _)) => r | _ => .skip
noncomputable def ops33_0 : Array Oper := match r33_0 with | .region _ o _ => o | _ => #[]
noncomputable def ops33_1 : Array Oper := match r33_1 with | .region _ o _ => o | _ => #[]
def oA0 : Oper := { dst := some 3, op := .box 23 (.tmp 0), type := 0, pos := "l02_scales.go:380", after := #[], guard := none }
def oA1 : Oper := { dst := some 4, op := .box 2 (.tmp 1), type := 0, pos := "l02_scales.go:380", after := #[], guard := none }
def oA2 : Oper := { dst := some 5, op := .box 58 (.tmp 2), type := 0, pos := "l02_scales.go:380", after := #[], guard := none }
def oA3 : Oper := { dst := some 6, op := .assign (.const (.slice none 0 0)), type := 23, pos := "l02_scales.go:380", after := #[], guard := none }
theorem oA0_at : ops33_0[0]? = some oA0 := by kernel_rfl
theorem oA1_at : ops33_0[1]? = some oA1 := by kernel_rfl
theorem oA2_at : ops33_0[2]? = some oA2 := by kernel_rfl
theorem oA3_at : ops33_0[3]? = some oA3 := by kernel_rfl
/-- Behind the parameters' boxes. -/
structure HA (N0 k : Nat) (vl vh : Value) (w0 w : World) : Prop where
  ext : Ext N0 w0 w
  b0 : w.heap[N0]? = some (.cells #[vl] 23 (0, 0))
  b1 : w.heap[N0 + 1]? = some (.cells #[.int .i64 (k : Nat)] 2 (0, 0))
  b2 : w.heap[N0 + 2]? = some (.cells #[vh] 58 (0, 0))
theorem a33_r0 {N0 k n cl : Nat} {vl vh : Value} {al : Option Addr} {f : FuncId} {caps : Array Value} {w : World} {Q : Exit → Act → Unit → World → Prop} (hN : w.heap.size = N0) (hl : vl = .slice al n cl) (hh : vh = .func (.func f) #[] caps)
    (hQ : ∀ w2, HA N0 k vl vh w w2 → w2.heap.size = N0 + 3 → Q .normal ⟨(#[vl, .int .i64 (k : Nat), vh, .pointer (some ⟨N0, 0, none⟩), .pointer (some ⟨(N0 + 1), 0, none⟩), .pointer (some ⟨(N0 + 2), 0, none⟩), .slice none 0 0, undef, undef, undef, undef, undef, undef, undef, undef, undef, undef, undef, undef, undef, undef, undef, undef, undef, undef, undef, undef] : Array Value), []⟩ () w2) :
    wpG Try.prog true RA (fun _ _ => DA N0) 33 r33_0 Q ⟨(#[vl, .int .i64 (k : Nat), vh, undef, undef, undef, undef, undef, undef, undef, undef, undef, undef, undef, undef, undef, undef, undef, undef, undef, undef, undef, undef, undef, undef, undef, undef] : Array Value), []⟩ () w := by
  have T := DA.terms N0
  show wpG _ _ _ _ _ (.region 0 ops33_0 false) _ _ _ _
  refine wpG_region T ?_
  show opsG _ _ _ _ _ _ (0 :: [1, 2, 3]) _ _ _ _
  refine opsG_value oA0_at rfl fun w1 h1 => ?_
  obtain ⟨d, rfl⟩ := h1
  refine ⟨.pointer (some ⟨N0, 0, none⟩), (w.at d).alloc (.cells #[vl] 23 (0, 0)), (), ?_, DA.alloc (by show _ ≤ w.heap.size; omega) fun e he => ?_, ?_⟩
  · rw [← hN]; simp [oA0, go_sem, hl]; rfl
  · replace he := mem_seen he
    simp [oA0, go_sem, hl] at he
  show opsG _ _ _ _ _ _ (1 :: [2, 3]) _ ⟨(#[vl, .int .i64 (k : Nat), vh, .pointer (some ⟨N0, 0, none⟩), undef, undef, undef, undef, undef, undef, undef, undef, undef, undef, undef, undef, undef, undef, undef, undef, undef, undef, undef, undef, undef, undef, undef] : Array Value), []⟩ _ _
  have s1 : ((w.at d).alloc (.cells #[vl] 23 (0, 0))).heap.size = N0 + 1 := by rw [size_alloc', ← hN]; rfl
  have c1 : ((w.at d).alloc (.cells #[vl] 23 (0, 0))).heap[N0]? = some (.cells #[vl] 23 (0, 0)) := by rw [← hN]; exact heap_alloc_at (w := w.at d)
  have x1 : Ext N0 w ((w.at d).alloc (.cells #[vl] 23 (0, 0))) := ⟨rfl, rfl, rfl, by omega, fun c hc => heap_alloc_lt (w := w.at d) (by show c < w.heap.size; omega)⟩
  generalize (w.at d).alloc (.cells #[vl] 23 (0, 0)) = w1 at s1 c1 x1 ⊢
  refine opsG_value oA1_at rfl fun w1' h1 => ?_
  obtain ⟨d1, rfl⟩ := h1
  refine ⟨.pointer (some ⟨N0 + 1, 0, none⟩), (w1.at d1).alloc (.cells #[.int .i64 (k : Nat)] 2 (0, 0)), (), ?_, DA.alloc (by show _ ≤ w1.heap.size; omega) fun e he => ?_, ?_⟩
  · rw [← s1]; simp [oA1, go_sem]; rfl
  · replace he := mem_seen he
    simp [oA1, go_sem] at he
  show opsG _ _ _ _ _ _ (2 :: [3]) _ ⟨(#[vl, .int .i64 (k : Nat), vh, .pointer (some ⟨N0, 0, none⟩), .pointer (some ⟨(N0 + 1), 0, none⟩), undef, undef, undef, undef, undef, undef, undef, undef, undef, undef, undef, undef, undef, undef, undef, undef, undef, undef, undef, undef, undef, undef] : Array Value), []⟩ _ _
  have s2 : ((w1.at d1).alloc (.cells #[.int .i64 (k : Nat)] 2 (0, 0))).heap.size = N0 + 2 := by rw [size_alloc']; show w1.heap.size + 1 = _; omega
  have c2 : ((w1.at d1).alloc (.cells #[.int .i64 (k : Nat)] 2 (0, 0))).heap[N0]? = some (.cells #[vl] 23 (0, 0)) ∧ ((w1.at d1).alloc (.cells #[.int .i64 (k : Nat)] 2 (0, 0))).heap[N0 + 1]? = some (.cells #[.int .i64 (k : Nat)] 2 (0, 0)) := ⟨heap_alloc_old (w := w1.at d1) c1, by rw [← s1]; exact heap_alloc_at (w := w1.at d1)⟩
  have x2 : Ext N0 w ((w1.at d1).alloc (.cells #[.int .i64 (k : Nat)] 2 (0, 0))) := ⟨x1.tape, x1.os, x1.output, by omega, fun c hc => (heap_alloc_lt (w := w1.at d1) (by show c < w1.heap.size; omega)).trans (x1.keep c hc)⟩
  generalize (w1.at d1).alloc (.cells #[.int .i64 (k : Nat)] 2 (0, 0)) = w2 at s2 c2 x2 ⊢
  refine opsG_value oA2_at rfl fun w1' h1 => ?_
  obtain ⟨d2, rfl⟩ := h1
  refine ⟨.pointer (some ⟨N0 + 2, 0, none⟩), (w2.at d2).alloc (.cells #[vh] 58 (0, 0)), (), ?_, DA.alloc (by show _ ≤ w2.heap.size; omega) fun e he => ?_, ?_⟩
  · rw [← s2]; simp [oA2, go_sem, hh]; rfl
  · replace he := mem_seen he
    simp [oA2, go_sem, hh] at he
  show opsG _ _ _ _ _ _ (3 :: []) _ ⟨(#[vl, .int .i64 (k : Nat), vh, .pointer (some ⟨N0, 0, none⟩), .pointer (some ⟨(N0 + 1), 0, none⟩), .pointer (some ⟨(N0 + 2), 0, none⟩), undef, undef, undef, undef, undef, undef, undef, undef, undef, undef, undef, undef, undef, undef, undef, undef, undef, undef, undef, undef, undef] : Array Value), []⟩ _ _
  have s3 : ((w2.at d2).alloc (.cells #[vh] 58 (0, 0))).heap.size = N0 + 3 := by rw [size_alloc']; show w2.heap.size + 1 = _; omega
  have c3 : HA N0 k vl vh w ((w2.at d2).alloc (.cells #[vh] 58 (0, 0))) := ⟨⟨x2.tape, x2.os, x2.output, by omega, fun c hc => (heap_alloc_lt (w := w2.at d2) (by show c < w2.heap.size; omega)).trans (x2.keep c hc)⟩,
    heap_alloc_old (w := w2.at d2) c2.1, heap_alloc_old (w := w2.at d2) c2.2, by rw [← s2]; exact heap_alloc_at (w := w2.at d2)⟩
  generalize (w2.at d2).alloc (.cells #[vh] 58 (0, 0)) = w3 at s3 c3 ⊢
  refine opsG_value oA3_at rfl fun w1' h1 => ?_
  obtain ⟨d3, rfl⟩ := h1
  refine ⟨.slice none 0 0, w3.at d3, (), ?_, DA.quiet fun e he => ?_, ?_⟩
  · simp [oA3, go_sem]
  · replace he := mem_seen he
    simp [oA3, go_sem] at he
  show opsG _ _ _ _ _ _ [] _ ⟨(#[vl, .int .i64 (k : Nat), vh, .pointer (some ⟨N0, 0, none⟩), .pointer (some ⟨(N0 + 1), 0, none⟩), .pointer (some ⟨(N0 + 2), 0, none⟩), .slice none 0 0, undef, undef, undef, undef, undef, undef, undef, undef, undef, undef, undef, undef, undef, undef, undef, undef, undef, undef, undef, undef] : Array Value), []⟩ _ _
  exact opsG_nil T (hQ _ ⟨c3.ext.at d3, c3.b0, c3.b1, c3.b2⟩ s3)
end Go.Proofs.Ytpigjhagdpeofaa.Sim

namespace Go.Proofs.Ytpigjhagdpeofaa.Sim
open Go Go.Conc
set_option linter.unusedVariables false
set_option maxRecDepth 100000
theorem info2' : Try.prog.info? 2 = some Try.t2 := by kernel_rfl
theorem info4' : Try.prog.info? 4 = some Try.t4 := by kernel_rfl
structure HB (N0 n k : Nat) (vl vh : Value) (w0 : World) (b2 b3 b4 b5 b6 b7 : Bool) (v7 v8 v12 v13 : Value) (w : World) : Prop where
  ha : HA N0 k vl vh w0 w
  lo : N0 + 3 ≤ w.heap.size
  ho : b2 = true → ∃ o, v12 = .slice (some ⟨o, 0, none⟩) n n ∧ N0 + 3 ≤ o ∧ w.heap[o]? = some (.cells (madeCells #[.int .i64 0] n) 2 (0, 0))
  hc : b3 = true → ∃ c, v13 = .chan (some c) ∧ N0 + 3 ≤ c ∧ w.heap[c]? = some (.chan 0 #[] false 0 0 false)
  hbo : b4 = true → ∃ x v, v7 = .pointer (some ⟨x, 0, none⟩) ∧ N0 + 3 ≤ x ∧ w.heap[x]? = some (.cells #[v] 23 (0, 0)) ∧ (b6 = true → v = v12)
  hbd : b5 = true → ∃ x v, v8 = .pointer (some ⟨x, 0, none⟩) ∧ N0 + 3 ≤ x ∧ w.heap[x]? = some (.cells #[v] 71 (0, 0)) ∧ (b7 = true → v = v13)
  h6 : b6 = true → b2 = true ∧ b4 = true
  h7 : b7 = true → b3 = true ∧ b5 = true
section
variable {N0 n k : Nat} {vl vh : Value} {w0 w w' : World} {b2 b3 b4 b5 b6 b7 : Bool} {v7 v8 v12 v13 : Value}
theorem HA.to (h : HA N0 k vl vh w0 w) (ht : w'.tape = w.tape) (hos : w'.os = w.os) (ho : w'.output = w.output) (hsz : N0 ≤ w'.heap.size) (hk : ∀ x, x < N0 + 3 → w'.heap[x]? = w.heap[x]?) : HA N0 k vl vh w0 w' :=
  ⟨⟨ht.trans h.ext.tape, hos.trans h.ext.os, ho.trans h.ext.output, hsz, fun c hc => (hk c (by omega)).trans (h.ext.keep c hc)⟩, (hk _ (by omega)).trans h.b0, (hk _ (by omega)).trans h.b1, (hk _ (by omega)).trans h.b2⟩
theorem HB.at (h : HB N0 n k vl vh w0 b2 b3 b4 b5 b6 b7 v7 v8 v12 v13 w) (d : Nat) : HB N0 n k vl vh w0 b2 b3 b4 b5 b6 b7 v7 v8 v12 v13 (w.at d) :=
  ⟨⟨h.ha.ext.at d, h.ha.b0, h.ha.b1, h.ha.b2⟩, h.lo, h.ho, h.hc, h.hbo, h.hbd, h.h6, h.h7⟩
/-- A new block is laid: what is known of the elder ones stands. -/
theorem HB.new (h : HB N0 n k vl vh w0 b2 b3 b4 b5 b6 b7 v7 v8 v12 v13 w) (ob : Obj) : HB N0 n k vl vh w0 b2 b3 b4 b5 b6 b7 v7 v8 v12 v13 (w.alloc ob) := by
  have hl := h.lo
  refine ⟨h.ha.to rfl rfl rfl (by rw [size_alloc']; omega) fun x hx => heap_alloc_lt (by omega), by rw [size_alloc']; omega, fun e => ?_, fun e => ?_, fun e => ?_, fun e => ?_, h.h6, h.h7⟩
  · obtain ⟨o, h1, h2, h3⟩ := h.ho e; exact ⟨o, h1, h2, heap_alloc_old h3⟩
  · obtain ⟨o, h1, h2, h3⟩ := h.hc e; exact ⟨o, h1, h2, heap_alloc_old h3⟩
  · obtain ⟨x, v, h1, h2, h3, h4⟩ := h.hbo e; exact ⟨x, v, h1, h2, heap_alloc_old h3, h4⟩
  · obtain ⟨x, v, h1, h2, h3, h4⟩ := h.hbd e; exact ⟨x, v, h1, h2, heap_alloc_old h3, h4⟩
end
def oB0 : Oper := { dst := some 10, op := .load 23 (.tmp 3), type := 23, pos := "l02_scales.go:381", after := #[], guard := none }
def oB1 : Oper := { dst := some 11, op := .call { callee := .builtin .len, args := #[.tmp 10], argTypes := #[23] }, type := 3, pos := "l02_scales.go:381", after := #[{ on := 0, ground := Ground.data }], guard := none }
theorem oB0_at : ops33_1[0]? = some oB0 := by kernel_rfl
theorem oB1_at : ops33_1[1]? = some oB1 := by kernel_rfl
def oB2 : Oper := { dst := some 12, op := .makeSlice 23 (.tmp 11) (.tmp 11), type := 23, pos := "l02_scales.go:381", after := #[{ on := 1, ground := Ground.data }, { on := 1, ground := Ground.data }], guard := none }
theorem oB2_at : ops33_1[2]? = some oB2 := by kernel_rfl
def oB3 : Oper := { dst := some 13, op := .makeChan 71 (.const (.int .i64 0)), type := 71, pos := "l02_scales.go:381", after := #[], guard := none }
theorem oB3_at : ops33_1[3]? = some oB3 := by kernel_rfl
def oB4 : Oper := { dst := some 7, op := .alloc 23, type := 0, pos := "l02_scales.go:381", after := #[], guard := none }
theorem oB4_at : ops33_1[4]? = some oB4 := by kernel_rfl
def oB5 : Oper := { dst := some 8, op := .alloc 71, type := 0, pos := "l02_scales.go:381", after := #[], guard := none }
theorem oB5_at : ops33_1[5]? = some oB5 := by kernel_rfl
def oB6 : Oper := { dst := none, op := .store 23 (.tmp 7) (.tmp 12), type := 0, pos := "l02_scales.go:381", after := #[{ on := 4, ground := Ground.data }, { on := 2, ground := Ground.data }, { on := 0, ground := Ground.phase }, { on := 1, ground := Ground.phase }, { on := 2, ground := Ground.phase }, { on := 3, ground := .textOnly Departure.lateStoresUnsure }, { on := 4, ground := Ground.phase }, { on := 5, ground := Ground.phase }], guard := none }
theorem oB6_at : ops33_1[6]? = some oB6 := by kernel_rfl
def oB7 : Oper := { dst := none, op := .store 71 (.tmp 8) (.tmp 13), type := 0, pos := "l02_scales.go:381", after := #[{ on := 5, ground := Ground.data }, { on := 3, ground := Ground.data }, { on := 6, ground := Ground.chain }, { on := 0, ground := Ground.phase }, { on := 1, ground := Ground.phase }, { on := 2, ground := Ground.phase }, { on := 3, ground := Ground.phase }, { on := 4, ground := Ground.phase }, { on := 5, ground := Ground.phase }, { on := 6, ground := Ground.phase }], guard := none }
theorem oB7_at : ops33_1[7]? = some oB7 := by kernel_rfl
theorem ready33 (b2 b3 b4 b5 b6 b7 : Bool) : (Region.ready .any ops33_1 #[true, true, b2, b3, b4, b5, b6, b7]).all (fun x => (x == 2 && !b2) || (x == 3 && !b3) || (x == 4 && !b4) || (x == 5 && !b5) || (x == 6 && !b6 && b2 && b4) || (x == 7 && !b7 && b3 && b5)) = true := by
  cases b2 <;> cases b3 <;> cases b4 <;> cases b5 <;> cases b6 <;> cases b7 <;> kernel_rfl
theorem done33 (b2 b3 b4 b5 b6 b7 : Bool) : (!(Region.ready .any ops33_1 #[true, true, b2, b3, b4, b5, b6, b7]).isEmpty || (b2 && b3 && b4 && b5 && b6 && b7)) = true := by
  cases b2 <;> cases b3 <;> cases b4 <;> cases b5 <;> cases b6 <;> cases b7 <;> kernel_rfl
theorem full33 : Region.ready .any ops33_1 #[true, true, true, true, true, true, true, true] = [] := by kernel_rfl
def cf (b : Bool) : Nat := if b then 0 else 1
def J33 (N0 n k : Nat) (vl vh : Value) (w0 : World) (cnt : Nat) (listed : Array Bool) (a : Act) (i : Unit) (w : World) : Prop :=
  ∃ (b2 b3 b4 b5 b6 b7 : Bool) (v7 v8 v12 v13 : Value), listed = #[true, true, b2, b3, b4, b5, b6, b7] ∧ a = ⟨(#[vl, .int .i64 (k : Nat), vh, .pointer (some ⟨N0, 0, none⟩), .pointer (some ⟨(N0 + 1), 0, none⟩), .pointer (some ⟨(N0 + 2), 0, none⟩), .slice none 0 0, v7, v8, undef, vl, .int .i64 (n : Nat), v12, v13, undef, undef, undef, undef, undef, undef, undef, undef, undef, undef, undef, undef, undef] : Array Value), []⟩ ∧ cnt = cf b2 + cf b3 + cf b4 + cf b5 + cf b6 + cf b7 ∧ HB N0 n k vl vh w0 b2 b3 b4 b5 b6 b7 v7 v8 v12 v13 w
theorem j33_step {N0 n k : Nat} {vl vh : Value} {w0 : World} (hn : n < 1000000000) (cnt : Nat) (listed : Array Bool) (a : Act) (i : Unit) (w : World) (x : Nat) (hj : J33 N0 n k vl vh w0 cnt listed a i w) (hx : x ∈ Region.ready .any ops33_1 listed) :
    OpG Try.prog true RA (fun _ _ => DA N0) 33 ops33_1 x (fun a' i' w' => ∃ c', c' < cnt ∧ J33 N0 n k vl vh w0 c' (listed.setIfInBounds x true) a' i' w') a i w := by
  obtain ⟨b2, b3, b4, b5, b6, b7, v7, v8, v12, v13, rfl, rfl, rfl, hb⟩ := hj
  have hr := List.all_eq_true.1 (ready33 b2 b3 b4 b5 b6 b7) x hx
  simp only [Bool.or_eq_true, Bool.and_eq_true, beq_iff_eq, Bool.not_eq_true'] at hr
  rcases hr with ((((⟨rfl, rfl⟩ | ⟨rfl, rfl⟩) | ⟨rfl, rfl⟩) | ⟨rfl, rfl⟩) | ⟨⟨⟨rfl, rfl⟩, rfl⟩, rfl⟩) | ⟨⟨⟨rfl, rfl⟩, rfl⟩, rfl⟩
  · -- the row
    refine OpG.value oB2_at rfl fun w1 h1 => ?_
    obtain ⟨d, rfl⟩ := h1
    have hb := hb.at d
    have hl := hb.lo
    have hm := run_make (P := Try.prog) (w.at d) 23 2 Try.t2 (.int .i64 0) Try.underlying23 info2' rfl .i64 .i64 n n (by omega) (Int.le_refl _) (by show (8 : Int) * n ≤ _; omega) (by omega)
    have he := events_make (P := Try.prog) (w.at d) 23 2 Try.t2 (.int .i64 0) Try.underlying23 info2' rfl .i64 .i64 n n (by omega) (Int.le_refl _) (by show (8 : Int) * n ≤ _; omega) (by omega) (by show (n : Int).toNat * 8 ≤ _; omega) #[]
    rw [Int.toNat_natCast, show n * Try.t2.size = n from Nat.mul_one n] at hm
    have hN := hb.new (.cells (madeCells #[.int .i64 0] n) 2)
    refine ⟨.slice (some ⟨w.heap.size, 0, none⟩) n n, (w.at d).alloc (.cells (madeCells #[.int .i64 0] n) 2), (), ?_, DA.alloc (by omega) fun e h => ?_, _, ?_, true, b3, b4, b5, b6, b7, v7, v8, .slice (some ⟨w.heap.size, 0, none⟩) n n, v13, rfl, rfl, rfl, ?_⟩
    · simp [oB2, go_sem, hm]; rfl
    · replace h := mem_seen h
      simp [oB2, go_sem, he] at h
    · simp [cf]; try omega
    · exact ⟨hN.ha, hN.lo, fun _ => ⟨w.heap.size, rfl, hl, heap_alloc_at (w := w.at d)⟩, hN.hc, fun e4 => (by obtain ⟨y, v, q1, q2, q3, q4⟩ := hN.hbo e4; exact ⟨y, v, q1, q2, q3, fun e6 => absurd (hN.h6 e6).1 (by simp)⟩), hN.hbd, fun e6 => absurd (hN.h6 e6).1 (by simp), hN.h7⟩
  · -- the channel
    refine OpG.value oB3_at rfl fun w1 h1 => ?_
    obtain ⟨d, rfl⟩ := h1
    have hb := hb.at d
    have hl := hb.lo
    have he : (Instr.makeChan 71 (.int .i64 0)).events Try.prog (w.at d) #[] = #[] := events_makeChan (P := Try.prog) (w := w.at d) Try.underlying71 info4' .i64 0 (by omega) (by omega) #[]
    have hN := hb.new (.chan 0 #[] false 0 0 false)
    refine ⟨.chan (some w.heap.size), (w.at d).alloc (.chan 0 #[] false 0 0 false), (), ?_, DA.alloc (by omega) fun e h => ?_, _, ?_, b2, true, b4, b5, b6, b7, v7, v8, v12, .chan (some w.heap.size), rfl, rfl, rfl, ?_⟩
    · simp [oB3, go_sem]; rfl
    · replace h := mem_seen h
      simp [oB3, go_sem, he] at h
    · simp [cf]; try omega
    · exact ⟨hN.ha, hN.lo, hN.ho, fun _ => ⟨w.heap.size, rfl, hl, heap_alloc_at (w := w.at d)⟩, hN.hbo, fun e5 => (by obtain ⟨y, v, q1, q2, q3, q4⟩ := hN.hbd e5; exact ⟨y, v, q1, q2, q3, fun e7 => absurd (hN.h7 e7).1 (by simp)⟩), hN.h6, fun e7 => absurd (hN.h7 e7).1 (by simp)⟩
  · refine OpG.value oB4_at rfl fun w1 h1 => ?_
    obtain ⟨d, rfl⟩ := h1
    have hb := hb.at d
    have hl := hb.lo
    have hN := hb.new (.cells #[.slice none 0 0] 23)
    refine ⟨.pointer (some ⟨w.heap.size, 0, none⟩), (w.at d).alloc (.cells #[.slice none 0 0] 23), (), ?_, DA.alloc (by omega) fun e h => ?_, _, ?_, b2, b3, true, b5, b6, b7, .pointer (some ⟨w.heap.size, 0, none⟩), v8, v12, v13, rfl, rfl, rfl, ?_⟩
    · simp [oB4, go_sem]; rfl
    · replace h := mem_seen h
      simp [oB4, go_sem] at h
    · simp [cf]; try omega
    · exact ⟨hN.ha, hN.lo, hN.ho, hN.hc, fun _ => ⟨w.heap.size, _, rfl, hl, heap_alloc_at (w := w.at d), fun e6 => absurd (hN.h6 e6).2 (by simp)⟩, hN.hbd, fun e6 => absurd (hN.h6 e6).2 (by simp), hN.h7⟩
  · refine OpG.value oB5_at rfl fun w1 h1 => ?_
    obtain ⟨d, rfl⟩ := h1
    have hb := hb.at d
    have hl := hb.lo
    have hN := hb.new (.cells #[.chan none] 71)
    refine ⟨.pointer (some ⟨w.heap.size, 0, none⟩), (w.at d).alloc (.cells #[.chan none] 71), (), ?_, DA.alloc (by omega) fun e h => ?_, _, ?_, b2, b3, b4, true, b6, b7, v7, .pointer (some ⟨w.heap.size, 0, none⟩), v12, v13, rfl, rfl, rfl, ?_⟩
    · simp [oB5, go_sem]; rfl
    · replace h := mem_seen h
      simp [oB5, go_sem] at h
    · simp [cf]; try omega
    · exact ⟨hN.ha, hN.lo, hN.ho, hN.hc, hN.hbo, fun _ => ⟨w.heap.size, _, rfl, hl, heap_alloc_at (w := w.at d), fun e7 => absurd (hN.h7 e7).2 (by simp)⟩, hN.h6, fun e7 => absurd (hN.h7 e7).2 (by simp)⟩
  · refine OpG.skip oB6_at rfl fun w1 h1 => ?_
    obtain ⟨d, rfl⟩ := h1
    have hb := hb.at d
    have hl := hb.lo
    obtain ⟨y, v, rfl, q2, q3, _⟩ := hb.hbo rfl
    obtain ⟨o, rfl, p2, p3⟩ := hb.ho rfl
    obtain ⟨hc1, hc2⟩ := cell_of_row q3
    have hne : ∀ z ob, (w.at d).heap[z]? = some ob → (∀ u, ob ≠ Obj.cells u 23 (0, 0)) → ((w.at d).setCell ⟨y, 0, none⟩ (.slice (some ⟨o, 0, none⟩) n n)).heap[z]? = some ob := fun z ob hz hob => by
      rw [heap_set_ne (fun e => by subst e; rw [q3] at hz; cases hz; exact hob _ rfl)]
      exact hz
    have hsz : ((w.at d).setCell ⟨y, 0, none⟩ (.slice (some ⟨o, 0, none⟩) n n)).heap.size = w.heap.size := by simp [World.setCell]; rfl
    refine ⟨(w.at d).setCell ⟨y, 0, none⟩ (.slice (some ⟨o, 0, none⟩) n n), (), ?_, DA.set (by omega) fun e h => ?_, _, ?_, true, b3, true, b5, true, b7, .pointer (some ⟨y, 0, none⟩), v8, .slice (some ⟨o, 0, none⟩) n n, v13, rfl, rfl, rfl, ?_⟩
    · simp [oB6, go_sem, hc1, hc2]
    · replace h := mem_seen h
      simp [oB6, go_sem] at h
      rw [events_store _ _ _ _ _ _ rfl] at h
      simp [hc1, hc2] at h
      subst h
      exact .inr ⟨_, true, rfl, trivial, (Array.getElem?_eq_some_iff.1 q3).1⟩
    · simp [cf]; try omega
    · refine ⟨hb.ha.to rfl rfl rfl (by rw [hsz]; have := hb.lo; have h3 : (w.at d).heap.size = w.heap.size := rfl; omega) fun x hx => heap_set_ne (by omega), by rw [hsz]; exact hl, ?_, ?_, ?_, ?_, ?_, ?_⟩
      · exact fun _ => ⟨o, rfl, p2, hne _ _ p3 fun u e => by cases e⟩
      · exact fun e3 => by obtain ⟨z, r1, r2, r3⟩ := hb.hc e3; exact ⟨z, r1, r2, hne _ _ r3 fun u e => by cases e⟩
      · exact fun _ => ⟨y, _, rfl, q2, heap_set_at q3, fun _ => rfl⟩
      · exact fun e5 => by obtain ⟨z, v', r1, r2, r3, r4⟩ := hb.hbd e5; exact ⟨z, v', r1, r2, hne _ _ r3 (fun u e => by cases e), r4⟩
      · exact fun _ => ⟨rfl, rfl⟩
      · exact hb.h7
  · refine OpG.skip oB7_at rfl fun w1 h1 => ?_
    obtain ⟨d, rfl⟩ := h1
    have hb := hb.at d
    have hl := hb.lo
    obtain ⟨y, v, rfl, q2, q3, _⟩ := hb.hbd rfl
    obtain ⟨o, rfl, p2, p3⟩ := hb.hc rfl
    obtain ⟨hc1, hc2⟩ := cell_of_row q3
    have hne : ∀ z ob, (w.at d).heap[z]? = some ob → (∀ u, ob ≠ Obj.cells u 71 (0, 0)) → ((w.at d).setCell ⟨y, 0, none⟩ (.chan (some o))).heap[z]? = some ob := fun z ob hz hob => by
      rw [heap_set_ne (fun e => by subst e; rw [q3] at hz; cases hz; exact hob _ rfl)]
      exact hz
    have hsz : ((w.at d).setCell ⟨y, 0, none⟩ (.chan (some o))).heap.size = w.heap.size := by simp [World.setCell]; rfl
    refine ⟨(w.at d).setCell ⟨y, 0, none⟩ (.chan (some o)), (), ?_, DA.set (by omega) fun e h => ?_, _, ?_, b2, true, b4, true, b6, true, v7, .pointer (some ⟨y, 0, none⟩), v12, .chan (some o), rfl, rfl, rfl, ?_⟩
    · simp [oB7, go_sem, hc1, hc2]
    · replace h := mem_seen h
      simp [oB7, go_sem, hc1, hc2] at h
      subst h
      exact .inr ⟨_, true, rfl, trivial, (Array.getElem?_eq_some_iff.1 q3).1⟩
    · simp [cf]; try omega
    · refine ⟨hb.ha.to rfl rfl rfl (by rw [hsz]; have := hb.lo; have h3 : (w.at d).heap.size = w.heap.size := rfl; omega) fun x hx => heap_set_ne (by omega), by rw [hsz]; exact hl, ?_, ?_, ?_, ?_, ?_, ?_⟩
      · exact fun e2 => by obtain ⟨z, r1, r2, r3⟩ := hb.ho e2; exact ⟨z, r1, r2, hne _ _ r3 fun u e => by cases e⟩
      · exact fun _ => ⟨o, rfl, p2, hne _ _ p3 fun u e => by cases e⟩
      · exact fun e4 => by obtain ⟨z, v', r1, r2, r3, r4⟩ := hb.hbo e4; exact ⟨z, v', r1, r2, hne _ _ r3 (fun u e => by cases e), r4⟩
      · exact fun _ => ⟨y, _, rfl, q2, heap_set_at q3, fun _ => rfl⟩
      · exact hb.h6
      · exact fun _ => ⟨rfl, rfl⟩
/-- Behind the row and the channel. -/
structure HC (N0 n k : Nat) (vl vh : Value) (w0 : World) (o c bo bd : Nat) (w : World) : Prop where
  ha : HA N0 k vl vh w0 w
  ro : w.heap[o]? = some (.cells (madeCells #[.int .i64 0] n) 2 (0, 0))
  rc : w.heap[c]? = some (.chan 0 #[] false 0 0 false)
  rbo : w.heap[bo]? = some (.cells #[.slice (some ⟨o, 0, none⟩) n n] 23 (0, 0))
  rbd : w.heap[bd]? = some (.cells #[.chan (some c)] 71 (0, 0))
  lo : N0 + 3 ≤ o ∧ N0 + 3 ≤ c ∧ N0 + 3 ≤ bo ∧ N0 + 3 ≤ bd
theorem a33_r1 {N0 n k cl : Nat} {vl vh : Value} {al : Option Addr} {w0 w : World} {Q : Exit → Act → Unit → World → Prop} (hn : n < 1000000000) (hl : vl = .slice al n cl) (ha : HA N0 k vl vh w0 w) (hs : w.heap.size = N0 + 3) (hQr : ∀ a i x y, Q .normal a i x → RA i x y → Q .normal a i y)
    (hQ : ∀ o c bo bd w2, HC N0 n k vl vh w0 o c bo bd w2 → Q .normal ⟨(#[vl, .int .i64 (k : Nat), vh, .pointer (some ⟨N0, 0, none⟩), .pointer (some ⟨(N0 + 1), 0, none⟩), .pointer (some ⟨(N0 + 2), 0, none⟩), .slice none 0 0, .pointer (some ⟨bo, 0, none⟩), .pointer (some ⟨bd, 0, none⟩), undef, vl, .int .i64 (n : Nat), .slice (some ⟨o, 0, none⟩) n n, .chan (some c), undef, undef, undef, undef, undef, undef, undef, undef, undef, undef, undef, undef, undef] : Array Value), []⟩ () w2) :
    wpG Try.prog true RA (fun _ _ => DA N0) 33 r33_1 Q ⟨(#[vl, .int .i64 (k : Nat), vh, .pointer (some ⟨N0, 0, none⟩), .pointer (some ⟨(N0 + 1), 0, none⟩), .pointer (some ⟨(N0 + 2), 0, none⟩), .slice none 0 0, undef, undef, undef, undef, undef, undef, undef, undef, undef, undef, undef, undef, undef, undef, undef, undef, undef, undef, undef, undef] : Array Value), []⟩ () w := by
  have T := DA.terms N0
  show wpG _ _ _ _ _ (.region 1 ops33_1 true) _ _ _ _
  refine wpG_region_held (S := fun _ w => HA N0 k vl vh w0 w ∧ N0 + 3 ≤ w.heap.size) (fun _ w => DA.draw N0 w) T (by kernel_rfl) fun w1 h1 => ?_
  obtain ⟨d, rfl⟩ := h1
  have hsz : ({ w.at d with drawn := (w.at d).drawn + 1 } : World).heap.size = N0 + 3 := hs
  have ha : HA N0 k vl vh w0 { w.at d with drawn := (w.at d).drawn + 1 } := ⟨⟨ha.ext.tape, ha.ext.os, ha.ext.output, ha.ext.size, ha.ext.keep⟩, ha.b0, ha.b1, ha.b2⟩
  generalize ({ w.at d with drawn := (w.at d).drawn + 1 } : World) = w at ha hsz ⊢
  refine anyG_take T (fun _ _ _ h q => by obtain ⟨d, rfl⟩ := q; exact ⟨⟨h.1.ext.at d, h.1.b0, h.1.b1, h.1.b2⟩, h.2⟩) hQr (n := 0) (v := vl) oB0_at (by kernel_rfl) (by kernel_rfl) (by kernel_rfl) (.inl ⟨rfl, fun M2 w2 h2 => ⟨?_, DA.quiet fun e he => ?_⟩⟩) ⟨ha, by omega⟩ ?_
  · have hc1 := (cell_of_row h2.1.b0).1
    simp [oB0, go_sem, hc1]
  · replace he := mem_seen he
    have hc1 := (cell_of_row h2.1.b0).1
    simp [oB0, go_sem, hc1] at he
    subst he
    exact .inr ⟨_, false, rfl, trivial, (Array.getElem?_eq_some_iff.1 h2.1.b0).1⟩
  show AnyG Try.prog true _ _ 33 _ _ Q _ _ _ ⟨(#[vl, .int .i64 (k : Nat), vh, .pointer (some ⟨N0, 0, none⟩), .pointer (some ⟨(N0 + 1), 0, none⟩), .pointer (some ⟨(N0 + 2), 0, none⟩), .slice none 0 0, undef, undef, undef, vl, undef, undef, undef, undef, undef, undef, undef, undef, undef, undef, undef, undef, undef, undef, undef, undef] : Array Value), []⟩ _ _
  refine anyG_take T (fun _ _ _ h q => by obtain ⟨d, rfl⟩ := q; exact ⟨⟨h.1.ext.at d, h.1.b0, h.1.b1, h.1.b2⟩, h.2⟩) hQr (n := 1) (v := .int .i64 (n : Nat)) oB1_at (by kernel_rfl) (by kernel_rfl) (by kernel_rfl) (.inl ⟨rfl, fun M2 w2 h2 => ⟨?_, DA.quiet fun e he => ?_⟩⟩) ⟨ha, by omega⟩ ?_
  · simp [oB1, go_sem, hl]
  · replace he := mem_seen he
    simp [oB1, go_sem, hl] at he
  show AnyG Try.prog true _ _ 33 _ _ Q _ _ #[true, true, false, false, false, false, false, false] ⟨(#[vl, .int .i64 (k : Nat), vh, .pointer (some ⟨N0, 0, none⟩), .pointer (some ⟨(N0 + 1), 0, none⟩), .pointer (some ⟨(N0 + 2), 0, none⟩), .slice none 0 0, undef, undef, undef, vl, .int .i64 (n : Nat), undef, undef, undef, undef, undef, undef, undef, undef, undef, undef, undef, undef, undef, undef, undef] : Array Value), []⟩ _ _
  have key := anyG_inv (P := Try.prog) (m := true) (R := RA) (D := fun _ _ => DA N0) (fn := 33) (ops := ops33_1) (Q := Q) (md := .any) (S := fun _ w => HA N0 k vl vh w0 w ∧ N0 + 3 ≤ w.heap.size) (J := J33 N0 n k vl vh w0) (fun c listed a i w hj => by obtain ⟨_, _, _, _, _, _, _, _, _, _, _, _, _, hb⟩ := hj; exact ⟨hb.ha, hb.lo⟩) (fun c listed a i w hj hr => ?_) (fun listed a i w hj => ?_) (fun c listed a i w x hj hx => j33_step hn c listed a i w x hj hx) 6 6 #[true, true, false, false, false, false, false, false] ⟨(#[vl, .int .i64 (k : Nat), vh, .pointer (some ⟨N0, 0, none⟩), .pointer (some ⟨(N0 + 1), 0, none⟩), .pointer (some ⟨(N0 + 2), 0, none⟩), .slice none 0 0, undef, undef, undef, vl, .int .i64 (n : Nat), undef, undef, undef, undef, undef, undef, undef, undef, undef, undef, undef, undef, undef, undef, undef] : Array Value), []⟩ () w (Nat.le_refl _)
    ⟨false, false, false, false, false, false, undef, undef, undef, undef, rfl, rfl, rfl, ha, by omega, fun e => (by cases e), fun e => (by cases e), fun e => (by cases e), fun e => (by cases e), fun e => (by cases e), fun e => (by cases e)⟩
  · exact key
  · obtain ⟨b2, b3, b4, b5, b6, b7, v7, v8, v12, v13, rfl, rfl, rfl, hb⟩ := hj
    have hd := done33 b2 b3 b4 b5 b6 b7
    rw [hr] at hd
    simp only [List.isEmpty_nil, Bool.not_true, Bool.false_or, Bool.and_eq_true] at hd
    obtain ⟨⟨⟨⟨⟨rfl, rfl⟩, rfl⟩, rfl⟩, rfl⟩, rfl⟩ := hd
    obtain ⟨o, rfl, p2, p3⟩ := hb.ho rfl
    obtain ⟨c, rfl, q2, q3⟩ := hb.hc rfl
    obtain ⟨bo, v, rfl, r2, r3, r4⟩ := hb.hbo rfl
    obtain ⟨bd, v', rfl, s2, s3, s4⟩ := hb.hbd rfl
    obtain rfl := r4 rfl
    obtain rfl := s4 rfl
    exact hQ o c bo bd w ⟨hb.ha, p3, q3, r3, s3, p2, q2, r2, s2⟩
  · obtain ⟨b2, b3, b4, b5, b6, b7, v7, v8, v12, v13, rfl, rfl, hc, hb⟩ := hj
    unfold cf at hc
    cases b2 <;> cases b3 <;> cases b4 <;> cases b5 <;> cases b6 <;> cases b7 <;> first | (exfalso; simp at hc; done) | exact full33
end Go.Proofs.Ytpigjhagdpeofaa.Sim
