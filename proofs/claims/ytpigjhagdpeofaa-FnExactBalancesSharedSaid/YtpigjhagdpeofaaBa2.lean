/-
  toEntryS gives a copy in new memory. Condition: fewer than 1000000000 records.
  The laws' helpers on slices of integers, by contracts: eqInt64S of two slices that hold the same integers is true; markInt64S writes k, k + 1, ..; heldInt64S of what was so marked is k + its length. Condition: fewer than 1000000000 integers.
  How the slices of integers among a call's arguments are opened: each reads as a list of integers. No program in sight. No condition.
  How slices of structs of integers among a call's arguments are opened. No program in sight. No condition.
  eqEntryS of two copies of the same records is true; szEntryS. Condition: fewer than 1000000000 records.
  markEntryS writes k, k + 1, .. into a copy of records in the call's own memory. Condition: fewer than 1000000000 records.
  The lone law's memory at the start: the arguments' cells, the letter box and the oracle. No condition.
  The law of BalancesShared over the second program: it returns true, or tells. No condition but the oracle.
  What BalancesShared's told call gives of the company's memory. No condition.
-/
import Derived.Test.YtpigjhagdpeofaaSm5
import Derived.Test.YtpigjhagdpeofaaProg
import Derived.Test.YtpigjhagdpeofaaSm12
import Derived.Test.YtpigjhagdpeofaaSm4
import Derived.OpenShut
import Derived.Below
import Derived.Carry
import Derived.Lib.SmallJoins
import Derived.Deep.Slices
import Derived.Deep.Fields
import Derived.ChangeSame
import Derived.Deep.RegionHeld3
import Derived.Test.YtpigjhagdpeofaaBa1

namespace Go.Proofs.Ytpigjhagdpeofaa
open Go.RowKit
set_option linter.unusedVariables false

theorem toEntry_any (a b c d : Int) (w : World) :
    Calls Sq.prog 29 #[.agg #[.int .i64 a, .int .i64 b, .int .i64 c, .int .i64 d]] w fun e w' => e = .returned (.agg #[.int .i64 a, .int .i64 b, .int .i64 c, .int .i64 d]) ∧ Below w.heap.size w w' := by
  go_enter Sq.func29, Sq.ntmps29
  go_wp2
  go_returns
  exact ⟨rfl, by go_grown⟩

set_option maxRecDepth 8000 in
set_option maxHeartbeats 400000 in
theorem toEntryS_core (n cap g off : Nat) (f : Nat → Int) (w : World) (hn : n < 1000000000) (hI : RowC w g off n 4 f) :
    Calls Sq.prog 8 #[.slice (some ⟨g, off, none⟩) n cap] w fun e w' => ∃ v, e = .returned v ∧ RowR 4 w' w.heap.size v ⟨n, f⟩ ∧ Below w.heap.size w w' := by
  go_enter Sq.func8, Sq.ntmps8
  go_wp2_with (first | (at_make; refine wpList_mkR _ rfl _ _ 27 rfl 52 (.agg #[.int .i64 0, .int .i64 0, .int .i64 0, .int .i64 0]) 4 32 (by kernel_rfl) (by decide) Sq.underlying27 _ _ _ _ n rfl rfl rfl rfl hn ?_; intro w1 hth hb))
  go_loopw [4] (fun i wr => ∃ k : Nat, k ≤ n ∧ i = .int .i64 k ∧ There wr w.heap.size (n * 4) ∧ CellsTo wr w.heap.size (k * 4) f ∧ Below w.heap.size w wr) (fun i _ => n - (intOf i).toNat)
  case atStart => exact ⟨0, Nat.zero_le _, rfl, hth, fun i hi => absurd hi (by omega), hb⟩
  case round =>
    obtain ⟨k, hk, rfl, ht, hr, hbr⟩ := hrel
    by_cases hlt : k < n
    · have hc0 := Below.cellOf hbr rfl (hI k hlt 0 (by decide))
      have hc1 := Below.cellOf hbr rfl (hI k hlt 1 (by decide))
      have hc2 := Below.cellOf hbr rfl (hI k hlt 2 (by decide))
      have hc3 := Below.cellOf hbr rfl (hI k hlt 3 (by decide))
      rw [Nat.add_zero] at hc0
      go_wp2_with (first | (go_at_call 29; refine (toEntry_any _ _ _ _ _).mono ?_; rintro e w2 ⟨rfl, hb2⟩; have ht2 := ht.below hb2; have hr2 := hr.below hb2; obtain ⟨x0, y0⟩ := ht2.at (k * 4) (by omega); obtain ⟨x1, y1⟩ := ht2.at (k * 4 + 1) (by omega); obtain ⟨x2, y2⟩ := ht2.at (k * 4 + 2) (by omega); obtain ⟨x3, y3⟩ := ht2.at (k * 4 + 3) (by omega); have z0 := ht2.2.2 (k * 4); have z1 := ht2.2.2 (k * 4 + 1); have z2 := ht2.2.2 (k * 4 + 2); have z3 := ht2.2.2 (k * 4 + 3); clear ht))
      go_roundw
      have s0 : CellsTo (w2.setCell ⟨w.heap.size, k * 4, none⟩ (.int .i64 (f (k * 4)))) w.heap.size (k * 4 + 1) f := hr2.set ht2 (by omega)
      have t0 := ht2.set (k * 4) (.int .i64 (f (k * 4)))
      have s1 := s0.set (v := k * 4 + 1) t0 (by omega)
      have t1 := t0.set (k * 4 + 1) (.int .i64 (f (k * 4 + 1)))
      have s2 := s1.set (v := k * 4 + 2) t1 (by omega)
      have t2 := t1.set (k * 4 + 2) (.int .i64 (f (k * 4 + 2)))
      have s3 := s2.set (v := k * 4 + 3) t2 (by omega)
      have t3 := t2.set (k * 4 + 3) (.int .i64 (f (k * 4 + 3)))
      case rel => exact ⟨k + 1, by omega, by go_num, t3, by rw [show (k + 1) * 4 = k * 4 + 4 by omega]; exact s3, (((((hbr.trans (hb2.mono hbr.size)).setCell (Nat.le_refl _) _).setCell (Nat.le_refl _) _).setCell (Nat.le_refl _) _).setCell (Nat.le_refl _) _)⟩
      case measure => simp [intOf]; omega
    · obtain rfl : k = n := by omega
      go_wp2
      go_ret
      exact ⟨_, rfl, ⟨w.heap.size, rfl, Nat.le_refl _, ht.1, hn, hr.row, ht.2.2⟩, hbr⟩

theorem toEntryS_none (a : Option Addr) (cap : Nat) (f : Nat → Int) (w : World) :
    Calls Sq.prog 8 #[.slice a 0 cap] w fun e w' => ∃ v, e = .returned v ∧ RowR 4 w' w.heap.size v ⟨0, f⟩ ∧ Below w.heap.size w w' := by
  go_enter Sq.func8, Sq.ntmps8
  go_wp2_with (first | (at_make; refine wpList_mkR _ rfl _ _ 27 rfl 52 (.agg #[.int .i64 0, .int .i64 0, .int .i64 0, .int .i64 0]) 4 32 (by kernel_rfl) (by decide) Sq.underlying27 _ _ _ _ 0 rfl rfl rfl rfl (by decide) ?_; intro w1 hth hb))
  go_rounds 1
  go_ret
  exact ⟨_, rfl, ⟨w.heap.size, rfl, Nat.le_refl _, hth.1, by show (0 : Nat) < 1000000000; decide, fun i hi => absurd hi (Nat.not_lt_zero _), hth.2.2⟩, hb⟩

theorem to_e {w : World} {v : Value} {X : Rec} (h : InR 4 w v X) (hn : X.length < 1000000000) :
    Calls Sq.prog 8 #[v] w (fun e w' => ∃ v, e = .returned v ∧ RowR 4 w' w.heap.size v X ∧ Below w.heap.size w w') := by
  obtain ⟨a, cap, rfl, _, ha⟩ := h
  obtain ⟨n, f⟩ := X
  by_cases h0 : n = 0
  · subst h0; exact toEntryS_none a cap f w
  · obtain ⟨g, off, rfl, hI⟩ := ha h0
    exact toEntryS_core n cap g off f w hn hI
end Go.Proofs.Ytpigjhagdpeofaa

namespace Go.Proofs.Ytpigjhagdpeofaa
open Go.RowKit
set_option linter.unusedVariables false

/-- k, k + 1, .. -/
def marks (k : Int) : Nat → List Int
  | 0 => []
  | n + 1 => marks k n ++ [k + n]
theorem marks_length (k : Int) (n : Nat) : (marks k n).length = n := by
  induction n with
  | zero => rfl
  | succ n ih => simp [marks, ih]
theorem marks_get (k : Int) (n i : Nat) (h : i < n) : (marks k n).getD i 0 = k + i := by
  induction n with
  | zero => omega
  | succ n ih =>
    have hl := marks_length k n
    by_cases hi : i < n
    · have := ih hi
      simp only [marks, List.getD, List.getElem?_append, hl, hi, if_true] at this ⊢
      exact this
    · obtain rfl : i = n := by omega
      simp [marks, List.getD, hl]

set_option maxHeartbeats 400000 in
theorem eq_core (n g1 g2 c1 c2 : Nat) (f : Nat → Int) (w : World) (hn : n < 1000000000) (H1 : Ints w g1 0 n f) (H2 : Ints w g2 0 n f) :
    Calls Sq.prog 11 #[.slice (some ⟨g1, 0, none⟩) n c1, .slice (some ⟨g2, 0, none⟩) n c2] w fun e w' => e = .returned (.bool true) ∧ Below w.heap.size w w' := by
  go_enter Sq.func11, Sq.ntmps11
  go_wp2
  go_loopw [5] (fun i wr => ∃ k : Nat, k ≤ n ∧ i = .int .i64 k ∧ Below w.heap.size w wr) (fun i _ => n - (intOf i).toNat)
  case atStart => exact ⟨0, Nat.zero_le _, rfl, Below.refl _ _⟩
  case round =>
    obtain ⟨k, hk, rfl, hb⟩ := hrel
    by_cases hlt : k < n
    · have c1 := Below.cellOf hb rfl (H1.at0 k hlt)
      have c2 := Below.cellOf hb rfl (H2.at0 k hlt)
      go_wp2
      go_quiet (fail)
      go_wp2
      go_roundw
      case rel => exact ⟨k + 1, by omega, by go_num, Below.drewN' hb _⟩
      case measure => simp [intOf]; omega
    · go_wp2
      go_ret
      exact ⟨rfl, hb⟩

theorem eq_none (a1 a2 : Option Addr) (c1 c2 : Nat) (w : World) :
    Calls Sq.prog 11 #[.slice a1 0 c1, .slice a2 0 c2] w fun e w' => e = .returned (.bool true) ∧ Below w.heap.size w w' := by
  go_enter Sq.func11, Sq.ntmps11
  go_wp2
  go_rounds 1
  go_ret
  exact ⟨rfl, Below.refl _ _⟩

theorem eq_i {E : TypeId} {w : World} {B1 B2 : Nat} {v1 v2 : Value} {xs : List Int} (h1 : Own E w B1 v1 xs) (h2 : Own E w B2 v2 xs) (hn : xs.length < 1000000000) :
    Calls Sq.prog 11 #[v1, v2] w fun e w' => e = .returned (.bool true) ∧ Below w.heap.size w w' := by
  obtain ⟨a1, c1, rfl, k1⟩ := h1.shape
  obtain ⟨a2, c2, rfl, k2⟩ := h2.shape
  by_cases hx : xs = []
  · subst hx
    exact eq_none a1 a2 c1 c2 w
  · obtain ⟨g1, rfl, _, _, _, _, i1, _⟩ := k1 hx
    obtain ⟨g2, rfl, _, _, _, _, i2, _⟩ := k2 hx
    exact eq_core xs.length g1 g2 c1 c2 _ w hn i1 i2
theorem marks_set (k : Int) (xs : List Int) (j : Nat) (h : j < xs.length) : (marks k j ++ xs.drop j).set j (k + j) = marks k (j + 1) ++ xs.drop (j + 1) := by
  have hl := marks_length k j
  rw [List.set_append]
  simp only [hl, Nat.lt_irrefl, if_false, Nat.sub_self]
  rw [List.drop_eq_getElem_cons h]
  simp only [List.set_cons_zero, marks, List.append_assoc, List.singleton_append]

set_option maxHeartbeats 400000 in
theorem mark_core {E : TypeId} (g c B : Nat) (xs : List Int) (k0 : Int) (w : World) (hn : xs.length < 1000000000) (hk0 : 0 ≤ k0) (hk1 : k0 < 100000000000) (h : Own E w B (.slice (some ⟨g, 0, none⟩) xs.length c) xs) :
    Calls Sq.prog 14 #[.slice (some ⟨g, 0, none⟩) xs.length c, .int .i64 k0] w fun e w' =>
      e = .returned (.int .i64 (k0 + xs.length)) ∧ Own E w' B (.slice (some ⟨g, 0, none⟩) xs.length c) (marks k0 xs.length) ∧ Only g (g + 1) w w' := by
  obtain ⟨n, hN⟩ : ∃ n, n = xs.length := ⟨_, rfl⟩
  have HN := Lib.hid hN
  rw [← hN] at h hn ⊢
  clear hN
  go_enter Sq.func14, Sq.ntmps14
  go_wp2
  go_loopw [1, 5] (fun kv i wr => ∃ j : Nat, j ≤ n ∧ i = .int .i64 j ∧ kv = .int .i64 (k0 + j) ∧ Own E wr B (.slice (some ⟨g, 0, none⟩) n c) (marks k0 j ++ xs.drop j) ∧ Only g (g + 1) w wr) (fun _ i _ => n - (intOf i).toNat)
  case atStart => exact ⟨0, Nat.zero_le _, rfl, by go_num, by simpa [marks] using h, Only.refl _ _ _⟩
  case round =>
    obtain ⟨j, hj, rfl, rfl, ho, hb⟩ := hrel
    have hl : (marks k0 j ++ xs.drop j).length = n := by rw [HN.out, List.length_append, marks_length, List.length_drop]; rw [HN.out] at hj; omega
    by_cases hlt : j < n
    · obtain ⟨x, hx⟩ : ∃ x, wr.cell? ⟨g, j, none⟩ = some x := by
        rcases ho.form with ⟨h0, _⟩ | ⟨g', c', hv, _, _, _, _, hi, _⟩
        · cases h0
        · simp only [Value.slice.injEq, Option.some.injEq, Addr.mk.injEq, and_true] at hv
          obtain ⟨rfl, _, rfl⟩ := hv
          exact ⟨_, hi.at0 j (by omega)⟩
      have hf : wr.frozen? ⟨g, j, none⟩ = false := by
        rcases ho.form with ⟨h0, _⟩ | ⟨g', c', hv, _, _, _, _, _, hfz⟩
        · cases h0
        · simp only [Value.slice.injEq, Option.some.injEq, Addr.mk.injEq, and_true] at hv
          obtain ⟨rfl, _, rfl⟩ := hv
          exact hfz j
      have R := ho.set hl.symm j (k0 + j)
      rw [marks_set k0 xs j (by rw [← HN.out]; exact hlt)] at R
      have HR := Lib.hid R
      have HL := Lib.hid hl
      clear R hl ho
      go_wp2
      go_roundw
      case rel => exact ⟨j + 1, by omega, by go_num, by go_num, HR.out, hb.setCell (Nat.le_refl _) (Nat.lt_succ_self _) _⟩
      case measure => simp [intOf]; omega
    · obtain rfl : j = n := by omega
      have R : Own E wr B (.slice (some ⟨g, 0, none⟩) j c) (marks k0 j) := by
        have := ho
        rwa [List.drop_of_length_le (by rw [HN.out]; exact Nat.le_refl _), List.append_nil] at this
      have HR := Lib.hid R
      have HL := Lib.hid hl
      clear R hl ho
      go_wp2
      go_ret
      exact ⟨rfl, HR.out, hb⟩

theorem mark_none (a : Option Addr) (c : Nat) (k0 : Int) (w : World) :
    Calls Sq.prog 14 #[.slice a 0 c, .int .i64 k0] w fun e w' => e = .returned (.int .i64 k0) ∧ w = w' := by
  go_enter Sq.func14, Sq.ntmps14
  go_wp2
  go_rounds 1
  go_ret
  exact ⟨rfl, rfl⟩

/-- What marking leaves. -/
def Marked (E : TypeId) (w : World) (B : Nat) (v : Value) (n : Nat) (k0 : Int) (e : Ending) (w' : World) : Prop :=
  e = .returned (.int .i64 (k0 + n)) ∧ Own E w' B v (marks k0 n) ∧ ∀ lo hi, (∀ b, v.ownBlock = some b → lo ≤ b ∧ b < hi) → Only lo hi w w'

theorem mark_i {E : TypeId} {w : World} {B : Nat} {v : Value} {xs : List Int} (k0 : Int) (h : Own E w B v xs) (hn : xs.length < 1000000000) (hk0 : 0 ≤ k0) (hk1 : k0 < 100000000000) :
    Calls Sq.prog 14 #[v, .int .i64 k0] w (Marked E w B v xs.length k0) := by
  have h0 := h
  obtain ⟨a, c, rfl, k⟩ := h.shape
  by_cases hx : xs = []
  · subst hx
    refine (mark_none a c k0 w).mono fun e w' ⟨he, hw⟩ => ?_
    subst hw
    exact ⟨by rw [he]; simp, h0, fun _ _ _ => Only.refl _ _ _⟩
  · obtain ⟨g, rfl, _⟩ := k hx
    refine (mark_core g c B xs k0 w hn hk0 hk1 h0).mono fun e w' ⟨he, ho, hb⟩ => ⟨he, ho, fun lo hi hr => ?_⟩
    obtain ⟨h1, h2⟩ := hr g rfl
    exact ⟨hb.os, hb.tape, hb.output, hb.size, fun k hk hd => hb.block k hk (by omega)⟩

set_option maxHeartbeats 400000 in
theorem held_core (n g c : Nat) (k0 : Int) (w : World) (hn : n < 1000000000) (hk0 : 0 ≤ k0) (hk1 : k0 < 100000000000) (H : Ints w g 0 n (fun i => k0 + i)) :
    Calls Sq.prog 15 #[.slice (some ⟨g, 0, none⟩) n c, .int .i64 k0] w fun e w' => e = .returned (.int .i64 (k0 + n)) ∧ Below w.heap.size w w' := by
  go_enter Sq.func15, Sq.ntmps15
  go_wp2
  go_loopw [1, 5] (fun kv i wr => ∃ j : Nat, j ≤ n ∧ i = .int .i64 j ∧ kv = .int .i64 (k0 + j) ∧ Below w.heap.size w wr) (fun _ i _ => n - (intOf i).toNat)
  case atStart => exact ⟨0, Nat.zero_le _, rfl, by go_num, Below.refl _ _⟩
  case round =>
    obtain ⟨j, hj, rfl, rfl, hb⟩ := hrel
    by_cases hlt : j < n
    · have c1 := Below.cellOf hb rfl (H.at0 j hlt)
      go_wp2
      go_roundw
      case rel => exact ⟨j + 1, by omega, by go_num, by go_num, hb⟩
      case measure => simp [intOf]; omega
    · obtain rfl : j = n := by omega
      go_wp2
      go_ret
      exact ⟨rfl, hb⟩

theorem held_none (a : Option Addr) (c : Nat) (k0 : Int) (w : World) :
    Calls Sq.prog 15 #[.slice a 0 c, .int .i64 k0] w fun e w' => e = .returned (.int .i64 k0) ∧ w = w' := by
  go_enter Sq.func15, Sq.ntmps15
  go_wp2
  go_rounds 1
  go_ret
  exact ⟨rfl, rfl⟩

theorem held_i {E : TypeId} {w : World} {B : Nat} {v : Value} {n : Nat} (k0 : Int) (h : Own E w B v (marks k0 n)) (hn : n < 1000000000) (hk0 : 0 ≤ k0) (hk1 : k0 < 100000000000) :
    Calls Sq.prog 15 #[v, .int .i64 k0] w fun e w' => e = .returned (.int .i64 (k0 + n)) ∧ Below w.heap.size w w' := by
  obtain ⟨a, c, rfl, k⟩ := h.shape
  have hl := marks_length k0 n
  by_cases hx : n = 0
  · subst hx
    refine (held_none a c k0 w).mono fun e w' ⟨he, hw⟩ => ?_
    subst hw
    exact ⟨by rw [he]; simp, Below.refl _ _⟩
  · obtain ⟨g, rfl, _, _, _, _, hi, _⟩ := k (fun e => by rw [e] at hl; simp at hl; omega)
    rw [hl] at hi ⊢
    refine held_core n g c k0 w hn hk0 hk1 fun i h => ?_
    rw [hi i h]
    exact congrArg (fun x => some (Value.int .i64 x)) (marks_get k0 n i h)
end Go.Proofs.Ytpigjhagdpeofaa

namespace Go.Proofs.Ytpigjhagdpeofaa
open Go.ChangeShapes Go.WideShapes Go.RowKit

theorem openI {H : Type} {enc : TypeId × Value → H} {P : Program} {w : World} {fuel : Nat} {t e : TypeId} {v : Value} {x : DataW H × List MemPlace} (ht : P.underlying t = some (.slice e)) (he : P.underlying e = some (.int .i64)) (hc : P.cellsOf e = 1)
    (h : DataW.trod enc P w 0 (fun _ => true) true fuel t [v] = some x) : ∃ (xs : List Int) (ad : Option Addr) (cap : Nat), v = .slice ad xs.length cap ∧ InI w (.slice ad xs.length cap) xs := by
  rcases open_ints ht he hc h with ⟨hcs, _⟩ | ⟨a, len, cap, zs, hcs, _, hl, hm, hz, hx, hcell, hwz⟩
  · simp at hcs
    subst hcs
    exact ⟨[], none, 0, rfl, none, 0, rfl, fun h => absurd rfl h⟩
  · simp at hcs
    subst hcs
    have hz' : zs.length = cap := by simpa using hz
    have hlen : (zs.take len).length = len := by rw [List.length_take]; omega
    refine ⟨zs.take len, some a, cap, by rw [hlen], some a, cap, by rw [hlen], fun hne => ?_⟩
    have h0 : 0 < zs.length := by
      rcases Nat.eq_zero_or_pos zs.length with h0 | h0
      · exfalso; apply hne; rw [List.eq_nil_of_length_eq_zero h0, List.take_nil]
      · exact h0
    obtain ⟨b, off, spot⟩ := a
    have hspot : spot = none := by simpa [Addr.add] using World.cell?_spot (hcell 0 h0)
    subst hspot
    refine ⟨b, off, rfl, fun i hi => ?_⟩
    have hi' : i < len := by omega
    have := hcell i (by omega)
    have e1 : (⟨b, off, none⟩ : Addr).add i = ⟨b, off + i, none⟩ := by unfold Addr.add; split <;> simp_all
    rw [e1] at this
    rw [this]
    simp [List.getD, hi']
theorem openI' {H : Type} {enc : TypeId × Value → H} {P : Program} {w : World} {t e : TypeId} {v : Value} {d : DataW H} {p : List MemPlace} (ht : P.underlying t = some (.slice e)) (he : P.underlying e = some (.int .i64)) (hc : P.cellsOf e = 1)
    {r : Reach} {b0 : Nat} (hv : Value.okWide P w r b0 t v) (h : DataW.Trod enc P w 0 (fun _ => true) true t v d p) : ∃ (xs : List Int) (ad : Option Addr) (cap : Nat), v = .slice ad xs.length cap ∧ InI w (.slice ad xs.length cap) xs := by
  obtain ⟨a, len, cap, rfl⟩ := okWide_slice ht hv
  obtain ⟨fuel, hf⟩ := h
  exact openI ht he hc (by simpa [Value.cells] using hf)
theorem lt_of_trod {H : Type} {enc : TypeId × Value → H} {P : Program} {w : World} {b : Nat} {s : Nat → Bool} {hd : Bool} {t : TypeId} {v : Value} {d : DataW H} {p : List MemPlace} (h : DataW.Trod enc P w b s hd t v d p) : ∀ x ∈ p, x.block < w.heap.size := by
  obtain ⟨m, hm⟩ := h
  exact DataW.trod_lt m _ _ _ hm
end Go.Proofs.Ytpigjhagdpeofaa

namespace Go.Proofs.Ytpigjhagdpeofaa
open Go.ChangeShapes Go.WideShapes Go.RowKit Go.Deep
set_option linter.unusedVariables false

def isI64 : Option TypeDesc → Bool
  | some (.int .i64) => true
  | _ => false
theorem isI64_is {o : Option TypeDesc} (h : isI64 o = true) : o = some (.int .i64) := by
  unfold isI64 at h
  split at h
  · rfl
  · cases h
def cellInt : Option Value → Int
  | some (.int _ z) => z
  | _ => 0
theorem openRec {H : Type} {enc : TypeId × Value → H} {P : Program} {w : World} {t e : TypeId} {fs : Array Field} {v : Value} {d : DataW H} {p : List MemPlace} (ht : P.underlying t = some (.slice e)) (he : P.underlying e = some (.struct fs))
    (hone : oneCellFields P fs = true) (hC : P.cellsOf e = fs.size) (hpos : 0 < fs.size) (hint : (List.range fs.size).all (fun j => match fs[j]? with | some f => isI64 (P.underlying f.type) | none => false) = true)
    {r : Reach} {b0 : Nat} (hv : Value.okWide P w r b0 t v) (h : DataW.Trod enc P w 0 (fun _ => true) true t v d p) :
    ∃ (X : Rec) (ad : Option Addr) (cap : Nat), v = .slice ad X.length cap ∧ InR fs.size w (.slice ad X.length cap) X := by
  obtain ⟨a0, len0, cap0, rfl⟩ := okWide_slice ht hv
  obtain ⟨fuel, hf⟩ := h
  rcases open_slice ht (by simpa [Value.cells] using hf) with ⟨hcs, _⟩ | ⟨a, len, cap, m, n, D, Pl, hcs, hb, hl, hm, hmm, hx, hi⟩
  · simp at hcs
    obtain ⟨rfl, rfl, rfl⟩ := hcs
    exact ⟨⟨0, fun _ => 0⟩, none, 0, rfl, none, 0, rfl, Nat.zero_le _, fun h => absurd rfl h⟩
  · simp at hcs
    obtain ⟨rfl, rfl, rfl⟩ := hcs
    have hmc : m = cap0 := by simpa using hmm
    obtain ⟨b, off, spot⟩ := a
    have cell : ∀ i, i < len0 → ∀ j, j < fs.size → ∃ z, w.cell? ((⟨b, off, spot⟩ : Addr).add (i * fs.size + j)) = some (.int .i64 z) := by
      intro i hil j hj
      obtain ⟨cs', hc, ht'⟩ := hi i (by omega)
      rw [hC] at hc
      obtain ⟨ys, n', hn', hy, hlen, hyl, hfl⟩ := DataW.trod_struct he ht'
      obtain ⟨_, hcl, hat⟩ := World.cells?_some hc
      obtain ⟨f, hfj⟩ : ∃ f, fs[j]? = some f := ⟨_, Array.getElem?_eq_getElem hj⟩
      have hin := List.all_eq_true.1 hint j (List.mem_range.2 hj)
      rw [hfj] at hin
      obtain ⟨ho, hk⟩ := hone_of hone j f hfj
      have h1 := hfl j f hfj
      rw [ho, hk] at h1
      have hone' : (cs'.drop j).take 1 = [cs'[j]'(by omega)] := by
        rw [List.drop_eq_getElem_cons (by omega)]; rfl
      rw [hone'] at h1
      have hys : ys[j]? = some (ys[j]'(by omega)) := List.getElem?_eq_getElem (by omega)
      obtain ⟨z, hz, _, _⟩ := DataW.trod_int (isI64_is hin) (h1.trans hys)
      refine ⟨z, ?_⟩
      rw [← Go.Deep.add_add, hat j hj, List.getElem?_eq_getElem (by omega)]
      simp at hz
      rw [hz]
    refine ⟨⟨len0, fun q => cellInt (w.cell? ((⟨b, off, spot⟩ : Addr).add q))⟩, some ⟨b, off, spot⟩, cap0, rfl, some ⟨b, off, spot⟩, cap0, rfl, by show len0 ≤ maxLen; omega, fun hne => ?_⟩
    have hne' : len0 ≠ 0 := hne
    obtain ⟨z0, hz0⟩ := cell 0 (by omega) 0 hpos
    have hspot : spot = none := by simpa [Addr.add] using World.cell?_spot hz0
    subst hspot
    refine ⟨b, off, rfl, fun i hi' j hj => ?_⟩
    obtain ⟨z, hzz⟩ := cell i hi' j hj
    have e1 : (⟨b, off, none⟩ : Addr).add (i * fs.size + j) = ⟨b, off + i * fs.size + j, none⟩ := by unfold Addr.add; split <;> simp_all [Nat.add_assoc]
    show _ = some (Value.int .i64 (cellInt (w.cell? ((⟨b, off, none⟩ : Addr).add (i * fs.size + j)))))
    rw [hzz, ← e1, hzz]; rfl
end Go.Proofs.Ytpigjhagdpeofaa

namespace Go.Proofs.Ytpigjhagdpeofaa
open Go.RowKit
set_option linter.unusedVariables false

theorem eqEntry_any (a b c d : Int) (w : World) :
    Calls Sq.prog 36 #[.agg #[.int .i64 a, .int .i64 b, .int .i64 c, .int .i64 d], .agg #[.int .i64 a, .int .i64 b, .int .i64 c, .int .i64 d]] w (RetV w (.bool true)) := by
  go_enter Sq.func36, Sq.ntmps36
  go_wp2
  go_ret
  exact ⟨rfl, by go_grown⟩

set_option maxHeartbeats 800000 in
theorem eqEntryS_core (n g1 g2 : Nat) (f : Nat → Int) (w : World) (hn : n < 1000000000) (hn0 : 0 < n) (I1 : RowC w g1 0 n 4 f) (I2 : RowC w g2 0 n 4 f) :
    Calls Sq.prog 12 #[.slice (some ⟨g1, 0, none⟩) n n, .slice (some ⟨g2, 0, none⟩) n n] w (RetV w (.bool true)) := by
  go_enter Sq.func12, Sq.ntmps12
  go_wp2
  go_loopw [5] (fun i wr => ∃ k : Nat, k ≤ n ∧ i = .int .i64 k ∧ Below w.heap.size w wr) (fun i _ => n - (intOf i).toNat)
  case atStart => exact ⟨0, Nat.zero_le _, rfl, Below.refl _ _⟩
  case round =>
    obtain ⟨k, hk, rfl, hb⟩ := hrel
    by_cases hlt : k < n
    · have c10 : wr.cell? ⟨g1, k * 4, none⟩ = some (.int .i64 (f (k * 4))) := Below.cellOf hb rfl (by have := I1 k hlt 0 (by decide); simpa only [Nat.zero_add, Nat.add_zero] using this)
      have c11 : wr.cell? ⟨g1, k * 4 + 1, none⟩ = some (.int .i64 (f (k * 4 + 1))) := Below.cellOf hb rfl (by have := I1 k hlt 1 (by decide); simpa only [Nat.zero_add, Nat.add_zero] using this)
      have c12 : wr.cell? ⟨g1, k * 4 + 2, none⟩ = some (.int .i64 (f (k * 4 + 2))) := Below.cellOf hb rfl (by have := I1 k hlt 2 (by decide); simpa only [Nat.zero_add, Nat.add_zero] using this)
      have c13 : wr.cell? ⟨g1, k * 4 + 3, none⟩ = some (.int .i64 (f (k * 4 + 3))) := Below.cellOf hb rfl (by have := I1 k hlt 3 (by decide); simpa only [Nat.zero_add, Nat.add_zero] using this)
      have c20 : wr.cell? ⟨g2, k * 4, none⟩ = some (.int .i64 (f (k * 4))) := Below.cellOf hb rfl (by have := I2 k hlt 0 (by decide); simpa only [Nat.zero_add, Nat.add_zero] using this)
      have c21 : wr.cell? ⟨g2, k * 4 + 1, none⟩ = some (.int .i64 (f (k * 4 + 1))) := Below.cellOf hb rfl (by have := I2 k hlt 1 (by decide); simpa only [Nat.zero_add, Nat.add_zero] using this)
      have c22 : wr.cell? ⟨g2, k * 4 + 2, none⟩ = some (.int .i64 (f (k * 4 + 2))) := Below.cellOf hb rfl (by have := I2 k hlt 2 (by decide); simpa only [Nat.zero_add, Nat.add_zero] using this)
      have c23 : wr.cell? ⟨g2, k * 4 + 3, none⟩ = some (.int .i64 (f (k * 4 + 3))) := Below.cellOf hb rfl (by have := I2 k hlt 3 (by decide); simpa only [Nat.zero_add, Nat.add_zero] using this)
      have e1 : (k : Int) < n := by omega
      go_wp2_with fail
      go_region_held3 (fun w' => w'.cell? ⟨g1, k * 4, none⟩ = some (.int .i64 (f (k * 4))) ∧ w'.cell? ⟨g1, k * 4 + 1, none⟩ = some (.int .i64 (f (k * 4 + 1))) ∧ w'.cell? ⟨g1, k * 4 + 2, none⟩ = some (.int .i64 (f (k * 4 + 2))) ∧ w'.cell? ⟨g1, k * 4 + 3, none⟩ = some (.int .i64 (f (k * 4 + 3))) ∧ w'.cell? ⟨g2, k * 4, none⟩ = some (.int .i64 (f (k * 4))) ∧ w'.cell? ⟨g2, k * 4 + 1, none⟩ = some (.int .i64 (f (k * 4 + 1))) ∧ w'.cell? ⟨g2, k * 4 + 2, none⟩ = some (.int .i64 (f (k * 4 + 2))) ∧ w'.cell? ⟨g2, k * 4 + 3, none⟩ = some (.int .i64 (f (k * 4 + 3))))
        (first | go_keep | (go_split_ands; refine ⟨?_, ?_, ?_, ?_, ?_, ?_, ?_, ?_⟩ <;> (apply Below.cellOf (by assumption) rfl; assumption)))
        ((first | (go_at_call 36; refine (eqEntry_any _ _ _ _ _).mono ?_; rintro e w3 ⟨rfl, hb3⟩)))
      go_wp2
      go_roundw
      case rel => exact ⟨k + 1, by omega, by go_num, hb.drew.trans (hb3.mono hb.size)⟩
      case measure => simp [intOf]; omega
    · obtain rfl : k = n := by omega
      go_wp2
      go_ret
      exact ⟨rfl, hb⟩

theorem eqEntryS_none (a1 a2 : Option Addr) (c1 c2 : Nat) (w : World) : Calls Sq.prog 12 #[.slice a1 0 c1, .slice a2 0 c2] w (RetV w (.bool true)) := by
  go_enter Sq.func12, Sq.ntmps12
  go_wp2
  go_rounds 1
  go_ret
  exact ⟨rfl, Below.refl _ _⟩

theorem eq_e {w : World} {B1 B2 : Nat} {v1 v2 : Value} {X : Rec} (h1 : RowR 4 w B1 v1 X) (h2 : RowR 4 w B2 v2 X) (hn : X.length < 1000000000) :
    Calls Sq.prog 12 #[v1, v2] w (RetV w (.bool true)) := by
  obtain ⟨g1, rfl, _, _, _, I1, _⟩ := h1
  obtain ⟨g2, rfl, _, _, _, I2, _⟩ := h2
  by_cases h0 : X.length = 0
  · rw [h0]; exact eqEntryS_none _ _ _ _ w
  · exact eqEntryS_core X.length g1 g2 X.f w hn (by omega) I1 I2

theorem sz_e_no {w : World} {v : Value} {X : Rec} (h : InR 4 w v X) {L : Int} (hs : L < X.length) (hL : 0 ≤ L ∧ L ≤ 1048576) : Calls Sq.prog 6 #[v, .int .i64 L] w (RetV w (.int .i64 (-1))) := by
  obtain ⟨a, cap, rfl, hm, _⟩ := h
  unfold maxLen at hm
  generalize X.length = n at *
  go_enter Sq.func6, Sq.ntmps6
  go_wp2
  go_ret
  exact ⟨rfl, Below.refl _ _⟩
theorem sz_e_yes {w : World} {v : Value} {X : Rec} (h : InR 4 w v X) {L : Int} (hs : (X.length : Int) ≤ L) (hL : 0 ≤ L ∧ L ≤ 1048576) : Calls Sq.prog 6 #[v, .int .i64 L] w (RetV w (.int .i64 (L - X.length))) := by
  obtain ⟨a, cap, rfl, hm, _⟩ := h
  unfold maxLen at hm
  generalize X.length = n at *
  go_enter Sq.func6, Sq.ntmps6
  go_wp2
  go_ret
  exact ⟨rfl, Below.refl _ _⟩

set_option maxRecDepth 100000 in
theorem Sq.openEntryS {H : Type} {enc : TypeId × Value → H} {w : World} {v : Value} {d : DataW H} {p : List MemPlace} {r : Reach} {b0 : Nat} (hv : Value.okWide Sq.prog w r b0 22 v) (h : DataW.Trod enc Sq.prog w 0 (fun _ => true) true 22 v d p) :
    ∃ (X : Rec) (ad : Option Addr) (cap : Nat), v = .slice ad X.length cap ∧ InR 4 w (.slice ad X.length cap) X :=
  openRec Sq.underlying22 Sq.underlying54 (by kernel_rfl) (by kernel_rfl) (of_decide_eq_true (by kernel_rfl)) (by kernel_rfl) hv h
end Go.Proofs.Ytpigjhagdpeofaa

namespace Go.Proofs.Ytpigjhagdpeofaa
open Go.RowKit
set_option linter.unusedVariables false

theorem RowR.only {k : Nat} {w w' : World} {B lo hi : Nat} {v : Value} {X : Rec} (h : RowR k w B v X) (ho : Only lo hi w w') (hd : ∀ b, v.ownBlock = some b → b < lo ∨ hi ≤ b) : RowR k w' B v X := by
  obtain ⟨g, rfl, h1, h2, h3, h4, h5⟩ := h
  have hb := ho.block g h2 (hd g rfl)
  refine ⟨g, rfl, h1, Nat.lt_of_lt_of_le h2 ho.size, h3, fun i hi j hj => ?_, fun i => ?_⟩
  · have := h4 i hi j hj
    unfold World.cell? at this ⊢
    rw [hb]
    exact this
  · have := h5 i
    unfold World.frozen? at this ⊢
    rw [hb]
    exact this
/-- What marking leaves. -/
def MarkedEntry (w : World) (B : Nat) (v : Value) (n : Nat) (k0 : Int) (e : Ending) (w' : World) : Prop :=
  e = .returned (.int .i64 (k0 + 4 * n)) ∧ RowR 4 w' B v ⟨n, fun i => k0 + i⟩ ∧ ∀ lo hi, (∀ b, v.ownBlock = some b → lo ≤ b ∧ b < hi) → Only lo hi w w'
set_option maxRecDepth 8000 in
set_option maxHeartbeats 1600000 in
theorem markEntry_core (n g : Nat) (k0 : Int) (w : World) (hn : n < 1000000000) (hk0 : 0 ≤ k0) (hk1 : k0 < 100000000000) (h : There w g (n * 4)) :
    Calls Sq.prog 13 #[.slice (some ⟨g, 0, none⟩) n n, .int .i64 k0] w fun e w' => e = .returned (.int .i64 (k0 + 4 * n)) ∧ There w' g (n * 4) ∧ CellsTo w' g (n * 4) (fun i => k0 + i) ∧ Only g (g + 1) w w' := by
  go_enter Sq.func13, Sq.ntmps13
  go_wp2
  go_loopw [1, 5] (fun kv i wr => ∃ j : Nat, j ≤ n ∧ i = .int .i64 j ∧ kv = .int .i64 (k0 + 4 * j) ∧ There wr g (n * 4) ∧ CellsTo wr g (j * 4) (fun i => k0 + i) ∧ Only g (g + 1) w wr) (fun _ i _ => n - (intOf i).toNat)
  case atStart => exact ⟨0, Nat.zero_le _, rfl, by go_num, h, fun i hi => absurd hi (by omega), Only.refl _ _ _⟩
  case round =>
    obtain ⟨j, hj, rfl, rfl, ht, hc, ho⟩ := hrel
    by_cases hlt : j < n
    · obtain ⟨x0, y0⟩ := ht.at (j * 4) (by omega)
      have z0 := ht.2.2 (j * 4)
      obtain ⟨x1, y1⟩ := ht.at (j * 4 + 1) (by omega)
      have z1 := ht.2.2 (j * 4 + 1)
      obtain ⟨x2, y2⟩ := ht.at (j * 4 + 2) (by omega)
      have z2 := ht.2.2 (j * 4 + 2)
      obtain ⟨x3, y3⟩ := ht.at (j * 4 + 3) (by omega)
      have z3 := ht.2.2 (j * 4 + 3)
      have HC := Lib.hid hc
      have HT := Lib.hid ht
      clear hc ht
      go_wp2
      have s0 : CellsTo (wr.setCell ⟨g, j * 4, none⟩ (.int .i64 (k0 + 4 * j))) g (j * 4 + 1) (fun i => k0 + i) := by
        have := HC.out.set HT.out (show j * 4 < n * 4 by omega)
        rwa [show (k0 : Int) + ((j * 4 : Nat) : Int) = k0 + 4 * j by omega] at this
      have t0 := HT.out.set (j * 4) (.int .i64 (k0 + 4 * j))
      have s1 : CellsTo _ g (j * 4 + 2) (fun i => k0 + i) := s0.set (v := j * 4 + 1) t0 (by omega)
      rw [show (k0 : Int) + ((j * 4 + 1 : Nat) : Int) = k0 + 4 * j + 1 by omega] at s1
      have t1 := t0.set (j * 4 + 1) (.int .i64 (k0 + 4 * j + 1))
      have s2 : CellsTo _ g (j * 4 + 3) (fun i => k0 + i) := s1.set (v := j * 4 + 2) t1 (by omega)
      rw [show (k0 : Int) + ((j * 4 + 2 : Nat) : Int) = k0 + 4 * j + 1 + 1 by omega] at s2
      have t2 := t1.set (j * 4 + 2) (.int .i64 (k0 + 4 * j + 1 + 1))
      have s3 : CellsTo _ g (j * 4 + 4) (fun i => k0 + i) := s2.set (v := j * 4 + 3) t2 (by omega)
      rw [show (k0 : Int) + ((j * 4 + 3 : Nat) : Int) = k0 + 4 * j + 1 + 1 + 1 by omega] at s3
      have t3 := t2.set (j * 4 + 3) (.int .i64 (k0 + 4 * j + 1 + 1 + 1))
      go_roundw
      case rel => exact ⟨j + 1, by omega, by go_num, by go_num, t3, by rw [show (j + 1) * 4 = j * 4 + 4 by omega]; exact s3, ((((ho.setCell (Nat.le_refl _) (Nat.lt_succ_self _) _).setCell (Nat.le_refl _) (Nat.lt_succ_self _) _).setCell (Nat.le_refl _) (Nat.lt_succ_self _) _).setCell (Nat.le_refl _) (Nat.lt_succ_self _) _)⟩
      case measure => simp [intOf]; omega
    · obtain rfl : j = n := by omega
      go_wp2
      go_ret
      exact ⟨rfl, ht, hc, ho⟩
theorem markEntry_none (a : Option Addr) (cap : Nat) (k0 : Int) (w : World) : Calls Sq.prog 13 #[.slice a 0 cap, .int .i64 k0] w fun e w' => e = .returned (.int .i64 k0) ∧ w = w' := by
  go_enter Sq.func13, Sq.ntmps13
  go_wp2
  go_rounds 1
  go_ret
  exact ⟨rfl, rfl⟩
theorem mark_e {w : World} {B : Nat} {v : Value} {X : Rec} (k0 : Int) (h : RowR 4 w B v X) (hn : X.length < 1000000000) (hk0 : 0 ≤ k0) (hk1 : k0 < 100000000000) :
    Calls Sq.prog 13 #[v, .int .i64 k0] w (MarkedEntry w B v X.length k0) := by
  obtain ⟨g, rfl, h1, h2, h3, h4, h5⟩ := h
  have ht : There w g (X.length * 4) := ⟨h2, fun i hi => by
    have := h4 (i / 4) (by omega) (i % 4) (by omega)
    rw [Nat.zero_add, show i / 4 * 4 + i % 4 = i by omega] at this
    rw [this]; rfl, h5⟩
  refine (markEntry_core X.length g k0 w hn hk0 hk1 ht).mono ?_
  rintro e w' ⟨rfl, t, c, o⟩
  refine ⟨rfl, ⟨g, rfl, h1, t.1, h3, c.row, t.2.2⟩, fun lo hi hr => ?_⟩
  obtain ⟨p, q⟩ := hr g rfl
  exact ⟨o.os, o.tape, o.output, o.size, fun b hb hd => o.block b hb (by omega)⟩
end Go.Proofs.Ytpigjhagdpeofaa

namespace Go.Proofs.Ytpigjhagdpeofaa
open Go.RowKit Go.Proofs.Ytpigjhagdpeofaa.Sim
set_option linter.unusedVariables false
section
variable {n : Nat} {F : Nat → Int} {W : World}
theorem lone_cellA {a : Addr} (h : 4 ≤ a.block) : (lone0 n F W).cell? a = W.cell? ⟨a.block - 2, a.off, a.spot⟩ := by
  show (match (Sq.h (loneL n F W))[a.block]? with | some (.cells c _ _) => if a.spot.isSome then none else c[a.off]? | _ => none) = W.cell? ⟨a.block - 2, a.off, a.spot⟩
  rw [lone_at h]
  unfold World.cell?
  cases W.heap[a.block - 2]? with
  | none => rfl
  | some o => cases o <;> rfl
theorem lone_cell {b i : Nat} (h : 2 ≤ b) : (lone0 n F W).cell? ⟨b + 2, i, none⟩ = W.cell? ⟨b, i, none⟩ := lone_cellA (a := ⟨b + 2, i, none⟩) (by show 4 ≤ b + 2; omega)
/-- Two blocks up. -/
def up2 (a : Option Addr) : Option Addr := a.map fun a => ⟨a.block + 2, a.off, a.spot⟩
theorem InR.lone {k c : Nat} {ad : Option Addr} {X : Rec} (h : InR k W (.slice ad X.length c) X) (h2 : ∀ a, ad = some a → 2 ≤ a.block) : InR k (lone0 n F W) (.slice (up2 ad) X.length c) X := by
  obtain ⟨a, cap, hv, hm, ha⟩ := h
  cases hv
  refine ⟨_, _, rfl, hm, fun hx => ?_⟩
  obtain ⟨g, off, rfl, hI⟩ := ha hx
  have hg : 2 ≤ g := h2 _ rfl
  exact ⟨g + 2, off, rfl, fun i hi j hj => by rw [lone_cell hg]; exact hI i hi j hj⟩
theorem InI.lone {c : Nat} {ad : Option Addr} {xs : List Int} (h : InI W (.slice ad xs.length c) xs) (h2 : ∀ a, ad = some a → 2 ≤ a.block) : InI (lone0 n F W) (.slice (up2 ad) xs.length c) xs := by
  obtain ⟨a, cap, hv, ha⟩ := h
  cases hv
  refine ⟨_, _, rfl, fun hx => ?_⟩
  obtain ⟨g, off, rfl, hI⟩ := ha hx
  have hg : 2 ≤ g := h2 _ rfl
  exact ⟨g + 2, off, rfl, fun i hi => by rw [lone_cell hg]; exact hI i hi⟩
theorem lone_sat (h2 : 2 ≤ W.heap.size) : Sat2 n F (lone0 n F W) := by
  refine ⟨⟨#[.int .i64 0, .nilFunc], 58, rfl, rfl⟩, fun p hp => ?_, ?_⟩
  · show (Sq.rowF n F)[p]? = _
    exact Sq.rowF_at hp
  · have : (lone0 n F W).heap.size = W.heap.size + 2 := lone_size h2
    omega
theorem Sat2.tp {w : World} (h : Sat2 n F w) (U : Nat → Question → Nat) (K : Nat) : Sat2 n F (Sim.tp w U K) := ⟨h.box, h.orc, h.low⟩
end
end Go.Proofs.Ytpigjhagdpeofaa

namespace Go.Proofs.Ytpigjhagdpeofaa
open Go.ChangeShapes Go.WideShapes Go.ChangeAt Go.RowKit Go.Proofs.Ytpigjhagdpeofaa.Sim
set_option linter.unusedVariables false
theorem RowI.mono {E : TypeId} {w : World} {B B' : Nat} {v : Value} {xs : List Int} (h : RowI E w B v xs) (hB : B' ≤ B) : RowI E w B' v xs := ⟨h.1.mono hB, h.2⟩
theorem RowF.mono {k : Nat} {w : World} {B B' : Nat} {v : Value} {X : Rec} (h : RowF k w B v X) (hB : B' ≤ B) : RowF k w B' v X := by
  obtain ⟨⟨g, h1, h2, h3⟩, h4⟩ := h
  exact ⟨⟨g, h1, Nat.le_trans hB h2, h3⟩, h4⟩
set_option maxHeartbeats 4000000 in
theorem walk_balSh (x0 : Rec) (ad0 : Option Addr) (c0 : Nat) (x1 : List Int) (ad1 : Option Addr) (c1 : Nat) (x2 : Int) (w : World) (i0 : InR 4 w (.slice ad0 x0.length c0) x0) (i1 : InI w (.slice ad1 x1.length c1) x1) (h4 : 3 < w.heap.size) (hS : BalSh_r1 x0 x1.length (fun i => x1.getD i 0) x2 = true → Sat2 x1.length (BalSh_F x0 fun i => x1.getD i 0) w) :
    Calls Sq.prog 3 #[.slice ad0 x0.length c0, .slice ad1 x1.length c1, .int .i64 x2] w fun e w' => e = .returned (.bool true) ∨ Told (PreB w.heap.size x1.length (BalSh_F x0 fun i => x1.getD i 0)) e w' := by
  rcases Int.lt_or_le 1048576 (x1.length : Int) with hl1 | hl1
  · go_enter Sq.func3, Sq.ntmps3
    go_wp2_with fail
    go_ret
    exact Or.inl rfl
  go_enter Sq.func3, Sq.ntmps3
  rcases Int.lt_or_le (1048576) (x0.length : Int) with hs0 | hs0
  · go_wp2_with fail
    refine (sz_e_no i0 hs0 (by omega)).mono ?_
    rintro e wz ⟨rfl, bz⟩
    go_wp2_with fail
    go_ret
    exact Or.inl rfl
  go_wp2_with fail
  refine (sz_e_yes i0 hs0 (by omega)).mono ?_
  rintro e w1 ⟨rfl, b1⟩
  have C1 := b1
  go_wp2_with fail
  refine (to_e (i0.below C1) (by omega)).mono ?_
  rintro e w2 ⟨v_t1, rfl, o_t1, b2⟩
  have C2 := bnext C1 b2
  have lt_t1 := Lib.hid o_t1.lt
  go_wp2_with fail
  refine (to_i (i1.below C2) (by omega)).mono ?_
  rintro e w3 ⟨v_t2, rfl, o_t2, b3⟩
  have C3 := bnext C2 b3
  replace o_t1 := o_t1.below b3
  have lt_t2 := Lib.hid o_t2.lt
  go_wp2_with fail
  refine (BalSh_spec o_t1 o_t2 (k := x2)).mono ?_
  rintro e w4 ⟨v_w0, rfl, o_w0, ln_w0, b4⟩
  have C4 := bnext C3 b4
  replace o_t1 := o_t1.below b4
  replace o_t2 := o_t2.below b4
  have lt_w0 := Lib.hid o_w0.lt
  go_wp2_with fail
  refine (to_eF (i0.below C4) (by omega)).mono ?_
  rintro e w5 ⟨v_t3, rfl, o_t3, b5⟩
  have C5 := bnext C4 b5
  replace o_w0 := o_w0.below b5
  have lt_t3 := Lib.hid o_t3.1.lt
  go_wp2_with fail
  refine (to_i (i1.below C5) (by omega)).mono ?_
  rintro e w6 ⟨v_t4, rfl, o_t4, b6⟩
  have C6 := bnext C5 b6
  replace o_w0 := o_w0.below b6
  replace o_t3 := o_t3.below b6
  have lt_t4 := Lib.hid o_t4.lt
  go_wp2_with fail
  refine (BalSh_impl (B := w.heap.size) (k := x2) (o_t3.mono C4.size) (o_t4.mono C5.size) h4 (fun h => (hS h).below C6)).mono ?_
  intro e w7 hh
  rcases hh.symm with ht | ⟨v_g0, rfl, o_g0, ln_g0, b7⟩
  · obtain ⟨x, ch, va, vb, vc, e0, rfl, q1, q2, q3⟩ := ht
    exact ⟨rfl, Or.inr ⟨x, ch, va, vb, vc, e0, rfl, q1, q2, q3⟩⟩
  have C7 := bnext C6 b7
  replace o_w0 := o_w0.below b7
  replace o_t3 := o_t3.below b7
  replace o_t4 := o_t4.below b7
  have lt_g0 := Lib.hid o_g0.lt
  go_wp2_with fail
  refine (eq_i o_g0 o_w0 (by omega)).mono ?_
  rintro e w8 ⟨rfl, b8⟩
  have C8 := bnext C7 b8
  replace o_w0 := o_w0.below b8
  replace o_t3 := o_t3.below b8
  replace o_t4 := o_t4.below b8
  replace o_g0 := o_g0.below b8
  go_wp2_with fail
  refine (to_e (i0.below C8) (by omega)).mono ?_
  rintro e w9 ⟨v_t5, rfl, o_t5, b9⟩
  have C9 := bnext C8 b9
  replace o_w0 := o_w0.below b9
  replace o_t3 := o_t3.below b9
  replace o_t4 := o_t4.below b9
  replace o_g0 := o_g0.below b9
  have lt_t5 := Lib.hid o_t5.lt
  go_wp2_with fail
  refine (eq_e o_t3.1 o_t5 (by omega)).mono ?_
  rintro e w10 ⟨rfl, b10⟩
  have C10 := bnext C9 b10
  replace o_w0 := o_w0.below b10
  replace o_t3 := o_t3.below b10
  replace o_t4 := o_t4.below b10
  replace o_g0 := o_g0.below b10
  replace o_t5 := o_t5.below b10
  go_wp2_with fail
  refine (to_i (i1.below C10) (by omega)).mono ?_
  rintro e w11 ⟨v_t6, rfl, o_t6, b11⟩
  have C11 := bnext C10 b11
  replace o_w0 := o_w0.below b11
  replace o_t3 := o_t3.below b11
  replace o_t4 := o_t4.below b11
  replace o_g0 := o_g0.below b11
  have lt_t6 := Lib.hid o_t6.lt
  go_wp2_with fail
  refine (eq_i o_t4.own o_t6.own (by omega)).mono ?_
  rintro e w12 ⟨rfl, b12⟩
  have C12 := bnext C11 b12
  replace o_w0 := o_w0.below b12
  replace o_t3 := o_t3.below b12
  replace o_t4 := o_t4.below b12
  replace o_g0 := o_g0.below b12
  replace o_t6 := o_t6.below b12
  go_wp2_with fail
  refine (mark_e _ o_t3.1 (by omega) (by omega) (by omega)).mono ?_
  rintro e w13 ⟨rfl, q_x0, n13⟩
  have m13 := n13 w4.heap.size w5.heap.size lt_t3.out
  have C13 := C12.trans (m13.toBelow C4.size C12.size)
  replace o_w0 := o_w0.only m13 (fun k hk => .inl (by have := (lt_w0.out k hk).2; omega))
  replace o_t4 := o_t4.only m13 (fun k hk => .inr (by have := (lt_t4.out k hk).1; omega))
  replace o_g0 := o_g0.only m13 (fun k hk => .inr (by have := (lt_g0.out k hk).1; have := b6.size; omega))
  clear o_t3
  go_wp2_with fail
  refine (mark_i _ o_t4.own (by omega) (by omega) (by omega)).mono ?_
  rintro e w14 ⟨rfl, q_x1, n14⟩
  have m14 := n14 w5.heap.size w6.heap.size lt_t4.out
  have C14 := C13.trans (m14.toBelow C5.size C13.size)
  replace o_w0 := o_w0.only m14 (fun k hk => .inl (by have := (lt_w0.out k hk).2; have := b5.size; omega))
  replace q_x0 := q_x0.only m14 (fun k hk => .inl (by have := (lt_t3.out k hk).2; omega))
  replace o_g0 := o_g0.only m14 (fun k hk => .inr (by have := (lt_g0.out k hk).1; omega))
  clear o_t4
  go_wp2_with fail
  refine (eq_i o_g0 o_w0 (by omega)).mono ?_
  rintro e w15 ⟨rfl, b15⟩
  have C15 := bnext C14 b15
  replace o_w0 := o_w0.below b15
  replace q_x0 := q_x0.below b15
  replace q_x1 := q_x1.below b15
  replace o_g0 := o_g0.below b15
  go_wp2_with fail
  refine (mark_i _ o_g0 (by omega) (by omega) (by omega)).mono ?_
  rintro e w16 ⟨rfl, q_g0, n16⟩
  have m16 := n16 w6.heap.size w7.heap.size lt_g0.out
  have C16 := C15.trans (m16.toBelow C6.size C15.size)
  replace o_w0 := o_w0.only m16 (fun k hk => .inl (by have := (lt_w0.out k hk).2; have := b5.size; have := b6.size; omega))
  replace q_x0 := q_x0.only m16 (fun k hk => .inl (by have := (lt_t3.out k hk).2; have := b6.size; omega))
  replace q_x1 := q_x1.only m16 (fun k hk => .inl (by have := (lt_t4.out k hk).2; omega))
  clear o_g0
  go_wp2_with fail
  refine (held_i _ q_g0 (by omega) (by omega) (by omega)).mono ?_
  rintro e w17 ⟨rfl, b17⟩
  have C17 := bnext C16 b17
  replace o_w0 := o_w0.below b17
  replace q_x0 := q_x0.below b17
  replace q_x1 := q_x1.below b17
  replace q_g0 := q_g0.below b17
  go_wp2_with fail
  refine (to_eF (i0.below C17) (by omega)).mono ?_
  rintro e w18 ⟨v_t7, rfl, o_t7, b18⟩
  have C18 := bnext C17 b18
  replace o_w0 := o_w0.below b18
  replace q_x0 := q_x0.below b18
  replace q_x1 := q_x1.below b18
  replace q_g0 := q_g0.below b18
  have lt_t7 := Lib.hid o_t7.1.lt
  go_wp2_with fail
  refine (to_i (i1.below C18) (by omega)).mono ?_
  rintro e w19 ⟨v_t8, rfl, o_t8, b19⟩
  have C19 := bnext C18 b19
  replace o_w0 := o_w0.below b19
  replace q_x0 := q_x0.below b19
  replace q_x1 := q_x1.below b19
  replace q_g0 := q_g0.below b19
  replace o_t7 := o_t7.below b19
  have lt_t8 := Lib.hid o_t8.lt
  go_wp2_with fail
  refine (BalSh_impl (B := w.heap.size) (k := x2) (o_t7.mono C17.size) (o_t8.mono C18.size) h4 (fun h => (hS h).below C19)).mono ?_
  intro e w20 hh
  rcases hh.symm with ht | ⟨v_h0, rfl, o_h0, ln_h0, b20⟩
  · obtain ⟨x, ch, va, vb, vc, e0, rfl, q1, q2, q3⟩ := ht
    exact ⟨rfl, Or.inr ⟨x, ch, va, vb, vc, e0, rfl, q1, q2, q3⟩⟩
  have C20 := bnext C19 b20
  replace o_w0 := o_w0.below b20
  replace q_x0 := q_x0.below b20
  replace q_x1 := q_x1.below b20
  replace q_g0 := q_g0.below b20
  replace o_t7 := o_t7.below b20
  replace o_t8 := o_t8.below b20
  have lt_h0 := Lib.hid o_h0.lt
  go_wp2_with fail
  refine (eq_i o_h0 o_w0 (by omega)).mono ?_
  rintro e w21 ⟨rfl, b21⟩
  have C21 := bnext C20 b21
  replace o_w0 := o_w0.below b21
  replace q_x0 := q_x0.below b21
  replace q_x1 := q_x1.below b21
  replace q_g0 := q_g0.below b21
  replace o_h0 := o_h0.below b21
  go_wp2_with fail
  refine (held_i _ q_g0 (by omega) (by omega) (by omega)).mono ?_
  rintro e w22 ⟨rfl, b22⟩
  have C22 := bnext C21 b22
  replace o_w0 := o_w0.below b22
  replace q_x0 := q_x0.below b22
  replace q_x1 := q_x1.below b22
  replace q_g0 := q_g0.below b22
  replace o_h0 := o_h0.below b22
  go_wp2_with fail
  go_ret
  exact Or.inl rfl


end Go.Proofs.Ytpigjhagdpeofaa

namespace Go.Proofs.Ytpigjhagdpeofaa
open Go.RowKit Go.Proofs.Ytpigjhagdpeofaa.Sim
set_option linter.unusedVariables false
set_option maxHeartbeats 1600000 in
theorem preB_ok {n N0 : Nat} {F : Nat → Int} {hl : List Obj} {r0 : Ren} (hN : (XL n F hl r0).n0 ≤ N0) : PreOK (XL n F hl r0) n F (PreB N0 n F) := by
  intro r wl wc va vb vc va' vb' vc' U K hw ha hb hc hpre
  have h4 : 4 ≤ (XL n F hl r0).n0 := by
    show 4 ≤ (Sq.h (letter :: orc n F :: hl)).size
    simp [Sq.h]
  obtain ⟨gl, cl, k, m, g, p, f, L, rfl, rfl, k0, k8, rfl, n1, n2, n3, hL, hbox, hI, hfu, hent, hF, _⟩ := hpre
  obtain ⟨gl', s1, hgl, rfl⟩ := ha.slice_inv
  obtain rfl := hb.int_inv
  obtain ⟨ds, hds, rfl⟩ := hc.fun_inv
  obtain ⟨y, rfl, hy⟩ := hds.one
  obtain ⟨p', s2, hp, rfl⟩ := hy.ptr_inv
  obtain rfl := hw.sh gl gl' s1 (by omega) hgl
  obtain rfl := hw.sh p p' s2 (by omega) hp
  have hplt := (hw.dom _ _ hp).1
  have hgllt := (hw.dom _ _ hgl).1
  have hbox' : wl.cell? ⟨p, 0, none⟩ = some (.slice (some ⟨g, 0, none⟩) m m) := by
    have hb1 : (Sq.panW (.slice (some ⟨gl, 0, none⟩) n cl) (.int .i64 (k : Nat)) (.func (.func 34) #[] #[.pointer (some ⟨p, 0, none⟩)]) (Sim.tp wl U K)).cell? ⟨p, 0, none⟩ = some (.slice (some ⟨g, 0, none⟩) m m) := by
      simp only [World.cell?, hbox, Option.isSome_none, Bool.false_eq_true, if_false]
      rfl
    rwa [panW_cell hplt (by omega)] at hb1
  obtain ⟨_, y2, _, hr2⟩ := hw.ownCell hp hbox'
  obtain ⟨g', s3, hg, rfl⟩ := hr2.slice_inv
  obtain rfl := hw.sh g g' s3 (by omega) hg
  have hglt := (hw.dom _ _ hg).1
  have hL' : ∀ j, j < n → wl.cell? ⟨gl, j, none⟩ = some (.int .i64 (L j)) := fun j hj => by
    have := hL.at0 j hj
    rwa [panW_cell hgllt (by omega)] at this
  have hI' : ∀ j, j < m * 4 → wl.cell? ⟨g, j, none⟩ = some (.int .i64 (f j)) := fun j hj => by
    have := hI (j / 4) (by omega) (j % 4) (by omega)
    rw [show 0 + j / 4 * 4 + j % 4 = j by omega, show j / 4 * 4 + j % 4 = j by omega] at this
    rwa [panW_cell hglt (by omega)] at this
  have hne : p' ≠ g' := by
    rintro rfl
    obtain rfl := hw.inj p g p' 0 0 (by omega) hp hg
    obtain ⟨cs, e, fz, q1, q2⟩ := hfu
    rw [hbox] at q1
    cases q1
    simp at q2
    omega
  refine ⟨some ⟨gl, 0, none⟩, _, gl', cl, k, 34, _, _, L, fun y => y = p' ∨ y = g', rfl, rfl, rfl, rfl, fun _ => rfl, rfl, rfl, k0, k8, fun w1 hk h2 hm => ?_⟩
  have hw1 := hw.rely hk
  have hp2 : 2 ≤ p' := hm p' ⟨p, by omega, hp⟩
  have hg2 : 2 ≤ g' := hm g' ⟨g, by omega, hg⟩
  have hplt' := (hw1.dom _ _ hp).2
  have hglt' := (hw1.dom _ _ hg).2
  have cbox : w1.cell? ⟨p', 0, none⟩ = some (.slice (some ⟨g', 0, none⟩) m m) := by
    obtain ⟨_, z, hz, hr⟩ := hw1.ownCell hp hbox'
    obtain ⟨c, s, e1, rfl⟩ := hr.slice_inv
    rw [hg] at e1
    cases e1
    exact hz
  have crow : ∀ j, j < m * 4 → w1.cell? ⟨g', j, none⟩ = some (.int .i64 (f j)) := fun j hj => hw1.ownInt hg (hI' j hj)
  refine ⟨(hw1.dom _ _ hgl).2, fun j hj => hw1.ownInt hgl (hL' j hj), ⟨⟨fun args w => ?_, fun args w es => ?_⟩, rfl, fun x i v hv => ?_, fun x h i v hv => ?_, fun b => if b = p' then 1 else m * 4, ⟨h2, fun b hb => ?_, fun b hb => ?_⟩, fun w2 hk2 i hi U2 => ?_⟩, fun y hy => ?_⟩
  · simp only [Go.callFunc, Sem.run_bind, run_program, Result.andThen_ok, Try.func34]
    rfl
  · simp only [Go.callFunc, Sem.events_bind, run_program, Result.evThen_ok, Try.func34]
    rfl
  · match i, hv with
    | 0, hv => cases hv; exact .flat rfl
    | 1, hv =>
      cases hv
      exact VRel.ptr (a := ⟨p', 0, none⟩) (c := p') (s := 0) (Sq.ren_iff.2 ⟨.inl rfl, rfl, rfl⟩)
    | i + 2, hv => simp at hv
  · match i, hv with
    | 0, hv => cases hv; exact NP.int _ _
    | 1, hv => trivial
    | i + 2, hv => simp at hv
  · rcases hb with rfl | rfl
    · exact hp2
    · exact hg2
  · rcases hb with rfl | rfl
    · refine read_row (g := fun _ => .slice (some ⟨g', 0, none⟩) m m) hplt' (fun i hi => ?_) (fun i hi => ⟨NP.slice _ _ _, VRel.slice (a := ⟨g', 0, none⟩) (c := g') (s := 0) (Sq.ren_iff.2 ⟨.inr rfl, rfl, rfl⟩)⟩)
      rw [if_pos rfl] at hi
      obtain rfl : i = 0 := by omega
      exact cbox
    · refine read_row (g := fun i => .int .i64 (f i)) hglt' (fun i hi => ?_) (fun i hi => ⟨NP.int _ _, .flat rfl⟩)
      rw [if_neg (Ne.symm hne)] at hi
      exact crow i hi
  · have cell2 : ∀ b i : Nat, (b = p' ∨ b = g') → 2 ≤ b → i < (if b = p' then 1 else m * 4) → (Sim.tp (Sq.heldM (fun b => if b = p' then 1 else m * 4) w2) U2 0).cell? ⟨b, i, none⟩ = w1.cell? ⟨b, i, none⟩ := fun b i hb h2 hi => by
      have e1 : (Sim.tp (Sq.heldM (fun b => if b = p' then 1 else m * 4) w2) U2 0).cell? ⟨b, i, none⟩ = w2.cell? ⟨b, i, none⟩ := Sq.heldM_cell (m := fun b => if b = p' then 1 else m * 4) (a := ⟨b, i, none⟩) h2 hi
      rw [e1]
      unfold World.cell?
      rw [hk2 b hb]
    show Calls Sq.prog 34 #[.int .i64 (L i), .pointer (some ⟨p', 0, none⟩)] _ _
    refine (lit34_impl m m g' p' f (L i) _ ?_ (fun i hi j hj => ?_) hent).mono fun e w' h => ?_
    · rw [cell2 p' 0 (.inl rfl) hp2 (by rw [if_pos rfl]; omega)]
      exact cbox
    · rw [cell2 g' _ (.inr rfl) hg2 (by rw [if_neg (Ne.symm hne)]; omega), Nat.zero_add]
      exact crow _ (by omega)
    · rw [h.1, hF i hi]
  · rcases hy with rfl | rfl
    · exact hplt'
    · exact hglt'
end Go.Proofs.Ytpigjhagdpeofaa
