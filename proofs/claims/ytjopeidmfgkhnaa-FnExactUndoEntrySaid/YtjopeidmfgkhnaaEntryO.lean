/-
  eqEntryS, markEntryS and heldEntryS at records with room to spare, or none. Condition: fewer than 1000000000 records.
-/
import Derived.Test.YtjopeidmfgkhnaaRecO
import Derived.Test.YtjopeidmfgkhnaaEntryS
import Derived.Test.YtjopeidmfgkhnaaEntryM
namespace Go.Proofs.Ytjopeidmfgkhnaa
open Go.RowKit
set_option linter.unusedVariables false

set_option maxHeartbeats 800000 in
theorem eqEntryO_core (n g1 g2 c1 c2 : Nat) (f : Nat → Int) (w : World) (hn : n < 1000000000) (hn0 : 0 < n) (I1 : RowC w g1 0 n 4 f) (I2 : RowC w g2 0 n 4 f) :
    Calls Try.prog 29 #[.slice (some ⟨g1, 0, none⟩) n c1, .slice (some ⟨g2, 0, none⟩) n c2] w (RetV w (.bool true)) := by
  go_enter Try.func29, Try.ntmps29
  go_wp2
  go_loopw [5] (fun i wr => ∃ k : Nat, k ≤ n ∧ i = .int .i64 k ∧ Below w.heap.size w wr) (fun i _ => n - (intOf i).toNat)
  case atStart => exact ⟨0, Nat.zero_le _, rfl, Below.refl _ _⟩
  case round =>
    obtain ⟨k, hk, rfl, hb⟩ := hrel
    by_cases hlt : k < n
    · have p10 : wr.cell? ⟨g1, k * 4, none⟩ = some (.int .i64 (f (k * 4))) := Below.cellOf hb rfl (by have := I1 k hlt 0 (by decide); simpa only [Nat.zero_add, Nat.add_zero] using this)
      have p11 : wr.cell? ⟨g1, k * 4 + 1, none⟩ = some (.int .i64 (f (k * 4 + 1))) := Below.cellOf hb rfl (by have := I1 k hlt 1 (by decide); simpa only [Nat.zero_add, Nat.add_zero] using this)
      have p12 : wr.cell? ⟨g1, k * 4 + 2, none⟩ = some (.int .i64 (f (k * 4 + 2))) := Below.cellOf hb rfl (by have := I1 k hlt 2 (by decide); simpa only [Nat.zero_add, Nat.add_zero] using this)
      have p13 : wr.cell? ⟨g1, k * 4 + 3, none⟩ = some (.int .i64 (f (k * 4 + 3))) := Below.cellOf hb rfl (by have := I1 k hlt 3 (by decide); simpa only [Nat.zero_add, Nat.add_zero] using this)
      have p20 : wr.cell? ⟨g2, k * 4, none⟩ = some (.int .i64 (f (k * 4))) := Below.cellOf hb rfl (by have := I2 k hlt 0 (by decide); simpa only [Nat.zero_add, Nat.add_zero] using this)
      have p21 : wr.cell? ⟨g2, k * 4 + 1, none⟩ = some (.int .i64 (f (k * 4 + 1))) := Below.cellOf hb rfl (by have := I2 k hlt 1 (by decide); simpa only [Nat.zero_add, Nat.add_zero] using this)
      have p22 : wr.cell? ⟨g2, k * 4 + 2, none⟩ = some (.int .i64 (f (k * 4 + 2))) := Below.cellOf hb rfl (by have := I2 k hlt 2 (by decide); simpa only [Nat.zero_add, Nat.add_zero] using this)
      have p23 : wr.cell? ⟨g2, k * 4 + 3, none⟩ = some (.int .i64 (f (k * 4 + 3))) := Below.cellOf hb rfl (by have := I2 k hlt 3 (by decide); simpa only [Nat.zero_add, Nat.add_zero] using this)
      have e1 : (k : Int) < n := by omega
      go_wp2_with fail
      go_region_held3 (fun w' => w'.cell? ⟨g1, k * 4, none⟩ = some (.int .i64 (f (k * 4))) ∧ w'.cell? ⟨g1, k * 4 + 1, none⟩ = some (.int .i64 (f (k * 4 + 1))) ∧ w'.cell? ⟨g1, k * 4 + 2, none⟩ = some (.int .i64 (f (k * 4 + 2))) ∧ w'.cell? ⟨g1, k * 4 + 3, none⟩ = some (.int .i64 (f (k * 4 + 3))) ∧ w'.cell? ⟨g2, k * 4, none⟩ = some (.int .i64 (f (k * 4))) ∧ w'.cell? ⟨g2, k * 4 + 1, none⟩ = some (.int .i64 (f (k * 4 + 1))) ∧ w'.cell? ⟨g2, k * 4 + 2, none⟩ = some (.int .i64 (f (k * 4 + 2))) ∧ w'.cell? ⟨g2, k * 4 + 3, none⟩ = some (.int .i64 (f (k * 4 + 3))))
        (first | go_keep | (go_split_ands; refine ⟨?_, ?_, ?_, ?_, ?_, ?_, ?_, ?_⟩ <;> (apply Below.cellOf (by assumption) rfl; assumption)))
        ((first | (go_at_call 63; refine (eqEntry_any _ _ _ _ _).mono ?_; rintro e w3 ⟨rfl, hb3⟩)))
      go_wp2
      go_roundw
      case rel => exact ⟨k + 1, by omega, by go_num, hb.drew.trans (hb3.mono hb.size)⟩
      case measure => simp [intOf]; omega
    · obtain rfl : k = n := by omega
      go_wp2
      go_ret
      exact ⟨rfl, hb⟩

theorem eq_oe {w : World} {B1 B2 : Nat} {v1 v2 : Value} {X : Rec} (h1 : OwnR 4 w B1 v1 X) (h2 : OwnR 4 w B2 v2 X) (hn : X.length < 1000000000) :
    Calls Try.prog 29 #[v1, v2] w (RetV w (.bool true)) := by
  by_cases h0 : X.length = 0
  · rcases h1 with ⟨rfl, _⟩ | ⟨g1, c1, rfl, _, _, _, I1, _⟩ <;> rcases h2 with ⟨rfl, _⟩ | ⟨g2, c2, rfl, _, _, _, I2, _⟩
    all_goals
      try rw [h0]
      exact eqEntryS_none _ _ _ _ w
  · rcases h1 with ⟨rfl, h1⟩ | ⟨g1, c1, rfl, _, _, _, I1, _⟩
    · exact absurd h1 h0
    rcases h2 with ⟨rfl, h2⟩ | ⟨g2, c2, rfl, _, _, _, I2, _⟩
    · exact absurd h2 h0
    exact eqEntryO_core X.length g1 g2 c1 c2 X.f w hn (by omega) I1 I2

/-- What marking leaves. -/
def MarkedO (w : World) (B : Nat) (v : Value) (n : Nat) (k0 : Int) (e : Ending) (w' : World) : Prop :=
  e = .returned (.int .i64 (k0 + 4 * n)) ∧ OwnR 4 w' B v ⟨n, fun i => k0 + i⟩ ∧ ∀ lo hi, (∀ b, v.ownBlock = some b → lo ≤ b ∧ b < hi) → Only lo hi w w'
set_option maxRecDepth 8000 in
set_option maxHeartbeats 1600000 in
theorem markEntryO_core (n g c : Nat) (k0 : Int) (w : World) (hn : n < 1000000000) (hk0 : 0 ≤ k0) (hk1 : k0 < 100000000000) (h : There w g (n * 4)) :
    Calls Try.prog 30 #[.slice (some ⟨g, 0, none⟩) n c, .int .i64 k0] w fun e w' => e = .returned (.int .i64 (k0 + 4 * n)) ∧ There w' g (n * 4) ∧ CellsTo w' g (n * 4) (fun i => k0 + i) ∧ Only g (g + 1) w w' := by
  go_enter Try.func30, Try.ntmps30
  go_wp2
  go_loopw [1, 5] (fun kv i wr => ∃ j : Nat, j ≤ n ∧ i = .int .i64 j ∧ kv = .int .i64 (k0 + 4 * j) ∧ There wr g (n * 4) ∧ CellsTo wr g (j * 4) (fun i => k0 + i) ∧ Only g (g + 1) w wr) (fun _ i _ => n - (intOf i).toNat)
  case atStart => exact ⟨0, Nat.zero_le _, rfl, by go_num, h, fun i hi => absurd hi (by omega), Only.refl _ _ _⟩
  case round =>
    obtain ⟨j, hj, rfl, rfl, ht, hc, ho⟩ := hrel
    by_cases hlt : j < n
    · obtain ⟨x0, y0⟩ := ht.at (j * 4) (by omega)
      have z0 := ht.2.2 (j * 4)
      obtain ⟨x1, y1⟩ := ht.at (j * 4 + 1) (by omega)
      have z1 := ht.2.2 (j * 4 + 1)
      obtain ⟨x2, y2⟩ := ht.at (j * 4 + 2) (by omega)
      have z2 := ht.2.2 (j * 4 + 2)
      obtain ⟨x3, y3⟩ := ht.at (j * 4 + 3) (by omega)
      have z3 := ht.2.2 (j * 4 + 3)
      have HC := Lib.hid hc
      have HT := Lib.hid ht
      clear hc ht
      go_wp2
      have s0 : CellsTo (wr.setCell ⟨g, j * 4, none⟩ (.int .i64 (k0 + 4 * j))) g (j * 4 + 1) (fun i => k0 + i) := by
        have := HC.out.set HT.out (show j * 4 < n * 4 by omega)
        rwa [show (k0 : Int) + ((j * 4 : Nat) : Int) = k0 + 4 * j by omega] at this
      have t0 := HT.out.set (j * 4) (.int .i64 (k0 + 4 * j))
      have s1 : CellsTo _ g (j * 4 + 2) (fun i => k0 + i) := s0.set (v := j * 4 + 1) t0 (by omega)
      rw [show (k0 : Int) + ((j * 4 + 1 : Nat) : Int) = k0 + 4 * j + 1 by omega] at s1
      have t1 := t0.set (j * 4 + 1) (.int .i64 (k0 + 4 * j + 1))
      have s2 : CellsTo _ g (j * 4 + 3) (fun i => k0 + i) := s1.set (v := j * 4 + 2) t1 (by omega)
      rw [show (k0 : Int) + ((j * 4 + 2 : Nat) : Int) = k0 + 4 * j + 1 + 1 by omega] at s2
      have t2 := t1.set (j * 4 + 2) (.int .i64 (k0 + 4 * j + 1 + 1))
      have s3 : CellsTo _ g (j * 4 + 4) (fun i => k0 + i) := s2.set (v := j * 4 + 3) t2 (by omega)
      rw [show (k0 : Int) + ((j * 4 + 3 : Nat) : Int) = k0 + 4 * j + 1 + 1 + 1 by omega] at s3
      have t3 := t2.set (j * 4 + 3) (.int .i64 (k0 + 4 * j + 1 + 1 + 1))
      go_roundw
      case rel => exact ⟨j + 1, by omega, by go_num, by go_num, t3, by rw [show (j + 1) * 4 = j * 4 + 4 by omega]; exact s3, ((((ho.setCell (Nat.le_refl _) (Nat.lt_succ_self _) _).setCell (Nat.le_refl _) (Nat.lt_succ_self _) _).setCell (Nat.le_refl _) (Nat.lt_succ_self _) _).setCell (Nat.le_refl _) (Nat.lt_succ_self _) _)⟩
      case measure => simp [intOf]; omega
    · obtain rfl : j = n := by omega
      go_wp2
      go_ret
      exact ⟨rfl, ht, hc, ho⟩
theorem mark_oe {w : World} {B : Nat} {v : Value} {X : Rec} (k0 : Int) (h : OwnR 4 w B v X) (hn : X.length < 1000000000) (hk0 : 0 ≤ k0) (hk1 : k0 < 100000000000) :
    Calls Try.prog 30 #[v, .int .i64 k0] w (MarkedO w B v X.length k0) := by
  rcases h with ⟨rfl, h0⟩ | ⟨g, cap, rfl, h1, h2, h3, h4, h5⟩
  · rw [h0]
    refine (markEntry_none none 0 k0 w).mono ?_
    rintro e w' ⟨rfl, rfl⟩
    exact ⟨by simp, .inl ⟨rfl, rfl⟩, fun lo hi _ => Only.refl _ _ _⟩
  have ht : There w g (X.length * 4) := ⟨h2, fun i hi => by
    have := h4 (i / 4) (by omega) (i % 4) (by omega)
    rw [Nat.zero_add, show i / 4 * 4 + i % 4 = i by omega] at this
    rw [this]; rfl, h5⟩
  refine (markEntryO_core X.length g cap k0 w hn hk0 hk1 ht).mono ?_
  rintro e w' ⟨rfl, t, c, o⟩
  refine ⟨rfl, .inr ⟨g, cap, rfl, h1, t.1, h3, c.row, t.2.2⟩, fun lo hi hr => ?_⟩
  obtain ⟨p, q⟩ := hr g rfl
  exact ⟨o.os, o.tape, o.output, o.size, fun b hb hd => o.block b hb (by omega)⟩

set_option maxHeartbeats 1600000 in
theorem heldEntryO_core (n g c : Nat) (k0 : Int) (w : World) (hn : n < 1000000000) (hk0 : 0 ≤ k0) (hk1 : k0 < 100000000000) (h : RowC w g 0 n 4 (fun i => k0 + i)) :
    Calls Try.prog 31 #[.slice (some ⟨g, 0, none⟩) n c, .int .i64 k0] w fun e w' => e = .returned (.int .i64 (k0 + 4 * n)) ∧ w = w' := by
  go_enter Try.func31, Try.ntmps31
  go_wp2
  go_loop [1, 5] (fun kv i => ∃ j : Nat, j ≤ n ∧ i = .int .i64 j ∧ kv = .int .i64 (k0 + 4 * j)) (fun _ i => n - (intOf i).toNat)
  case atStart => exact ⟨0, Nat.zero_le _, rfl, by go_num⟩
  case round =>
    obtain ⟨j, hj, rfl, rfl⟩ := hrel
    by_cases hlt : j < n
    · have c0 := h.c0 j hlt (by decide)
      have c1 := h.cs j 1 hlt (by decide)
      have c2 := h.cs j 2 hlt (by decide)
      have c3 := h.cs j 3 hlt (by decide)
      rw [show (k0 : Int) + ((j * 4 : Nat) : Int) = k0 + 4 * j by omega] at c0
      rw [show (k0 : Int) + ((j * 4 + 1 : Nat) : Int) = k0 + 4 * j + 1 by omega] at c1
      rw [show (k0 : Int) + ((j * 4 + 2 : Nat) : Int) = k0 + 4 * j + 1 + 1 by omega] at c2
      rw [show (k0 : Int) + ((j * 4 + 3 : Nat) : Int) = k0 + 4 * j + 1 + 1 + 1 by omega] at c3
      go_wp2
      go_round
      case rel => exact ⟨j + 1, by omega, by go_num, by go_num⟩
      case measure => simp [intOf]; omega
    · obtain rfl : j = n := by omega
      go_wp2
      go_ret
      exact ⟨rfl, rfl⟩
theorem heldEntry_none (a : Option Addr) (cap : Nat) (k0 : Int) (w : World) : Calls Try.prog 31 #[.slice a 0 cap, .int .i64 k0] w fun e w' => e = .returned (.int .i64 k0) ∧ w = w' := by
  go_enter Try.func31, Try.ntmps31
  go_wp2
  go_rounds 1
  go_ret
  exact ⟨rfl, rfl⟩
theorem held_oe {w : World} {B : Nat} {v : Value} {n : Nat} (k0 : Int) (h : OwnR 4 w B v ⟨n, fun i => k0 + i⟩) (hn : n < 1000000000) (hk0 : 0 ≤ k0) (hk1 : k0 < 100000000000) :
    Calls Try.prog 31 #[v, .int .i64 k0] w fun e w' => e = .returned (.int .i64 (k0 + 4 * n)) ∧ Below w.heap.size w w' := by
  rcases h with ⟨rfl, h0⟩ | ⟨g, cap, rfl, h1, h2, h3, h4, h5⟩
  · have h0' : n = 0 := h0
    subst h0'
    refine (heldEntry_none none 0 k0 w).mono ?_
    rintro e w' ⟨rfl, rfl⟩
    exact ⟨by simp, Below.refl _ _⟩
  · refine (heldEntryO_core n g cap k0 w hn hk0 hk1 h4).mono ?_
    rintro e w' ⟨rfl, rfl⟩
    exact ⟨rfl, Below.refl _ _⟩
end Go.Proofs.Ytjopeidmfgkhnaa
