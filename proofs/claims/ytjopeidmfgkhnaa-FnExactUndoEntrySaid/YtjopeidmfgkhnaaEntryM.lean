/-
  markEntryS writes k, k + 1, .. into a copy of records in the call's own memory. Condition: fewer than 1000000000 records.
-/
import Derived.Test.YtjopeidmfgkhnaaProg
import Derived.Test.YtjopeidmfgkhnaaRec
namespace Go.Proofs.Ytjopeidmfgkhnaa
open Go.RowKit
set_option linter.unusedVariables false

theorem RowR.only {k : Nat} {w w' : World} {B lo hi : Nat} {v : Value} {X : Rec} (h : RowR k w B v X) (ho : Only lo hi w w') (hd : ∀ b, v.ownBlock = some b → b < lo ∨ hi ≤ b) : RowR k w' B v X := by
  obtain ⟨g, rfl, h1, h2, h3, h4, h5⟩ := h
  have hb := ho.block g h2 (hd g rfl)
  refine ⟨g, rfl, h1, Nat.lt_of_lt_of_le h2 ho.size, h3, fun i hi j hj => ?_, fun i => ?_⟩
  · have := h4 i hi j hj
    unfold World.cell? at this ⊢
    rw [hb]
    exact this
  · have := h5 i
    unfold World.frozen? at this ⊢
    rw [hb]
    exact this
/-- What marking leaves. -/
def MarkedEntry (w : World) (B : Nat) (v : Value) (n : Nat) (k0 : Int) (e : Ending) (w' : World) : Prop :=
  e = .returned (.int .i64 (k0 + 4 * n)) ∧ RowR 4 w' B v ⟨n, fun i => k0 + i⟩ ∧ ∀ lo hi, (∀ b, v.ownBlock = some b → lo ≤ b ∧ b < hi) → Only lo hi w w'
set_option maxRecDepth 8000 in
set_option maxHeartbeats 1600000 in
theorem markEntry_core (n g : Nat) (k0 : Int) (w : World) (hn : n < 1000000000) (hk0 : 0 ≤ k0) (hk1 : k0 < 100000000000) (h : There w g (n * 4)) :
    Calls Try.prog 30 #[.slice (some ⟨g, 0, none⟩) n n, .int .i64 k0] w fun e w' => e = .returned (.int .i64 (k0 + 4 * n)) ∧ There w' g (n * 4) ∧ CellsTo w' g (n * 4) (fun i => k0 + i) ∧ Only g (g + 1) w w' := by
  go_enter Try.func30, Try.ntmps30
  go_wp2
  go_loopw [1, 5] (fun kv i wr => ∃ j : Nat, j ≤ n ∧ i = .int .i64 j ∧ kv = .int .i64 (k0 + 4 * j) ∧ There wr g (n * 4) ∧ CellsTo wr g (j * 4) (fun i => k0 + i) ∧ Only g (g + 1) w wr) (fun _ i _ => n - (intOf i).toNat)
  case atStart => exact ⟨0, Nat.zero_le _, rfl, by go_num, h, fun i hi => absurd hi (by omega), Only.refl _ _ _⟩
  case round =>
    obtain ⟨j, hj, rfl, rfl, ht, hc, ho⟩ := hrel
    by_cases hlt : j < n
    · obtain ⟨x0, y0⟩ := ht.at (j * 4) (by omega)
      have z0 := ht.2.2 (j * 4)
      obtain ⟨x1, y1⟩ := ht.at (j * 4 + 1) (by omega)
      have z1 := ht.2.2 (j * 4 + 1)
      obtain ⟨x2, y2⟩ := ht.at (j * 4 + 2) (by omega)
      have z2 := ht.2.2 (j * 4 + 2)
      obtain ⟨x3, y3⟩ := ht.at (j * 4 + 3) (by omega)
      have z3 := ht.2.2 (j * 4 + 3)
      have HC := Lib.hid hc
      have HT := Lib.hid ht
      clear hc ht
      go_wp2
      have s0 : CellsTo (wr.setCell ⟨g, j * 4, none⟩ (.int .i64 (k0 + 4 * j))) g (j * 4 + 1) (fun i => k0 + i) := by
        have := HC.out.set HT.out (show j * 4 < n * 4 by omega)
        rwa [show (k0 : Int) + ((j * 4 : Nat) : Int) = k0 + 4 * j by omega] at this
      have t0 := HT.out.set (j * 4) (.int .i64 (k0 + 4 * j))
      have s1 : CellsTo _ g (j * 4 + 2) (fun i => k0 + i) := s0.set (v := j * 4 + 1) t0 (by omega)
      rw [show (k0 : Int) + ((j * 4 + 1 : Nat) : Int) = k0 + 4 * j + 1 by omega] at s1
      have t1 := t0.set (j * 4 + 1) (.int .i64 (k0 + 4 * j + 1))
      have s2 : CellsTo _ g (j * 4 + 3) (fun i => k0 + i) := s1.set (v := j * 4 + 2) t1 (by omega)
      rw [show (k0 : Int) + ((j * 4 + 2 : Nat) : Int) = k0 + 4 * j + 1 + 1 by omega] at s2
      have t2 := t1.set (j * 4 + 2) (.int .i64 (k0 + 4 * j + 1 + 1))
      have s3 : CellsTo _ g (j * 4 + 4) (fun i => k0 + i) := s2.set (v := j * 4 + 3) t2 (by omega)
      rw [show (k0 : Int) + ((j * 4 + 3 : Nat) : Int) = k0 + 4 * j + 1 + 1 + 1 by omega] at s3
      have t3 := t2.set (j * 4 + 3) (.int .i64 (k0 + 4 * j + 1 + 1 + 1))
      go_roundw
      case rel => exact ⟨j + 1, by omega, by go_num, by go_num, t3, by rw [show (j + 1) * 4 = j * 4 + 4 by omega]; exact s3, ((((ho.setCell (Nat.le_refl _) (Nat.lt_succ_self _) _).setCell (Nat.le_refl _) (Nat.lt_succ_self _) _).setCell (Nat.le_refl _) (Nat.lt_succ_self _) _).setCell (Nat.le_refl _) (Nat.lt_succ_self _) _)⟩
      case measure => simp [intOf]; omega
    · obtain rfl : j = n := by omega
      go_wp2
      go_ret
      exact ⟨rfl, ht, hc, ho⟩
theorem markEntry_none (a : Option Addr) (cap : Nat) (k0 : Int) (w : World) : Calls Try.prog 30 #[.slice a 0 cap, .int .i64 k0] w fun e w' => e = .returned (.int .i64 k0) ∧ w = w' := by
  go_enter Try.func30, Try.ntmps30
  go_wp2
  go_rounds 1
  go_ret
  exact ⟨rfl, rfl⟩
theorem mark_e {w : World} {B : Nat} {v : Value} {X : Rec} (k0 : Int) (h : RowR 4 w B v X) (hn : X.length < 1000000000) (hk0 : 0 ≤ k0) (hk1 : k0 < 100000000000) :
    Calls Try.prog 30 #[v, .int .i64 k0] w (MarkedEntry w B v X.length k0) := by
  obtain ⟨g, rfl, h1, h2, h3, h4, h5⟩ := h
  have ht : There w g (X.length * 4) := ⟨h2, fun i hi => by
    have := h4 (i / 4) (by omega) (i % 4) (by omega)
    rw [Nat.zero_add, show i / 4 * 4 + i % 4 = i by omega] at this
    rw [this]; rfl, h5⟩
  refine (markEntry_core X.length g k0 w hn hk0 hk1 ht).mono ?_
  rintro e w' ⟨rfl, t, c, o⟩
  refine ⟨rfl, ⟨g, rfl, h1, t.1, h3, c.row, t.2.2⟩, fun lo hi hr => ?_⟩
  obtain ⟨p, q⟩ := hr g rfl
  exact ⟨o.os, o.tape, o.output, o.size, fun b hb hd => o.block b hb (by omega)⟩
end Go.Proofs.Ytjopeidmfgkhnaa
