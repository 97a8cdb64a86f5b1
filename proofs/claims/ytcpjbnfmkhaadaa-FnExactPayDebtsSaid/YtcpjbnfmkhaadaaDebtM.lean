/-
  markDebtS writes k, k + 1, .. into a copy of records in the call's own memory. Condition: fewer than 1000000000 records.
-/
import Derived.Test.YtcpjbnfmkhaadaaProg
import Derived.Test.YtcpjbnfmkhaadaaRec
namespace Go.Proofs.Ytcpjbnfmkhaadaa
open Go.RowKit
set_option linter.unusedVariables false

theorem RowR.only {k : Nat} {w w' : World} {B lo hi : Nat} {v : Value} {X : Rec} (h : RowR k w B v X) (ho : Only lo hi w w') (hd : ∀ b, v.ownBlock = some b → b < lo ∨ hi ≤ b) : RowR k w' B v X := by
  obtain ⟨g, rfl, h1, h2, h3, h4, h5⟩ := h
  have hb := ho.block g h2 (hd g rfl)
  refine ⟨g, rfl, h1, Nat.lt_of_lt_of_le h2 ho.size, h3, fun i hi j hj => ?_, fun i => ?_⟩
  · have := h4 i hi j hj
    unfold World.cell? at this ⊢
    rw [hb]
    exact this
  · have := h5 i
    unfold World.frozen? at this ⊢
    rw [hb]
    exact this
/-- What marking leaves. -/
def MarkedDebt (w : World) (B : Nat) (v : Value) (n : Nat) (k0 : Int) (e : Ending) (w' : World) : Prop :=
  e = .returned (.int .i64 (k0 + 3 * n)) ∧ RowR 3 w' B v ⟨n, fun i => k0 + i⟩ ∧ ∀ lo hi, (∀ b, v.ownBlock = some b → lo ≤ b ∧ b < hi) → Only lo hi w w'
set_option maxRecDepth 8000 in
set_option maxHeartbeats 1600000 in
theorem markDebt_core (n g : Nat) (k0 : Int) (w : World) (hn : n < 1000000000) (hk0 : 0 ≤ k0) (hk1 : k0 < 100000000000) (h : There w g (n * 3)) :
    Calls Try.prog 16 #[.slice (some ⟨g, 0, none⟩) n n, .int .i64 k0] w fun e w' => e = .returned (.int .i64 (k0 + 3 * n)) ∧ There w' g (n * 3) ∧ CellsTo w' g (n * 3) (fun i => k0 + i) ∧ Only g (g + 1) w w' := by
  go_enter Try.func16, Try.ntmps16
  go_wp2
  go_loopw [1, 5] (fun kv i wr => ∃ j : Nat, j ≤ n ∧ i = .int .i64 j ∧ kv = .int .i64 (k0 + 3 * j) ∧ There wr g (n * 3) ∧ CellsTo wr g (j * 3) (fun i => k0 + i) ∧ Only g (g + 1) w wr) (fun _ i _ => n - (intOf i).toNat)
  case atStart => exact ⟨0, Nat.zero_le _, rfl, by go_num, h, fun i hi => absurd hi (by omega), Only.refl _ _ _⟩
  case round =>
    obtain ⟨j, hj, rfl, rfl, ht, hc, ho⟩ := hrel
    by_cases hlt : j < n
    · obtain ⟨x0, y0⟩ := ht.at (j * 3) (by omega)
      have z0 := ht.2.2 (j * 3)
      obtain ⟨x1, y1⟩ := ht.at (j * 3 + 1) (by omega)
      have z1 := ht.2.2 (j * 3 + 1)
      obtain ⟨x2, y2⟩ := ht.at (j * 3 + 2) (by omega)
      have z2 := ht.2.2 (j * 3 + 2)
      have HC := Lib.hid hc
      have HT := Lib.hid ht
      clear hc ht
      go_wp2
      have s0 : CellsTo (wr.setCell ⟨g, j * 3, none⟩ (.int .i64 (k0 + 3 * j))) g (j * 3 + 1) (fun i => k0 + i) := by
        have := HC.out.set HT.out (show j * 3 < n * 3 by omega)
        rwa [show (k0 : Int) + ((j * 3 : Nat) : Int) = k0 + 3 * j by omega] at this
      have t0 := HT.out.set (j * 3) (.int .i64 (k0 + 3 * j))
      have s1 : CellsTo _ g (j * 3 + 2) (fun i => k0 + i) := s0.set (v := j * 3 + 1) t0 (by omega)
      rw [show (k0 : Int) + ((j * 3 + 1 : Nat) : Int) = k0 + 3 * j + 1 by omega] at s1
      have t1 := t0.set (j * 3 + 1) (.int .i64 (k0 + 3 * j + 1))
      have s2 : CellsTo _ g (j * 3 + 3) (fun i => k0 + i) := s1.set (v := j * 3 + 2) t1 (by omega)
      rw [show (k0 : Int) + ((j * 3 + 2 : Nat) : Int) = k0 + 3 * j + 1 + 1 by omega] at s2
      have t2 := t1.set (j * 3 + 2) (.int .i64 (k0 + 3 * j + 1 + 1))
      go_roundw
      case rel => exact ⟨j + 1, by omega, by go_num, by go_num, t2, by rw [show (j + 1) * 3 = j * 3 + 3 by omega]; exact s2, (((ho.setCell (Nat.le_refl _) (Nat.lt_succ_self _) _).setCell (Nat.le_refl _) (Nat.lt_succ_self _) _).setCell (Nat.le_refl _) (Nat.lt_succ_self _) _)⟩
      case measure => simp [intOf]; omega
    · obtain rfl : j = n := by omega
      go_wp2
      go_ret
      exact ⟨rfl, ht, hc, ho⟩
theorem markDebt_none (a : Option Addr) (cap : Nat) (k0 : Int) (w : World) : Calls Try.prog 16 #[.slice a 0 cap, .int .i64 k0] w fun e w' => e = .returned (.int .i64 k0) ∧ w = w' := by
  go_enter Try.func16, Try.ntmps16
  go_wp2
  go_rounds 1
  go_ret
  exact ⟨rfl, rfl⟩
theorem mark_d {w : World} {B : Nat} {v : Value} {X : Rec} (k0 : Int) (h : RowR 3 w B v X) (hn : X.length < 1000000000) (hk0 : 0 ≤ k0) (hk1 : k0 < 100000000000) :
    Calls Try.prog 16 #[v, .int .i64 k0] w (MarkedDebt w B v X.length k0) := by
  obtain ⟨g, rfl, h1, h2, h3, h4, h5⟩ := h
  have ht : There w g (X.length * 3) := ⟨h2, fun i hi => by
    have := h4 (i / 3) (by omega) (i % 3) (by omega)
    rw [Nat.zero_add, show i / 3 * 3 + i % 3 = i by omega] at this
    rw [this]; rfl, h5⟩
  refine (markDebt_core X.length g k0 w hn hk0 hk1 ht).mono ?_
  rintro e w' ⟨rfl, t, c, o⟩
  refine ⟨rfl, ⟨g, rfl, h1, t.1, h3, c.row, t.2.2⟩, fun lo hi hr => ?_⟩
  obtain ⟨p, q⟩ := hr g rfl
  exact ⟨o.os, o.tape, o.output, o.size, fun b hb hd => o.block b hb (by omega)⟩
end Go.Proofs.Ytcpjbnfmkhaadaa
