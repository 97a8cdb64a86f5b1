/-
  toDebtS gives a copy in new memory. Condition: fewer than 1000000000 records.
-/
import Derived.Test.YtcpjbnfmkhaadaaProg
import Derived.Test.YtcpjbnfmkhaadaaRec
namespace Go.Proofs.Ytcpjbnfmkhaadaa
open Go.RowKit
set_option linter.unusedVariables false

theorem toDebt_any (a b c : Int) (w : World) :
    Calls Try.prog 26 #[.agg #[.int .i64 a, .int .i64 b, .int .i64 c]] w fun e w' => e = .returned (.agg #[.int .i64 a, .int .i64 b, .int .i64 c]) ∧ Below w.heap.size w w' := by
  go_enter Try.func26, Try.ntmps26
  go_wp2
  go_returns
  exact ⟨rfl, by go_grown⟩

set_option maxRecDepth 8000 in
set_option maxHeartbeats 400000 in
theorem toDebtS_core (n cap g off : Nat) (f : Nat → Int) (w : World) (hn : n < 1000000000) (hI : RowC w g off n 3 f) :
    Calls Try.prog 13 #[.slice (some ⟨g, off, none⟩) n cap] w fun e w' => ∃ v, e = .returned v ∧ RowR 3 w' w.heap.size v ⟨n, f⟩ ∧ Below w.heap.size w w' := by
  go_enter Try.func13, Try.ntmps13
  go_wp2_with (first | (at_make; refine wpList_mkR _ rfl _ _ 33 rfl 47 (.agg #[.int .i64 0, .int .i64 0, .int .i64 0]) 3 24 (by kernel_rfl) (by decide) Try.underlying33 _ _ _ _ n rfl rfl rfl rfl hn ?_; intro w1 hth hb))
  go_loopw [4] (fun i wr => ∃ k : Nat, k ≤ n ∧ i = .int .i64 k ∧ There wr w.heap.size (n * 3) ∧ CellsTo wr w.heap.size (k * 3) f ∧ Below w.heap.size w wr) (fun i _ => n - (intOf i).toNat)
  case atStart => exact ⟨0, Nat.zero_le _, rfl, hth, fun i hi => absurd hi (by omega), hb⟩
  case round =>
    obtain ⟨k, hk, rfl, ht, hr, hbr⟩ := hrel
    by_cases hlt : k < n
    · have hc0 := Below.cellOf hbr rfl (hI k hlt 0 (by decide))
      have hc1 := Below.cellOf hbr rfl (hI k hlt 1 (by decide))
      have hc2 := Below.cellOf hbr rfl (hI k hlt 2 (by decide))
      rw [Nat.add_zero] at hc0
      go_wp2_with (first | (go_at_call 26; refine (toDebt_any _ _ _ _).mono ?_; rintro e w2 ⟨rfl, hb2⟩; have ht2 := ht.below hb2; have hr2 := hr.below hb2; obtain ⟨x0, y0⟩ := ht2.at (k * 3) (by omega); obtain ⟨x1, y1⟩ := ht2.at (k * 3 + 1) (by omega); obtain ⟨x2, y2⟩ := ht2.at (k * 3 + 2) (by omega); have z0 := ht2.2.2 (k * 3); have z1 := ht2.2.2 (k * 3 + 1); have z2 := ht2.2.2 (k * 3 + 2); clear ht))
      go_roundw
      have s0 : CellsTo (w2.setCell ⟨w.heap.size, k * 3, none⟩ (.int .i64 (f (k * 3)))) w.heap.size (k * 3 + 1) f := hr2.set ht2 (by omega)
      have t0 := ht2.set (k * 3) (.int .i64 (f (k * 3)))
      have s1 := s0.set (v := k * 3 + 1) t0 (by omega)
      have t1 := t0.set (k * 3 + 1) (.int .i64 (f (k * 3 + 1)))
      have s2 := s1.set (v := k * 3 + 2) t1 (by omega)
      have t2 := t1.set (k * 3 + 2) (.int .i64 (f (k * 3 + 2)))
      case rel => exact ⟨k + 1, by omega, by go_num, t2, by rw [show (k + 1) * 3 = k * 3 + 3 by omega]; exact s2, ((((hbr.trans (hb2.mono hbr.size)).setCell (Nat.le_refl _) _).setCell (Nat.le_refl _) _).setCell (Nat.le_refl _) _)⟩
      case measure => simp [intOf]; omega
    · obtain rfl : k = n := by omega
      go_wp2
      go_ret
      exact ⟨_, rfl, ⟨w.heap.size, rfl, Nat.le_refl _, ht.1, hn, hr.row, ht.2.2⟩, hbr⟩

theorem toDebtS_none (a : Option Addr) (cap : Nat) (f : Nat → Int) (w : World) :
    Calls Try.prog 13 #[.slice a 0 cap] w fun e w' => ∃ v, e = .returned v ∧ RowR 3 w' w.heap.size v ⟨0, f⟩ ∧ Below w.heap.size w w' := by
  go_enter Try.func13, Try.ntmps13
  go_wp2_with (first | (at_make; refine wpList_mkR _ rfl _ _ 33 rfl 47 (.agg #[.int .i64 0, .int .i64 0, .int .i64 0]) 3 24 (by kernel_rfl) (by decide) Try.underlying33 _ _ _ _ 0 rfl rfl rfl rfl (by decide) ?_; intro w1 hth hb))
  go_rounds 1
  go_ret
  exact ⟨_, rfl, ⟨w.heap.size, rfl, Nat.le_refl _, hth.1, by show (0 : Nat) < 1000000000; decide, fun i hi => absurd hi (Nat.not_lt_zero _), hth.2.2⟩, hb⟩

theorem to_d {w : World} {v : Value} {X : Rec} (h : InR 3 w v X) (hn : X.length < 1000000000) :
    Calls Try.prog 13 #[v] w (fun e w' => ∃ v, e = .returned v ∧ RowR 3 w' w.heap.size v X ∧ Below w.heap.size w w') := by
  obtain ⟨a, cap, rfl, _, ha⟩ := h
  obtain ⟨n, f⟩ := X
  by_cases h0 : n = 0
  · subst h0; exact toDebtS_none a cap f w
  · obtain ⟨g, off, rfl, hI⟩ := ha h0
    exact toDebtS_core n cap g off f w hn hI
end Go.Proofs.Ytcpjbnfmkhaadaa
