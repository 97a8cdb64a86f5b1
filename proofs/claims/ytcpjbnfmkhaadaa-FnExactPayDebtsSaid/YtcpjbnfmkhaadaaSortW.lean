/-
  slices.swapRangeCmpFunc and rotateCmpFunc at int exchange ranges. Conditions: fewer than 1000000 integers, ranges that lie in the row.
-/
import Derived.Test.YtcpjbnfmkhaadaaSmall
import Derived.Test.YtcpjbnfmkhaadaaSortR
import Derived.Deep.QuietTactic
import Derived.BigQuiet
import Derived.BigRegion
namespace Go.Proofs.Ytcpjbnfmkhaadaa
open Go.RowKit
set_option linter.unusedVariables false

set_option maxHeartbeats 1600000 in
theorem swapRange_any (n g c a b m : Nat) (fv : Value) (h : Nat → Int) (w : World) (hn : n < 1000000) (hr : RowAt w g n h) (h1 : a + m ≤ b) (h2 : b + m ≤ n) :
    Calls Try.prog 55 #[.slice (some ⟨g, 0, none⟩) n c, .int .i64 a, .int .i64 b, .int .i64 m, fv] w
      fun e w' => e = .returned (.tuple #[]) ∧ RowAt w' g n (swr h a b m) ∧ Kept (fun k => k = g) w w' := by
  have H0 := Lib.hid (swr_zero h a b)
  go_enter Try.func55, Try.ntmps55
  go_wp2
  go_loopw [10] (fun i wr => ∃ k : Nat, k ≤ m ∧ i = .int .i64 k ∧ RowAt wr g n (swr h a b k) ∧ Kept (fun k => k = g) w wr) (fun i _ => m - (intOf i).toNat)
  case atStart => exact ⟨0, Nat.zero_le _, rfl, by rw [H0.out]; exact hr, Kept.refl _ _⟩
  case round =>
    obtain ⟨k, hk, rfl, hR, hK⟩ := hrel
    by_cases hlt : k < m
    · have hN := Lib.hid (swr_succ h (a := a) (b := b) (n := k) (by omega))
      have hg := hR.lt (by omega)
      have x1 := hR.at (a + k) (by omega)
      have x2 := hR.at (b + k) (by omega)
      have f1 := hR.2 (a + k)
      have f2 := hR.2 (b + k)
      obtain ⟨p, hp⟩ : ∃ p, a + k = p := ⟨_, rfl⟩
      obtain ⟨q, hq⟩ : ∃ q, b + k = q := ⟨_, rfl⟩
      have e1 : IntKind.i64.wrap ((a : Int) + k) = p := by rw [← hp, show (a : Int) + k = ((a + k : Nat) : Int) by omega]; exact IntWalk.i64_in _ (by omega)
      have e2 : IntKind.i64.wrap ((b : Int) + k) = q := by rw [← hq, show (b : Int) + k = ((b + k : Nat) : Int) by omega]; exact IntWalk.i64_in _ (by omega)
      have e3 : (a : Int) + k = p := by omega
      have e4 : (b : Int) + k = q := by omega
      rw [hp] at x1 f1 hN
      rw [hq] at x2 f2 hN
      have p1 : p < n := by omega
      have q1 : q < n := by omega
      have p2 : (p : Int) < n := by omega
      have q2 : (q : Int) < n := by omega
      have hpq : p ≠ q := by omega
      have HR := Lib.hid hR
      generalize hF : swr h a b k = F at *
      clear hR hp hq hF
      go_wp2_with fail
      go_region
      go_wp2
      have hS := HR.out.swapD p1 q1 hpq
      rw [hN.out] at hS
      go_roundw
      case rel => exact ⟨k + 1, by omega, by go_num, hS, hK.swapD rfl _ _ _ _⟩
      case measure => simp [intOf]; omega
    · obtain rfl : k = m := by omega
      go_wp2
      go_end0
      exact ⟨rfl, hR, hK⟩

set_option maxHeartbeats 1600000 in
theorem rotate_any (n g c a m b : Nat) (fv : Value) (h : Nat → Int) (w : World) (hn : n < 1000000) (hr : RowAt w g n h) (h1 : a < m) (h2 : m < b) (h3 : b ≤ n) :
    Calls Try.prog 53 #[.slice (some ⟨g, 0, none⟩) n c, .int .i64 a, .int .i64 m, .int .i64 b, fv] w
      fun e w' => e = .returned (.tuple #[]) ∧ RowAt w' g n (rot h a m b) ∧ Kept (fun k => k = g) w w' := by
  go_enter Try.func53, Try.ntmps53
  go_wp2
  go_loopw [10, 11] (fun x y wr => ∃ (i j : Nat) (h' : Nat → Int), 0 < i ∧ 0 < j ∧ i ≤ m - a ∧ j ≤ b - m ∧ x = .int .i64 i ∧ y = .int .i64 j ∧ Hid (rot h' (m - i) m (m + j) = rot h a m b) ∧ RowAt wr g n h' ∧ Kept (fun k => k = g) w wr) (fun x y _ => (intOf x).toNat + (intOf y).toNat)
  case atStart => exact ⟨m - a, b - m, h, by omega, by omega, Nat.le_refl _, Nat.le_refl _, by go_num, by go_num, (by show _ = _; rw [show m - (m - a) = a by omega, show m + (b - m) = b by omega]), hr, Kept.refl _ _⟩
  case round =>
    obtain ⟨i, j, h', i0, j0, hi, hj, rfl, rfl, hH, hR, hK⟩ := hrel
    have e1 : (m : Int) - i = ((m - i : Nat) : Int) := by omega
    by_cases hij : i = j
    · subst hij
      have hE := Lib.hid (rot_eq h' (m := m) (i := i) (by omega))
      have HC := Lib.hid (swapRange_any n g c (m - i) m i fv h' wr hn hR (by omega) (by omega))
      have e2 : IntKind.i64.wrap ((m : Int) - i) = ((m - i : Nat) : Int) := by rw [e1]; exact IntWalk.i64_in _ (by omega)
      go_wp2_with (first | (go_at_call 55; refine HC.out.mono ?_; rintro e w2 ⟨rfl, hR2, hK2⟩))
      go_end0
      rw [← hE.out, hH.out] at hR2
      exact ⟨rfl, hR2, hK.trans hK2⟩
    · have hne : ((i : Int) == j) = false := by simp; omega
      have hne2 : ((i : Int) != j) = true := by simp; omega
      by_cases hgt : j < i
      · have hE := Lib.hid (rot_gt h' (m := m) (i := i) (j := j) (by omega) hgt)
        have HC := Lib.hid (swapRange_any n g c (m - i) m j fv h' wr hn hR (by omega) (by omega))
        have e2 : IntKind.i64.wrap ((m : Int) - i) = ((m - i : Nat) : Int) := by rw [e1]; exact IntWalk.i64_in _ (by omega)
        clear hij
        go_wp2_with (first | (go_at_call 55; refine HC.out.mono ?_; rintro e w2 ⟨rfl, hR2, hK2⟩))
        go_roundw
        case rel => exact ⟨i - j, j, swr h' (m - i) m j, by omega, j0, by omega, hj, by go_num, rfl, hE.out.symm.trans hH.out, hR2, hK.trans hK2⟩
        case measure => simp [intOf]; omega
      · have hlt : i < j := by omega
        have hE := Lib.hid (rot_lt h' (m := m) (i := i) (j := j) (by omega) (by omega))
        have HC := Lib.hid (swapRange_any n g c (m - i) (m + j - i) i fv h' wr hn hR (by omega) (by omega))
        have e2 : IntKind.i64.wrap ((m : Int) - i) = ((m - i : Nat) : Int) := by rw [e1]; exact IntWalk.i64_in _ (by omega)
        have e4 : (m : Int) + j - i = ((m + j - i : Nat) : Int) := by omega
        have e3 : IntKind.i64.wrap ((m : Int) + j - i) = ((m + j - i : Nat) : Int) := by rw [e4]; exact IntWalk.i64_in _ (by omega)
        clear hij
        go_wp2_with (first | (go_at_call 55; refine HC.out.mono ?_; rintro e w2 ⟨rfl, hR2, hK2⟩))
        go_roundw
        case rel => exact ⟨i, j - i, swr h' (m - i) (m + j - i) i, i0, by omega, hi, by omega, rfl, by go_num, hE.out.symm.trans hH.out, hR2, hK.trans hK2⟩
        case measure => simp [intOf]; omega
end Go.Proofs.Ytcpjbnfmkhaadaa
