/-
  impl.SameEntries and spec.SameEntries answer alike: all lists of fewer than 1000000000 entries. No other condition.
-/
import Derived.Test.YtmifnjcpnaaocaaSmall
import Derived.Test.YtmifnjcpnaaocaaRec
namespace Go.Proofs.Ytmifnjcpnaaocaa
open Go.RowKit
set_option linter.unusedVariables false

def entEq (f g : Nat → Int) (i : Nat) : Bool := (f (i * 4) == g (i * 4)) && (f (i * 4 + 1) == g (i * 4 + 1)) && (f (i * 4 + 2) == g (i * 4 + 2)) && (f (i * 4 + 3) == g (i * 4 + 3))
def sameB (f1 : Nat → Int) (n : Nat) (f2 : Nat → Int) (m : Nat) : Bool := decide (n = m) && allB (entEq f1 f2) n
def SameEntries_r0 (X Y : Rec) : Bool := sameB X.f X.length Y.f Y.length

set_option maxHeartbeats 3200000 in
theorem same_impl (n m g1 g2 : Nat) (f1 f2 : Nat → Int) (w : World) (hn : n < 1000000000) (hm : m < 1000000000) (I1 : RowC w g1 0 n 4 f1) (I2 : RowC w g2 0 m 4 f2) :
    Calls Try.prog 61 #[.slice (some ⟨g1, 0, none⟩) n n, .slice (some ⟨g2, 0, none⟩) m m] w (RetV w (.bool (sameB f1 n f2 m))) := by
  by_cases hnm : ¬ n = m
  · have HF : Hid (sameB f1 n f2 m = false) := by show (decide (n = m) && _) = false; rw [decide_eq_false hnm]; rfl
    have h1 : ((n : Int) == m) = false := by simp; omega
    go_enter Try.func61, Try.ntmps61
    go_wp2
    go_ret
    exact ⟨ret_bool HF.out.symm, Below.refl _ _⟩
  · obtain rfl := Classical.not_not.1 hnm
    clear hnm
    have HF0 : Hid (sameB f1 n f2 n = allB (entEq f1 f2) n) := by show (decide (n = n) && _) = _; rw [decide_eq_true rfl]; rfl
    go_enter Try.func61, Try.ntmps61
    go_wp2
    go_loopw [13] (fun i wr => ∃ k : Nat, k ≤ n ∧ i = .int .i64 k ∧ Hid (allB (entEq f1 f2) k = true) ∧ Below w.heap.size w wr) (fun i _ => n - (intOf i).toNat)
    case atStart => exact ⟨0, Nat.zero_le _, rfl, rfl, Below.refl _ _⟩
    case round =>
      obtain ⟨k, hk, rfl, ha, hb⟩ := hrel
      by_cases hlt : k < n
      · have c0 := Below.cellOf hb rfl (I1.c0 k hlt (by decide))
        have c1 := Below.cellOf hb rfl (I1.cs k 1 hlt (by decide))
        have c2 := Below.cellOf hb rfl (I1.cs k 2 hlt (by decide))
        have c3 := Below.cellOf hb rfl (I1.cs k 3 hlt (by decide))
        have d0 := Below.cellOf hb rfl (I2.c0 k hlt (by decide))
        have d1 := Below.cellOf hb rfl (I2.cs k 1 hlt (by decide))
        have d2 := Below.cellOf hb rfl (I2.cs k 2 hlt (by decide))
        have d3 := Below.cellOf hb rfl (I2.cs k 3 hlt (by decide))
        have l1 : (k : Int) < n := by omega
        cases hx : entEq f1 f2 k
        · have HF : Hid (sameB f1 n f2 n = false) := by show sameB f1 n f2 n = false; rw [HF0.out]; exact allB_false k hlt hx
          rcases first_no4 hx with h1 | ⟨h1, h2 | ⟨h2, h3 | ⟨h3, h4⟩⟩⟩
          all_goals
            clear hx
            go_wp2_with fail
            first | (go_quiet (fail); go_wp2; go_ret; exact ⟨ret_bool HF.out.symm, Below.drewN' hb _⟩) | (go_wp2; go_ret; exact ⟨ret_bool HF.out.symm, hb⟩) | (go_ret; exact ⟨ret_bool HF.out.symm, hb⟩)
        · have HF := Lib.hid (allB_succ ha.out hx)
          obtain ⟨h1, h2, h3, h4⟩ := all_yes4 hx
          clear hx
          go_wp2_with fail
          go_quiet (fail)
          go_wp2
          go_roundw
          case rel => exact ⟨k + 1, by omega, by go_num, HF, Below.drewN' hb _⟩
          case measure => simp [intOf]; omega
      · obtain rfl : k = n := by omega
        have HF : Hid (sameB f1 k f2 k = true) := HF0.out.trans ha.out
        go_wp2
        go_ret
        exact ⟨ret_bool HF.out.symm, hb⟩
set_option maxHeartbeats 3200000 in
theorem same_spec (n m g1 g2 : Nat) (f1 f2 : Nat → Int) (w : World) (hn : n < 1000000000) (hm : m < 1000000000) (I1 : RowC w g1 0 n 4 f1) (I2 : RowC w g2 0 m 4 f2) :
    Calls Try.prog 20 #[.slice (some ⟨g1, 0, none⟩) n n, .slice (some ⟨g2, 0, none⟩) m m] w (RetV w (.bool (sameB f1 n f2 m))) := by
  by_cases hnm : ¬ n = m
  · have HF : Hid (sameB f1 n f2 m = false) := by show (decide (n = m) && _) = false; rw [decide_eq_false hnm]; rfl
    have h1 : ((n : Int) == m) = false := by simp; omega
    go_enter Try.func20, Try.ntmps20
    go_wp2
    go_ret
    exact ⟨ret_bool HF.out.symm, Below.refl _ _⟩
  · obtain rfl := Classical.not_not.1 hnm
    clear hnm
    have HF0 : Hid (sameB f1 n f2 n = allB (entEq f1 f2) n) := by show (decide (n = n) && _) = _; rw [decide_eq_true rfl]; rfl
    go_enter Try.func20, Try.ntmps20
    go_wp2
    go_loopw [13] (fun i wr => ∃ k : Nat, k ≤ n ∧ i = .int .i64 k ∧ Hid (allB (entEq f1 f2) k = true) ∧ Below w.heap.size w wr) (fun i _ => n - (intOf i).toNat)
    case atStart => exact ⟨0, Nat.zero_le _, rfl, rfl, Below.refl _ _⟩
    case round =>
      obtain ⟨k, hk, rfl, ha, hb⟩ := hrel
      by_cases hlt : k < n
      · have c0 := Below.cellOf hb rfl (I1.c0 k hlt (by decide))
        have c1 := Below.cellOf hb rfl (I1.cs k 1 hlt (by decide))
        have c2 := Below.cellOf hb rfl (I1.cs k 2 hlt (by decide))
        have c3 := Below.cellOf hb rfl (I1.cs k 3 hlt (by decide))
        have d0 := Below.cellOf hb rfl (I2.c0 k hlt (by decide))
        have d1 := Below.cellOf hb rfl (I2.cs k 1 hlt (by decide))
        have d2 := Below.cellOf hb rfl (I2.cs k 2 hlt (by decide))
        have d3 := Below.cellOf hb rfl (I2.cs k 3 hlt (by decide))
        have l1 : (k : Int) < n := by omega
        cases hx : entEq f1 f2 k
        · have HF : Hid (sameB f1 n f2 n = false) := by show sameB f1 n f2 n = false; rw [HF0.out]; exact allB_false k hlt hx
          rcases first_no4 hx with h1 | ⟨h1, h2 | ⟨h2, h3 | ⟨h3, h4⟩⟩⟩
          all_goals
            clear hx
            go_wp2_with fail
            first | (go_quiet (fail); go_wp2; go_ret; exact ⟨ret_bool HF.out.symm, Below.drewN' hb _⟩) | (go_wp2; go_ret; exact ⟨ret_bool HF.out.symm, hb⟩) | (go_ret; exact ⟨ret_bool HF.out.symm, hb⟩)
        · have HF := Lib.hid (allB_succ ha.out hx)
          obtain ⟨h1, h2, h3, h4⟩ := all_yes4 hx
          clear hx
          go_wp2_with fail
          go_quiet (fail)
          go_wp2
          go_roundw
          case rel => exact ⟨k + 1, by omega, by go_num, HF, Below.drewN' hb _⟩
          case measure => simp [intOf]; omega
      · obtain rfl : k = n := by omega
        have HF : Hid (sameB f1 k f2 k = true) := HF0.out.trans ha.out
        go_wp2
        go_ret
        exact ⟨ret_bool HF.out.symm, hb⟩

theorem SameEntries_impl {w : World} {B1 B2 : Nat} {v1 v2 : Value} {X Y : Rec} (h1 : RowR 4 w B1 v1 X) (h2 : RowR 4 w B2 v2 Y) : Calls Try.prog 22 #[v1, v2] w (RetV w (.bool (SameEntries_r0 X Y))) := by
  obtain ⟨g1, rfl, _, _, m1, I1, _⟩ := h1
  obtain ⟨g2, rfl, _, _, m2, I2, _⟩ := h2
  show Calls _ _ _ _ (RetV w (.bool (sameB X.f X.length Y.f Y.length)))
  generalize X.length = n at *
  generalize X.f = f1 at *
  generalize Y.length = m at *
  generalize Y.f = f2 at *
  generalize hR : sameB f1 n f2 m = R
  have HR := Lib.hid hR
  clear hR
  go_enter Try.func22, Try.ntmps22
  go_wp2_with (first | (go_at_call 61; refine (same_impl n m g1 g2 f1 f2 _ m1 m2 I1 I2).mono ?_; rw [HR.out]; rintro e w1 ⟨rfl, hb⟩))
  go_ret
  exact ⟨rfl, hb⟩
theorem SameEntries_spec {w : World} {B1 B2 : Nat} {v1 v2 : Value} {X Y : Rec} (h1 : RowR 4 w B1 v1 X) (h2 : RowR 4 w B2 v2 Y) : Calls Try.prog 20 #[v1, v2] w (RetV w (.bool (SameEntries_r0 X Y))) := by
  obtain ⟨g1, rfl, _, _, m1, I1, _⟩ := h1
  obtain ⟨g2, rfl, _, _, m2, I2, _⟩ := h2
  exact same_spec X.length Y.length g1 g2 X.f Y.f w m1 m2 I1 I2
end Go.Proofs.Ytmifnjcpnaaocaa
