/-
  spec.l05Rows tells whether a list has rows. Condition: fewer than 1000000000 rows.
-/
import Derived.Test.YtjpjcdkepconjaaAreRowsI
namespace Go.Proofs.Ytjpjcdkepconjaa
open Go.RowKit
set_option linter.unusedVariables false

set_option maxHeartbeats 3200000 in
theorem l05_1 (n g : Nat) (f : Nat → Int) (w : World) (R : Bool) (hn : n < 1000000000) (hI : RowC w g 0 n 3 f) (n1 : (1 : Int) ≤ n) (n2 : (n : Int) ≤ 32) (HO : Hid (R = allB (rowOk 1 f) n)) :
    Calls Try.prog 52 #[.int .i64 1, .slice (some ⟨g, 0, none⟩) n n] w (RetV w (.bool R)) := by
  have h1 : win 1 1 8 = true := by decide
  go_enter Try.func52, Try.ntmps52
  go_wp2_with (first | (go_at_call 73; refine (spec_l00In_any _ _ _ _).mono ?_; rintro e w' ⟨rfl, rfl⟩))
  go_loopw [22] (fun i wr => ∃ k : Nat, k ≤ n ∧ i = .int .i64 k ∧ Hid (allB (rowOk 1 f) k = true) ∧ Below w.heap.size w wr) (fun i _ => n - (intOf i).toNat)
  case atStart => exact ⟨0, Nat.zero_le _, rfl, rfl, Below.refl _ _⟩
  case round =>
    obtain ⟨k, hk, rfl, ha, hb⟩ := hrel
    by_cases hlt : k < n
    · have d0 := Below.cellOf hb rfl (hI.c0 k hlt (by decide))
      have d1 := Below.cellOf hb rfl (hI.cs k 1 hlt (by decide))
      have d2 := Below.cellOf hb rfl (hI.cs k 2 hlt (by decide))
      have l1 : (k : Int) < n := by omega
      have hA := row_alt 1 (by omega) f k
      cases hx : rowOk 1 f k
      · rw [hx] at hA
        have HF := Lib.hid (allB_false k hlt hx)
        rcases first_no4 hA.symm with g1 | ⟨g1, g2 | ⟨g2, g3 | ⟨g3, g4⟩⟩⟩
        all_goals
          try have g3' : (bits BinOp.and IntKind.i64 (f (k * 3 + 1)) (f (k * 3)) == f (k * 3 + 1)) = false := g3
          try have g3' : (bits BinOp.and IntKind.i64 (f (k * 3 + 1)) (f (k * 3)) == f (k * 3 + 1)) = true := g3
          try have g3'' : (bits BinOp.and IntKind.i64 (f (k * 3 + 1)) (f (k * 3)) != f (k * 3 + 1)) = true := by rw [bne, g3']; rfl
          try have g3'' : (bits BinOp.and IntKind.i64 (f (k * 3 + 1)) (f (k * 3)) != f (k * 3 + 1)) = false := by rw [bne, g3']; rfl
          clear hA hx
          go_wp2_with fail
          go_quiet ((first | (go_at_call 73; exact Calls.quiet_of_same ((spec_l00In_any _ _ _ _).mono (fun _ _ h => ⟨h.1, h.2.symm⟩))))); go_wp2
          go_ret
          exact ⟨ret_bool (by rw [HO.out, HF.out]), Below.drewN' hb _⟩
      · rw [hx] at hA
        have HF := Lib.hid (allB_succ ha.out hx)
        obtain ⟨g1, g2, g3, g4⟩ := all_yes4 hA.symm
        have g3' : (bits BinOp.and IntKind.i64 (f (k * 3 + 1)) (f (k * 3)) == f (k * 3 + 1)) = true := g3
        have g3'' : (bits BinOp.and IntKind.i64 (f (k * 3 + 1)) (f (k * 3)) != f (k * 3 + 1)) = false := by rw [bne, g3']; rfl
        clear hA hx g3
        go_wp2_with fail
        go_quiet ((first | (go_at_call 73; exact Calls.quiet_of_same ((spec_l00In_any _ _ _ _).mono (fun _ _ h => ⟨h.1, h.2.symm⟩))))); go_wp2
        go_roundw
        case rel => exact ⟨k + 1, by omega, by go_num, HF, Below.drewN' hb _⟩
        case measure => simp [intOf]; omega
    · obtain rfl : k = n := by omega
      go_wp2
      go_ret
      exact ⟨ret_bool (by rw [HO.out, ha.out]), hb⟩

set_option maxHeartbeats 3200000 in
theorem l05_2 (n g : Nat) (f : Nat → Int) (w : World) (R : Bool) (hn : n < 1000000000) (hI : RowC w g 0 n 3 f) (n1 : (1 : Int) ≤ n) (n2 : (n : Int) ≤ 32) (HO : Hid (R = allB (rowOk 3 f) n)) :
    Calls Try.prog 52 #[.int .i64 2, .slice (some ⟨g, 0, none⟩) n n] w (RetV w (.bool R)) := by
  have h1 : win 2 1 8 = true := by decide
  go_enter Try.func52, Try.ntmps52
  go_wp2_with (first | (go_at_call 73; refine (spec_l00In_any _ _ _ _).mono ?_; rintro e w' ⟨rfl, rfl⟩))
  go_loopw [22] (fun i wr => ∃ k : Nat, k ≤ n ∧ i = .int .i64 k ∧ Hid (allB (rowOk 3 f) k = true) ∧ Below w.heap.size w wr) (fun i _ => n - (intOf i).toNat)
  case atStart => exact ⟨0, Nat.zero_le _, rfl, rfl, Below.refl _ _⟩
  case round =>
    obtain ⟨k, hk, rfl, ha, hb⟩ := hrel
    by_cases hlt : k < n
    · have d0 := Below.cellOf hb rfl (hI.c0 k hlt (by decide))
      have d1 := Below.cellOf hb rfl (hI.cs k 1 hlt (by decide))
      have d2 := Below.cellOf hb rfl (hI.cs k 2 hlt (by decide))
      have l1 : (k : Int) < n := by omega
      have hA := row_alt 3 (by omega) f k
      cases hx : rowOk 3 f k
      · rw [hx] at hA
        have HF := Lib.hid (allB_false k hlt hx)
        rcases first_no4 hA.symm with g1 | ⟨g1, g2 | ⟨g2, g3 | ⟨g3, g4⟩⟩⟩
        all_goals
          try have g3' : (bits BinOp.and IntKind.i64 (f (k * 3 + 1)) (f (k * 3)) == f (k * 3 + 1)) = false := g3
          try have g3' : (bits BinOp.and IntKind.i64 (f (k * 3 + 1)) (f (k * 3)) == f (k * 3 + 1)) = true := g3
          try have g3'' : (bits BinOp.and IntKind.i64 (f (k * 3 + 1)) (f (k * 3)) != f (k * 3 + 1)) = true := by rw [bne, g3']; rfl
          try have g3'' : (bits BinOp.and IntKind.i64 (f (k * 3 + 1)) (f (k * 3)) != f (k * 3 + 1)) = false := by rw [bne, g3']; rfl
          clear hA hx
          go_wp2_with fail
          go_quiet ((first | (go_at_call 73; exact Calls.quiet_of_same ((spec_l00In_any _ _ _ _).mono (fun _ _ h => ⟨h.1, h.2.symm⟩))))); go_wp2
          go_ret
          exact ⟨ret_bool (by rw [HO.out, HF.out]), Below.drewN' hb _⟩
      · rw [hx] at hA
        have HF := Lib.hid (allB_succ ha.out hx)
        obtain ⟨g1, g2, g3, g4⟩ := all_yes4 hA.symm
        have g3' : (bits BinOp.and IntKind.i64 (f (k * 3 + 1)) (f (k * 3)) == f (k * 3 + 1)) = true := g3
        have g3'' : (bits BinOp.and IntKind.i64 (f (k * 3 + 1)) (f (k * 3)) != f (k * 3 + 1)) = false := by rw [bne, g3']; rfl
        clear hA hx g3
        go_wp2_with fail
        go_quiet ((first | (go_at_call 73; exact Calls.quiet_of_same ((spec_l00In_any _ _ _ _).mono (fun _ _ h => ⟨h.1, h.2.symm⟩))))); go_wp2
        go_roundw
        case rel => exact ⟨k + 1, by omega, by go_num, HF, Below.drewN' hb _⟩
        case measure => simp [intOf]; omega
    · obtain rfl : k = n := by omega
      go_wp2
      go_ret
      exact ⟨ret_bool (by rw [HO.out, ha.out]), hb⟩

set_option maxHeartbeats 3200000 in
theorem l05_3 (n g : Nat) (f : Nat → Int) (w : World) (R : Bool) (hn : n < 1000000000) (hI : RowC w g 0 n 3 f) (n1 : (1 : Int) ≤ n) (n2 : (n : Int) ≤ 32) (HO : Hid (R = allB (rowOk 7 f) n)) :
    Calls Try.prog 52 #[.int .i64 3, .slice (some ⟨g, 0, none⟩) n n] w (RetV w (.bool R)) := by
  have h1 : win 3 1 8 = true := by decide
  go_enter Try.func52, Try.ntmps52
  go_wp2_with (first | (go_at_call 73; refine (spec_l00In_any _ _ _ _).mono ?_; rintro e w' ⟨rfl, rfl⟩))
  go_loopw [22] (fun i wr => ∃ k : Nat, k ≤ n ∧ i = .int .i64 k ∧ Hid (allB (rowOk 7 f) k = true) ∧ Below w.heap.size w wr) (fun i _ => n - (intOf i).toNat)
  case atStart => exact ⟨0, Nat.zero_le _, rfl, rfl, Below.refl _ _⟩
  case round =>
    obtain ⟨k, hk, rfl, ha, hb⟩ := hrel
    by_cases hlt : k < n
    · have d0 := Below.cellOf hb rfl (hI.c0 k hlt (by decide))
      have d1 := Below.cellOf hb rfl (hI.cs k 1 hlt (by decide))
      have d2 := Below.cellOf hb rfl (hI.cs k 2 hlt (by decide))
      have l1 : (k : Int) < n := by omega
      have hA := row_alt 7 (by omega) f k
      cases hx : rowOk 7 f k
      · rw [hx] at hA
        have HF := Lib.hid (allB_false k hlt hx)
        rcases first_no4 hA.symm with g1 | ⟨g1, g2 | ⟨g2, g3 | ⟨g3, g4⟩⟩⟩
        all_goals
          try have g3' : (bits BinOp.and IntKind.i64 (f (k * 3 + 1)) (f (k * 3)) == f (k * 3 + 1)) = false := g3
          try have g3' : (bits BinOp.and IntKind.i64 (f (k * 3 + 1)) (f (k * 3)) == f (k * 3 + 1)) = true := g3
          try have g3'' : (bits BinOp.and IntKind.i64 (f (k * 3 + 1)) (f (k * 3)) != f (k * 3 + 1)) = true := by rw [bne, g3']; rfl
          try have g3'' : (bits BinOp.and IntKind.i64 (f (k * 3 + 1)) (f (k * 3)) != f (k * 3 + 1)) = false := by rw [bne, g3']; rfl
          clear hA hx
          go_wp2_with fail
          go_quiet ((first | (go_at_call 73; exact Calls.quiet_of_same ((spec_l00In_any _ _ _ _).mono (fun _ _ h => ⟨h.1, h.2.symm⟩))))); go_wp2
          go_ret
          exact ⟨ret_bool (by rw [HO.out, HF.out]), Below.drewN' hb _⟩
      · rw [hx] at hA
        have HF := Lib.hid (allB_succ ha.out hx)
        obtain ⟨g1, g2, g3, g4⟩ := all_yes4 hA.symm
        have g3' : (bits BinOp.and IntKind.i64 (f (k * 3 + 1)) (f (k * 3)) == f (k * 3 + 1)) = true := g3
        have g3'' : (bits BinOp.and IntKind.i64 (f (k * 3 + 1)) (f (k * 3)) != f (k * 3 + 1)) = false := by rw [bne, g3']; rfl
        clear hA hx g3
        go_wp2_with fail
        go_quiet ((first | (go_at_call 73; exact Calls.quiet_of_same ((spec_l00In_any _ _ _ _).mono (fun _ _ h => ⟨h.1, h.2.symm⟩))))); go_wp2
        go_roundw
        case rel => exact ⟨k + 1, by omega, by go_num, HF, Below.drewN' hb _⟩
        case measure => simp [intOf]; omega
    · obtain rfl : k = n := by omega
      go_wp2
      go_ret
      exact ⟨ret_bool (by rw [HO.out, ha.out]), hb⟩

set_option maxHeartbeats 3200000 in
theorem l05_4 (n g : Nat) (f : Nat → Int) (w : World) (R : Bool) (hn : n < 1000000000) (hI : RowC w g 0 n 3 f) (n1 : (1 : Int) ≤ n) (n2 : (n : Int) ≤ 32) (HO : Hid (R = allB (rowOk 15 f) n)) :
    Calls Try.prog 52 #[.int .i64 4, .slice (some ⟨g, 0, none⟩) n n] w (RetV w (.bool R)) := by
  have h1 : win 4 1 8 = true := by decide
  go_enter Try.func52, Try.ntmps52
  go_wp2_with (first | (go_at_call 73; refine (spec_l00In_any _ _ _ _).mono ?_; rintro e w' ⟨rfl, rfl⟩))
  go_loopw [22] (fun i wr => ∃ k : Nat, k ≤ n ∧ i = .int .i64 k ∧ Hid (allB (rowOk 15 f) k = true) ∧ Below w.heap.size w wr) (fun i _ => n - (intOf i).toNat)
  case atStart => exact ⟨0, Nat.zero_le _, rfl, rfl, Below.refl _ _⟩
  case round =>
    obtain ⟨k, hk, rfl, ha, hb⟩ := hrel
    by_cases hlt : k < n
    · have d0 := Below.cellOf hb rfl (hI.c0 k hlt (by decide))
      have d1 := Below.cellOf hb rfl (hI.cs k 1 hlt (by decide))
      have d2 := Below.cellOf hb rfl (hI.cs k 2 hlt (by decide))
      have l1 : (k : Int) < n := by omega
      have hA := row_alt 15 (by omega) f k
      cases hx : rowOk 15 f k
      · rw [hx] at hA
        have HF := Lib.hid (allB_false k hlt hx)
        rcases first_no4 hA.symm with g1 | ⟨g1, g2 | ⟨g2, g3 | ⟨g3, g4⟩⟩⟩
        all_goals
          try have g3' : (bits BinOp.and IntKind.i64 (f (k * 3 + 1)) (f (k * 3)) == f (k * 3 + 1)) = false := g3
          try have g3' : (bits BinOp.and IntKind.i64 (f (k * 3 + 1)) (f (k * 3)) == f (k * 3 + 1)) = true := g3
          try have g3'' : (bits BinOp.and IntKind.i64 (f (k * 3 + 1)) (f (k * 3)) != f (k * 3 + 1)) = true := by rw [bne, g3']; rfl
          try have g3'' : (bits BinOp.and IntKind.i64 (f (k * 3 + 1)) (f (k * 3)) != f (k * 3 + 1)) = false := by rw [bne, g3']; rfl
          clear hA hx
          go_wp2_with fail
          go_quiet ((first | (go_at_call 73; exact Calls.quiet_of_same ((spec_l00In_any _ _ _ _).mono (fun _ _ h => ⟨h.1, h.2.symm⟩))))); go_wp2
          go_ret
          exact ⟨ret_bool (by rw [HO.out, HF.out]), Below.drewN' hb _⟩
      · rw [hx] at hA
        have HF := Lib.hid (allB_succ ha.out hx)
        obtain ⟨g1, g2, g3, g4⟩ := all_yes4 hA.symm
        have g3' : (bits BinOp.and IntKind.i64 (f (k * 3 + 1)) (f (k * 3)) == f (k * 3 + 1)) = true := g3
        have g3'' : (bits BinOp.and IntKind.i64 (f (k * 3 + 1)) (f (k * 3)) != f (k * 3 + 1)) = false := by rw [bne, g3']; rfl
        clear hA hx g3
        go_wp2_with fail
        go_quiet ((first | (go_at_call 73; exact Calls.quiet_of_same ((spec_l00In_any _ _ _ _).mono (fun _ _ h => ⟨h.1, h.2.symm⟩))))); go_wp2
        go_roundw
        case rel => exact ⟨k + 1, by omega, by go_num, HF, Below.drewN' hb _⟩
        case measure => simp [intOf]; omega
    · obtain rfl : k = n := by omega
      go_wp2
      go_ret
      exact ⟨ret_bool (by rw [HO.out, ha.out]), hb⟩

set_option maxHeartbeats 3200000 in
theorem l05_5 (n g : Nat) (f : Nat → Int) (w : World) (R : Bool) (hn : n < 1000000000) (hI : RowC w g 0 n 3 f) (n1 : (1 : Int) ≤ n) (n2 : (n : Int) ≤ 32) (HO : Hid (R = allB (rowOk 31 f) n)) :
    Calls Try.prog 52 #[.int .i64 5, .slice (some ⟨g, 0, none⟩) n n] w (RetV w (.bool R)) := by
  have h1 : win 5 1 8 = true := by decide
  go_enter Try.func52, Try.ntmps52
  go_wp2_with (first | (go_at_call 73; refine (spec_l00In_any _ _ _ _).mono ?_; rintro e w' ⟨rfl, rfl⟩))
  go_loopw [22] (fun i wr => ∃ k : Nat, k ≤ n ∧ i = .int .i64 k ∧ Hid (allB (rowOk 31 f) k = true) ∧ Below w.heap.size w wr) (fun i _ => n - (intOf i).toNat)
  case atStart => exact ⟨0, Nat.zero_le _, rfl, rfl, Below.refl _ _⟩
  case round =>
    obtain ⟨k, hk, rfl, ha, hb⟩ := hrel
    by_cases hlt : k < n
    · have d0 := Below.cellOf hb rfl (hI.c0 k hlt (by decide))
      have d1 := Below.cellOf hb rfl (hI.cs k 1 hlt (by decide))
      have d2 := Below.cellOf hb rfl (hI.cs k 2 hlt (by decide))
      have l1 : (k : Int) < n := by omega
      have hA := row_alt 31 (by omega) f k
      cases hx : rowOk 31 f k
      · rw [hx] at hA
        have HF := Lib.hid (allB_false k hlt hx)
        rcases first_no4 hA.symm with g1 | ⟨g1, g2 | ⟨g2, g3 | ⟨g3, g4⟩⟩⟩
        all_goals
          try have g3' : (bits BinOp.and IntKind.i64 (f (k * 3 + 1)) (f (k * 3)) == f (k * 3 + 1)) = false := g3
          try have g3' : (bits BinOp.and IntKind.i64 (f (k * 3 + 1)) (f (k * 3)) == f (k * 3 + 1)) = true := g3
          try have g3'' : (bits BinOp.and IntKind.i64 (f (k * 3 + 1)) (f (k * 3)) != f (k * 3 + 1)) = true := by rw [bne, g3']; rfl
          try have g3'' : (bits BinOp.and IntKind.i64 (f (k * 3 + 1)) (f (k * 3)) != f (k * 3 + 1)) = false := by rw [bne, g3']; rfl
          clear hA hx
          go_wp2_with fail
          go_quiet ((first | (go_at_call 73; exact Calls.quiet_of_same ((spec_l00In_any _ _ _ _).mono (fun _ _ h => ⟨h.1, h.2.symm⟩))))); go_wp2
          go_ret
          exact ⟨ret_bool (by rw [HO.out, HF.out]), Below.drewN' hb _⟩
      · rw [hx] at hA
        have HF := Lib.hid (allB_succ ha.out hx)
        obtain ⟨g1, g2, g3, g4⟩ := all_yes4 hA.symm
        have g3' : (bits BinOp.and IntKind.i64 (f (k * 3 + 1)) (f (k * 3)) == f (k * 3 + 1)) = true := g3
        have g3'' : (bits BinOp.and IntKind.i64 (f (k * 3 + 1)) (f (k * 3)) != f (k * 3 + 1)) = false := by rw [bne, g3']; rfl
        clear hA hx g3
        go_wp2_with fail
        go_quiet ((first | (go_at_call 73; exact Calls.quiet_of_same ((spec_l00In_any _ _ _ _).mono (fun _ _ h => ⟨h.1, h.2.symm⟩))))); go_wp2
        go_roundw
        case rel => exact ⟨k + 1, by omega, by go_num, HF, Below.drewN' hb _⟩
        case measure => simp [intOf]; omega
    · obtain rfl : k = n := by omega
      go_wp2
      go_ret
      exact ⟨ret_bool (by rw [HO.out, ha.out]), hb⟩

set_option maxHeartbeats 3200000 in
theorem l05_6 (n g : Nat) (f : Nat → Int) (w : World) (R : Bool) (hn : n < 1000000000) (hI : RowC w g 0 n 3 f) (n1 : (1 : Int) ≤ n) (n2 : (n : Int) ≤ 32) (HO : Hid (R = allB (rowOk 63 f) n)) :
    Calls Try.prog 52 #[.int .i64 6, .slice (some ⟨g, 0, none⟩) n n] w (RetV w (.bool R)) := by
  have h1 : win 6 1 8 = true := by decide
  go_enter Try.func52, Try.ntmps52
  go_wp2_with (first | (go_at_call 73; refine (spec_l00In_any _ _ _ _).mono ?_; rintro e w' ⟨rfl, rfl⟩))
  go_loopw [22] (fun i wr => ∃ k : Nat, k ≤ n ∧ i = .int .i64 k ∧ Hid (allB (rowOk 63 f) k = true) ∧ Below w.heap.size w wr) (fun i _ => n - (intOf i).toNat)
  case atStart => exact ⟨0, Nat.zero_le _, rfl, rfl, Below.refl _ _⟩
  case round =>
    obtain ⟨k, hk, rfl, ha, hb⟩ := hrel
    by_cases hlt : k < n
    · have d0 := Below.cellOf hb rfl (hI.c0 k hlt (by decide))
      have d1 := Below.cellOf hb rfl (hI.cs k 1 hlt (by decide))
      have d2 := Below.cellOf hb rfl (hI.cs k 2 hlt (by decide))
      have l1 : (k : Int) < n := by omega
      have hA := row_alt 63 (by omega) f k
      cases hx : rowOk 63 f k
      · rw [hx] at hA
        have HF := Lib.hid (allB_false k hlt hx)
        rcases first_no4 hA.symm with g1 | ⟨g1, g2 | ⟨g2, g3 | ⟨g3, g4⟩⟩⟩
        all_goals
          try have g3' : (bits BinOp.and IntKind.i64 (f (k * 3 + 1)) (f (k * 3)) == f (k * 3 + 1)) = false := g3
          try have g3' : (bits BinOp.and IntKind.i64 (f (k * 3 + 1)) (f (k * 3)) == f (k * 3 + 1)) = true := g3
          try have g3'' : (bits BinOp.and IntKind.i64 (f (k * 3 + 1)) (f (k * 3)) != f (k * 3 + 1)) = true := by rw [bne, g3']; rfl
          try have g3'' : (bits BinOp.and IntKind.i64 (f (k * 3 + 1)) (f (k * 3)) != f (k * 3 + 1)) = false := by rw [bne, g3']; rfl
          clear hA hx
          go_wp2_with fail
          go_quiet ((first | (go_at_call 73; exact Calls.quiet_of_same ((spec_l00In_any _ _ _ _).mono (fun _ _ h => ⟨h.1, h.2.symm⟩))))); go_wp2
          go_ret
          exact ⟨ret_bool (by rw [HO.out, HF.out]), Below.drewN' hb _⟩
      · rw [hx] at hA
        have HF := Lib.hid (allB_succ ha.out hx)
        obtain ⟨g1, g2, g3, g4⟩ := all_yes4 hA.symm
        have g3' : (bits BinOp.and IntKind.i64 (f (k * 3 + 1)) (f (k * 3)) == f (k * 3 + 1)) = true := g3
        have g3'' : (bits BinOp.and IntKind.i64 (f (k * 3 + 1)) (f (k * 3)) != f (k * 3 + 1)) = false := by rw [bne, g3']; rfl
        clear hA hx g3
        go_wp2_with fail
        go_quiet ((first | (go_at_call 73; exact Calls.quiet_of_same ((spec_l00In_any _ _ _ _).mono (fun _ _ h => ⟨h.1, h.2.symm⟩))))); go_wp2
        go_roundw
        case rel => exact ⟨k + 1, by omega, by go_num, HF, Below.drewN' hb _⟩
        case measure => simp [intOf]; omega
    · obtain rfl : k = n := by omega
      go_wp2
      go_ret
      exact ⟨ret_bool (by rw [HO.out, ha.out]), hb⟩

set_option maxHeartbeats 3200000 in
theorem l05_7 (n g : Nat) (f : Nat → Int) (w : World) (R : Bool) (hn : n < 1000000000) (hI : RowC w g 0 n 3 f) (n1 : (1 : Int) ≤ n) (n2 : (n : Int) ≤ 32) (HO : Hid (R = allB (rowOk 127 f) n)) :
    Calls Try.prog 52 #[.int .i64 7, .slice (some ⟨g, 0, none⟩) n n] w (RetV w (.bool R)) := by
  have h1 : win 7 1 8 = true := by decide
  go_enter Try.func52, Try.ntmps52
  go_wp2_with (first | (go_at_call 73; refine (spec_l00In_any _ _ _ _).mono ?_; rintro e w' ⟨rfl, rfl⟩))
  go_loopw [22] (fun i wr => ∃ k : Nat, k ≤ n ∧ i = .int .i64 k ∧ Hid (allB (rowOk 127 f) k = true) ∧ Below w.heap.size w wr) (fun i _ => n - (intOf i).toNat)
  case atStart => exact ⟨0, Nat.zero_le _, rfl, rfl, Below.refl _ _⟩
  case round =>
    obtain ⟨k, hk, rfl, ha, hb⟩ := hrel
    by_cases hlt : k < n
    · have d0 := Below.cellOf hb rfl (hI.c0 k hlt (by decide))
      have d1 := Below.cellOf hb rfl (hI.cs k 1 hlt (by decide))
      have d2 := Below.cellOf hb rfl (hI.cs k 2 hlt (by decide))
      have l1 : (k : Int) < n := by omega
      have hA := row_alt 127 (by omega) f k
      cases hx : rowOk 127 f k
      · rw [hx] at hA
        have HF := Lib.hid (allB_false k hlt hx)
        rcases first_no4 hA.symm with g1 | ⟨g1, g2 | ⟨g2, g3 | ⟨g3, g4⟩⟩⟩
        all_goals
          try have g3' : (bits BinOp.and IntKind.i64 (f (k * 3 + 1)) (f (k * 3)) == f (k * 3 + 1)) = false := g3
          try have g3' : (bits BinOp.and IntKind.i64 (f (k * 3 + 1)) (f (k * 3)) == f (k * 3 + 1)) = true := g3
          try have g3'' : (bits BinOp.and IntKind.i64 (f (k * 3 + 1)) (f (k * 3)) != f (k * 3 + 1)) = true := by rw [bne, g3']; rfl
          try have g3'' : (bits BinOp.and IntKind.i64 (f (k * 3 + 1)) (f (k * 3)) != f (k * 3 + 1)) = false := by rw [bne, g3']; rfl
          clear hA hx
          go_wp2_with fail
          go_quiet ((first | (go_at_call 73; exact Calls.quiet_of_same ((spec_l00In_any _ _ _ _).mono (fun _ _ h => ⟨h.1, h.2.symm⟩))))); go_wp2
          go_ret
          exact ⟨ret_bool (by rw [HO.out, HF.out]), Below.drewN' hb _⟩
      · rw [hx] at hA
        have HF := Lib.hid (allB_succ ha.out hx)
        obtain ⟨g1, g2, g3, g4⟩ := all_yes4 hA.symm
        have g3' : (bits BinOp.and IntKind.i64 (f (k * 3 + 1)) (f (k * 3)) == f (k * 3 + 1)) = true := g3
        have g3'' : (bits BinOp.and IntKind.i64 (f (k * 3 + 1)) (f (k * 3)) != f (k * 3 + 1)) = false := by rw [bne, g3']; rfl
        clear hA hx g3
        go_wp2_with fail
        go_quiet ((first | (go_at_call 73; exact Calls.quiet_of_same ((spec_l00In_any _ _ _ _).mono (fun _ _ h => ⟨h.1, h.2.symm⟩))))); go_wp2
        go_roundw
        case rel => exact ⟨k + 1, by omega, by go_num, HF, Below.drewN' hb _⟩
        case measure => simp [intOf]; omega
    · obtain rfl : k = n := by omega
      go_wp2
      go_ret
      exact ⟨ret_bool (by rw [HO.out, ha.out]), hb⟩

set_option maxHeartbeats 3200000 in
theorem l05_8 (n g : Nat) (f : Nat → Int) (w : World) (R : Bool) (hn : n < 1000000000) (hI : RowC w g 0 n 3 f) (n1 : (1 : Int) ≤ n) (n2 : (n : Int) ≤ 32) (HO : Hid (R = allB (rowOk 255 f) n)) :
    Calls Try.prog 52 #[.int .i64 8, .slice (some ⟨g, 0, none⟩) n n] w (RetV w (.bool R)) := by
  have h1 : win 8 1 8 = true := by decide
  go_enter Try.func52, Try.ntmps52
  go_wp2_with (first | (go_at_call 73; refine (spec_l00In_any _ _ _ _).mono ?_; rintro e w' ⟨rfl, rfl⟩))
  go_loopw [22] (fun i wr => ∃ k : Nat, k ≤ n ∧ i = .int .i64 k ∧ Hid (allB (rowOk 255 f) k = true) ∧ Below w.heap.size w wr) (fun i _ => n - (intOf i).toNat)
  case atStart => exact ⟨0, Nat.zero_le _, rfl, rfl, Below.refl _ _⟩
  case round =>
    obtain ⟨k, hk, rfl, ha, hb⟩ := hrel
    by_cases hlt : k < n
    · have d0 := Below.cellOf hb rfl (hI.c0 k hlt (by decide))
      have d1 := Below.cellOf hb rfl (hI.cs k 1 hlt (by decide))
      have d2 := Below.cellOf hb rfl (hI.cs k 2 hlt (by decide))
      have l1 : (k : Int) < n := by omega
      have hA := row_alt 255 (by omega) f k
      cases hx : rowOk 255 f k
      · rw [hx] at hA
        have HF := Lib.hid (allB_false k hlt hx)
        rcases first_no4 hA.symm with g1 | ⟨g1, g2 | ⟨g2, g3 | ⟨g3, g4⟩⟩⟩
        all_goals
          try have g3' : (bits BinOp.and IntKind.i64 (f (k * 3 + 1)) (f (k * 3)) == f (k * 3 + 1)) = false := g3
          try have g3' : (bits BinOp.and IntKind.i64 (f (k * 3 + 1)) (f (k * 3)) == f (k * 3 + 1)) = true := g3
          try have g3'' : (bits BinOp.and IntKind.i64 (f (k * 3 + 1)) (f (k * 3)) != f (k * 3 + 1)) = true := by rw [bne, g3']; rfl
          try have g3'' : (bits BinOp.and IntKind.i64 (f (k * 3 + 1)) (f (k * 3)) != f (k * 3 + 1)) = false := by rw [bne, g3']; rfl
          clear hA hx
          go_wp2_with fail
          go_quiet ((first | (go_at_call 73; exact Calls.quiet_of_same ((spec_l00In_any _ _ _ _).mono (fun _ _ h => ⟨h.1, h.2.symm⟩))))); go_wp2
          go_ret
          exact ⟨ret_bool (by rw [HO.out, HF.out]), Below.drewN' hb _⟩
      · rw [hx] at hA
        have HF := Lib.hid (allB_succ ha.out hx)
        obtain ⟨g1, g2, g3, g4⟩ := all_yes4 hA.symm
        have g3' : (bits BinOp.and IntKind.i64 (f (k * 3 + 1)) (f (k * 3)) == f (k * 3 + 1)) = true := g3
        have g3'' : (bits BinOp.and IntKind.i64 (f (k * 3 + 1)) (f (k * 3)) != f (k * 3 + 1)) = false := by rw [bne, g3']; rfl
        clear hA hx g3
        go_wp2_with fail
        go_quiet ((first | (go_at_call 73; exact Calls.quiet_of_same ((spec_l00In_any _ _ _ _).mono (fun _ _ h => ⟨h.1, h.2.symm⟩))))); go_wp2
        go_roundw
        case rel => exact ⟨k + 1, by omega, by go_num, HF, Below.drewN' hb _⟩
        case measure => simp [intOf]; omega
    · obtain rfl : k = n := by omega
      go_wp2
      go_ret
      exact ⟨ret_bool (by rw [HO.out, ha.out]), hb⟩
end Go.Proofs.Ytjpjcdkepconjaa
