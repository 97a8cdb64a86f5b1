/-
  impl.areWords, isWord, atom and the reference's l05Word, l05Atom, l05Words by their contracts. Condition: fewer than 1000000000 integers.
-/
import Derived.Test.YtjopeidmfgkhnaaValidRuleP
import Derived.Test.YtjopeidmfgkhnaaSmall
import Derived.Deep.QuietTactic
import Derived.BigQuiet
namespace Go.Proofs.Ytjopeidmfgkhnaa
open Go.RowKit
set_option linter.unusedVariables false

theorem word_ne {x : Int} (h : (x == 0) = true) : isWordB x = false := by simp [isWordB, h]
theorem word_eq {x : Int} (h : (x == 0) = false) : isWordB x = win x (-16) 16 := by simp [isWordB, h]
theorem impl_isWord_any (x : Int) (w : World) : Calls Try.prog 48 #[.int .i64 x] w fun e w' => e = .returned (.bool (isWordB x)) ∧ w = w' := by
  cases h : (x == 0)
  · have h' : (x != 0) = true := by simp [bne, h]
    have HW := Lib.hid (word_eq h)
    go_enter Try.func48, Try.ntmps48
    go_wp2_with (first | (go_at_call 42; refine (impl_within_any _ _ _ _).mono ?_; rintro e w' ⟨rfl, rfl⟩))
    go_ret
    exact ⟨ret_bool HW.out.symm, rfl⟩
  · have h' : (x != 0) = false := by simp [bne, h]
    have HW := Lib.hid (word_ne h)
    go_enter Try.func48, Try.ntmps48
    go_wp2_with fail
    go_ret
    exact ⟨ret_bool HW.out.symm, rfl⟩
theorem spec_l05Word_any (x : Int) (w : World) : Calls Try.prog 73 #[.int .i64 x] w fun e w' => e = .returned (.bool (isWordB x)) ∧ w = w' := by
  cases h : (x == 0)
  · have h' : (x != 0) = true := by simp [bne, h]
    have HW := Lib.hid (word_eq h)
    go_enter Try.func73, Try.ntmps73
    go_wp2_with (first | (go_at_call 51; refine (spec_l00In_any _ _ _ _).mono ?_; rintro e w' ⟨rfl, rfl⟩))
    go_ret
    exact ⟨ret_bool HW.out.symm, rfl⟩
  · have h' : (x != 0) = false := by simp [bne, h]
    have HW := Lib.hid (word_ne h)
    go_enter Try.func73, Try.ntmps73
    go_wp2_with fail
    go_ret
    exact ⟨ret_bool HW.out.symm, rfl⟩
theorem impl_atom_any (x : Int) (w : World) (hx : -16 ≤ x ∧ x ≤ 16) : Calls Try.prog 76 #[.int .i64 x] w fun e w' => e = .returned (.int .i64 (atomF x)) ∧ w = w' := by
  go_enter Try.func76, Try.ntmps76
  go_wp2
  all_goals (go_ret; exact ⟨ret_int (by unfold atomF; omega), rfl⟩)
theorem spec_l05Atom_any (x : Int) (w : World) (hx : -16 ≤ x ∧ x ≤ 16) : Calls Try.prog 83 #[.int .i64 x] w fun e w' => e = .returned (.int .i64 (atomF x)) ∧ w = w' := by
  go_enter Try.func83, Try.ntmps83
  go_wp2
  all_goals (go_ret; exact ⟨ret_int (by unfold atomF; omega), rfl⟩)
theorem word_bd {x : Int} (h : isWordB x = true) : -16 ≤ x ∧ x ≤ 16 := win_iff.1 (all_yes2 h).2
theorem word_no {f : Nat → Int} {n k : Nat} (hk : k < n) (h : wordAt f k = false) : wordsB f n = false := allB_false k hk h
theorem wordAt_is {f : Nat → Int} {k : Nat} (h : isWordB (f k) = true) : wordAt f k = (decide (k = 0) || decide (atomF (f (k - 1)) < atomF (f k))) := by simp only [wordAt, h, Bool.true_and]
theorem wordAt_no {f : Nat → Int} {k : Nat} (h : isWordB (f k) = false) : wordAt f k = false := by simp only [wordAt, h, Bool.false_and]

set_option maxHeartbeats 1600000 in
theorem areWords_any (n g c : Nat) (f : Nat → Int) (m : Int) (w : World) (hn : n < 1000000000) (hI : Ints w g 0 n f) :
    Calls Try.prog 49 #[.slice (some ⟨g, 0, none⟩) n c, .int .i64 m] w fun e w' => e = .returned (.bool (wordsB f n && decide ((n : Int) ≤ m))) ∧ w = w' := by
  go_enter Try.func49, Try.ntmps49
  go_wp2
  go_loop [9] (fun i => ∃ k : Nat, k ≤ n ∧ i = .int .i64 k ∧ Hid (wordsB f k = true)) (fun i => n - (intOf i).toNat)
  case atStart => exact ⟨0, Nat.zero_le _, rfl, rfl⟩
  case round =>
    obtain ⟨k, hk, rfl, ha⟩ := hrel
    by_cases hlt : k < n
    · have hc := hI.at0 k hlt
      cases hx : isWordB (f k)
      · have HF := Lib.hid (word_no hlt (wordAt_no hx))
        go_wp2_with (first | (go_at_call 48; refine (impl_isWord_any _ _).mono ?_; rintro e w' ⟨rfl, rfl⟩))
        go_ret
        exact ⟨ret_bool (by rw [HF.out]; rfl), rfl⟩
      · have hb := word_bd hx
        have HW := Lib.hid (wordAt_is hx)
        rcases Nat.eq_zero_or_pos k with h0 | h0
        · subst h0
          have HA : Hid (wordsB f (0 + 1) = true) := allB_succ (k := 0) rfl HW.out
          go_wp2_with (first | (go_at_call 48; refine (impl_isWord_any _ _).mono ?_; rintro e w' ⟨rfl, rfl⟩))
          go_round
          case rel => exact ⟨0 + 1, by omega, by go_num, HA⟩
          case measure => simp [intOf]; omega
        · obtain ⟨j, rfl⟩ : ∃ j, k = j + 1 := ⟨k - 1, by omega⟩
          have hd := hI.at0 j (by omega)
          have hb2 := word_bd (all_yes2 (allB_iff.1 ha.out j (by omega))).1
          have l1 : (0 : Int) < (j : Int) + 1 := by omega
          have l2 : (j : Int) < n := by omega
          have l3 : j < n := by omega
          have l4 : ((j : Int) + 1).toNat = j + 1 := by omega
          have HW2 : Hid (wordAt f (j + 1) = decide (atomF (f j) < atomF (f (j + 1)))) := HW.out.trans (by simp)
          by_cases ht : atomF (f j) < atomF (f (j + 1))
          · have HA : Hid (wordsB f (j + 1 + 1) = true) := allB_succ ha.out (HW2.out.trans (decide_eq_true ht))
            clear HW2 HW hI
            generalize f (j + 1) = X at *
            generalize f j = Y at *
            go_wp2_with (first | (go_at_call 48; refine (impl_isWord_any _ _).mono ?_; rintro e w' ⟨rfl, rfl⟩) | (go_at_call 76; refine (impl_atom_any _ _ (by assumption)).mono ?_; rintro e w' ⟨rfl, rfl⟩))
            go_round
            case rel => exact ⟨j + 1 + 1, by omega, by go_num, HA⟩
            case measure => simp [intOf]; omega
          · have HF := Lib.hid (word_no hlt (HW2.out.trans (decide_eq_false ht)))
            clear HW2 HW hI
            generalize f (j + 1) = X at *
            generalize f j = Y at *
            go_wp2_with (first | (go_at_call 48; refine (impl_isWord_any _ _).mono ?_; rintro e w' ⟨rfl, rfl⟩) | (go_at_call 76; refine (impl_atom_any _ _ (by assumption)).mono ?_; rintro e w' ⟨rfl, rfl⟩))
            go_ret
            exact ⟨ret_bool (by rw [HF.out]; rfl), rfl⟩
    · obtain rfl : k = n := by omega
      go_wp2
      all_goals (go_ret; exact ⟨ret_bool (by rw [ha.out]; simp_all), rfl⟩)

set_option maxHeartbeats 1600000 in
theorem l05Words_any (n g c : Nat) (f : Nat → Int) (w : World) (hn : n < 1000000000) (hI : Ints w g 0 n f) :
    Calls Try.prog 74 #[.slice (some ⟨g, 0, none⟩) n c] w fun e w' => e = .returned (.bool (wordsB f n)) ∧ ∃ q, w' = w.drewN q := by
  go_enter Try.func74, Try.ntmps74
  go_wp2
  go_loopw [6] (fun i wr => ∃ k : Nat, k ≤ n ∧ i = .int .i64 k ∧ Hid (wordsB f k = true) ∧ ∃ q, wr = w.drewN q) (fun i _ => n - (intOf i).toNat)
  case atStart => exact ⟨0, Nat.zero_le _, rfl, rfl, 0, rfl⟩
  case round =>
    obtain ⟨k, hk, rfl, ha, hq⟩ := hrel
    have HQ := Lib.hid hq
    have hJ : Ints wr g 0 n f := by obtain ⟨q, rfl⟩ := hq; exact hI.below (Below.drewN' (Below.refl _ _) q)
    clear hq
    have HD : Hid (∀ m, ∃ q, wr.drewN m = w.drewN q) := fun m => by obtain ⟨q, h⟩ := HQ.out; exact ⟨q + m, by rw [h, World.drewN_drewN]⟩
    by_cases hlt : k < n
    · have hc := hJ.at0 k hlt
      have l0 : (k : Int) < n := by omega
      cases hx : isWordB (f k)
      · have HF := Lib.hid (word_no hlt (wordAt_no hx))
        go_wp2_with fail
        go_quiet ((first | (go_at_call 73; exact Calls.quiet_of_same ((spec_l05Word_any _ _).mono (fun _ _ h => ⟨h.1, h.2.symm⟩)))))
        go_wp2
        go_ret
        exact ⟨ret_bool HF.out.symm, HD.out _⟩
      · have hb := word_bd hx
        have HW := Lib.hid (wordAt_is hx)
        rcases Nat.eq_zero_or_pos k with h0 | h0
        · subst h0
          have HA : Hid (wordsB f (0 + 1) = true) := allB_succ (k := 0) rfl HW.out
          go_wp2_with fail
          go_quiet ((first | (go_at_call 73; exact Calls.quiet_of_same ((spec_l05Word_any _ _).mono (fun _ _ h => ⟨h.1, h.2.symm⟩)))))
          go_wp2
          go_roundw
          case rel => exact ⟨0 + 1, by omega, by go_num, HA, HD.out _⟩
          case measure => simp [intOf]; omega
        · obtain ⟨j, rfl⟩ : ∃ j, k = j + 1 := ⟨k - 1, by omega⟩
          have hd := hJ.at0 j (by omega)
          have hb2 := word_bd (all_yes2 (allB_iff.1 ha.out j (by omega))).1
          have l1 : (0 : Int) < (j : Int) + 1 := by omega
          have l2 : (j : Int) < n := by omega
          have l3 : j < n := by omega
          have l4 : ((j : Int) + 1).toNat = j + 1 := by omega
          have e1 : IntKind.i64.wrap ((j : Int) + 1 - 1) = j := by rw [show (j : Int) + 1 - 1 = j by omega]; exact IntWalk.i64_in _ (by omega)
          have e2 : IntKind.i64.wrap (j : Int) = j := IntWalk.i64_in _ (by omega)
          have HW2 : Hid (wordAt f (j + 1) = decide (atomF (f j) < atomF (f (j + 1)))) := HW.out.trans (by simp)
          by_cases ht : atomF (f j) < atomF (f (j + 1))
          · have HA : Hid (wordsB f (j + 1 + 1) = true) := allB_succ ha.out (HW2.out.trans (decide_eq_true ht))
            clear HW2 HW hI
            generalize f (j + 1) = X at *
            generalize f j = Y at *
            have ht' : ¬ atomF X ≤ atomF Y := by omega
            have ht2 : decide (atomF X ≤ atomF Y) = false := decide_eq_false ht'
            go_wp2_with fail
            go_quiet ((first | (go_at_call 73; exact Calls.quiet_of_same ((spec_l05Word_any _ _).mono (fun _ _ h => ⟨h.1, h.2.symm⟩))) | (go_at_call 83; exact Calls.quiet_of_same ((spec_l05Atom_any _ _ (by assumption)).mono (fun _ _ h => ⟨h.1, h.2.symm⟩)))))
            go_wp2
            go_roundw
            case rel => exact ⟨j + 1 + 1, by omega, by go_num, HA, HD.out _⟩
            case measure => simp [intOf]; omega
          · have HF := Lib.hid (word_no hlt (HW2.out.trans (decide_eq_false ht)))
            clear HW2 HW hI
            generalize f (j + 1) = X at *
            generalize f j = Y at *
            have ht' : atomF X ≤ atomF Y := by omega
            go_wp2_with fail
            go_quiet ((first | (go_at_call 73; exact Calls.quiet_of_same ((spec_l05Word_any _ _).mono (fun _ _ h => ⟨h.1, h.2.symm⟩))) | (go_at_call 83; exact Calls.quiet_of_same ((spec_l05Atom_any _ _ (by assumption)).mono (fun _ _ h => ⟨h.1, h.2.symm⟩)))))
            go_wp2
            go_ret
            exact ⟨ret_bool HF.out.symm, HD.out _⟩
    · obtain rfl : k = n := by omega
      go_wp2
      go_ret
      exact ⟨ret_bool ha.out.symm, HQ.out⟩
end Go.Proofs.Ytjopeidmfgkhnaa
