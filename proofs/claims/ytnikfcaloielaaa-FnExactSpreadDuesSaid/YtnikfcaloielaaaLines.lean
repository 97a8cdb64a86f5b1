/-
  impl.areLines and spec.l04Lines answer alike whether lists have lines, kinds and rates. Condition: fewer than 1000000000 integers in each.
-/
import Derived.Test.YtnikfcaloielaaaWithin
import Derived.Test.YtnikfcaloielaaaTotal
import Derived.Test.YtnikfcaloielaaaAmountsS
namespace Go.Proofs.Ytnikfcaloielaaa
open Go.RowKit
set_option linter.unusedVariables false

def linesOk (f1 : Nat → Int) (n1 : Nat) (f2 : Nat → Int) (n2 : Nat) (f3 : Nat → Int) (n3 : Nat) (r : Int) : Bool :=
  cntB f1 n1 1 32 0 1000000000000 && isAmount (sumTo f1 n1) && cntB f3 n3 1 16 0 10000 && decide (n2 = n1) && allW f2 0 ((n3 : Int) - 1) n2 && isRound r
section
variable {f1 f2 f3 : Nat → Int} {n1 n2 n3 : Nat} {r : Int}
theorem lines_no1 (h : cntB f1 n1 1 32 0 1000000000000 = false) : linesOk f1 n1 f2 n2 f3 n3 r = false := by simp only [linesOk, h, Bool.false_and]
theorem lines_no2 (h : isAmount (sumTo f1 n1) = false) : linesOk f1 n1 f2 n2 f3 n3 r = false := by simp only [linesOk, h, Bool.false_and, Bool.and_false]
theorem lines_no3 (h : cntB f3 n3 1 16 0 10000 = false) : linesOk f1 n1 f2 n2 f3 n3 r = false := by simp only [linesOk, h, Bool.false_and, Bool.and_false]
theorem lines_no4 (h : n2 ≠ n1) : linesOk f1 n1 f2 n2 f3 n3 r = false := by simp [linesOk, h]
theorem lines_no5 (h : allW f2 0 ((n3 : Int) - 1) n2 = false) : linesOk f1 n1 f2 n2 f3 n3 r = false := by simp only [linesOk, h, Bool.false_and, Bool.and_false]
theorem lines_no6 (h : isRound r = false) : linesOk f1 n1 f2 n2 f3 n3 r = false := by simp only [linesOk, h, Bool.and_false]
theorem lines_out (h1 : cntB f1 n1 1 32 0 1000000000000 = true) (h2 : isAmount (sumTo f1 n1) = true) (h3 : cntB f3 n3 1 16 0 10000 = true) (h4 : n2 = n1) : linesOk f1 n1 f2 n2 f3 n3 r = (allW f2 0 ((n3 : Int) - 1) n2 && isRound r) := by
  simp only [linesOk, h1, h2, h3, h4, decide_true, Bool.true_and]
theorem lines_is (h : linesOk f1 n1 f2 n2 f3 n3 r = true) : (∀ i, i < n1 → 0 ≤ f1 i ∧ f1 i ≤ 1000000000000) ∧ (∀ i, i < n1 → 0 ≤ f2 i ∧ f2 i < n3) ∧ (∀ i, i < n3 → 0 ≤ f3 i ∧ f3 i ≤ 10000) ∧ n2 = n1 ∧ (1 : Int) ≤ n1 ∧ (n1 : Int) ≤ 32 ∧ (1 : Int) ≤ n3 ∧ (n3 : Int) ≤ 16 ∧ sumTo f1 n1 ≤ 1000000000000 := by
  obtain ⟨h1, h2, h3, h4, h5, h6⟩ := all_yes6 h
  obtain ⟨⟨a, b⟩, c⟩ := cntB_iff.1 h1
  obtain ⟨⟨d, e⟩, g⟩ := cntB_iff.1 h3
  have h4' : n2 = n1 := by simpa using h4
  have k := allW_iff.1 h5
  refine ⟨c, fun i hi => by have := k i (by omega); omega, g, h4', a, b, d, e, (win_iff.1 h2).2⟩
end
theorem lines_sum {f1 : Nat → Int} {n1 : Nat} (h1 : cntB f1 n1 1 32 0 1000000000000 = true) : ∀ k, k ≤ n1 → 0 ≤ sumTo f1 k ∧ sumTo f1 k ≤ 32000000000000 := by
  obtain ⟨⟨a, b⟩, c⟩ := cntB_iff.1 h1
  intro k hk
  have := sumTo_bd c (Int.le_refl _) (by omega) k hk
  have := sumTo_nonneg (fun i hi => (c i hi).1) k hk
  omega

set_option maxHeartbeats 1600000 in
theorem areLines_any (n1 g1 c1 : Nat) (f1 : Nat → Int) (n2 g2 c2 : Nat) (f2 : Nat → Int) (n3 g3 c3 : Nat) (f3 : Nat → Int) (r : Int) (w : World) (m1 : n1 < 1000000000) (m2 : n2 < 1000000000) (m3 : n3 < 1000000000)
    (I1 : Ints w g1 0 n1 f1) (I2 : Ints w g2 0 n2 f2) (I3 : Ints w g3 0 n3 f3) :
    Calls Try.prog 43 #[.slice (some ⟨g1, 0, none⟩) n1 c1, .slice (some ⟨g2, 0, none⟩) n2 c2, .slice (some ⟨g3, 0, none⟩) n3 c3, .int .i64 r] w (RetV w (.bool (linesOk f1 n1 f2 n2 f3 n3 r))) := by
  cases h1 : cntB f1 n1 1 32 0 1000000000000
  · rw [lines_no1 h1]
    go_enter Try.func43, Try.ntmps43
    go_wp2_with (first | (go_at_call 65; refine (hasCount_any n1 g1 0 c1 f1 _ _ _ _ _ m1 I1).mono ?_; rintro e w1 ⟨rfl, hb⟩))
    go_ret
    exact ⟨rfl, hb⟩
  have HS : Hid (∀ k, k ≤ n1 → -9000000000000000000 ≤ sumTo f1 k ∧ sumTo f1 k ≤ 9000000000000000000) := fun k hk => by have := lines_sum h1 k hk; omega
  cases h2 : isAmount (sumTo f1 n1)
  · rw [lines_no2 h2]
    go_enter Try.func43, Try.ntmps43
    go_wp2_with (first | (go_at_call 71; refine (impl_isAmount_any _ _).mono ?_; rintro e w' ⟨rfl, rfl⟩) | (go_at_call 65; refine (hasCount_any n1 g1 0 c1 f1 _ _ _ _ _ m1 I1).mono ?_; rintro e w1 ⟨rfl, hb⟩) | (go_at_call 38; refine (total_any n1 g1 0 c1 f1 _ m1 (I1.below hb) HS).mono ?_; rintro e w2 ⟨rfl, rfl⟩))
    go_ret
    exact ⟨rfl, hb⟩
  have AR1 : Hid (∀ w', Ints w' g1 0 n1 f1 → Calls Try.prog 65 #[.slice (some ⟨g1, 0, none⟩) n1 c1, .int .i64 1, .int .i64 32, .int .i64 0, .int .i64 1000000000000] w' (RetV w' (.bool true))) := fun w' I => by have := hasCount_any n1 g1 0 c1 f1 1 32 0 1000000000000 w' m1 I; rwa [h1] at this
  cases h3 : cntB f3 n3 1 16 0 10000
  · rw [lines_no3 h3]
    clear h1
    go_enter Try.func43, Try.ntmps43
    go_wp2_with fail
    refine (AR1.out _ I1).mono ?_
    rintro e w1 ⟨rfl, hb⟩
    go_wp2_with (first | (go_at_call 71; refine (impl_isAmount_any _ _).mono ?_; rintro e w' ⟨rfl, rfl⟩) | (go_at_call 38; refine (total_any n1 g1 0 c1 f1 _ m1 (I1.below hb) HS).mono ?_; rintro e w2 ⟨rfl, rfl⟩) | (go_at_call 65; refine (hasCount_any n3 g3 0 c3 f3 _ _ _ _ _ m3 (I3.below hb)).mono ?_; rintro e w2 ⟨rfl, hb2⟩))
    go_ret
    exact ⟨rfl, bnext hb hb2⟩
  by_cases h4 : n2 = n1
  · rw [lines_out h1 h2 h3 h4]
    have h4' : ((n2 : Int) == n1) = true := by simp [h4]
    have e1 : IntKind.i64.wrap ((n3 : Int) - 1) = n3 - 1 := IntWalk.i64_in _ (by omega)
    clear h1 h4
    go_enter Try.func43, Try.ntmps43
    go_wp2_with fail
    refine (AR1.out _ I1).mono ?_
    rintro e w1 ⟨rfl, hb⟩
    go_wp2_with (first | (go_at_call 71; refine (impl_isAmount_any _ _).mono ?_; rintro e w' ⟨rfl, rfl⟩) | (go_at_call 38; refine (total_any n1 g1 0 c1 f1 _ m1 (I1.below hb) HS).mono ?_; rintro e w2 ⟨rfl, rfl⟩) | (go_at_call 65; refine (hasCount_any n3 g3 0 c3 f3 _ _ _ _ _ m3 (I3.below hb)).mono ?_; rintro e w2 ⟨rfl, hb2⟩))
    refine (areWithin_any n2 g2 0 c2 f2 _ _ _ m2 (I2.below (bnext hb hb2))).mono ?_
    rintro e w3 ⟨rfl, hb3⟩
    cases h5 : allW f2 0 ((n3 : Int) - 1) n2
    all_goals
      go_wp2_with (first | (go_at_call 73; refine (impl_isRound_any _ _).mono ?_; rintro e w' ⟨rfl, rfl⟩))
      go_ret
      exact ⟨ret_bool (by simp [h5]), bnext (bnext hb hb2) hb3⟩
  · rw [lines_no4 h4]
    have h4' : ((n2 : Int) == n1) = false := by simp; omega
    clear h1 h4
    go_enter Try.func43, Try.ntmps43
    go_wp2_with fail
    refine (AR1.out _ I1).mono ?_
    rintro e w1 ⟨rfl, hb⟩
    go_wp2_with (first | (go_at_call 71; refine (impl_isAmount_any _ _).mono ?_; rintro e w' ⟨rfl, rfl⟩) | (go_at_call 38; refine (total_any n1 g1 0 c1 f1 _ m1 (I1.below hb) HS).mono ?_; rintro e w2 ⟨rfl, rfl⟩) | (go_at_call 65; refine (hasCount_any n3 g3 0 c3 f3 _ _ _ _ _ m3 (I3.below hb)).mono ?_; rintro e w2 ⟨rfl, hb2⟩))
    go_ret
    exact ⟨rfl, bnext hb hb2⟩

set_option maxHeartbeats 3200000 in
theorem l04Lines_any (n1 g1 c1 : Nat) (f1 : Nat → Int) (n2 g2 c2 : Nat) (f2 : Nat → Int) (n3 g3 c3 : Nat) (f3 : Nat → Int) (r : Int) (w : World) (m1 : n1 < 1000000000) (m2 : n2 < 1000000000) (m3 : n3 < 1000000000)
    (I1 : Ints w g1 0 n1 f1) (I2 : Ints w g2 0 n2 f2) (I3 : Ints w g3 0 n3 f3) :
    Calls Try.prog 40 #[.slice (some ⟨g1, 0, none⟩) n1 c1, .slice (some ⟨g2, 0, none⟩) n2 c2, .slice (some ⟨g3, 0, none⟩) n3 c3, .int .i64 r] w (RetV w (.bool (linesOk f1 n1 f2 n2 f3 n3 r))) := by
  cases h1 : cntB f1 n1 1 32 0 1000000000000
  · rw [lines_no1 h1]
    go_enter Try.func40, Try.ntmps40
    go_wp2_with (first | (go_at_call 66; refine (l04Amounts_any n1 g1 c1 f1 _ _ m1 I1).mono ?_; rintro e w1 ⟨rfl, hb⟩))
    go_ret
    exact ⟨rfl, hb⟩
  have HS : Hid (∀ k, k ≤ n1 → 0 ≤ sumTo f1 k ∧ sumTo f1 k ≤ 32000000000000) := lines_sum h1
  by_cases h4 : ¬ n2 = n1
  · rw [lines_no4 h4]
    have h4' : ((n2 : Int) != n1) = true := by simp; omega
    have h4'' : ((n2 : Int) == n1) = false := by simp; omega
    clear h4
    go_enter Try.func40, Try.ntmps40
    go_wp2_with (first | (go_at_call 66; refine (l04Amounts_any n1 g1 c1 f1 _ _ m1 I1).mono ?_; rintro e w1 ⟨rfl, hb⟩))
    go_ret
    exact ⟨rfl, hb⟩
  obtain rfl : n2 = n1 := Classical.not_not.1 h4
  by_cases h7 : ¬ (1 : Int) ≤ n3
  · rw [lines_no3 (cnt_no (by rw [win_not]; omega))]
    go_enter Try.func40, Try.ntmps40
    go_wp2_with (first | (go_at_call 66; refine (l04Amounts_any n2 g1 c1 f1 _ _ m1 I1).mono ?_; rintro e w1 ⟨rfl, hb⟩))
    go_ret
    exact ⟨rfl, hb⟩
  have h7 := Classical.not_not.1 h7
  by_cases h8 : ¬ (n3 : Int) ≤ 16
  · rw [lines_no3 (cnt_no (by rw [win_not]; omega))]
    go_enter Try.func40, Try.ntmps40
    go_wp2_with (first | (go_at_call 66; refine (l04Amounts_any n2 g1 c1 f1 _ _ m1 I1).mono ?_; rintro e w1 ⟨rfl, hb⟩))
    go_ret
    exact ⟨rfl, hb⟩
  have h8 := Classical.not_not.1 h8
  cases h6 : isRound r
  · rw [lines_no6 h6]
    go_enter Try.func40, Try.ntmps40
    go_wp2_with (first | (go_at_call 67; refine (spec_l02Way_any _ _).mono ?_; rintro e w' ⟨rfl, rfl⟩) | (go_at_call 66; refine (l04Amounts_any n2 g1 c1 f1 _ _ m1 I1).mono ?_; rintro e w1 ⟨rfl, hb⟩))
    go_ret
    exact ⟨rfl, hb⟩
  have H1 := Lib.hid h1
  have H6 := Lib.hid h6
  go_enter Try.func40, Try.ntmps40
  go_wp2_with (first | (go_at_call 67; refine (spec_l02Way_any _ _).mono ?_; rintro e w' ⟨rfl, rfl⟩) | (go_at_call 66; refine (l04Amounts_any n2 g1 c1 f1 _ _ m1 I1).mono ?_; rintro e w1 ⟨rfl, hb⟩))
  clear h1 h6
  have J1 := I1.below hb
  have J2 := I2.below hb
  have J3 := I3.below hb
  go_loop [9] (fun i => ∃ k : Nat, k ≤ n3 ∧ i = .int .i64 k ∧ Hid (allW f3 0 10000 k = true)) (fun i => n3 - (intOf i).toNat)
  case atStart => exact ⟨0, Nat.zero_le _, rfl, rfl⟩
  case round =>
    obtain ⟨k, hk, rfl, ha⟩ := hrel
    by_cases hlt : k < n3
    · have hc := J3.at0 k hlt
      cases hx : isRate (f3 k)
      · have HF : Hid (linesOk f1 n2 f2 n2 f3 n3 r = false) := lines_no3 (cnt_no2 (allW_false k hlt hx))
        go_wp2_with (first | (go_at_call 68; refine (spec_l02Rate_any _ _).mono ?_; rintro e w' ⟨rfl, rfl⟩))
        go_ret
        exact ⟨ret_bool HF.out.symm, hb⟩
      · have HF := Lib.hid (allW_succ ha.out hx)
        go_wp2_with (first | (go_at_call 68; refine (spec_l02Rate_any _ _).mono ?_; rintro e w' ⟨rfl, rfl⟩))
        go_round
        case rel => exact ⟨k + 1, by omega, by go_num, HF⟩
        case measure => simp [intOf]; omega
    · obtain rfl : k = n3 := by omega
      have H3 : Hid (cntB f3 k 1 16 0 10000 = true) := by
        show (win k 1 16 && allW f3 0 10000 k) = true
        rw [ha.out, Bool.and_true, win_iff]; exact ⟨h7, h8⟩
      go_wp2
      go_loop [10, 11] (fun s i => ∃ j : Nat, j ≤ n2 ∧ i = .int .i64 j ∧ s = .int .i64 (sumTo f1 j) ∧ Hid (allW f2 0 ((k : Int) - 1) j = true)) (fun _ i => n2 - (intOf i).toNat)
      case atStart => exact ⟨0, Nat.zero_le _, rfl, rfl, rfl⟩
      case round =>
        obtain ⟨j, hj, rfl, rfl, hb2⟩ := hrel
        by_cases hlt2 : j < n2
        · have hc := J2.at0 j hlt2
          have hd := J1.at0 j hlt2
          have s1 := HS.out j hj
          have s2 := HS.out (j + 1) (by omega)
          have e2 : sumTo f1 (j + 1) = sumTo f1 j + f1 j := rfl
          rw [e2] at s2
          have HE := Lib.hid e2
          clear e2
          cases hx : win (f2 j) 0 ((k : Int) - 1)
          · have HF : Hid (linesOk f1 n2 f2 n2 f3 k r = false) := lines_no5 (allW_false j hlt2 hx)
            go_wp2_with (first | (go_at_call 34; refine (spec_l00In_any _ _ _ _).mono ?_; rintro e w' ⟨rfl, rfl⟩))
            go_ret
            exact ⟨ret_bool HF.out.symm, hb⟩
          · have HF := Lib.hid (allW_succ hb2.out hx)
            go_wp2_with (first | (go_at_call 34; refine (spec_l00In_any _ _ _ _).mono ?_; rintro e w' ⟨rfl, rfl⟩))
            go_round
            case rel => exact ⟨j + 1, by omega, by go_num, by rw [HE.out], HF⟩
            case measure => simp [intOf]; omega
        · obtain rfl : j = n2 := by omega
          cases hx : isAmount (sumTo f1 j)
          · have HF : Hid (linesOk f1 j f2 j f3 k r = false) := lines_no2 hx
            go_wp2_with (first | (go_at_call 69; refine (spec_l02Cents_any _ _).mono ?_; rintro e w' ⟨rfl, rfl⟩))
            go_ret
            exact ⟨ret_bool HF.out.symm, hb⟩
          · have HF : Hid (linesOk f1 j f2 j f3 k r = true) := by
              show linesOk f1 j f2 j f3 k r = true
              rw [lines_out H1.out hx H3.out rfl, hb2.out, H6.out]; rfl
            go_wp2_with (first | (go_at_call 69; refine (spec_l02Cents_any _ _).mono ?_; rintro e w' ⟨rfl, rfl⟩))
            go_ret
            exact ⟨ret_bool HF.out.symm, hb⟩
end Go.Proofs.Ytnikfcaloielaaa
