/-
  impl.LoanPayment and spec.LoanPayment answer alike: every number. No condition.
-/
import Derived.Test.YtiblnnianaaddaaLoanI
import Derived.Test.YtiblnnianaaddaaLoanS
namespace Go.Proofs.Ytiblnnianaaddaa
open Go.RowKit
set_option linter.unusedVariables false

/-- The half-interval search that both write. -/
def srch (P : Int → Bool) (lo hi : Int) : Int :=
  if h : lo < hi then (bif P ((lo + hi) / 2) then srch P lo ((lo + hi) / 2) else srch P ((lo + hi) / 2 + 1) hi) else lo
  termination_by (hi - lo).toNat
  decreasing_by all_goals omega
theorem srch_low {P : Int → Bool} {lo hi : Int} (h : lo < hi) (hp : P ((lo + hi) / 2) = true) : srch P lo hi = srch P lo ((lo + hi) / 2) := by
  rw [srch, dif_pos h, hp]; rfl
theorem srch_high {P : Int → Bool} {lo hi : Int} (h : lo < hi) (hp : P ((lo + hi) / 2) = false) : srch P lo hi = srch P ((lo + hi) / 2 + 1) hi := by
  rw [srch, dif_pos h, hp]; rfl
theorem srch_end {P : Int → Bool} {lo hi : Int} (h : ¬ lo < hi) : srch P lo hi = lo := by
  rw [srch, dif_neg h]
def LoanPayment_r1 (c a n : Int) : Bool := isLoanB c a 0 && win n 1 120 && paidB c a 1000000000 n.toNat
def LoanPayment_r0 (c a n : Int) : Int := bif LoanPayment_r1 c a n then srch (fun p => paidB c a p n.toNat) 0 1000000000 else 0
theorem pay_no {c a n : Int} (h : LoanPayment_r1 c a n = false) : LoanPayment_r0 c a n = 0 := by simp [LoanPayment_r0, h]
theorem pay_yes {c a n : Int} (h : LoanPayment_r1 c a n = true) : LoanPayment_r0 c a n = srch (fun p => paidB c a p n.toNat) 0 1000000000 := by simp [LoanPayment_r0, h]

set_option maxHeartbeats 1600000 in
theorem LoanPayment_impl (c a n : Int) (w : World) :
    Calls Try.prog 22 #[.int .i64 c, .int .i64 a, .int .i64 n] w (RetV w (.tuple #[.int .i64 (LoanPayment_r0 c a n), .bool (LoanPayment_r1 c a n)])) := by
  cases h : (isLoanB c a 0 && win n 1 120)
  · have e : LoanPayment_r1 c a n = false := by simp only [LoanPayment_r1, h, Bool.false_and]
    rw [pay_no e, e]
    clear e
    rcases first_no2 h with h1 | ⟨h1, h2⟩
    all_goals
      go_enter Try.func22, Try.ntmps22
      go_wp2_with (first | (go_at_call 56; refine (impl_isLoan_any _ _ _ _ _).mono ?_; rintro e w' ⟨rfl, rfl⟩))
      go_ret2
      exact ⟨rfl, Below.refl _ _⟩
  · obtain ⟨h1, h2⟩ := all_yes2 h
    obtain ⟨⟨c0, c1⟩, ⟨a0, a1⟩, _, _⟩ := isLoanB_iff.1 h1
    obtain ⟨n0, n1⟩ := win_iff.1 h2
    obtain ⟨k, rfl⟩ : ∃ k : Nat, n = k := ⟨n.toNat, by omega⟩
    have e : LoanPayment_r1 c a k = paidB c a 1000000000 k := by show (isLoanB c a 0 && win k 1 120 && _) = _; rw [h]; rfl
    cases hp : paidB c a 1000000000 k
    · rw [pay_no (e.trans hp), e, hp]
      clear e
      go_enter Try.func22, Try.ntmps22
      go_wp2_with (first | (go_at_call 56; refine (impl_isLoan_any _ _ _ _ _).mono ?_; rintro e w' ⟨rfl, rfl⟩) | (go_at_call 57; refine (isPaid_any c a _ k _ c0 c1 a0 a1 (by omega) (by omega) (by omega) (by omega)).mono ?_; rintro e w1 ⟨rfl, hb0⟩))
      go_ret2
      exact ⟨rfl, hb0⟩
    · rw [pay_yes (e.trans hp), e, hp]
      clear e
      rw [Int.toNat_natCast]
      generalize hR : srch (fun p => paidB c a p k) 0 1000000000 = R
      have HR := Lib.hid hR
      clear hR
      go_enter Try.func22, Try.ntmps22
      go_wp2_with (first | (go_at_call 56; refine (impl_isLoan_any _ _ _ _ _).mono ?_; rintro e w' ⟨rfl, rfl⟩) | (go_at_call 57; refine (isPaid_any c a _ k _ c0 c1 a0 a1 (by omega) (by omega) (by omega) (by omega)).mono ?_; rintro e w1 ⟨rfl, hb0⟩))
      clear h h1 h2 hp
      go_loopw [8, 9] (fun i t wr => ∃ lo hi : Int, i = .int .i64 lo ∧ t = .int .i64 hi ∧ 0 ≤ lo ∧ lo ≤ 1000000000 ∧ 0 ≤ hi ∧ hi ≤ 1000000000 ∧ lo ≤ hi ∧ Hid (srch (fun p => paidB c a p k) lo hi = R) ∧ Below w.heap.size w wr) (fun i t _ => (intOf t - intOf i).toNat)
      case atStart => exact ⟨0, 1000000000, rfl, rfl, by omega, by omega, by omega, by omega, by omega, HR, hb0⟩
      case round =>
        obtain ⟨lo, hi, rfl, rfl, l0, l1, i0, i1, hle, hs, hbr⟩ := hrel
        by_cases hlt : lo < hi
        · obtain ⟨M, hM⟩ : ∃ M, (lo + hi) / 2 = M := ⟨_, rfl⟩
          have t0 : (lo + hi).tdiv 2 = M := by rw [← hM]; exact Int.tdiv_eq_ediv_of_nonneg (by omega)
          have t1 : lo ≤ M := by omega
          have t2 : M < hi := by omega
          cases hp : paidB c a M k
          · have HS : Hid (srch (fun p => paidB c a p k) (M + 1) hi = R) := by
              show _ = R
              rw [← hs.out, srch_high hlt (by rw [hM]; exact hp), hM]
            clear hM
            go_wp2_with (first | (go_at_call 57; refine (isPaid_any c a _ k _ c0 c1 a0 a1 (by omega) (by omega) (by omega) (by omega)).mono ?_; rintro e w3 ⟨rfl, hb⟩))
            go_roundw
            case rel => exact ⟨M + 1, hi, by go_num, rfl, by omega, by omega, i0, i1, by omega, HS, bnext hbr hb⟩
            case measure => simp [intOf]; omega
          · have HS : Hid (srch (fun p => paidB c a p k) lo M = R) := by
              show _ = R
              rw [← hs.out, srch_low hlt (by rw [hM]; exact hp), hM]
            clear hM
            go_wp2_with (first | (go_at_call 57; refine (isPaid_any c a _ k _ c0 c1 a0 a1 (by omega) (by omega) (by omega) (by omega)).mono ?_; rintro e w3 ⟨rfl, hb⟩))
            go_roundw
            case rel => exact ⟨lo, M, rfl, by go_num, l0, l1, by omega, by omega, by omega, HS, bnext hbr hb⟩
            case measure => simp [intOf]; omega
        · have HS : Hid (lo = R) := by show lo = R; rw [← hs.out, srch_end hlt]
          go_wp2
          go_ret2
          exact ⟨by rw [HS.out]; rfl, hbr⟩

set_option maxHeartbeats 1600000 in
theorem LoanPayment_spec (c a n : Int) (w : World) :
    Calls Try.prog 30 #[.int .i64 c, .int .i64 a, .int .i64 n] w (RetV w (.tuple #[.int .i64 (LoanPayment_r0 c a n), .bool (LoanPayment_r1 c a n)])) := by
  cases h : (isLoanB c a 0 && win n 1 120)
  · have e : LoanPayment_r1 c a n = false := by simp only [LoanPayment_r1, h, Bool.false_and]
    rw [pay_no e, e]
    clear e
    rcases first_no2 h with h1 | ⟨h1, h2⟩
    all_goals
      go_enter Try.func30, Try.ntmps30
      go_wp2_with (first | (go_at_call 65; refine (spec_l03Loan_any _ _ _ _).mono ?_; rintro e w' ⟨rfl, rfl⟩) | (go_at_call 42; refine (spec_l00In_any _ _ _ _).mono ?_; rintro e w' ⟨rfl, rfl⟩))
      go_ret2
      exact ⟨rfl, Below.refl _ _⟩
  · obtain ⟨h1, h2⟩ := all_yes2 h
    obtain ⟨⟨c0, c1⟩, ⟨a0, a1⟩, _, _⟩ := isLoanB_iff.1 h1
    obtain ⟨n0, n1⟩ := win_iff.1 h2
    obtain ⟨k, rfl⟩ : ∃ k : Nat, n = k := ⟨n.toNat, by omega⟩
    have e : LoanPayment_r1 c a k = paidB c a 1000000000 k := by show (isLoanB c a 0 && win k 1 120 && _) = _; rw [h]; rfl
    cases hp : paidB c a 1000000000 k
    · rw [pay_no (e.trans hp), e, hp]
      clear e
      go_enter Try.func30, Try.ntmps30
      go_wp2_with (first | (go_at_call 65; refine (spec_l03Loan_any _ _ _ _).mono ?_; rintro e w' ⟨rfl, rfl⟩) | (go_at_call 42; refine (spec_l00In_any _ _ _ _).mono ?_; rintro e w' ⟨rfl, rfl⟩) | (go_at_call 67; refine (l03Enough_any c a _ k _ c0 c1 a0 a1 (by omega) (by omega) (by omega)).mono ?_; rintro e w1 ⟨rfl, rfl⟩))
      go_ret2
      exact ⟨rfl, Below.refl _ _⟩
    · rw [pay_yes (e.trans hp), e, hp]
      clear e
      rw [Int.toNat_natCast]
      generalize hR : srch (fun p => paidB c a p k) 0 1000000000 = R
      have HR := Lib.hid hR
      clear hR
      go_enter Try.func30, Try.ntmps30
      go_wp2_with (first | (go_at_call 65; refine (spec_l03Loan_any _ _ _ _).mono ?_; rintro e w' ⟨rfl, rfl⟩) | (go_at_call 42; refine (spec_l00In_any _ _ _ _).mono ?_; rintro e w' ⟨rfl, rfl⟩) | (go_at_call 67; refine (l03Enough_any c a _ k _ c0 c1 a0 a1 (by omega) (by omega) (by omega)).mono ?_; rintro e w1 ⟨rfl, rfl⟩))
      clear h h1 h2 hp
      go_loopw [8, 9] (fun i t wr => ∃ lo hi : Int, i = .int .i64 lo ∧ t = .int .i64 hi ∧ 0 ≤ lo ∧ lo ≤ 1000000000 ∧ 0 ≤ hi ∧ hi ≤ 1000000000 ∧ lo ≤ hi ∧ Hid (srch (fun p => paidB c a p k) lo hi = R) ∧ Below w.heap.size w wr) (fun i t _ => (intOf t - intOf i).toNat)
      case atStart => exact ⟨0, 1000000000, rfl, rfl, by omega, by omega, by omega, by omega, by omega, HR, Below.refl _ _⟩
      case round =>
        obtain ⟨lo, hi, rfl, rfl, l0, l1, i0, i1, hle, hs, hbr⟩ := hrel
        by_cases hlt : lo < hi
        · obtain ⟨M, hM⟩ : ∃ M, (lo + hi) / 2 = M := ⟨_, rfl⟩
          have t0 : (lo + hi).tdiv 2 = M := by rw [← hM]; exact Int.tdiv_eq_ediv_of_nonneg (by omega)
          have t1 : lo ≤ M := by omega
          have t2 : M < hi := by omega
          cases hp : paidB c a M k
          · have HS : Hid (srch (fun p => paidB c a p k) (M + 1) hi = R) := by
              show _ = R
              rw [← hs.out, srch_high hlt (by rw [hM]; exact hp), hM]
            clear hM
            go_wp2_with (first | (go_at_call 67; refine (l03Enough_any c a _ k _ c0 c1 a0 a1 (by omega) (by omega) (by omega)).mono ?_; rintro e w3 ⟨rfl, rfl⟩))
            go_roundw
            case rel => exact ⟨M + 1, hi, by go_num, rfl, by omega, by omega, i0, i1, by omega, HS, hbr⟩
            case measure => simp [intOf]; omega
          · have HS : Hid (srch (fun p => paidB c a p k) lo M = R) := by
              show _ = R
              rw [← hs.out, srch_low hlt (by rw [hM]; exact hp), hM]
            clear hM
            go_wp2_with (first | (go_at_call 67; refine (l03Enough_any c a _ k _ c0 c1 a0 a1 (by omega) (by omega) (by omega)).mono ?_; rintro e w3 ⟨rfl, rfl⟩))
            go_roundw
            case rel => exact ⟨lo, M, rfl, by go_num, l0, l1, by omega, by omega, by omega, HS, hbr⟩
            case measure => simp [intOf]; omega
        · have HS : Hid (lo = R) := by show lo = R; rw [← hs.out, srch_end hlt]
          go_wp2
          go_ret2
          exact ⟨by rw [HS.out]; rfl, hbr⟩
end Go.Proofs.Ytiblnnianaaddaa
