/-
  impl.LoanCount and spec.LoanCount answer alike: every number. No condition.
-/
import Derived.Test.YtiblnnianaaddaaLoanI
import Derived.Test.YtiblnnianaaddaaLoanS
namespace Go.Proofs.Ytiblnnianaaddaa
open Go.RowKit
set_option linter.unusedVariables false

/-- The first term of the next m ones behind the k-th at whose end nothing is owed. -/
def scanN (c a p : Int) : Nat → Nat → Int × Int × Bool
  | 0, _ => (0, 0, false)
  | m + 1, k => bif decide (1000000000000 < restN c a p (k + 1)) then (0, 0, false) else bif restN c a p (k + 1) == 0 then ((k : Int) + 1, restN c a p k + intN c a p k, true) else scanN c a p m (k + 1)
theorem scan_big {c a p : Int} {m k : Nat} (h : 1000000000000 < restN c a p (k + 1)) : scanN c a p (m + 1) k = (0, 0, false) := by simp [scanN, h]
theorem scan_zero {c a p : Int} {m k : Nat} (h : (restN c a p (k + 1) == 0) = true) : scanN c a p (m + 1) k = ((k : Int) + 1, restN c a p k + intN c a p k, true) := by
  have h' : restN c a p (k + 1) = 0 := by simpa using h
  simp [scanN, h']
theorem scan_next {c a p : Int} {m k : Nat} (h1 : ¬ 1000000000000 < restN c a p (k + 1)) (h : (restN c a p (k + 1) == 0) = false) : scanN c a p (m + 1) k = scanN c a p m (k + 1) := by
  simp only [scanN, h, decide_eq_false h1, cond_false]
def countR (c a p : Int) : Int × Int × Bool := bif isLoanB c a p then scanN c a p 120 0 else (0, 0, false)
def LoanCount_r0 (c a p : Int) : Int := (countR c a p).1
def LoanCount_r1 (c a p : Int) : Int := (countR c a p).2.1
def LoanCount_r2 (c a p : Int) : Bool := (countR c a p).2.2
theorem count_no {c a p : Int} (h : isLoanB c a p = false) : LoanCount_r0 c a p = 0 ∧ LoanCount_r1 c a p = 0 ∧ LoanCount_r2 c a p = false := by simp [LoanCount_r0, LoanCount_r1, LoanCount_r2, countR, h]
def trip (q : Int × Int × Bool) : Value := .tuple #[.int .i64 q.1, .int .i64 q.2.1, .bool q.2.2]
theorem count_yes {c a p : Int} (h : isLoanB c a p = true) : Value.tuple #[.int .i64 (LoanCount_r0 c a p), .int .i64 (LoanCount_r1 c a p), .bool (LoanCount_r2 c a p)] = trip (scanN c a p 120 0) := by simp [LoanCount_r0, LoanCount_r1, LoanCount_r2, countR, h, trip]

set_option maxRecDepth 8000 in
set_option maxHeartbeats 1600000 in
theorem LoanCount_impl (c a p : Int) (w : World) :
    Calls Try.prog 24 #[.int .i64 c, .int .i64 a, .int .i64 p] w (RetV w (.tuple #[.int .i64 (LoanCount_r0 c a p), .int .i64 (LoanCount_r1 c a p), .bool (LoanCount_r2 c a p)])) := by
  cases h : isLoanB c a p
  · rw [(count_no h).1, (count_no h).2.1, (count_no h).2.2]
    have h' : (isLoanB c a p && win 1 1 120) = false := by rw [h]; rfl
    clear h
    go_enter Try.func24, Try.ntmps24
    go_wp2_with (first | (go_at_call 56; refine (impl_isLoan_any _ _ _ _ _).mono ?_; rintro e w' ⟨rfl, rfl⟩))
    go_ret3
    exact ⟨rfl, Below.refl _ _⟩
  · rw [count_yes h]
    generalize hR : trip (scanN c a p 120 0) = R
    have HR : Hid (R = trip (scanN c a p (120 - 0) 0)) := hR.symm
    clear hR
    obtain ⟨⟨c0, c1⟩, ⟨a0, a1⟩, p0, p1⟩ := isLoanB_iff.1 h
    have h' : (isLoanB c a p && win 1 1 120) = true := by rw [h]; rfl
    have HB : Hid (∀ k, loanOk c a p k = true → 0 ≤ restN c a p k ∧ restN c a p k ≤ 1000000000000) := fun k h => restN_bd c0 (by omega) h
    clear h
    go_enter Try.func24, Try.ntmps24
    go_wp2_with (first | (go_at_call 56; refine (impl_isLoan_any _ _ _ _ _).mono ?_; rintro e w' ⟨rfl, rfl⟩))
    go_loopw [9] (fun i wr => ∃ k : Nat, k ≤ 120 ∧ i = .int .i64 ((k : Int) + 1) ∧ Hid (loanOk c a p k = true) ∧ Hid (R = trip (scanN c a p (120 - k) k)) ∧ Below w.heap.size w wr) (fun i _ => 122 - (intOf i).toNat)
    case atStart => exact ⟨0, Nat.zero_le _, by go_num, rfl, HR, Below.refl _ _⟩
    case round =>
      obtain ⟨k, hk, rfl, hok, hsc, hbr⟩ := hrel
      by_cases hlt : k < 120
      · obtain ⟨m, hm⟩ : ∃ m, 120 - k = m + 1 := ⟨119 - k, by omega⟩
        obtain ⟨r0, r1⟩ := HB.out k hok.out
        obtain ⟨o0, o1⟩ : 0 ≤ intN c a p k ∧ intN c a p k ≤ 10000000000001 := ownI_bd r0 r1 a0 a1
        by_cases hbig : 1000000000000 < restN c a p (k + 1)
        · have HF : Hid (R = trip (0, 0, false)) := by show R = trip (0, 0, false); rw [hsc.out, hm, scan_big hbig]
          clear hsc
          have HO := Lib.hid (loanOk_false k (Nat.lt_succ_self k) hbig)
          clear hm
          go_wp2_with (first | (go_at_call 58; refine (impl_loan c a p (k + 1) _ c0 c1 a0 a1 p0 p1 (by omega)).mono ?_; intro e w1 hp; obtain ⟨v, u, rfl, hv, hlv, hu, hlu, hd, hb⟩ := loan_no HO.out hp))
          go_ret3
          exact ⟨by rw [HF.out]; rfl, bnext hbr hb⟩
        · have HO := Lib.hid (loanOk_succ hok.out (by omega : restN c a p (k + 1) ≤ 1000000000000))
          have HL1 := Lib.hid (tab_length (intN c a p) (k + 1))
          have HL2 := Lib.hid (tab_length (restS c a p) (k + 1))
          have HG1 := Lib.hid (tab_get (intN c a p) (k + 1) k (by omega))
          have HG2 := Lib.hid (tab_get (restS c a p) (k + 1) k (by omega))
          have HG3 : Hid (∀ j, k = j + 1 → (tab (restS c a p) (k + 1)).getD j 0 = restN c a p k) := fun j hj => by rw [tab_get _ _ _ (by omega), hj]; rfl
          cases hz : (restN c a p (k + 1) == 0)
          · have HF : Hid (R = trip (scanN c a p (120 - (k + 1)) (k + 1))) := by
              show R = _
              rw [hsc.out, hm, scan_next hbig hz, show 120 - (k + 1) = m by omega]
            clear hm
            go_wp2_with (first | (go_at_call 58; refine (impl_loan c a p (k + 1) _ c0 c1 a0 a1 p0 p1 (by omega)).mono ?_; intro e w1 hp; obtain ⟨v, u, rfl, hv, hlv, hu, hlu, hd, hb⟩ := loan_yes HO.out hp; obtain ⟨ad, cap, rfl, hne⟩ := hu.shape; obtain ⟨g, rfl, _, _, _, _, hI, _⟩ := hne (by intro e; rw [← List.length_eq_zero_iff, tab_length] at e; omega); rw [HL2.out] at hI; have hc := hI.at0 k (by omega); rw [HG2.out] at hc; rw [HL2.out]; clear hI hne hu hv hlu hlv hd; have hc' : w1.cell? ⟨g, k, none⟩ = some (.int .i64 (restN c a p (k + 1))) := hc; clear hc))
            go_roundw
            case rel => exact ⟨k + 1, by omega, by go_num, HO, HF, bnext hbr hb⟩
            case measure => simp [intOf]; omega
          · have HF : Hid (R = trip ((k : Int) + 1, restN c a p k + intN c a p k, true)) := by
              show R = _
              rw [hsc.out, hm, scan_zero hz]
            clear hm
            obtain ⟨j, hj⟩ : ∃ j, (k = 0 ∧ j = 0) ∨ k = j + 1 := ⟨k - 1, by omega⟩
            go_wp2_with fail
            refine (impl_loan c a p (k + 1) _ c0 c1 a0 a1 p0 p1 (by omega)).mono ?_
            intro e w1 hp
            obtain ⟨v, u, rfl, hv, hlv, hu, hlu, hd, hb⟩ := loan_yes HO.out hp
            obtain ⟨ad, cap, rfl, hne⟩ := hu.shape
            obtain ⟨g, rfl, _, _, _, _, hI, _⟩ := hne (by intro e; rw [← List.length_eq_zero_iff, tab_length] at e; omega)
            obtain ⟨ad2, cap2, rfl, hne2⟩ := hv.shape
            obtain ⟨g2, rfl, _, _, _, _, hJ, _⟩ := hne2 (by intro e; rw [← List.length_eq_zero_iff, tab_length] at e; omega)
            rw [HL2.out] at hI
            rw [HL1.out] at hJ
            have hc : w1.cell? ⟨g, k, none⟩ = some (.int .i64 (restN c a p (k + 1))) := by have := hI.at0 k (by omega); rw [HG2.out] at this; exact this
            have hc1 : w1.cell? ⟨g2, k, none⟩ = some (.int .i64 (intN c a p k)) := by have := hJ.at0 k (by omega); rw [HG1.out] at this; exact this
            rw [HL2.out, HL1.out]
            have ec : IntKind.i64.wrap (restN c a p k + intN c a p k) = restN c a p k + intN c a p k := IntWalk.i64_in _ (by omega)
            have e1 : IntKind.i64.wrap ((k : Int) + 1 - 1) = k := by rw [show (k : Int) + 1 - 1 = k by omega]; exact IntWalk.i64_in _ (by omega)
            have e6 : (k : Int) < (k : Int) + 1 := by omega
            rcases hj with ⟨hk0, _⟩ | hj
            · have e0 : restN c a p k = c := by rw [hk0]; rfl
              have hkk : ¬ (1 : Int) < (k : Int) + 1 := by omega
              rw [e0] at ec
              have HF2 : Hid (R = trip ((k : Int) + 1, c + intN c a p k, true)) := by rw [e0] at HF; exact HF
              clear hI hJ hne hu hv hlu hlv hd hne2 e0 hk0
              go_wp2_with fail
              go_quiet (fail)
              go_wp2
              go_ret3
              exact ⟨by rw [HF2.out]; rfl, Below.drewN' (bnext hbr hb) _⟩
            · have hkk : (1 : Int) < (k : Int) + 1 := by omega
              have hc2 : w1.cell? ⟨g, j, none⟩ = some (.int .i64 (restN c a p k)) := by have := hI.at0 j (by omega); rw [HG3.out j hj] at this; exact this
              have e2 : IntKind.i64.wrap ((k : Int) + 1 - 2) = j := by rw [show (k : Int) + 1 - 2 = j by omega]; exact IntWalk.i64_in _ (by omega)
              have hj1 : (j : Int) < (k : Int) + 1 := by omega
              have hj2 : j < k + 1 := by omega
              clear hI hJ hne hu hv hlu hlv hd hne2 hj
              go_wp2_with fail
              go_quiet (fail)
              go_wp2
              go_ret3
              exact ⟨by rw [HF.out]; rfl, Below.drewN' (bnext hbr hb) _⟩
      · obtain rfl : k = 120 := by omega
        have HF : Hid (R = trip (0, 0, false)) := hsc.out.trans rfl
        go_wp2
        go_ret3
        exact ⟨by rw [HF.out]; rfl, hbr⟩

set_option maxRecDepth 8000 in
set_option maxHeartbeats 1600000 in
theorem LoanCount_spec (c a p : Int) (w : World) :
    Calls Try.prog 29 #[.int .i64 c, .int .i64 a, .int .i64 p] w (RetV w (.tuple #[.int .i64 (LoanCount_r0 c a p), .int .i64 (LoanCount_r1 c a p), .bool (LoanCount_r2 c a p)])) := by
  cases h : isLoanB c a p
  · rw [(count_no h).1, (count_no h).2.1, (count_no h).2.2]
    go_enter Try.func29, Try.ntmps29
    go_wp2_with (first | (go_at_call 65; refine (spec_l03Loan_any _ _ _ _).mono ?_; rintro e w' ⟨rfl, rfl⟩))
    go_ret3
    exact ⟨rfl, Below.refl _ _⟩
  · rw [count_yes h]
    generalize hR : trip (scanN c a p 120 0) = R
    have HR : Hid (R = trip (scanN c a p (120 - 0) 0)) := hR.symm
    clear hR
    obtain ⟨⟨c0, c1⟩, ⟨a0, a1⟩, p0, p1⟩ := isLoanB_iff.1 h
    have HB : Hid (∀ k, loanOk c a p k = true → 0 ≤ restN c a p k ∧ restN c a p k ≤ 1000000000000) := fun k h => restN_bd c0 (by omega) h
    go_enter Try.func29, Try.ntmps29
    go_wp2_with (first | (go_at_call 65; refine (spec_l03Loan_any _ _ _ _).mono ?_; rintro e w' ⟨rfl, rfl⟩))
    go_loop [9, 0] (fun i t => ∃ k : Nat, k ≤ 120 ∧ i = .int .i64 ((k : Int) + 1) ∧ t = .int .i64 (restN c a p k) ∧ Hid (loanOk c a p k = true) ∧ Hid (R = trip (scanN c a p (120 - k) k))) (fun i _ => 122 - (intOf i).toNat)
    case atStart => exact ⟨0, Nat.zero_le _, by go_num, rfl, rfl, HR⟩
    case round =>
      obtain ⟨k, hk, rfl, rfl, hok, hsc⟩ := hrel
      by_cases hlt : k < 120
      · obtain ⟨m, hm⟩ : ∃ m, 120 - k = m + 1 := ⟨119 - k, by omega⟩
        obtain ⟨r0, r1⟩ := HB.out k hok.out
        obtain ⟨o0, o1⟩ : 0 ≤ intN c a p k ∧ intN c a p k ≤ 10000000000001 := ownI_bd r0 r1 a0 a1
        cases hz : (restN c a p (k + 1) == 0)
        · by_cases hbig : 1000000000000 < restN c a p (k + 1)
          · have HF : Hid (R = trip (0, 0, false)) := by show R = trip (0, 0, false); rw [hsc.out, hm, scan_big hbig]
            clear hm
            go_wp2_with (first | (go_at_call 66; refine (spec_l03Term c a p k _ r0 r1 a0 a1 p0 p1).mono ?_; rintro e w3 ⟨rfl, rfl⟩))
            go_ret3
            exact ⟨by rw [HF.out]; rfl, Below.refl _ _⟩
          · have HO := Lib.hid (loanOk_succ hok.out (by omega : restN c a p (k + 1) ≤ 1000000000000))
            have HF : Hid (R = trip (scanN c a p (120 - (k + 1)) (k + 1))) := by
              show R = _
              rw [hsc.out, hm, scan_next hbig hz, show 120 - (k + 1) = m by omega]
            clear hm
            go_wp2_with (first | (go_at_call 66; refine (spec_l03Term c a p k _ r0 r1 a0 a1 p0 p1).mono ?_; rintro e w3 ⟨rfl, rfl⟩))
            go_round
            case rel => exact ⟨k + 1, by omega, by go_num, rfl, HO, HF⟩
            case measure => simp [intOf]; omega
        · have HF : Hid (R = trip ((k : Int) + 1, restN c a p k + intN c a p k, true)) := by
            show R = _
            rw [hsc.out, hm, scan_zero hz]
          have ec : IntKind.i64.wrap (restN c a p k + intN c a p k) = restN c a p k + intN c a p k := IntWalk.i64_in _ (by omega)
          clear hm
          go_wp2_with (first | (go_at_call 66; refine (spec_l03Term c a p k _ r0 r1 a0 a1 p0 p1).mono ?_; rintro e w3 ⟨rfl, rfl⟩))
          go_ret3
          exact ⟨by rw [HF.out]; rfl, Below.refl _ _⟩
      · obtain rfl : k = 120 := by omega
        have HF : Hid (R = trip (0, 0, false)) := hsc.out.trans rfl
        go_wp2
        go_ret3
        exact ⟨by rw [HF.out]; rfl, Below.refl _ _⟩
end Go.Proofs.Ytiblnnianaaddaa
