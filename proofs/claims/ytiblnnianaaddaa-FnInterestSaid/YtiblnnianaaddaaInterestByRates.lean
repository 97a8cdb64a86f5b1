/-
  impl.InterestByRates and spec.InterestByRates answer alike: all lists of fewer than 1000000000 integers, every number. No other condition.
-/
import Derived.Test.YtiblnnianaaddaaInterest
import Derived.Test.YtiblnnianaaddaaWithin
import Derived.Test.YtiblnnianaaddaaAsc
namespace Go.Proofs.Ytiblnnianaaddaa
open Go.RowKit
set_option linter.unusedVariables false

theorem isTime_iffR {k a b : Int} : isTimeB k a b = true ↔ (0 ≤ k ∧ k ≤ 2) ∧ 0 ≤ a ∧ a ≤ b ∧ b ≤ 36524 := by
  simp only [isTimeB, Bool.and_eq_true, win_iff, decide_eq_true_eq]; omega
def ibrOk (c : Int) (fd : Nat → Int) (nd : Nat) (fr : Nat → Int) (nr : Nat) (k a b : Int) : Bool :=
  isSum c && cntB fd nd 1 24 0 36524 && ascB fd nd && decide (nr = nd) && allW fr 0 100000 nr && isTimeB k a b && decide (fd 0 ≤ a)
structure IbrIs (c : Int) (fd : Nat → Int) (nd : Nat) (fr : Nat → Int) (nr : Nat) (k a b : Int) : Prop where
  c : 0 ≤ c ∧ c ≤ 1000000000
  n : 1 ≤ nd ∧ nd ≤ 24
  d : ∀ i, i < nd → 0 ≤ fd i ∧ fd i ≤ 36524
  asc : ∀ i, i + 1 < nd → fd i < fd (i + 1)
  nr : nr = nd
  r : ∀ i, i < nd → 0 ≤ fr i ∧ fr i ≤ 100000
  t : (0 ≤ k ∧ k ≤ 2) ∧ 0 ≤ a ∧ a ≤ b ∧ b ≤ 36524
  z : fd 0 ≤ a
/-- Where the time of a rate begins and ends. -/
def stA (fd : Nat → Int) (a : Int) (i : Nat) : Int := max a (fd i)
def enA (fd : Nat → Int) (n : Nat) (b : Int) (i : Nat) : Int := if i + 1 < n then min b (fd (i + 1)) else b
def ibrAt (c : Int) (fd fr : Nat → Int) (n : Nat) (k a b : Int) (i : Nat) : Int := if stA fd a i < enA fd n b i then inter c (fr i) k (stA fd a i) (enA fd n b i) else 0
def ibrF (c : Int) (fd fr : Nat → Int) (n : Nat) (k a b : Int) : Int := sumTo (ibrAt c fd fr n k a b) n
def ibr0 (c : Int) (fd : Nat → Int) (nd : Nat) (fr : Nat → Int) (nr : Nat) (k a b : Int) : Int := bif ibrOk c fd nd fr nr k a b then ibrF c fd fr nd k a b else 0
section
variable {c : Int} {fd fr : Nat → Int} {nd nr : Nat} {k a b : Int}
theorem ibr_is (h : ibrOk c fd nd fr nr k a b = true) : IbrIs c fd nd fr nr k a b := by
  obtain ⟨h1, h2, h3, h4, h5, h6, h7⟩ := all_yes7 h
  obtain ⟨⟨n1, n2⟩, hf⟩ := cntB_iff.1 h2
  have e : nr = nd := of_decide_eq_true h4
  have r := allW_iff.1 h5
  rw [e] at r
  exact ⟨win_iff.1 h1, ⟨by omega, by omega⟩, hf, asc_iff.1 h3, e, r, isTime_iffR.1 h6, of_decide_eq_true h7⟩
theorem ibr_mk (h : IbrIs c fd nd fr nr k a b) : ibrOk c fd nd fr nr k a b = true := by
  have h1 : isSum c = true := win_iff.2 h.c
  have h2 : cntB fd nd 1 24 0 36524 = true := cntB_iff.2 ⟨⟨by have := h.n; omega, by have := h.n; omega⟩, h.d⟩
  have h3 : ascB fd nd = true := asc_iff.2 h.asc
  have h4 : decide (nr = nd) = true := decide_eq_true h.nr
  have h5 : allW fr 0 100000 nr = true := allW_iff.2 (by rw [h.nr]; exact h.r)
  have h6 : isTimeB k a b = true := isTime_iffR.2 h.t
  have h7 : decide (fd 0 ≤ a) = true := decide_eq_true h.z
  simp only [ibrOk, h1, h2, h3, h4, h5, h6, h7, Bool.and_true]
theorem ibr_not (h : IbrIs c fd nd fr nr k a b → False) : ibrOk c fd nd fr nr k a b = false := by
  cases e : ibrOk c fd nd fr nr k a b
  · rfl
  · exact (h (ibr_is e)).elim
theorem ibr_no (h : ibrOk c fd nd fr nr k a b = false) : ibr0 c fd nd fr nr k a b = 0 := by simp only [ibr0, h, cond_false]
theorem ibr_yes (h : ibrOk c fd nd fr nr k a b = true) : ibr0 c fd nd fr nr k a b = ibrF c fd fr nd k a b := by simp only [ibr0, h, cond_true]
theorem ibr_bd (h : IbrIs c fd nd fr nr k a b) {i : Nat} (hi : i < nd) : 0 ≤ ibrAt c fd fr nd k a b i ∧ ibrAt c fd fr nd k a b i ≤ 1200000000001 := by
  unfold ibrAt
  split
  · rename_i hlt
    have hd := h.d i hi
    have hr := h.r i hi
    have t := h.t
    have hT : enA fd nd b i ≤ 36524 := by unfold enA; split <;> omega
    exact inter_bd h.c.1 h.c.2 hr.1 hr.2 (show 0 ≤ stA fd a i by unfold stA; omega) (by omega) hT
  · omega
theorem ibr_sum (h : IbrIs c fd nd fr nr k a b) : ∀ m, m ≤ nd → 0 ≤ sumTo (ibrAt c fd fr nd k a b) m ∧ sumTo (ibrAt c fd fr nd k a b) m ≤ 30000000000000 := by
  intro m hm
  have h1 := sumTo_nonneg (f := ibrAt c fd fr nd k a b) (fun i hi => (ibr_bd h hi).1) m hm
  have h2 := (sumTo_bd (f := ibrAt c fd fr nd k a b) (fun i hi => ibr_bd h hi) (Int.le_refl _) (by omega) m hm).2
  have := h.n
  exact ⟨h1, by omega⟩
end
def InterestByRates_r1 (c : Int) (xd xr : List Int) (k a b : Int) : Bool := ibrOk c (fun i => xd.getD i 0) xd.length (fun i => xr.getD i 0) xr.length k a b
def InterestByRates_r0 (c : Int) (xd xr : List Int) (k a b : Int) : Int := ibr0 c (fun i => xd.getD i 0) xd.length (fun i => xr.getD i 0) xr.length k a b

set_option maxHeartbeats 3200000 in
theorem ibr_impl (c : Int) (nd g1 c1 : Nat) (fd : Nat → Int) (nr g2 c2 : Nat) (fr : Nat → Int) (k a b : Int) (w : World) (m1 : nd < 1000000000) (m2 : nr < 1000000000) (I1 : Ints w g1 0 nd fd) (I2 : Ints w g2 0 nr fr) :
    Calls Try.prog 18 #[.int .i64 c, .slice (some ⟨g1, 0, none⟩) nd c1, .slice (some ⟨g2, 0, none⟩) nr c2, .int .i64 k, .int .i64 a, .int .i64 b] w (RetV w (.tuple #[.int .i64 (ibr0 c fd nd fr nr k a b), .bool (ibrOk c fd nd fr nr k a b)])) := by
  cases h : ibrOk c fd nd fr nr k a b
  · rw [ibr_no h]
    rcases first_no7 h with h1 | ⟨h1, h2 | ⟨h2, h3 | ⟨h3, h4 | ⟨h4, h5 | ⟨h5, h6 | ⟨h6, h7⟩⟩⟩⟩⟩⟩
    case inl | inr.inl =>
      clear h
      go_enter Try.func18, Try.ntmps18
      go_wp2_with (first | (go_at_call 38; refine (impl_isSum_any _ _).mono ?_; rintro e w' ⟨rfl, rfl⟩) | (go_at_call 46; refine (hasCount_any nd g1 0 c1 fd _ _ _ _ _ m1 I1).mono ?_; rintro e w1 ⟨rfl, hb⟩))
      go_ret2
      exact ⟨rfl, by first | assumption | exact Below.refl _ _⟩
    all_goals
      have hn := (cntB_iff.1 h2).1
      have n0 : 1 ≤ nd := by omega
      try have e4 : nr ≠ nd := of_decide_eq_false h4
      try have e4' : ((nr : Int) != nd) = true := by simp; omega
      try have e4'' : ((nr : Int) == nd) = false := by simp; omega
      try have e4 : nr = nd := of_decide_eq_true h4
      try have e4' : ((nr : Int) != nd) = false := by simp; omega
      try have e4'' : ((nr : Int) == nd) = true := by simp; omega
      try have e7 : ¬ fd 0 ≤ a := of_decide_eq_false h7
      try have e7' : a < fd 0 := by omega
      try clear e4
      clear h
      try clear h4
      try clear h7
      go_enter Try.func18, Try.ntmps18
      go_wp2_with (first | (go_at_call 38; refine (impl_isSum_any _ _).mono ?_; rintro e w' ⟨rfl, rfl⟩) | (go_at_call 40; refine (impl_isTime_any _ _ _ _).mono ?_; rintro e w' ⟨rfl, rfl⟩) | (go_at_call 46; refine (hasCount_any nd g1 0 c1 fd _ _ _ _ _ m1 I1).mono ?_; rintro e w1 ⟨rfl, hb⟩) | (go_at_call 47; refine (asc_any nd g1 c1 fd _ n0 m1 (I1.below hb)).mono ?_; rintro e w2 ⟨rfl, hb2⟩; have C2 := bnext hb hb2) | (go_at_call 48; refine (areWithin_any nr g2 0 c2 fr _ _ _ m2 (I2.below C2)).mono ?_; rintro e w3 ⟨rfl, hb3⟩; have C3 := bnext C2 hb3; have c0 := (I1.below C3).at0 0 (by omega)))
      go_ret2
      exact ⟨rfl, by assumption⟩
  · rw [ibr_yes h]
    have HH := Lib.hid (ibr_is h)
    obtain ⟨h1, h2, h3, h4, h5, h6, h7⟩ := all_yes7 h
    have hn := (ibr_is h).n
    obtain ⟨⟨k0, k1⟩, a0, ab, b1⟩ := (ibr_is h).t
    obtain ⟨q0, q1⟩ := (ibr_is h).c
    have HSM := Lib.hid (ibr_sum (ibr_is h))
    have e4' : ((nr : Int) != nd) = false := by have := (ibr_is h).nr; simp; omega
    have e4'' : ((nr : Int) == nd) = true := by have := (ibr_is h).nr; simp; omega
    have e7 := (ibr_is h).z
    have enr := (ibr_is h).nr
    have n0 : 1 ≤ nd := by omega
    have HF : Hid (ibrF c fd fr nd k a b = sumTo (ibrAt c fd fr nd k a b) nd) := rfl
    have ENR := Lib.hid enr
    clear h h4 h7 enr
    go_enter Try.func18, Try.ntmps18
    go_wp2_with (first | (go_at_call 38; refine (impl_isSum_any _ _).mono ?_; rintro e w' ⟨rfl, rfl⟩) | (go_at_call 40; refine (impl_isTime_any _ _ _ _).mono ?_; rintro e w' ⟨rfl, rfl⟩) | (go_at_call 46; refine (hasCount_any nd g1 0 c1 fd _ _ _ _ _ m1 I1).mono ?_; rintro e w1 ⟨rfl, hb⟩) | (go_at_call 47; refine (asc_any nd g1 c1 fd _ n0 m1 (I1.below hb)).mono ?_; rintro e w2 ⟨rfl, hb2⟩; have C2 := bnext hb hb2) | (go_at_call 48; refine (areWithin_any nr g2 0 c2 fr _ _ _ m2 (I2.below C2)).mono ?_; rintro e w3 ⟨rfl, hb3⟩; have C3 := bnext C2 hb3; have c0 := (I1.below C3).at0 0 (by omega)))
    clear h1 h2 h3 h5 h6
    go_loopw [60, 14] (fun i s wr => ∃ m : Nat, m ≤ nd ∧ i = .int .i64 m ∧ s = .int .i64 (sumTo (ibrAt c fd fr nd k a b) m) ∧ Below w.heap.size w wr) (fun i _ _ => nd - (intOf i).toNat)
    case atStart => exact ⟨0, Nat.zero_le _, rfl, rfl, C3⟩
    case round =>
      obtain ⟨m, hm, rfl, rfl, hbr⟩ := hrel
      have enr' := ENR.out
      by_cases hlt : m < nd
      · have l2 : m < nr := by omega
        have l3 : (m : Int) < nr := by omega
        have d1 := Below.cellOf hbr rfl (I1.at0 m hlt)
        have d2 := Below.cellOf hbr rfl (I2.at0 m l2)
        have s1 := HSM.out m hm
        have s2 := HSM.out (m + 1) (by omega)
        have hr := HH.out.r m hlt
        have hd := HH.out.d m hlt
        have HA : Hid (sumTo (ibrAt c fd fr nd k a b) (m + 1) = sumTo (ibrAt c fd fr nd k a b) m + ibrAt c fd fr nd k a b m) := rfl
        rw [HA.out] at s2
        have HU : Hid (ibrAt c fd fr nd k a b m = if stA fd a m < enA fd nd b m then inter c (fr m) k (stA fd a m) (enA fd nd b m) else 0) := rfl
        obtain ⟨S, hS⟩ : ∃ S, stA fd a m = S := ⟨_, rfl⟩
        obtain ⟨T, hT⟩ : ∃ T, enA fd nd b m = T := ⟨_, rfl⟩
        have S0 : 0 ≤ S := by rw [← hS]; unfold stA; omega
        have e1 : max a (fd m) = S := hS
        have e2 : (if a < fd m then fd m else a) = S := by rw [← hS]; unfold stA; split <;> omega
        have T1 : T ≤ 36524 := by rw [← hT]; unfold enA; split <;> omega
        rw [hS, hT] at HU
        by_cases hl : m + 1 < nd
        · have d3 := Below.cellOf hbr rfl (I1.at0 (m + 1) hl)
          have l0 : (0 : Int) ≤ (m : Int) + 1 := by omega
          have l1 : ((m : Int) + 1).toNat = m + 1 := by omega
          have e3 : min b (fd (m + 1)) = T := by rw [← hT]; unfold enA; rw [if_pos hl]
          have e5 : (if fd (m + 1) < b then fd (m + 1) else b) = T := by rw [← e3]; split <;> omega
          clear hS hT enr'
          by_cases hst : S < T
          · have hv : ibrAt c fd fr nd k a b m = inter c (fr m) k S T := by rw [HU.out, if_pos hst]
            rw [hv] at s2
            have HV := Lib.hid hv
            clear hv
            go_wp2_with (first | (go_at_call 41; refine (interest_impl _ _ _ _ _ _ q0 q1 hr.1 hr.2 k0 k1 S0 (Int.le_of_lt hst) T1).mono ?_; rintro e w4 ⟨rfl, x, rfl⟩))
            go_roundw
            case rel => exact ⟨m + 1, by omega, by go_num, by rw [HA.out, HV.out], Below.drewN' hbr _⟩
            case measure => simp [intOf]; omega
          · have hv : ibrAt c fd fr nd k a b m = 0 := by rw [HU.out, if_neg hst]
            have HV := Lib.hid hv
            clear hv
            go_wp2
            go_roundw
            case rel => exact ⟨m + 1, by omega, by go_num, by rw [HA.out, HV.out, Int.add_zero], hbr⟩
            case measure => simp [intOf]; omega
        · have hl' : ¬ (m : Int) + 1 < nd := by omega
          obtain rfl : b = T := by rw [← hT]; unfold enA; rw [if_neg hl]
          clear hS hT enr'
          by_cases hst : S < b
          · have hv : ibrAt c fd fr nd k a b m = inter c (fr m) k S b := by rw [HU.out, if_pos hst]
            rw [hv] at s2
            have HV := Lib.hid hv
            clear hv
            go_wp2_with (first | (go_at_call 41; refine (interest_impl _ _ _ _ _ _ q0 q1 hr.1 hr.2 k0 k1 S0 (Int.le_of_lt hst) T1).mono ?_; rintro e w4 ⟨rfl, x, rfl⟩))
            go_roundw
            case rel => exact ⟨m + 1, by omega, by go_num, by rw [HA.out, HV.out], Below.drewN' hbr _⟩
            case measure => simp [intOf]; omega
          · have hv : ibrAt c fd fr nd k a b m = 0 := by rw [HU.out, if_neg hst]
            have HV := Lib.hid hv
            clear hv
            go_wp2
            go_roundw
            case rel => exact ⟨m + 1, by omega, by go_num, by rw [HA.out, HV.out, Int.add_zero], hbr⟩
            case measure => simp [intOf]; omega
      · have hnr : ¬ (m : Int) < nr := by omega
        obtain rfl : m = nd := by omega
        clear enr'
        go_wp2
        go_ret2
        exact ⟨ret_ib2 HF.out.symm rfl, hbr⟩

/-- What the reference asks of each place. -/
def ibrP (fd fr : Nat → Int) (i : Nat) : Bool := isDay (fd i) && isHigh (fr i) && ascP fd i
theorem ibr_place {c : Int} {fd fr : Nat → Int} {nd nr : Nat} {k a b : Int} (h : IbrIs c fd nd fr nr k a b) {i : Nat} (hi : i < nd) : ibrP fd fr i = true := by
  have h1 := win_iff.2 (h.d i hi)
  have h2 : ascP fd i = true := allB_iff.1 (asc_iff.2 h.asc : ascB fd nd = true) i hi
  have h3 := win_iff.2 (h.r i hi)
  simp only [ibrP, h1, h2, h3, Bool.and_true]
theorem l00Max_anyR (a b : Int) (w : World) : Calls Try.prog 50 #[.int .i64 a, .int .i64 b] w fun e w' => e = .returned (.int .i64 (max a b)) ∧ w = w' := by
  go_enter Try.func50, Try.ntmps50
  go_wp2
  all_goals (go_ret; exact ⟨ret_int (by omega), rfl⟩)
theorem l00Min_anyR (a b : Int) (w : World) : Calls Try.prog 51 #[.int .i64 a, .int .i64 b] w fun e w' => e = .returned (.int .i64 (min a b)) ∧ w = w' := by
  go_enter Try.func51, Try.ntmps51
  go_wp2
  all_goals (go_ret; exact ⟨ret_int (by omega), rfl⟩)

set_option maxHeartbeats 3200000 in
theorem ibr_spec (c : Int) (nd g1 c1 : Nat) (fd : Nat → Int) (nr g2 c2 : Nat) (fr : Nat → Int) (k a b : Int) (w : World) (m1 : nd < 1000000000) (m2 : nr < 1000000000) (I1 : Ints w g1 0 nd fd) (I2 : Ints w g2 0 nr fr) :
    Calls Try.prog 19 #[.int .i64 c, .slice (some ⟨g1, 0, none⟩) nd c1, .slice (some ⟨g2, 0, none⟩) nr c2, .int .i64 k, .int .i64 a, .int .i64 b] w (RetV w (.tuple #[.int .i64 (ibr0 c fd nd fr nr k a b), .bool (ibrOk c fd nd fr nr k a b)])) := by
  have HV0 : Hid (∀ x, ibrOk c fd nd fr nr k a b = x → ibr0 c fd nd fr nr k a b = (bif x then ibrF c fd fr nd k a b else 0)) := fun x hx => by rw [← hx]; rfl
  cases h1 : isSum c
  · have hx : ibrOk c fd nd fr nr k a b = false := ibr_not fun h => by rw [show isSum c = true from win_iff.2 h.c] at h1; cases h1
    rw [HV0.out _ hx, hx]
    clear hx HV0
    go_enter Try.func19, Try.ntmps19
    go_wp2_with (first | (go_at_call 42; refine (spec_l00In_any _ _ _ _).mono ?_; rintro e w' ⟨rfl, rfl⟩))
    go_ret2
    exact ⟨rfl, Below.refl _ _⟩
  cases h2 : isTimeB k a b
  · have hx : ibrOk c fd nd fr nr k a b = false := ibr_not fun h => by rw [isTime_iffR.2 h.t] at h2; cases h2
    rw [HV0.out _ hx, hx]
    clear hx HV0
    go_enter Try.func19, Try.ntmps19
    go_wp2_with (first | (go_at_call 42; refine (spec_l00In_any _ _ _ _).mono ?_; rintro e w' ⟨rfl, rfl⟩) | (go_at_call 44; refine (spec_l03Time_any _ _ _ _).mono ?_; rintro e w' ⟨rfl, rfl⟩))
    go_ret2
    exact ⟨rfl, Below.refl _ _⟩
  by_cases n1 : ¬ (1 : Int) ≤ nd
  · have hx : ibrOk c fd nd fr nr k a b = false := ibr_not fun h => by have := h.n; omega
    rw [HV0.out _ hx, hx]
    clear hx HV0
    go_enter Try.func19, Try.ntmps19
    go_wp2_with (first | (go_at_call 42; refine (spec_l00In_any _ _ _ _).mono ?_; rintro e w' ⟨rfl, rfl⟩) | (go_at_call 44; refine (spec_l03Time_any _ _ _ _).mono ?_; rintro e w' ⟨rfl, rfl⟩))
    go_ret2
    exact ⟨rfl, Below.refl _ _⟩
  have n1 := Classical.not_not.1 n1
  by_cases n24 : ¬ (nd : Int) ≤ 24
  · have hx : ibrOk c fd nd fr nr k a b = false := ibr_not fun h => by have := h.n; omega
    rw [HV0.out _ hx, hx]
    clear hx HV0
    go_enter Try.func19, Try.ntmps19
    go_wp2_with (first | (go_at_call 42; refine (spec_l00In_any _ _ _ _).mono ?_; rintro e w' ⟨rfl, rfl⟩) | (go_at_call 44; refine (spec_l03Time_any _ _ _ _).mono ?_; rintro e w' ⟨rfl, rfl⟩))
    go_ret2
    exact ⟨rfl, Below.refl _ _⟩
  have n24 := Classical.not_not.1 n24
  by_cases h4 : ¬ nr = nd
  · have hx : ibrOk c fd nd fr nr k a b = false := ibr_not fun h => h4 h.nr
    have e4' : ((nr : Int) != nd) = true := by simp; omega
    have e4'' : ((nr : Int) == nd) = false := by simp; omega
    rw [HV0.out _ hx, hx]
    clear hx HV0 h4
    go_enter Try.func19, Try.ntmps19
    go_wp2_with (first | (go_at_call 42; refine (spec_l00In_any _ _ _ _).mono ?_; rintro e w' ⟨rfl, rfl⟩) | (go_at_call 44; refine (spec_l03Time_any _ _ _ _).mono ?_; rintro e w' ⟨rfl, rfl⟩))
    go_ret2
    exact ⟨rfl, Below.refl _ _⟩
  obtain rfl : nr = nd := Classical.not_not.1 h4
  have e4' : ((nr : Int) != nr) = false := by simp
  have e4'' : ((nr : Int) == nr) = true := by simp
  have c0 := I1.at0 0 (by omega)
  by_cases h7 : ¬ fd 0 ≤ a
  · have hx : ibrOk c fd nr fr nr k a b = false := ibr_not fun h => h7 h.z
    have e7 : a < fd 0 := by omega
    rw [HV0.out _ hx, hx]
    clear hx HV0 h7
    go_enter Try.func19, Try.ntmps19
    go_wp2_with (first | (go_at_call 42; refine (spec_l00In_any _ _ _ _).mono ?_; rintro e w' ⟨rfl, rfl⟩) | (go_at_call 44; refine (spec_l03Time_any _ _ _ _).mono ?_; rintro e w' ⟨rfl, rfl⟩))
    go_ret2
    exact ⟨rfl, Below.refl _ _⟩
  have h7 := Classical.not_not.1 h7
  obtain ⟨⟨k0, k1⟩, a0, ab, b1⟩ := isTime_iffR.1 h2
  obtain ⟨q0, q1⟩ := win_iff.1 h1
  have HN : Hid (∀ i, i < nr → ibrP fd fr i = false → ibrOk c fd nr fr nr k a b = false) := fun i hi hp => ibr_not fun h => by rw [ibr_place h hi] at hp; cases hp
  have HY : Hid (allB (ibrP fd fr) nr = true → IbrIs c fd nr fr nr k a b) := fun h => by
    have H := fun i hi => all_yes3 (allB_iff.1 h i hi)
    exact ⟨⟨q0, q1⟩, ⟨by omega, by omega⟩, fun i hi => win_iff.1 (H i hi).1, asc_iff.1 (allB_iff.2 fun i hi => (H i hi).2.2), rfl, fun i hi => win_iff.1 (H i hi).2.1, ⟨⟨k0, k1⟩, a0, ab, b1⟩, h7⟩
  have HOK : Hid (IbrIs c fd nr fr nr k a b → ibrOk c fd nr fr nr k a b = true) := ibr_mk
  have HF : Hid (ibrF c fd fr nr k a b = sumTo (ibrAt c fd fr nr k a b) nr) := rfl
  generalize hok : ibrOk c fd nr fr nr k a b = ok at *
  generalize hv : ibr0 c fd nr fr nr k a b = V at *
  clear hok hv
  go_enter Try.func19, Try.ntmps19
  go_wp2_with (first | (go_at_call 42; refine (spec_l00In_any _ _ _ _).mono ?_; rintro e w' ⟨rfl, rfl⟩) | (go_at_call 44; refine (spec_l03Time_any _ _ _ _).mono ?_; rintro e w' ⟨rfl, rfl⟩))
  go_loopw [55] (fun i wr => ∃ m : Nat, m ≤ nr ∧ i = .int .i64 m ∧ Hid (allB (ibrP fd fr) m = true) ∧ Below w.heap.size w wr) (fun i _ => nr - (intOf i).toNat)
  case atStart => exact ⟨0, Nat.zero_le _, rfl, rfl, Below.refl _ _⟩
  case round =>
    obtain ⟨m, hm, rfl, ha, hb⟩ := hrel
    by_cases hlt : m < nr
    · have d1 := Below.cellOf hb rfl (I1.at0 m hlt)
      have d2 := Below.cellOf hb rfl (I2.at0 m hlt)
      have l1 : (m : Int) < nr := by omega
      obtain ⟨j, hj⟩ : ∃ j, (m = 0 ∧ j = 0) ∨ m = j + 1 := ⟨m - 1, by omega⟩
      cases hx : ibrP fd fr m
      · have HFx := Lib.hid (HN.out m hlt hx)
        have HV := Lib.hid (HV0.out _ HFx.out)
        have hx' : (isDay (fd m) && isHigh (fr m) && ascP fd m) = false := hx
        rcases first_no3 hx' with g1 | ⟨g1, g2 | ⟨g2, g3⟩⟩
        case inr.inr =>
          have h8 : ¬ m = 0 ∧ fd m ≤ fd (m - 1) := by simpa [ascP] using g3
          have hj' : m = j + 1 := by omega
          have h9 : fd m ≤ fd j := by have := h8.2; rwa [show m - 1 = j by omega] at this
          have cj := Below.cellOf hb rfl (I1.at0 j (by omega))
          have e1 : IntKind.i64.wrap ((m : Int) - 1) = j := by rw [show (m : Int) - 1 = j by omega]; exact IntWalk.i64_in _ (by omega)
          have l2 : (0 : Int) < m := by omega
          have l2' : 0 < m := by omega
          have l3 : (j : Int) < nr := by omega
          have l4 : j < nr := by omega
          clear hx hx' g3 h8 hj' hj
          go_wp2_with fail
          go_quiet ((first | (go_at_call 49; exact Calls.quiet_of_same ((spec_l03Day_any _ _).mono (fun _ _ h => ⟨h.1, h.2.symm⟩))) | (go_at_call 43; exact Calls.quiet_of_same ((spec_l03Rate_any _ _).mono (fun _ _ h => ⟨h.1, h.2.symm⟩))))); go_wp2
          go_ret2
          exact ⟨ret_ib2 HV.out.symm HFx.out.symm, Below.drewN' hb _⟩
        all_goals
          clear hx hx' hj
          go_wp2_with fail
          go_quiet ((first | (go_at_call 49; exact Calls.quiet_of_same ((spec_l03Day_any _ _).mono (fun _ _ h => ⟨h.1, h.2.symm⟩))) | (go_at_call 43; exact Calls.quiet_of_same ((spec_l03Rate_any _ _).mono (fun _ _ h => ⟨h.1, h.2.symm⟩))))); go_wp2
          go_ret2
          exact ⟨ret_ib2 HV.out.symm HFx.out.symm, Below.drewN' hb _⟩
      · have HA := Lib.hid (allB_succ ha.out hx)
        obtain ⟨g1, g2, g3⟩ := all_yes3 hx
        rcases hj with ⟨hk0, _⟩ | hj
        · have l2 : decide ((0 : Int) < (m : Int)) = false := decide_eq_false (by omega)
          have l2' : decide (0 < m) = false := decide_eq_false (by omega)
          clear hx g3 hk0
          go_wp2_with fail
          go_quiet ((first | (go_at_call 49; exact Calls.quiet_of_same ((spec_l03Day_any _ _).mono (fun _ _ h => ⟨h.1, h.2.symm⟩))) | (go_at_call 43; exact Calls.quiet_of_same ((spec_l03Rate_any _ _).mono (fun _ _ h => ⟨h.1, h.2.symm⟩))))); go_wp2
          go_roundw
          case rel => exact ⟨m + 1, by omega, by go_num, HA, Below.drewN' hb _⟩
          case measure => simp [intOf]; omega
        · have h8 : ¬ fd m ≤ fd j := by
            have h6' : m = 0 ∨ fd (m - 1) < fd m := by simpa [ascP] using g3
            rw [show m - 1 = j by omega] at h6'
            omega
          have cj := Below.cellOf hb rfl (I1.at0 j (by omega))
          have e1 : IntKind.i64.wrap ((m : Int) - 1) = j := by rw [show (m : Int) - 1 = j by omega]; exact IntWalk.i64_in _ (by omega)
          have l2 : (0 : Int) < m := by omega
          have l2' : 0 < m := by omega
          have l3 : (j : Int) < nr := by omega
          have l4 : j < nr := by omega
          have h8' : decide (fd m ≤ fd j) = false := decide_eq_false h8
          clear hx g3 hj
          go_wp2_with fail
          go_quiet ((first | (go_at_call 49; exact Calls.quiet_of_same ((spec_l03Day_any _ _).mono (fun _ _ h => ⟨h.1, h.2.symm⟩))) | (go_at_call 43; exact Calls.quiet_of_same ((spec_l03Rate_any _ _).mono (fun _ _ h => ⟨h.1, h.2.symm⟩))))); go_wp2
          go_roundw
          case rel => exact ⟨m + 1, by omega, by go_num, HA, Below.drewN' hb _⟩
          case measure => simp [intOf]; omega
    · obtain rfl : m = nr := by omega
      have hI := HY.out ha.out
      have HH := Lib.hid hI
      have HFx := Lib.hid (HOK.out hI)
      have HV := Lib.hid (HV0.out _ HFx.out)
      have HSM := Lib.hid (ibr_sum hI)
      clear hI
      go_wp2
      generalize hW : wr = wA at *
      clear hW
      go_loopw [91, 16] (fun i s wr => ∃ j : Nat, j ≤ m ∧ i = .int .i64 j ∧ s = .int .i64 (sumTo (ibrAt c fd fr m k a b) j) ∧ wA = wr) (fun i _ _ => m - (intOf i).toNat)
      case atStart => exact ⟨0, Nat.zero_le _, rfl, rfl, rfl⟩
      case round =>
        obtain ⟨j, hj, rfl, rfl, rfl⟩ := hrel
        by_cases hlt2 : j < m
        · have d1 := Below.cellOf hb rfl (I1.at0 j hlt2)
          have d2 := Below.cellOf hb rfl (I2.at0 j hlt2)
          have s1 := HSM.out j hj
          have s2 := HSM.out (j + 1) (by omega)
          have hr := HH.out.r j hlt2
          have hd := HH.out.d j hlt2
          have HA : Hid (sumTo (ibrAt c fd fr m k a b) (j + 1) = sumTo (ibrAt c fd fr m k a b) j + ibrAt c fd fr m k a b j) := rfl
          rw [HA.out] at s2
          have HU : Hid (ibrAt c fd fr m k a b j = if stA fd a j < enA fd m b j then inter c (fr j) k (stA fd a j) (enA fd m b j) else 0) := rfl
          obtain ⟨S, hS⟩ : ∃ S, stA fd a j = S := ⟨_, rfl⟩
          obtain ⟨T, hT⟩ : ∃ T, enA fd m b j = T := ⟨_, rfl⟩
          have S0 : 0 ≤ S := by rw [← hS]; unfold stA; omega
          have e1 : max a (fd j) = S := hS
          have T1 : T ≤ 36524 := by rw [← hT]; unfold enA; split <;> omega
          rw [hS, hT] at HU
          by_cases hl : j + 1 < m
          · have d3 := Below.cellOf hb rfl (I1.at0 (j + 1) hl)
            have l0 : (0 : Int) ≤ (j : Int) + 1 := by omega
            have l1 : ((j : Int) + 1).toNat = j + 1 := by omega
            have e3 : min b (fd (j + 1)) = T := by rw [← hT]; unfold enA; rw [if_pos hl]
            clear hS hT
            by_cases hst : S < T
            · have hv : ibrAt c fd fr m k a b j = inter c (fr j) k S T := by rw [HU.out, if_pos hst]
              rw [hv] at s2
              have HVV := Lib.hid hv
              clear hv
              go_wp2_with (first | (go_at_call 50; refine (l00Max_anyR _ _ _).mono ?_; rintro e w4 ⟨rfl, rfl⟩) | (go_at_call 51; refine (l00Min_anyR _ _ _).mono ?_; rintro e w4 ⟨rfl, rfl⟩) | (go_at_call 45; refine (interest_spec _ _ _ _ _ _ q0 q1 hr.1 hr.2 k0 k1 S0 (Int.le_of_lt hst) T1).mono ?_; rintro e w4 ⟨rfl, rfl⟩))
              go_roundw
              case rel => exact ⟨j + 1, by omega, by go_num, by rw [HA.out, HVV.out], by first | rfl | trivial⟩
              case measure => simp [intOf]; omega
            · have hv : ibrAt c fd fr m k a b j = 0 := by rw [HU.out, if_neg hst]
              have HVV := Lib.hid hv
              clear hv
              go_wp2_with (first | (go_at_call 50; refine (l00Max_anyR _ _ _).mono ?_; rintro e w4 ⟨rfl, rfl⟩) | (go_at_call 51; refine (l00Min_anyR _ _ _).mono ?_; rintro e w4 ⟨rfl, rfl⟩))
              go_roundw
              case rel => exact ⟨j + 1, by omega, by go_num, by rw [HA.out, HVV.out, Int.add_zero], by first | rfl | trivial⟩
              case measure => simp [intOf]; omega
          · have hl' : ¬ (j : Int) + 1 < m := by omega
            obtain rfl : b = T := by rw [← hT]; unfold enA; rw [if_neg hl]
            clear hS hT
            by_cases hst : S < b
            · have hv : ibrAt c fd fr m k a b j = inter c (fr j) k S b := by rw [HU.out, if_pos hst]
              rw [hv] at s2
              have HVV := Lib.hid hv
              clear hv
              go_wp2_with (first | (go_at_call 50; refine (l00Max_anyR _ _ _).mono ?_; rintro e w4 ⟨rfl, rfl⟩) | (go_at_call 45; refine (interest_spec _ _ _ _ _ _ q0 q1 hr.1 hr.2 k0 k1 S0 (Int.le_of_lt hst) T1).mono ?_; rintro e w4 ⟨rfl, rfl⟩))
              go_roundw
              case rel => exact ⟨j + 1, by omega, by go_num, by rw [HA.out, HVV.out], by first | rfl | trivial⟩
              case measure => simp [intOf]; omega
            · have hv : ibrAt c fd fr m k a b j = 0 := by rw [HU.out, if_neg hst]
              have HVV := Lib.hid hv
              clear hv
              go_wp2_with (first | (go_at_call 50; refine (l00Max_anyR _ _ _).mono ?_; rintro e w4 ⟨rfl, rfl⟩))
              go_roundw
              case rel => exact ⟨j + 1, by omega, by go_num, by rw [HA.out, HVV.out, Int.add_zero], by first | rfl | trivial⟩
              case measure => simp [intOf]; omega
        · obtain rfl : j = m := by omega
          go_wp2
          go_ret2
          exact ⟨ret_ib2 (by rw [HV.out, cond_true, HF.out]) HFx.out.symm, hb⟩

theorem InterestByRates_impl {w : World} {B1 B2 : Nat} {v1 v2 : Value} {xd xr : List Int} (c : Int) (h1 : RowI 2 w B1 v1 xd) (h2 : RowI 2 w B2 v2 xr) (k a b : Int) :
    Calls Try.prog 18 #[.int .i64 c, v1, v2, .int .i64 k, .int .i64 a, .int .i64 b] w (RetV w (.tuple #[.int .i64 (InterestByRates_r0 c xd xr k a b), .bool (InterestByRates_r1 c xd xr k a b)])) := by
  obtain ⟨g1, c1, rfl, _, _, _, _, I1, _, m1⟩ := h1.form
  obtain ⟨g2, c2, rfl, _, _, _, _, I2, _, m2⟩ := h2.form
  exact ibr_impl c xd.length g1 c1 _ xr.length g2 c2 _ k a b w m1 m2 I1 I2

theorem InterestByRates_spec {w : World} {B1 B2 : Nat} {v1 v2 : Value} {xd xr : List Int} (c : Int) (h1 : RowI 2 w B1 v1 xd) (h2 : RowI 2 w B2 v2 xr) (k a b : Int) :
    Calls Try.prog 19 #[.int .i64 c, v1, v2, .int .i64 k, .int .i64 a, .int .i64 b] w (RetV w (.tuple #[.int .i64 (InterestByRates_r0 c xd xr k a b), .bool (InterestByRates_r1 c xd xr k a b)])) := by
  obtain ⟨g1, c1, rfl, _, _, _, _, I1, _, m1⟩ := h1.form
  obtain ⟨g2, c2, rfl, _, _, _, _, I2, _, m2⟩ := h2.form
  exact ibr_spec c xd.length g1 c1 _ xr.length g2 c2 _ k a b w m1 m2 I1 I2
end Go.Proofs.Ytiblnnianaaddaa
