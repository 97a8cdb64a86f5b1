/-
  laws.FnInterest gives true: interest grows with its rate, loans are paid by what is told and by no less. Condition: two slices of bytes.
-/
import Derived.Test.YtiblnnianaaddaaBytes
import Derived.Test.YtiblnnianaaddaaFnInterestP
import Derived.Test.YtiblnnianaaddaaKept
namespace Go.Proofs.Ytiblnnianaaddaa
open Go.RowKit
set_option linter.unusedVariables false

theorem Own.formT {E : TypeId} {w : World} {B n : Nat} {v : Value} {f : Nat → Int} (h : Own E w B v (tab f n)) (hn : 1 ≤ n) : ∃ g cap, v = .slice (some ⟨g, 0, none⟩) n cap ∧ ∀ i, i < n → w.cell? ⟨g, i, none⟩ = some (.int .i64 (f i)) := by
  rcases h.form with ⟨_, h0⟩ | ⟨g, cap, hv, _⟩
  · have := congrArg List.length h0
    rw [tab_length] at this
    simp at this
    omega
  · rw [tab_length] at hv
    subst hv
    exact ⟨g, cap, rfl, fun i hi => h.cellTab i hi⟩

set_option maxHeartbeats 8000000 in
set_option maxRecDepth 100000 in
theorem fnInterest_walk (x0 x1 : Nat) (ad0 ad1 : Option Addr) (c0 c1 : Nat) (w : World) (i0 : InB w (.slice ad0 x0 c0) x0) (i1 : InB w (.slice ad1 x1 c1) x1) :
    Calls Try.prog 3 #[.slice ad0 x0 c0, .slice ad1 x1 c1] w fun e w' => e = .returned (.bool true) ∧ Below w.heap.size w w' := by
  cases hL : decide (1048576 < (x0 : Int)) || decide (1048576 < (x1 : Int))
  case true =>
    have HL : Hid (∀ w', Calls Try.prog 14 #[.slice ad0 x0 c0, .slice ad1 x1 c1] w' fun e w'' => e = .returned (.bool true) ∧ w' = w'') := fun w' => by have := b10Long_any x0 x1 ad0 ad1 c0 c1 w'; rwa [hL] at this
    clear hL
    go_enter Try.func3, Try.ntmps3
    go_wp2_with fail
    refine (HL.out _).mono ?_
    rintro e w1 ⟨rfl, rfl⟩
    go_wp2
    go_ret
    exact ⟨rfl, Below.refl _ _⟩
  case false =>
    have HL : Hid (∀ w', Calls Try.prog 14 #[.slice ad0 x0 c0, .slice ad1 x1 c1] w' fun e w'' => e = .returned (.bool false) ∧ w' = w'') := fun w' => by have := b10Long_any x0 x1 ad0 ad1 c0 c1 w'; rwa [hL] at this
    clear hL
    go_enter Try.func3, Try.ntmps3
    go_wp2_with fail
    refine (HL.out _).mono ?_
    rintro e w1 ⟨rfl, rfl⟩
    go_wp2_with fail
    refine (b10At_any i1 0 256 (by omega) (by omega) (by omega) (by omega)).mono ?_
    rintro e w1 ⟨p, rfl, p0, p1, rfl⟩
    obtain ⟨c, hc⟩ : ∃ c, 1000 * p = c := ⟨_, rfl⟩
    go_wp2_with fail
    refine (b10At_any i1 1 100 (by omega) (by omega) (by omega) (by omega)).mono ?_
    rintro e w1 ⟨q, rfl, q0, q1, rfl⟩
    obtain ⟨r, hr⟩ : ∃ r, 10 * q = r := ⟨_, rfl⟩
    go_wp2_with fail
    refine (b10At_any i1 2 3 (by omega) (by omega) (by omega) (by omega)).mono ?_
    rintro e w1 ⟨k, rfl, k0, k1, rfl⟩
    go_wp2_with fail
    refine (b10At_any i1 3 256 (by omega) (by omega) (by omega) (by omega)).mono ?_
    rintro e w1 ⟨a, rfl, a0, a1, rfl⟩
    go_wp2_with fail
    refine (b10At_any i1 4 256 (by omega) (by omega) (by omega) (by omega)).mono ?_
    rintro e w1 ⟨z, rfl, z0, z1, rfl⟩
    obtain ⟨b, hb⟩ : ∃ b, a + z = b := ⟨_, rfl⟩
    have B : (0 ≤ c ∧ c ≤ 255000) ∧ (0 ≤ r ∧ r ≤ 990) ∧ a ≤ b ∧ b ≤ 510 := by omega
    obtain ⟨cb, rb, ab, b1⟩ := B
    go_wp2_with fail
    have HX1 : InterestOf_r1 c r k a b = true := by
      unfold InterestOf_r1
      rw [show isSum c = true from win_iff.2 (by omega), show isHigh r = true from win_iff.2 (by omega), show isTimeB k a b = true from isTime_iffP.2 (by omega)]
      rfl
    have HX2 : InterestOf_r1 c (r + 100) k a b = true := by
      unfold InterestOf_r1
      rw [show isSum c = true from win_iff.2 (by omega), show isHigh (r + 100) = true from win_iff.2 (by omega), show isTimeB k a b = true from isTime_iffP.2 (by omega)]
      rfl
    have hmo := inter_mono (c := c) (r := r) (r' := r + 100) (k := k) cb.1 rb.1 (by omega) a0 ab (by omega)
    obtain ⟨one1, one2⟩ := ibr_one (c := c) (r := r) (k := k) (a := a) (b := b) (by omega) (by omega) (by omega) a0 ab (by omega)
    have two1 := ibr_two (c := c) (r := r) (k := k) (a := a) (b := b) (by omega) (by omega) (by omega) a0 (by omega) ab (by omega)
    obtain ⟨pen1, pen2, pen3⟩ := pen_is (c := c) (r := r) (a := a) (b := b) cb.1 (by omega) rb.1 (by omega) a0 ab (by omega)
    obtain ⟨x, hx⟩ : ∃ x, inter c r k a b = x := ⟨_, rfl⟩
    obtain ⟨x', hx'⟩ : ∃ x, inter c (r + 100) k a b = x := ⟨_, rfl⟩
    obtain ⟨y, hy⟩ : ∃ y, ibr0 c (two 0 (a + 20)) 2 (two r (r + 100)) 2 k a b = y := ⟨_, rfl⟩
    obtain ⟨u, hu⟩ : ∃ u, PenaltyOf_r0 c r 1000 a b = u := ⟨_, rfl⟩
    have H1 : Hid (∀ w', Calls Try.prog 16 #[.int .i64 c, .int .i64 r, .int .i64 k, .int .i64 a, .int .i64 b] w' (RetV w' (.tuple #[.int .i64 x, .bool true]))) := fun w' => by have := InterestOf_impl c r k a b w'; rwa [into_yes HX1, HX1, hx] at this
    have H2 : Hid (∀ w', Calls Try.prog 17 #[.int .i64 c, .int .i64 r, .int .i64 k, .int .i64 a, .int .i64 b] w' (RetV w' (.tuple #[.int .i64 x, .bool true]))) := fun w' => by have := InterestOf_spec c r k a b w'; rwa [into_yes HX1, HX1, hx] at this
    have H3 : Hid (∀ w' g1 g2, Ints w' g1 0 1 (fun _ => 0) → Ints w' g2 0 1 (fun _ => r) → Calls Try.prog 18 #[.int .i64 c, .slice (some ⟨g1, 0, none⟩) 1 1, .slice (some ⟨g2, 0, none⟩) 1 1, .int .i64 k, .int .i64 a, .int .i64 b] w' (RetV w' (.tuple #[.int .i64 x, .bool true]))) := fun w' g1 g2 j1 j2 => by
      have := ibr_impl c 1 g1 1 _ 1 g2 1 _ k a b w' (by decide) (by decide) j1 j2
      rw [one1, one2, hx] at this
      exact this
    have H4 : Hid (∀ w' g1 g2, Ints w' g1 0 2 (two 0 (a + 20)) → Ints w' g2 0 2 (two r (r + 100)) → Calls Try.prog 18 #[.int .i64 c, .slice (some ⟨g1, 0, none⟩) 2 2, .slice (some ⟨g2, 0, none⟩) 2 2, .int .i64 k, .int .i64 a, .int .i64 b] w' (RetV w' (.tuple #[.int .i64 y, .bool true]))) := fun w' g1 g2 j1 j2 => by
      have := ibr_impl c 2 g1 2 _ 2 g2 2 _ k a b w' (by decide) (by decide) j1 j2
      rw [two1, hy] at this
      exact this
    have H5 : Hid (∀ w' g1 g2, Ints w' g1 0 2 (two 0 (a + 20)) → Ints w' g2 0 2 (two r (r + 100)) → Calls Try.prog 19 #[.int .i64 c, .slice (some ⟨g1, 0, none⟩) 2 2, .slice (some ⟨g2, 0, none⟩) 2 2, .int .i64 k, .int .i64 a, .int .i64 b] w' (RetV w' (.tuple #[.int .i64 y, .bool true]))) := fun w' g1 g2 j1 j2 => by
      have := ibr_spec c 2 g1 2 _ 2 g2 2 _ k a b w' (by decide) (by decide) j1 j2
      rw [two1, hy] at this
      exact this
    have H6 : Hid (∀ w', Calls Try.prog 16 #[.int .i64 c, .int .i64 (r + 100), .int .i64 k, .int .i64 a, .int .i64 b] w' (RetV w' (.tuple #[.int .i64 x', .bool true]))) := fun w' => by have := InterestOf_impl c (r + 100) k a b w'; rwa [into_yes HX2, HX2, hx'] at this
    have H7 : Hid (∀ w', Calls Try.prog 20 #[.int .i64 c, .int .i64 r, .int .i64 1000, .int .i64 a, .int .i64 b] w' (RetV w' (.tuple #[.int .i64 u, .bool true]))) := fun w' => by have := PenaltyOf_impl c r 1000 a b w'; rwa [hu, pen1] at this
    have H8 : Hid (∀ w', Calls Try.prog 21 #[.int .i64 c, .int .i64 r, .int .i64 1000, .int .i64 a, .int .i64 b] w' (RetV w' (.tuple #[.int .i64 u, .bool true]))) := fun w' => by have := PenaltyOf_spec c r 1000 a b w'; rwa [hu, pen1] at this
    rw [hx, hx'] at hmo
    rw [hu] at pen2 pen3
    clear HX1 HX2 one1 one2 two1 pen1 hx hx' hy hu hc hr hb p0 p1 q0 q1 z0 z1
    refine (H1.out _).mono ?_
    rintro e w2 ⟨rfl, b2⟩
    go_wp2_with fail
    refine (H2.out _).mono ?_
    rintro e w3 ⟨rfl, b3⟩
    have C3 := bnext b2 b3
    go_wp2_with fail
    have q4 : Below w3.heap.size w3 ((w3.alloc (.cells #[.int .i64 0] 2)).alloc (.cells #[.int .i64 r] 2)) := by go_grown
    refine (H3.out _ _ _ (fun i hi => by obtain rfl : i = 0 := by omega
                                         simp [go_sem]) (fun i hi => by obtain rfl : i = 0 := by omega
                                                                        simp [go_sem])).mono ?_
    rintro e w4 ⟨rfl, b4⟩
    have C4 := bnext (bnext C3 q4) b4
    go_wp2_with fail
    have q5 : Below w4.heap.size w4 ((w4.alloc (.cells #[.int .i64 0, .int .i64 (a + 20)] 2)).alloc (.cells #[.int .i64 r, .int .i64 (r + 100)] 2)) := by go_grown
    refine (H4.out _ _ _ (fun i hi => by rcases (show i = 0 ∨ i = 1 by omega) with rfl | rfl <;> simp [go_sem, two]) (fun i hi => by rcases (show i = 0 ∨ i = 1 by omega) with rfl | rfl <;> simp [go_sem, two])).mono ?_
    rintro e w5 ⟨rfl, b5⟩
    have C5 := bnext (bnext C4 q5) b5
    go_wp2_with fail
    have q6 : Below w5.heap.size w5 ((w5.alloc (.cells #[.int .i64 0, .int .i64 (a + 20)] 2)).alloc (.cells #[.int .i64 r, .int .i64 (r + 100)] 2)) := by go_grown
    refine (H5.out _ _ _ (fun i hi => by rcases (show i = 0 ∨ i = 1 by omega) with rfl | rfl <;> simp [go_sem, two]) (fun i hi => by rcases (show i = 0 ∨ i = 1 by omega) with rfl | rfl <;> simp [go_sem, two])).mono ?_
    rintro e w6 ⟨rfl, b6⟩
    have C6 := bnext (bnext C5 q6) b6
    go_wp2_with fail
    refine (H6.out _).mono ?_
    rintro e w7 ⟨rfl, b7⟩
    go_wp2_with fail
    refine (H7.out _).mono ?_
    rintro e w8 ⟨rfl, b8⟩
    go_wp2_with fail
    refine (H8.out _).mono ?_
    rintro e w9 ⟨rfl, b9⟩
    have C9 := bnext (bnext (bnext C6 b7) b8) b9
    have j9 := i1.below C9
    clear b2 b3 b4 b5 b6 b7 b8 b9 C3 C4 C5 C6 q4 q5 q6
    have g1 : ¬ x' < x := by omega
    have g2 : ¬ u < 0 := by omega
    have g3 : ¬ c / 10 + 1 < u := by omega
    clear hmo
    go_wp2_with fail
    refine (b10At_any j9 5 24 (by omega) (by omega) (by omega) (by omega)).mono ?_
    rintro e w10 ⟨nz, rfl, n0, n1, rfl⟩
    obtain ⟨n, rfl⟩ := Int.eq_ofNat_of_zero_le n0
    obtain ⟨ct, hct⟩ : ∃ ct : Int, 1 + (n : Int) = ct := ⟨_, rfl⟩
    have hct2 : ct = ((n + 1 : Nat) : Int) := by omega
    obtain ⟨pay1, pay2⟩ := pay_is (n := n + 1) cb.1 (by omega) rb.1 (by omega) (by omega) (by omega)
    rw [← hct2] at pay1 pay2
    obtain ⟨m, hm⟩ : ∃ m, LoanPayment_r0 c r ct = m := ⟨_, rfl⟩
    have H9 : Hid (∀ w', Calls Try.prog 22 #[.int .i64 c, .int .i64 r, .int .i64 ct] w' (RetV w' (.tuple #[.int .i64 m, .bool true]))) := fun w' => by have := LoanPayment_impl c r ct w'; rwa [pay1, hm] at this
    rw [hm] at pay2
    have hmb := pay2.b
    have TO : ∀ p', 0 ≤ p' → p' ≤ 1000000000 → LoanTable_r2 c r p' ct = loanOk c r p' (n + 1) := fun p' h1 h2 => by
      have e : tableOk c r p' ct = true := by
        unfold tableOk
        rw [isLoanB_iff.2 ⟨by omega, by omega, h1, h2⟩, win_iff.2 (show (1 : Int) ≤ ct ∧ ct ≤ 120 by omega)]; rfl
      unfold LoanTable_r2
      rw [e, hct2, show (((n + 1 : Nat)) : Int).toNat = n + 1 by omega]; rfl
    have e10 : LoanTable_r2 c r m ct = true := (TO m hmb.1 hmb.2).trans pay2.ok
    have H10 : Hid (∀ w', Calls Try.prog 23 #[.int .i64 c, .int .i64 r, .int .i64 m, .int .i64 ct] w' (RetL2 2 w' (tab (intN c r m) (n + 1)) (tab (restS c r m) (n + 1)) true)) := fun w' => by
      have := LoanTable_impl c r m ct w'
      rw [(tab_yes e10).1, (tab_yes e10).2, e10, hct2, show (((n + 1 : Nat)) : Int).toNat = n + 1 by omega, ← hct2] at this
      exact this
    have HLT := Lib.hid pay2.less
    have HZ := Lib.hid pay2.z
    have HOK := Lib.hid pay2.ok
    obtain ⟨ct1, ct2, ct3, ct4⟩ := count_is (c := c) (a := r) (p := m) (n := n + 1) cb.1 (by omega) rb.1 (by omega) (hm ▸ pay2) (by omega) (by omega)
    obtain ⟨t, ht⟩ : ∃ t, LoanCount_r0 c r m = t := ⟨_, rfl⟩
    obtain ⟨l, hl⟩ : ∃ l, LoanCount_r1 c r m = l := ⟨_, rfl⟩
    have H12 : Hid (∀ w', Calls Try.prog 24 #[.int .i64 c, .int .i64 r, .int .i64 m] w' (RetV w' (.tuple #[.int .i64 t, .int .i64 l, .bool true]))) := fun w' => by have := LoanCount_impl c r m w'; rwa [ct1, ht, hl] at this
    rw [ht] at ct2
    rw [hl] at ct3 ct4
    have HT0 : Hid (0 < m → loanOk c r (m - 1) (n + 1) = false → LoanTable_r2 c r (m - 1) ct = false) := fun h1 h2 => (TO (m - 1) (by omega) (by omega)).trans h2
    have HT1 : Hid (0 < m → loanOk c r (m - 1) (n + 1) = true → LoanTable_r2 c r (m - 1) ct = true) := fun h1 h2 => (TO (m - 1) (by omega) (by omega)).trans h2
    have e11 : ct - 1 = (n : Int) := by omega
    have e12 : IntKind.i64.wrap (ct - 1) = (n : Int) := by rw [e11]; exact IntWalk.i64_in _ (by omega)
    have HC2 := Lib.hid hct2
    have hctb : 1 ≤ ct ∧ ct ≤ 24 := by omega
    have tb : t ≤ ct := by omega
    clear TO pay1 pay2 hm e10 ct1 ht hl hct2
    go_wp2_with fail
    refine (H9.out _).mono ?_
    rintro e w11 ⟨rfl, b11⟩
    go_wp2_with fail
    refine (H10.out _).mono ?_
    rintro e w12 ⟨v, v', rfl, hv, _, hv', _, _, b12⟩
    obtain ⟨gI, kI, rfl, cI⟩ := hv.formT (by omega)
    obtain ⟨gR, kR, rfl, cR⟩ := hv'.formT (by omega)
    have CI := Lib.hid cI
    have CR := Lib.hid cR
    have lst := cR n (by omega)
    have HRS : Hid (∀ i, restS c r m i = restN c r m (i + 1)) := fun _ => rfl
    rw [HRS.out, HZ.out] at lst
    have C12 := bnext (bnext C9 b11) b12
    have z1 : (((n + 1 : Nat) : Int) != ct) = false := by have := HC2.out; simp; omega
    have z1' : ((n + 1 : Nat) : Int) = ct := HC2.out.symm
    have z2 : (n : Int) < ((n + 1 : Nat) : Int) := by omega
    have z3 : (n : Int) < (n : Int) + 1 := by omega
    have z4 : (n : Int) + 1 = ct := by omega
    clear cI cR hct
    go_wp2_with fail
    have HLK := Lib.hid (loanOk_le (c := c) (a := r) (p := m) HOK.out)
    go_loopw [255, 32] (fun i x wr => ∃ k : Nat, k ≤ n + 1 ∧ i = .int .i64 k ∧ x = .int .i64 (restN c r m k) ∧ wr = w12) (fun i _ _ => n + 1 - (intOf i).toNat)
    case atStart => exact ⟨0, Nat.zero_le _, rfl, rfl, rfl⟩
    case round =>
      obtain ⟨j, hj, rfl, rfl, hw⟩ := hrel
      subst hw
      by_cases hlt : j < n + 1
      · have ok := HLK.out j (by omega)
        have rb2 := restN_bd cb.1 (by omega) ok
        have rb3 := restN_bd cb.1 (by omega) (HLK.out (j + 1) (by omega))
        have d1 := CI.out j hlt
        have d2 := CR.out j hlt
        have hst : restN c r m (j + 1) = max (restN c r m j + ownI (restN c r m j) r - m) 0 := rfl
        have hin : intN c r m j = ownI (restN c r m j) r := rfl
        rw [hin] at d1
        rw [HRS.out] at d2
        obtain ⟨R, hR⟩ : ∃ R, restN c r m j = R := ⟨_, rfl⟩
        obtain ⟨R', hR'⟩ : ∃ R, restN c r m (j + 1) = R := ⟨_, rfl⟩
        rw [hR] at hst rb2 d1
        rw [hR'] at hst rb3 d2
        have ob := ownI_bd rb2.1 rb2.2 rb.1 (by omega)
        have op := own_prod rb2.1 rb2.2 rb.1 (by omega)
        have oe : ownI R r = (2 * R * r + 10000) / 20000 := by unfold ownI; rw [Int.mul_assoc]
        rw [Int.mul_assoc] at oe
        have om : 2 * R * r = 2 * (R * r) := Int.mul_assoc _ _ _
        obtain ⟨X, hX⟩ : ∃ X, 2 * R * r = X := ⟨_, rfl⟩
        have hXb : 0 ≤ X ∧ X ≤ 200000000000000000 := by omega
        rw [← om, hX] at oe
        obtain ⟨o, ho⟩ : ∃ o, ownI R r = o := ⟨_, rfl⟩
        rw [ho] at hst ob d1 oe
        have HR := Lib.hid hR
        have HR' := Lib.hid hR'
        have em : max 0 (R + o - m) = R' := by omega
        have em2 : (if 0 < R + o - m then R + o - m else 0) = R' := by split <;> omega
        have l1 : (j : Int) < ((n + 1 : Nat) : Int) := by omega
        have l2 : (j : Int) < (n : Int) + 1 := by omega
        have oe2 : (X + 10000) / 20000 = o := oe.symm
        clear hst om op hin ho oe hR' ok
        rw [hR]
        clear hR
        go_wp2_with fail
        go_roundw
        case rel => exact ⟨j + 1, by omega, by go_num, by rw [HR'.out], by first | rfl | trivial⟩
        case measure => simp [intOf]; omega
      · obtain rfl : j = n + 1 := by omega
        by_cases hm0 : 0 < m
        · cases hlk : loanOk c r (m - 1) (n + 1)
          · have e := HT0.out hm0 hlk
            have H11 : Hid (∀ w', Calls Try.prog 23 #[.int .i64 c, .int .i64 r, .int .i64 (m - 1), .int .i64 ct] w' (RetL2 2 w' [] [] false)) := fun w' => by
              have := LoanTable_impl c r (m - 1) ct w'
              rwa [(tab_no e).1, (tab_no e).2, e] at this
            clear e hlk
            go_wp2_with fail
            refine (H11.out _).mono ?_
            rintro e w13 ⟨v, v', rfl, _, _, _, _, _, b13⟩
            go_wp2_with fail
            refine (H12.out _).mono ?_
            rintro e w14 ⟨rfl, b14⟩
            go_wp2_with fail
            go_ret
            exact ⟨rfl, bnext (bnext C12 b13) b14⟩
          · have e := HT1.out hm0 hlk
            have H11 : Hid (∀ w', Calls Try.prog 23 #[.int .i64 c, .int .i64 r, .int .i64 (m - 1), .int .i64 ct] w' (RetL2 2 w' (tab (intN c r (m - 1)) (n + 1)) (tab (restS c r (m - 1)) (n + 1)) true)) := fun w' => by
              have := LoanTable_impl c r (m - 1) ct w'
              rw [(tab_yes e).1, (tab_yes e).2, e, HC2.out, show (((n + 1 : Nat)) : Int).toNat = n + 1 by omega, ← HC2.out] at this
              exact this
            have hne : restN c r (m - 1) (n + 1) ≠ 0 := by
              rcases HLT.out with h | h | h
              · omega
              · rw [hlk] at h; cases h
              · exact h
            clear e hlk
            go_wp2_with fail
            refine (H11.out _).mono ?_
            rintro e w13 ⟨v, v', rfl, _, _, hv3, _, _, b13⟩
            obtain ⟨g3, k3, rfl, c3⟩ := hv3.formT (by omega)
            have lst3 := c3 n (by omega)
            have hrs : restS c r (m - 1) n = restN c r (m - 1) (n + 1) := rfl
            rw [hrs] at lst3
            obtain ⟨Z, hZ⟩ : ∃ Z, restN c r (m - 1) (n + 1) = Z := ⟨_, rfl⟩
            rw [hZ] at lst3 hne
            have hne2 : (Z == 0) = false := by simpa using hne
            clear c3 hZ hrs
            go_wp2_with fail
            refine (H12.out _).mono ?_
            rintro e w14 ⟨rfl, b14⟩
            go_wp2_with fail
            go_ret
            exact ⟨rfl, bnext (bnext C12 b13) b14⟩
        · go_wp2_with fail
          refine (H12.out _).mono ?_
          rintro e w14 ⟨rfl, b14⟩
          go_wp2_with fail
          go_ret
          exact ⟨rfl, bnext C12 b14⟩
end Go.Proofs.Ytiblnnianaaddaa
