/-
  laws.FnParts gives true: parts make the whole, roundings are near. Condition: two slices of bytes.
-/
import Derived.Test.YtnikfcaloielaaaBytes
import Derived.Test.YtnikfcaloielaaaFnPartsP
import Derived.Test.YtnikfcaloielaaaB10
namespace Go.Proofs.Ytnikfcaloielaaa
open Go.RowKit
set_option linter.unusedVariables false

theorem tab_upd2 (f : Nat → Int) (k : Nat) (x : Int) : tab (upd f k x) (k + 1) = tab f k ++ [x] := by
  have key : ∀ n, n ≤ k → tab (upd f k x) n = tab f n := by
    intro n
    induction n with
    | zero => intro _; rfl
    | succ n ih =>
      intro hn
      rw [tab, tab, ih (by omega), upd_ne _ _ (by omega)]
  rw [tab, key k (Nat.le_refl _), upd_at]
theorem sum_upd2 (f : Nat → Int) (k : Nat) (x : Int) : sumTo (upd f k x) (k + 1) = sumTo f k + x := by
  show sumTo (upd f k x) k + upd f k x k = _
  rw [sumTo_upd, if_neg (by omega), upd_at]
  omega
theorem mul_one_le {D n : Int} (hn : 1 ≤ n) : (0 ≤ D → D ≤ D * n) ∧ (D ≤ 0 → D * n ≤ D) := by
  constructor
  · intro h
    have := Int.mul_le_mul_of_nonneg_left hn h
    omega
  · intro h
    have := Int.mul_le_mul_of_nonneg_left hn (show 0 ≤ -D by omega)
    rw [Int.neg_mul, Int.neg_mul, Int.mul_one] at this
    omega
theorem Own.formP {E : TypeId} {w : World} {B n : Nat} {v : Value} {f : Nat → Int} (h : Own E w B v (tab f n)) (hn : 1 ≤ n) : ∃ g cap, v = .slice (some ⟨g, 0, none⟩) n cap ∧ n ≤ cap ∧ cap ≤ maxLen ∧ ∀ i, i < n → w.cell? ⟨g, i, none⟩ = some (.int .i64 (f i)) := by
  rcases h.form with ⟨_, h0⟩ | ⟨g, cap, hv, _, _, h3, h4, _⟩
  · have := congrArg List.length h0
    rw [tab_length] at this
    simp at this
    omega
  · rw [tab_length] at hv h3
    subst hv
    exact ⟨g, cap, rfl, h3, h4, fun i hi => h.cellTab i hi⟩

set_option maxHeartbeats 8000000 in
set_option maxRecDepth 100000 in
theorem fnParts_walk (x0 x1 : Nat) (ad0 ad1 : Option Addr) (c0 c1 : Nat) (w : World) (i0 : InB w (.slice ad0 x0 c0) x0) (i1 : InB w (.slice ad1 x1 c1) x1) :
    Calls Try.prog 7 #[.slice ad0 x0 c0, .slice ad1 x1 c1] w fun e w' => e = .returned (.bool true) ∧ Below w.heap.size w w' := by
  cases hL : decide (1048576 < (x0 : Int)) || decide (1048576 < (x1 : Int))
  case true =>
    have HL : Hid (∀ w', Calls Try.prog 21 #[.slice ad0 x0 c0, .slice ad1 x1 c1] w' fun e w'' => e = .returned (.bool true) ∧ w' = w'') := fun w' => by have := b10Long_any x0 x1 ad0 ad1 c0 c1 w'; rwa [hL] at this
    clear hL
    go_enter Try.func7, Try.ntmps7
    go_wp2_with fail
    refine (HL.out _).mono ?_
    rintro e w1 ⟨rfl, rfl⟩
    go_wp2
    go_ret
    exact ⟨rfl, Below.refl _ _⟩
  case false =>
    have HL : Hid (∀ w', Calls Try.prog 21 #[.slice ad0 x0 c0, .slice ad1 x1 c1] w' fun e w'' => e = .returned (.bool false) ∧ w' = w'') := fun w' => by have := b10Long_any x0 x1 ad0 ad1 c0 c1 w'; rwa [hL] at this
    clear hL
    go_enter Try.func7, Try.ntmps7
    go_wp2_with fail
    refine (HL.out _).mono ?_
    rintro e w1 ⟨rfl, rfl⟩
    go_wp2_with fail
    go_loopw [7, 5, 6] (fun i v a wr => ∃ (k : Nat) (f : Nat → Int), k ≤ 7 ∧ i = .int .i64 k ∧ a = .int .i64 (sumTo f k) ∧ Own 2 wr w.heap.size v (tab f k) ∧ Hid (∀ j, j < k → 0 ≤ f j ∧ f j ≤ 40) ∧ Hid (0 < k → 0 < sumTo f k) ∧ Hid (0 ≤ sumTo f k ∧ sumTo f k ≤ 40 * k) ∧ Below w.heap.size w wr) (fun i _ _ _ => 8 - (intOf i).toNat)
    case atStart => exact ⟨0, fun _ => 0, Nat.zero_le _, rfl, rfl, Own.made _ _ (Nat.le_refl _), (fun j h => by omega), (fun h => by omega), ⟨Int.le_refl _, Int.le_refl _⟩, (Below.refl _ _).alloc (Nat.le_refl _) _⟩
    case round =>
      obtain ⟨k, f, hk7, rfl, rfl, hv, hf, hp, hs, hbr⟩ := hrel
      have j1 := i1.below hbr
      have j0 := i0.below hbr
      have HT := Lib.hid (tab_len8s (f := f) (k := k) (by omega))
      have hsb := hs.out
      obtain ⟨S, hS⟩ : ∃ S, sumTo f k = S := ⟨_, rfl⟩
      have HS := Lib.hid hS
      rw [hS] at hsb
      rw [hS]
      clear hS
      go_wp2_with fail
      refine (b10At_any j1 0 7 (by omega) (by omega) (by omega) (by omega)).mono ?_
      rintro e w1 ⟨b, rfl, b0, b1, rfl⟩
      by_cases hlt : (k : Int) < 1 + b
      · go_wp2_with fail
        refine (b10At_any j0 k 40 (by omega) (by omega) (by omega) (by omega)).mono ?_
        rintro e w1 ⟨x, rfl, y0, y1, rfl⟩
        by_cases hk0 : k = 0
        · have hz : ((k : Int) == 0) = true := by simp; omega
          have hz2 : (k : Int) = 0 := by omega
          have HK0 := Lib.hid hk0
          clear hk0
          go_wp2_with (at_builtin; refine wpList_app1 _ rfl _ _ 22 rfl (w.heap.size) 2 Try.infoI Try.underlying22 _ _ rfl hv _ rfl (by have := HT.out; omega) (hbr.size) ?_; intro v' w4 hv4 hb4)
          go_roundw
          case rel => exact ⟨k + 1, upd f k (x + 1), by omega, by first | go_num | (have := HK0.out; subst this; rfl), by rw [sum_upd2, HS.out], by rw [tab_upd2]; exact hv4, (fun j hj => by
            unfold upd
            split
            · omega
            · exact hf.out j (by omega)), (fun _ => by have h9 := hs.out; rw [HS.out] at h9; rw [sum_upd2, HS.out]; omega), (by show _ ∧ _; have h9 := hs.out; rw [HS.out] at h9; rw [sum_upd2, HS.out]; omega), hbr.trans hb4⟩
          case measure => first | (simp [intOf]; omega) | (simp [intOf])
        · have hz : ((k : Int) == 0) = false := by simp; omega
          have hz2 : ¬ (k : Int) = 0 := by omega
          have hS0 : 0 < S := by have := hp.out (by omega); rwa [HS.out] at this
          go_wp2_with (at_builtin; refine wpList_app1 _ rfl _ _ 22 rfl (w.heap.size) 2 Try.infoI Try.underlying22 _ _ rfl hv _ rfl (by have := HT.out; omega) (hbr.size) ?_; intro v' w4 hv4 hb4)
          go_roundw
          case rel => exact ⟨k + 1, upd f k x, by omega, by go_num, by rw [sum_upd2, HS.out], by rw [tab_upd2]; exact hv4, (fun j hj => by
            unfold upd
            split
            · omega
            · exact hf.out j (by omega)), (fun _ => by have h9 := hs.out; rw [HS.out] at h9; rw [sum_upd2, HS.out]; omega), (by show _ ∧ _; have h9 := hs.out; rw [HS.out] at h9; rw [sum_upd2, HS.out]; omega), hbr.trans hb4⟩
          case measure => simp [intOf]; omega
      · have hk1 : 1 ≤ k := by omega
        have hS0 : 0 < S := by have := hp.out (by omega); rwa [HS.out] at this
        obtain ⟨gw, cw, rfl, cw1, cw2, cel⟩ := hv.formP hk1
        have hIw : ∀ w', Below wr.heap.size wr w' → Ints w' gw 0 k f := fun w' hb i hi => by rw [Nat.zero_add]; exact Below.cellOf hb rfl (cel i hi)
        have hfo := hf.out
        have hps : 0 < sumTo f k := by rw [HS.out]; exact hS0
        have hwg : wgtOk f k = true := by
          unfold wgtOk
          rw [cntB_iff.2 ⟨⟨by omega, by omega⟩, fun i hi => by have := hfo i hi; omega⟩, decide_eq_true hps]
          rfl
        go_wp2_with fail
        refine (b10At_any j1 1 256 (by omega) (by omega) (by omega) (by omega)).mono ?_
        rintro e w1 ⟨p, rfl, p0, p1, rfl⟩
        go_wp2_with fail
        refine (b10At_any j1 2 256 (by omega) (by omega) (by omega) (by omega)).mono ?_
        rintro e w1 ⟨q, rfl, q0, q1, rfl⟩
        obtain ⟨c, hc⟩ : ∃ c, 1000 * p + q = c := ⟨_, rfl⟩
        have cb : 0 ≤ c ∧ c ≤ 255255 := by omega
        have hsum : isSum c = true := win_iff.2 (by omega)
        have hsc : scOk c f k = true := by unfold scOk; rw [hsum, hwg]; rfl
        have hsi : sitOk c f k = true := by unfold sitOk; rw [hsum, hwg]; rfl
        have H1 : Hid (∀ w', Below wr.heap.size wr w' → Calls Try.prog 20 #[.int .i64 c, .slice (some ⟨gw, 0, none⟩) k cw] w' (RetL1 2 w' (tab (ptO c f k) k) true)) := fun w' hb => by
          have := sc_impl c k gw cw f w' (by omega) (hIw w' hb)
          rwa [sc_yes hsc, hsc] at this
        have H2 : Hid (∀ w', Below wr.heap.size wr w' → Calls Try.prog 11 #[.int .i64 c, .slice (some ⟨gw, 0, none⟩) k cw] w' (RetL1 2 w' (tab (sitP f k c) k) true)) := fun w' hb => by
          have := sit_impl c k gw cw f w' (by omega) cw1 cw2 (hIw w' hb)
          rwa [sit_yes hsi, hsi] at this
        have H3 : Hid (∀ w', Below wr.heap.size wr w' → Calls Try.prog 9 #[.int .i64 c, .slice (some ⟨gw, 0, none⟩) k cw] w' (RetL1 2 w' (tab (sitP f k c) k) true)) := fun w' hb => by
          have := sit_spec c k gw cw f w' (by omega) (hIw w' hb)
          rwa [sit_yes hsi, hsi] at this
        obtain ⟨ps1, ps2⟩ := pt_is (c := c) (f := f) (n := k) (by omega) hps
        have ss1 := sit_all (c := c) (fun i hi => (hfo i hi).1) hps
        have HPS := Lib.hid ps2
        have hqb : Hid (∀ i, i < k → 0 ≤ pQ c f S i ∧ pQ c f S i ≤ c) := fun i hi => by
          have := pQ_bd (c := c) (f := f) (s := sumTo f k) hps cb.1 (hfo i hi).1 (sumTo_ge k (fun i hi => (hfo i hi).1) i hi)
          rwa [HS.out] at this
        rw [HS.out] at HPS
        have hpb : ∀ i, i < k → 0 ≤ ptO c f k i ∧ ptO c f k i ≤ 300000 := fun i hi => by have := hqb.out i hi; have := HPS.out i hi; omega
        have HPSUM : Hid (∀ j, j ≤ k → -9000000000000000000 ≤ sumTo (ptO c f k) j ∧ sumTo (ptO c f k) j ≤ 9000000000000000000) := fun j hj => by
          have a := sumTo_bd hpb (Int.le_refl _) (by omega) j hj
          have b := sumTo_nonneg (fun i hi => (hpb i hi).1) j hj
          omega
        have hsb2 := sit_bd (f := f) (n := k) (c := c) hwg cb.1
        have HSSUM : Hid (∀ j, j ≤ k → -9000000000000000000 ≤ sumTo (sitP f k c) j ∧ sumTo (sitP f k c) j ≤ 9000000000000000000) := fun j hj => by
          rw [sit_sum]
          have := hsb2 j hj
          omega
        have HFO := Lib.hid hfo
        have HIW := Lib.hid hIw
        have HCEL := Lib.hid cel
        clear hfo hps hwg hsum hsc hsi ps2 hpb hsb2 hIw hs hp hsb p0 p1 q0 q1 b0 b1 cel
        go_wp2_with fail
        refine (H1.out _ (Below.refl _ _)).mono ?_
        rintro e w2 ⟨v2, rfl, hv2, _, b2⟩
        go_wp2_with fail
        refine (H2.out _ b2).mono ?_
        rintro e w3 ⟨v3, rfl, hv3, _, b3⟩
        have B3 := bnext b2 b3
        go_wp2_with fail
        refine (H3.out _ B3).mono ?_
        rintro e w4 ⟨v4, rfl, hv4, _, b4⟩
        have B4 := bnext B3 b4
        have hv2' := (hv2.below b3).below b4
        have hv3' := hv3.below b4
        obtain ⟨g2, k2, rfl, _, _, c2⟩ := hv2'.formP hk1
        obtain ⟨g3, k3, rfl, _, _, c3⟩ := hv3'.formP hk1
        obtain ⟨g4, k4, rfl, _, _, c4⟩ := hv4.formP hk1
        have HINT := Lib.hid (b10Ints_any k g3 k3 g4 k4 (sitP f k c) w4 (by omega) c3 c4)
        have C2 := Lib.hid c2
        have C3 := Lib.hid c3
        clear hv2' hv3' hv2 hv3 hv4 c2 c3 c4 hc
        go_wp2_with fail
        refine HINT.out.mono ?_
        rintro e w5 ⟨rfl, b5⟩
        have B5 := bnext B4 b5
        have H5 : Hid (Calls Try.prog 24 #[.slice (some ⟨g2, 0, none⟩) k k2] w5 fun e w' => e = .returned (.int .i64 c) ∧ w5 = w') := by
          have := b10Sum_any k g2 k2 (ptO c f k) w5 (by omega) (fun i hi => Below.cellOf b5 rfl (C2.out i hi)) HPSUM
          rw [ps1] at this
          exact this
        have H6 : Hid (Calls Try.prog 24 #[.slice (some ⟨g3, 0, none⟩) k k3] w5 fun e w' => e = .returned (.int .i64 c) ∧ w5 = w') := by
          have := b10Sum_any k g3 k3 (sitP f k c) w5 (by omega) (fun i hi => Below.cellOf b5 rfl (C3.out i hi)) HSSUM
          rw [ss1] at this
          exact this
        clear ps1 ss1
        go_wp2_with fail
        refine H5.out.mono ?_
        rintro e w6 ⟨rfl, rfl⟩
        go_wp2_with fail
        refine H6.out.mono ?_
        rintro e w6 ⟨rfl, rfl⟩
        go_wp2_with fail
        have HC2 : Hid (∀ i, i < k → w5.cell? ⟨g2, i, none⟩ = some (.int .i64 (ptO c f k i))) := fun i hi => Below.cellOf b5 rfl (C2.out i hi)
        have HCW : Hid (∀ i, i < k → w5.cell? ⟨gw, i, none⟩ = some (.int .i64 (f i))) := fun i hi => by have := HIW.out w5 B5 i hi; rwa [Nat.zero_add] at this
        have J5 := i1.below (bnext hbr B5)
        have HBB := Lib.hid (bnext hbr B5)
        clear C2 C3 HIW HCEL H1 H2 H3 HINT H5 H6 hv j0 j1 B3 B4 b2 b3 b4 b5 B5
        go_loopw [118] (fun i wr => ∃ j : Nat, j ≤ k ∧ i = .int .i64 j ∧ wr = w5) (fun i _ => k - (intOf i).toNat)
        case atStart => exact ⟨0, Nat.zero_le _, rfl, rfl⟩
        case round =>
          obtain ⟨j, hj, rfl, hw⟩ := hrel
          subst hw
          by_cases hlt2 : j < k
          · have d1 := HCW.out j hlt2
            have d2 := HC2.out j hlt2
            have hX := HFO.out j hlt2
            have hQ := hqb.out j hlt2
            have hP := HPS.out j hlt2
            have hR := pR_bd (c := c) (f := f) hS0 j
            have q1 : c * f j / S = pQ c f S j := rfl
            have q2 : c * f j % S = pR c f S j := rfl
            obtain ⟨X, hXe⟩ : ∃ X, f j = X := ⟨_, rfl⟩
            obtain ⟨Qv, hQe⟩ : ∃ Q, pQ c f S j = Q := ⟨_, rfl⟩
            obtain ⟨Rv, hRe⟩ : ∃ R, pR c f S j = R := ⟨_, rfl⟩
            obtain ⟨Pv, hPe⟩ : ∃ P, ptO c f k j = P := ⟨_, rfl⟩
            rw [hXe] at d1 hX q1 q2
            rw [hQe] at hQ hP q1
            rw [hRe] at hP hR q2
            rw [hPe] at d2 hP
            have a0 : 0 ≤ c * X := Int.mul_nonneg cb.1 hX.1
            have a1 : c * X ≤ 255255 * 40 := Int.mul_le_mul cb.2 hX.2 hX.1 (by omega)
            obtain ⟨A, hA⟩ : ∃ A, c * X = A := ⟨_, rfl⟩
            rw [hA] at a0 a1 q1 q2
            have t1 : A.tdiv S = Qv := by rw [Int.tdiv_eq_ediv_of_nonneg a0]; exact q1
            have t2 : A.tmod S = Rv := by rw [Int.tmod_eq_emod_of_nonneg a0]; exact q2
            have l1 : (j : Int) < k := by omega
            have s1 : ¬ S = 0 := by omega
            clear hXe hQe hRe hPe
            rcases hP with hP | ⟨hP, hR0⟩
            · subst hP
              have u1 : ¬ Pv + 1 < Pv := by omega
              go_wp2_with fail
              go_roundw
              case rel => exact ⟨j + 1, by omega, by go_num, by first | rfl | trivial⟩
              case measure => simp [intOf]; omega
            · subst hP
              have u1 : ¬ Qv + 1 < Qv := by omega
              have u2 : Qv < Qv + 1 := by omega
              have u3 : (Rv == 0) = false := by simp; omega
              have u4 : ¬ Rv = 0 := by omega
              go_wp2_with fail
              go_roundw
              case rel => exact ⟨j + 1, by omega, by go_num, by first | rfl | trivial⟩
              case measure => simp [intOf]; omega
          · obtain rfl : j = k := by omega
            go_wp2_with fail
            refine (b10At_any J5 3 20 (by omega) (by omega) (by omega) (by omega)).mono ?_
            rintro e w1 ⟨z, rfl, z0, z1, rfl⟩
            obtain ⟨m', rfl⟩ := Int.eq_ofNat_of_zero_le z0
            obtain ⟨M, hM⟩ : ∃ M : Nat, M = m' + 1 := ⟨_, rfl⟩
            obtain ⟨ct, hct⟩ : ∃ ct : Int, 1 + (m' : Int) = ct := ⟨_, rfl⟩
            have hct2 : ct = (M : Int) := by omega
            have hM1 : 1 ≤ M ∧ M ≤ 20 := by omega
            have HE : Hid (∀ w', Calls Try.prog 25 #[.int .i64 c, .int .i64 ct] w' (RetL1 2 w' (tab (evF c M) M) true)) := fun w' => by
              have e1 : EvenParts_r1 c ct = true := by
                unfold EvenParts_r1
                rw [show isSum c = true from win_iff.2 (by omega), show win ct 1 120 = true from win_iff.2 (by omega)]
                rfl
              have := EvenParts_impl c ct w'
              unfold EvenParts_r0 at this
              rw [if_pos e1, e1, hct2, show ((M : Nat) : Int).toNat = M by omega, even_tab] at this
              rw [hct2]
              exact this
            have hevb : ∀ i, i < M → 0 ≤ evF c M i ∧ evF c M i ≤ 300000 := fun i _ => by have := even_bd (c := c) (m := M) (by omega) cb.1 i; omega
            have HESUM : Hid (∀ q, q ≤ M → -9000000000000000000 ≤ sumTo (evF c M) q ∧ sumTo (evF c M) q ≤ 9000000000000000000) := fun q hq => by
              have a := sumTo_bd hevb (Int.le_refl _) (by omega) q hq
              have b := sumTo_nonneg (fun i hi => (hevb i hi).1) q hq
              omega
            have HEVB := Lib.hid hevb
            have es := even_sum c M (by omega)
            have HES := Lib.hid es
            have z5 : (M : Int) = ct := hct2.symm
            clear hevb es hM hct2 z0 z1
            go_wp2_with fail
            refine (HE.out _).mono ?_
            rintro e w2 ⟨v2, rfl, hv2, _, b2⟩
            clear hct
            obtain ⟨gE, kE, rfl, _, _, cE⟩ := hv2.formP hM1.1
            have H8 : Hid (Calls Try.prog 24 #[.slice (some ⟨gE, 0, none⟩) M kE] w2 fun e w' => e = .returned (.int .i64 c) ∧ w2 = w') := by
              have := b10Sum_any M gE kE (evF c M) w2 (by omega) cE HESUM
              rw [HES.out] at this
              exact this
            have CE := Lib.hid cE
            clear cE hv2
            go_wp2_with fail
            refine H8.out.mono ?_
            rintro e w3 ⟨rfl, rfl⟩
            have J6 := J5.below b2
            have HB6 := Lib.hid (bnext HBB.out b2)
            go_wp2_with fail
            go_loopw [189] (fun i wr => ∃ q p : Nat, q ≤ M ∧ i = .int .i64 q ∧ wr = w2.drewN p) (fun i _ => M - (intOf i).toNat)
            case atStart => exact ⟨0, 0, Nat.zero_le _, rfl, rfl⟩
            case round =>
              obtain ⟨q, dr, hq, rfl, rfl⟩ := hrel
              by_cases hlt3 : q < M
              · have d0 := CE.out 0 (by omega)
                have d1 := CE.out q hlt3
                have f1 := even_first c M q
                obtain ⟨E0, hE0⟩ : ∃ E, evF c M 0 = E := ⟨_, rfl⟩
                obtain ⟨Eq, hEq⟩ : ∃ E, evF c M q = E := ⟨_, rfl⟩
                have v0 := HEVB.out 0 (by omega)
                have v1 := HEVB.out q hlt3
                rw [hE0] at d0 f1 v0
                rw [hEq] at d1 f1 v1
                have l1 : (q : Int) < M := by omega
                have l2 : (0 : Int) < M := by omega
                have l1' : (q : Int) < ct := by omega
                have l2' : (0 : Int) < ct := by omega
                have u1 : ¬ 1 < E0 - Eq := by omega
                have u1' : decide (1 < E0 - Eq) = false := decide_eq_false u1
                by_cases hq0 : q = 0
                · have hq1 : ¬ 0 < (q : Int) := by omega
                  have hq1' : decide (0 < (q : Int)) = false := decide_eq_false hq1
                  have hqn : decide (0 < q) = false := decide_eq_false (by omega)
                  have hqn2 : ¬ 0 < q := by omega
                  have hqn3 : (0 < q) = False := by simp; omega
                  have hqn4 : (0 < (q : Int)) = False := by simp; omega
                  clear hq0 hE0 hEq
                  go_wp2_with fail
                  go_quiet (fail)
                  go_wp2
                  go_roundw
                  case rel => exact ⟨q + 1, _, by omega, by go_num, rfl⟩
                  case measure => simp [intOf]; omega
                · obtain ⟨p, hp⟩ : ∃ p, q = p + 1 := ⟨q - 1, by omega⟩
                  have hq1 : 0 < (q : Int) := by omega
                  have hq1' : decide (0 < (q : Int)) = true := decide_eq_true hq1
                  have hqn : decide (0 < q) = true := decide_eq_true (by omega)
                  have hqn2 : 0 < q := by omega
                  have hqn3 : (0 < q) = True := by simp; omega
                  have hqn4 : (0 < (q : Int)) = True := by simp; omega
                  have d2 := CE.out p (by omega)
                  have f2 := even_step c M p
                  rw [← hp, hEq] at f2
                  obtain ⟨Ep, hEp⟩ : ∃ E, evF c M p = E := ⟨_, rfl⟩
                  rw [hEp] at d2 f2
                  have u2 : ¬ Ep < Eq := by omega
                  have e1 : (q : Int) - 1 = p := by omega
                  have e2 : IntKind.i64.wrap ((q : Int) - 1) = p := by rw [e1]; exact IntWalk.i64_in _ (by omega)
                  have e3 : IntKind.i64.wrap (p : Int) = p := IntWalk.i64_in _ (by omega)
                  have l3 : (p : Int) < M := by omega
                  have l3' : (p : Int) < ct := by omega
                  have u2' : decide (Ep < Eq) = false := decide_eq_false u2
                  clear hq0 hE0 hEq hEp hp
                  go_wp2_with fail
                  go_quiet (fail)
                  go_wp2
                  go_roundw
                  case rel => exact ⟨q + 1, _, by omega, by go_num, rfl⟩
                  case measure => simp [intOf]; omega
              · obtain rfl : q = M := by omega
                have J7 := J6.below (Go.Proofs.Ytnikfcaloielaaa.Below.drewN' (Below.refl w2.heap.size w2) dr)
                have HB7 := Lib.hid (bnext HB6.out (Go.Proofs.Ytnikfcaloielaaa.Below.drewN' (Below.refl w2.heap.size w2) dr))
                clear J6 HB6 HBB J5
                go_wp2_with fail
                refine (b10At_any J7 4 256 (by omega) (by omega) (by omega) (by omega)).mono ?_
                rintro e w4 ⟨z, rfl, z0, z1, rfl⟩
                obtain ⟨sm, hsm⟩ : ∃ s, z - 128 = s := ⟨_, rfl⟩
                go_wp2_with fail
                refine (b10At_any J7 5 20 (by omega) (by omega) (by omega) (by omega)).mono ?_
                rintro e w4 ⟨y, rfl, y0, y1, rfl⟩
                go_wp2_with fail
                refine (b10At_any J7 6 12 (by omega) (by omega) (by omega) (by omega)).mono ?_
                rintro e w4 ⟨o, rfl, o0, o1, rfl⟩
                obtain ⟨nn, hnn⟩ : ∃ n, 1 + o = n := ⟨_, rfl⟩
                have nb : 1 ≤ nn ∧ nn ≤ 12 := by omega
                have sb : -128 ≤ sm ∧ sm ≤ 127 := by omega
                have xb : -2432 ≤ sm * y ∧ sm * y ≤ 2432 := by
                  have h1 : 0 ≤ (sm + 128) * y := Int.mul_nonneg (by omega) y0
                  have h2 : (sm + 128) * y ≤ 255 * y := Int.mul_le_mul_of_nonneg_right (by omega) y0
                  rw [Int.add_mul] at h1 h2
                  omega
                have RR := rp_is (x := sm * y) (n := nn) nb.1
                have RT : ∀ k, 0 ≤ k → k ≤ 2 → ∀ w', Calls Try.prog 26 #[.int .i64 sm, .int .i64 y, .int .i64 nn, .int .i64 k] w' (RetV w' (.tuple #[.int .i64 (rp (sm * y) nn k), .bool true])) := fun k k0 k1 w' => by
                  have e1 : RoundPart_r1 sm y nn k = true := by
                    unfold RoundPart_r1
                    rw [show win sm (-1000000000) 1000000000 = true from win_iff.2 (by omega), show win y 0 1000000 = true from win_iff.2 (by omega), show win nn 1 1000000 = true from win_iff.2 (by omega), show win k 0 2 = true from win_iff.2 (by omega)]
                    rfl
                  have := RoundPart_impl sm y nn k w'
                  unfold RoundPart_r0 at this
                  rw [if_pos e1, e1] at this
                  exact this
                obtain ⟨x, hx⟩ : ∃ x, sm * y = x := ⟨_, rfl⟩
                rw [hx] at RR RT xb
                have R0 := Lib.hid (RT 0 (by omega) (by omega))
                have R1 := Lib.hid (RT 1 (by omega) (by omega))
                have R2 := Lib.hid (RT 2 (by omega) (by omega))
                have mD := mul_one_le (D := rp x nn 0) nb.1
                have mN := mul_one_le (D := rp x nn 1) nb.1
                have mE := mul_one_le (D := rp x nn 2) nb.1
                obtain ⟨D, hD⟩ : ∃ D, rp x nn 0 = D := ⟨_, rfl⟩
                obtain ⟨N, hN⟩ : ∃ D, rp x nn 1 = D := ⟨_, rfl⟩
                obtain ⟨E, hE⟩ : ∃ D, rp x nn 2 = D := ⟨_, rfl⟩
                rw [hD] at RR R0 mD
                rw [hN] at RR R1 mN
                rw [hE] at RR R2 mE
                have eD1 : (D + 1) * nn = D * nn + nn := by rw [Int.add_mul, Int.one_mul]
                obtain ⟨PD, hPD⟩ : ∃ P, D * nn = P := ⟨_, rfl⟩
                obtain ⟨PN, hPN⟩ : ∃ P, N * nn = P := ⟨_, rfl⟩
                obtain ⟨PE, hPE⟩ : ∃ P, E * nn = P := ⟨_, rfl⟩
                rw [hPD] at RR mD eD1
                rw [hPN] at RR mN
                rw [hPE] at RR mE
                obtain ⟨r1, r2, r3, r4, r5, r6, r7⟩ := RR
                have bD : -3000 ≤ D ∧ D ≤ 3000 := by omega
                have bN : -3000 ≤ N ∧ N ≤ 3000 := by omega
                have bE : -3000 ≤ E ∧ E ≤ 3000 := by omega
                have bPD : -3000 ≤ PD ∧ PD ≤ 3000 := by omega
                have bPN : -3000 ≤ PN ∧ PN ≤ 3000 := by omega
                have bPE : -3000 ≤ PE ∧ PE ≤ 3000 := by omega
                have t1 : ¬ x < PD := by omega
                have t2 : ¬ PD + nn ≤ x := by omega
                have t3 : ¬ nn < 2 * (PN - x) := by omega
                have t4 : ¬ nn < 2 * (x - PN) := by omega
                have t5 : ¬ nn < 2 * (PE - x) := by omega
                have t6 : ¬ nn < 2 * (x - PE) := by omega
                have HR7 := Lib.hid r7
                clear RT hD hN hE mD mN mE r1 r2 r3 r4 r5 r6 r7 z0 z1 o0 o1
                go_wp2_with fail
                refine (R0.out _).mono ?_
                rintro e w5 ⟨rfl, b5⟩
                go_wp2_with fail
                refine (R1.out _).mono ?_
                rintro e w6 ⟨rfl, b6⟩
                go_wp2_with fail
                refine (R2.out _).mono ?_
                rintro e w7 ⟨rfl, b7⟩
                have HB9 := Lib.hid (bnext (bnext (bnext HB7.out b5) b6) b7)
                by_cases ht : 2 * (x - PD) = nn
                · obtain ⟨h1, h2⟩ := HR7.out ht
                  have h3 : E.tmod 2 = 0 := (tmod_two E).2 h1
                  by_cases hxx : 0 < x
                  · have h4 : D < N := h2.1 hxx
                    have w1 := decide_eq_true hxx
                    have w2 := decide_eq_true h4
                    clear h2
                    go_wp2_with fail
                    go_ret
                    exact ⟨by first | rfl | (rw [w1, w2]; rfl) | (simp only [w1, w2]; rfl) | (simp [w1, w2]; done) | (simp [hxx, h4]; done), HB9.out⟩
                  · have h4 : ¬ D < N := fun h => hxx (h2.2 h)
                    have w1 := decide_eq_false hxx
                    have w2 := decide_eq_false h4
                    clear h2
                    go_wp2_with fail
                    go_ret
                    exact ⟨by first | rfl | (rw [w1, w2]; rfl) | (simp only [w1, w2]; rfl) | (simp [w1, w2]; done) | (simp [hxx, h4]; done), HB9.out⟩
                · go_wp2_with fail
                  go_ret
                  exact ⟨rfl, HB9.out⟩
end Go.Proofs.Ytnikfcaloielaaa
