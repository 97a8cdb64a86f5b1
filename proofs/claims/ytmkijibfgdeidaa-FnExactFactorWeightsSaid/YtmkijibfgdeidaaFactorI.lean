/-
  impl.FactorWeights gives what the plain law tells. Condition: fewer than 1000000000 integers in each list.
-/
import Derived.Test.YtmkijibfgdeidaaFactorP
import Derived.Deep.QuietTactic
import Derived.BigQuiet
namespace Go.Proofs.Ytmkijibfgdeidaa
open Go.RowKit
set_option linter.unusedVariables false

/-- A call that leaves a world as it was, behind draws. -/
theorem quietAt {P : Program} {f : FuncId} {args : Array Value} {w : World} {a n : Nat} {v : Value} (h : Calls P f args (w.drewN (a + n)) fun e w' => e = .returned v ∧ w' = w.drewN (a + n)) :
    Calls P f args (w.drewN (a + n)) fun e w'' => e = .returned v ∧ ∃ m, w'' = w.drewN (a + m) := h.mono fun _ _ hw => ⟨hw.1, n, hw.2⟩
theorem sum_bds {f : Nat → Int} {n : Nat} (h : plcOk f n = true) : Hid (∀ k, k ≤ n → -9000000000000000000 ≤ sumTo f k ∧ sumTo f k ≤ 9000000000000000000) := fun k hk => by
  obtain ⟨_, _, _, d, e⟩ := plc_is h
  have := e k hk
  omega

set_option maxHeartbeats 6400000 in
set_option maxRecDepth 100000 in
theorem factor_impl (n g cg : Nat) (b N c : Nat → Nat) (F : Nat → Nat → Int) (m g2 c2 : Nat) (f2 : Nat → Int) (w : World) (m1 : n < 1000000000) (m2 : m < 1000000000)
    (IL : LsIn w g n b N c F) (I2 : Ints w g2 0 m f2) :
    Calls Try.prog 8 #[.slice (some ⟨g, 0, none⟩) n cg, .slice (some ⟨g2, 0, none⟩) m c2] w (RetL1i 2 w (fwL n N F m f2) (fwA n N F m f2) (fwOk n N F m f2)) := by
  by_cases h1 : win n 1 4 = true
  case neg =>
    have hf := fw_no1 (N := N) (F := F) (m := m) (f2 := f2) (Bool.eq_false_iff.2 h1)
    rw [fwL_no hf, fwA_no hf, hf]
    have h1' := win_not.1 (Bool.eq_false_iff.2 h1)
    clear hf h1
    rcases h1' with h1 | h1
    · go_enter Try.func8, Try.ntmps8
      go_wp2_with fail
      go_ret3
      exact RetL1i.no _ (Below.refl _ _)
    · go_enter Try.func8, Try.ntmps8
      go_wp2_with fail
      go_ret3
      exact RetL1i.no _ (Below.refl _ _)
  obtain ⟨n1, n4⟩ := win_iff.1 h1
  by_cases h2 : m = n
  case neg =>
    have hf := fw_no2 (N := N) (F := F) (f2 := f2) h2
    rw [fwL_no hf, fwA_no hf, hf]
    have h2' : ¬ ((m : Int) = n) := by omega
    clear hf h1
    go_enter Try.func8, Try.ntmps8
    go_wp2_with fail
    go_ret3
    exact RetL1i.no _ (Below.refl _ _)
  subst h2
  have HAW : Hid (∀ w', Below w.heap.size w w' → Calls Try.prog 17 #[.slice (some ⟨g2, 0, none⟩) m c2, .int .i64 0, .int .i64 9] w' (RetV w' (.bool (allW f2 0 9 m)))) := fun w' hb => areWithin_any m g2 0 c2 f2 0 9 w' m2 (I2.below hb)
  by_cases h3 : allW f2 0 9 m = true
  case neg =>
    have h3' := Bool.eq_false_iff.2 h3
    have hf := fw_no3 (N := N) (F := F) (n := m) h3'
    rw [fwL_no hf, fwA_no hf, hf]
    rw [h3'] at HAW
    clear hf h1 h3 h3'
    go_enter Try.func8, Try.ntmps8
    go_wp2_with (first | (go_at_call 17; refine (HAW.out _ (Below.refl _ _)).mono ?_; rintro e w1 ⟨rfl, b1⟩))
    go_ret3
    exact RetL1i.no _ b1
  rw [h3] at HAW
  have hsum := allW_sum (by omega) h3
  have HTM : Hid (∀ w', Below w.heap.size w w' → Calls Try.prog 18 #[.slice (some ⟨g2, 0, none⟩) m c2] w' (fun e w'' => e = .returned (.int .i64 (sumTo f2 m)) ∧ w' = w'')) := fun w' hb => total_any m g2 0 c2 f2 w' m2 (I2.below hb) (fun k hk => by have := hsum k hk; omega)
  have hs2 := hsum m (Nat.le_refl _)
  by_cases h4 : sumTo f2 m = 0
  · have hf := fw_no4 (N := N) (F := F) (n := m) h4
    rw [fwL_no hf, fwA_no hf, hf]
    rw [h4] at HTM
    clear hf h1 h3 hsum hs2 h4
    go_enter Try.func8, Try.ntmps8
    go_wp2_with (first | (go_at_call 17; refine (HAW.out _ (Below.refl _ _)).mono ?_; rintro e w1 ⟨rfl, b1⟩) | (go_at_call 18; refine (HTM.out _ b1).mono ?_; rintro e w' ⟨rfl, rfl⟩))
    go_ret3
    exact RetL1i.no _ b1
  have HNO : Hid (∀ k, k < m → fwk N F k = false → fwOk m N F m f2 = false) := fun k hk h => fw_no5 hk h
  have HYES : Hid (allB (fwk N F) m = true → fwOk m N F m f2 = true) := fun h => fw_yes h1 rfl h3 h4 h
  have HPL : Hid (∀ k, k < m → ∀ w', Below w.heap.size w w' → Calls Try.prog 19 #[.slice (some ⟨b k, 0, none⟩) (N k) (c k)] w' (RetV w' (.bool (plcOk (F k) (N k))))) := fun k hk w' hb => places_impl (N k) (b k) (c k) (F k) w' (IL.len k hk) ((IL.ints k hk).below hb)
  have HAL : Hid (∀ k, k < m → ∀ w', Below w.heap.size w w' → Calls Try.prog 17 #[.slice (some ⟨b k, 0, none⟩) (N k) (c k), .int .i64 0, .int .i64 1000] w' (RetV w' (.bool (allW (F k) 0 1000 (N k))))) := fun k hk w' hb => areWithin_any (N k) (b k) 0 (c k) (F k) 0 1000 w' (IL.len k hk) ((IL.ints k hk).below hb)
  have HTL : Hid (∀ k, k < m → plcOk (F k) (N k) = true → ∀ w', Below w.heap.size w w' → Calls Try.prog 18 #[.slice (some ⟨b k, 0, none⟩) (N k) (c k)] w' (fun e w'' => e = .returned (.int .i64 (fS N F k)) ∧ w' = w'')) := fun k hk hp w' hb => total_any (N k) (b k) 0 (c k) (F k) w' (IL.len k hk) ((IL.ints k hk).below hb) (sum_bds hp)
  have HTL0 := HTL
  have HLC : Hid (∀ k, k < m → ∀ w', Below w.heap.size w w' → w'.cell? ⟨g, k, none⟩ = some (.slice (some ⟨b k, 0, none⟩) (N k) (c k))) := fun k hk w' hb => (IL.below hb).cell k hk
  have HPB : Hid (∀ k, k ≤ m → allB (fwk N F) k = true → 0 < pr (sumTo f2 m) (fS N F) k ∧ pr (sumTo f2 m) (fS N F) k ≤ 36000000000000) := fun k hk h => pr_bd4 (n := k) (by omega) (by omega) hs2.2 (fun i hi => (fwk_is (allB_iff.1 h i hi)).2.2.1) k (Nat.le_refl _)
  have HLEN : Hid (∀ k, k < m → N k < 1000000000) := IL.len
  have HN0 : Hid (fwOk m N F m f2 = false → fwL m N F m f2 = [] ∧ fwA m N F m f2 = 0) := fun h => ⟨fwL_no h, fwA_no h⟩
  have HN1 : Hid (fwOk m N F m f2 = true → fwL m N F m f2 = tab (fW f2 F (fP m N F f2) (sumTo f2 m) (fS N F) m) (N 0) ∧ fwA m N F m f2 = fP m N F f2) := fun h => ⟨fwL_yes h, fwA_yes h⟩
  have HI2 : Hid (∀ k, k < m → ∀ w', Below w.heap.size w w' → w'.cell? ⟨g2, k, none⟩ = some (.int .i64 (f2 k))) := fun k hk w' hb => (I2.below hb).at0 k hk
  have HIF : Hid (∀ k, k < m → ∀ i, i < N k → ∀ w', Below w.heap.size w w' → w'.cell? ⟨b k, i, none⟩ = some (.int .i64 (F k i))) := fun k hk i hi w' hb => ((IL.ints k hk).below hb).at0 i hi
  obtain ⟨OK, hOK⟩ : ∃ OK, fwOk m N F m f2 = OK := ⟨_, rfl⟩
  obtain ⟨RL, hRL⟩ : ∃ RL, fwL m N F m f2 = RL := ⟨_, rfl⟩
  obtain ⟨RA, hRA⟩ : ∃ RA, fwA m N F m f2 = RA := ⟨_, rfl⟩
  have HFF : Hid (OK = true → FwF m N F f2) := fun h => fw_facts (hOK.trans h)
  have HWK : Hid (fP m N F f2 = pr (sumTo f2 m) (fS N F) m) := rfl
  rw [hOK] at HNO HYES HN0 HN1
  rw [hRL] at HN0 HN1
  rw [hRA] at HN0 HN1
  rw [hOK, hRL, hRA]
  clear hOK hRL hRA h1 h3 hsum IL
  have h4b : (sumTo f2 m == 0) = false := by simp [h4]
  have d1 : decide ((m : Int) < 1) = false := decide_eq_false (by omega)
  have d2 : decide (4 < (m : Int)) = false := decide_eq_false (by omega)
  go_enter Try.func8, Try.ntmps8
  go_wp2_with (first | (go_at_call 17; refine (HAW.out _ (Below.refl _ _)).mono ?_; rintro e w1 ⟨rfl, b1⟩) | (go_at_call 18; refine (HTM.out _ b1).mono ?_; rintro e w' ⟨rfl, rfl⟩))
  clear d1 d2 h4b
  go_loopw [44, 7] (fun i a wr => ∃ k : Nat, k ≤ m ∧ i = .int .i64 k ∧ a = .int .i64 (pr (sumTo f2 m) (fS N F) k) ∧ Hid (allB (fwk N F) k = true) ∧ Below w.heap.size w wr) (fun i _ _ => m - (intOf i).toNat)
  case atStart => exact ⟨0, Nat.zero_le _, rfl, rfl, rfl, b1⟩
  case round =>
    obtain ⟨k, hk, rfl, rfl, hall, hbr⟩ := hrel
    have hpb := HPB.out k hk hall.out
    by_cases hlt : k < m
    · have x1 := HLC.out k hlt _ hbr
      have l1 : (k : Int) < m := by omega
      have l0 : 0 < m := by omega
      have hlen := HLEN.out k hlt
      have hlen0 := HLEN.out 0 l0
      have HP := Lib.hid (HPL.out k hlt)
      cases hp : plcOk (F k) (N k)
      · have HO : Hid (OK = false) := HNO.out k hlt (fwk_no1 hp)
        obtain ⟨z1, z2⟩ := HN0.out HO.out
        rw [hp] at HP
        rw [z1, z2, HO.out]
        clear z1 z2
        go_wp2_with (first | (go_at_call 19; refine (HP.out _ hbr).mono ?_; rintro e w2 ⟨rfl, b2⟩; have hb2 := bnext hbr b2))
        go_ret3
        exact RetL1i.no _ hb2
      · rw [hp] at HP
        by_cases hn : N k = N 0
        case neg =>
          have HO : Hid (OK = false) := HNO.out k hlt (fwk_no2 hn)
          obtain ⟨z1, z2⟩ := HN0.out HO.out
          rw [z1, z2, HO.out]
          have hn' : ¬ ((N k : Int) = (N 0 : Int)) := by omega
          clear z1 z2
          go_wp2_with (first | (go_at_call 19; refine (HP.out _ hbr).mono ?_; rintro e w2 ⟨rfl, b2⟩; have hb2 := bnext hbr b2; have x2 := HLC.out 0 l0 _ hb2))
          go_ret3
          exact RetL1i.no _ hb2
        have HA := Lib.hid (HAL.out k hlt)
        have HT := Lib.hid (HTL.out k hlt hp)
        have hSe : Hid (fS N F k = sumTo (F k) (N k)) := rfl
        rw [hn] at x1 HP HA HT
        have HNK := Lib.hid hn
        clear hn
        cases ha : allW (F k) 0 1000 (N 0)
        · have HO : Hid (OK = false) := HNO.out k hlt (fwk_no3 (fun hs => by
            have : allW (F k) 0 1000 (N k) = true := allW_iff.2 (fun i hi => ⟨((plc_is hp).2.2.1 i hi).1, by have := plc_each hp hi; omega⟩)
            rw [HNK.out, ha] at this
            cases this))
          obtain ⟨z1, z2⟩ := HN0.out HO.out
          rw [z1, z2, HO.out]
          rw [ha] at HA
          clear z1 z2 ha hp
          go_wp2_with (first | (go_at_call 19; refine (HP.out _ hbr).mono ?_; rintro e w2 ⟨rfl, b2⟩; have hb2 := bnext hbr b2; have x2 := HLC.out 0 l0 _ hb2) | (go_at_call 17; refine (HA.out _ hb2).mono ?_; rintro e w3 ⟨rfl, b3⟩; have hb3 := bnext hb2 b3))
          go_ret3
          exact RetL1i.no _ hb3
        rw [ha] at HA
        by_cases hs : fS N F k ≤ 1000
        case neg =>
          have HO : Hid (OK = false) := HNO.out k hlt (fwk_no3 (by rw [← hSe.out]; exact hs))
          obtain ⟨z1, z2⟩ := HN0.out HO.out
          rw [z1, z2, HO.out]
          clear z1 z2 ha hp
          go_wp2_with (first | (go_at_call 19; refine (HP.out _ hbr).mono ?_; rintro e w2 ⟨rfl, b2⟩; have hb2 := bnext hbr b2; have x2 := HLC.out 0 l0 _ hb2) | (go_at_call 17; refine (HA.out _ hb2).mono ?_; rintro e w3 ⟨rfl, b3⟩; have hb3 := bnext hb2 b3) | (go_at_call 18; refine (HT.out _ hb3).mono ?_; rintro e w' ⟨rfl, rfl⟩))
          go_ret3
          exact RetL1i.no _ hb3
        have hkk : fwk N F k = true := fwk_yes hp HNK.out hs
        have hs0 : 0 < fS N F k := (plc_is hp).2.2.2.1.1
        have HAL2 := Lib.hid (allB_succ hall.out hkk)
        have hpb2 := HPB.out (k + 1) (by omega) HAL2.out
        have HE : Hid (pr (sumTo f2 m) (fS N F) (k + 1) = pr (sumTo f2 m) (fS N F) k * fS N F k) := rfl
        rw [HE.out] at hpb2
        have e1 : IntKind.i64.wrap (pr (sumTo f2 m) (fS N F) k * fS N F k) = pr (sumTo f2 m) (fS N F) k * fS N F k := IntWalk.i64_in _ (by omega)
        clear ha hp hkk
        go_wp2_with (first | (go_at_call 19; refine (HP.out _ hbr).mono ?_; rintro e w2 ⟨rfl, b2⟩; have hb2 := bnext hbr b2; have x2 := HLC.out 0 l0 _ hb2) | (go_at_call 17; refine (HA.out _ hb2).mono ?_; rintro e w3 ⟨rfl, b3⟩; have hb3 := bnext hb2 b3) | (go_at_call 18; refine (HT.out _ hb3).mono ?_; rintro e w' ⟨rfl, rfl⟩))
        go_roundw
        case rel => exact ⟨k + 1, by omega, by go_num, by rw [HE.out], HAL2, hb3⟩
        case measure => simp [intOf]; omega
    · obtain rfl : k = m := by omega
      have HO : Hid (OK = true) := HYES.out hall.out
      obtain ⟨z1, z2⟩ := HN1.out HO.out
      have hf := HFF.out HO.out
      have HF := Lib.hid hf
      have l0 : 0 < k := by omega
      have HN0' : Hid (∀ q, q < k → N q = N 0) := fun q hq => (fwk_is (hf.k q hq)).2.1
      have hN0 : N 0 ≤ 12 := (fwk_is (hf.k 0 l0)).2.2.2.1.2
      have HKP : Hid (∀ q, q < k → plcOk (F q) (N q) = true ∧ 0 < fS N F q ∧ ∀ i, i < N q → 0 ≤ F q i ∧ F q i ≤ 1000) := fun q hq => by obtain ⟨a, _, s, _, d⟩ := fwk_is (hf.k q hq); exact ⟨a, s.1, d⟩
      have HWB := Lib.hid hf.w
      have HMB := Lib.hid hf.m
      have HWN : Hid (∀ q i, fW f2 F (fP k N F f2) (sumTo f2 k) (fS N F) (q + 1) i = fW f2 F (fP k N F f2) (sumTo f2 k) (fS N F) q i + f2 q * F q i * (fP k N F f2 / sumTo f2 k / fS N F q)) := fun q i => rfl
      have HW0 : Hid (∀ i, fW f2 F (fP k N F f2) (sumTo f2 k) (fS N F) 0 i = 0) := fun i => rfl
      rw [HWK.out] at HWB HWN HW0 z1 z2
      obtain ⟨P, hP⟩ : ∃ P, pr (sumTo f2 k) (fS N F) k = P := ⟨_, rfl⟩
      obtain ⟨A, hA⟩ : ∃ A, sumTo f2 k = A := ⟨_, rfl⟩
      obtain ⟨WW, hWW⟩ : ∃ WW, fW f2 F P A (fS N F) = WW := ⟨_, rfl⟩
      have hPb := hf.p k (Nat.le_refl _)
      rw [hP] at hPb HWB HWN HW0 hpb z1 z2 ⊢
      rw [hA] at HWB HWN HW0 hs2 HTM z1 ⊢
      rw [hWW] at HWB HWN HW0 z1
      have Z1 := Lib.hid z1
      have Z2 := Lib.hid z2
      have hAp : 0 < A := by omega
      have HTAB : Hid (∀ i, tab (fun x => WW k x) i = tab (WW k) i) := fun i => rfl
      clear hf z1 z2 hP hA hWW h4 HWK HAW HPL HAL HTL HNO HYES HN0 HN1 HFF hpb HPB
      have q2 : Below wr.heap.size wr (wr.alloc (.cells #[] 2)) := by go_grown
      have y1 := HLC.out 0 l0 _ (bnext hbr q2)
      have hTL : Hid (∀ q, q < k → ∀ w', Below w.heap.size w w' → Calls Try.prog 18 #[.slice (some ⟨b q, 0, none⟩) (N q) (c q)] w' (fun e w'' => e = .returned (.int .i64 (fS N F q)) ∧ w'' = w')) := fun q hq w' hb => (HTL0.out q hq (HKP.out q hq).1 w' hb).mono (fun _ _ h => ⟨h.1, h.2.symm⟩)
      go_wp2_with fail
      generalize hwz : wr = wz at *
      clear hwz
      go_loopw [80, 10] (fun i v wr => ∃ x : Nat, x ≤ N 0 ∧ i = .int .i64 x ∧ Own 2 wr w.heap.size v (tab (WW k) x) ∧ Below w.heap.size w wr) (fun i _ _ => N 0 - (intOf i).toNat)
      case atStart => exact ⟨0, Nat.zero_le _, rfl, Own.made _ _ hbr.size, bnext hbr ((Below.refl _ _).alloc (Nat.le_refl _) _)⟩
      case round =>
        obtain ⟨x, hx, rfl, hown, hbx⟩ := hrel
        by_cases hxl : x < N 0
        · have l2 : (x : Int) < N 0 := by omega
          generalize hwA : wr = wA at *
          clear hwA
          go_wp2_with fail
          go_loopw [85, 12] (fun q s wr => ∃ y : Nat, y ≤ k ∧ q = .int .i64 y ∧ s = .int .i64 (WW y x) ∧ ∃ m, wr = wA.drewN m) (fun q _ _ => k - (intOf q).toNat)
          case atStart => exact ⟨0, Nat.zero_le _, rfl, by rw [HW0.out], 0, rfl⟩
          case round =>
            obtain ⟨y, hy, rfl, rfl, m, rfl⟩ := hrel
            by_cases hyl : y < k
            · have x1 := HLC.out y hyl _ hbx
              have x2 := HI2.out y hyl _ hbx
              have hNy := HN0'.out y hyl
              have x3 := HIF.out y hyl x (by omega) _ hbx
              have l3 : (y : Int) < k := by omega
              rw [hNy] at x1
              obtain ⟨_, s0, fb⟩ := HKP.out y hyl
              have f1 := fb x (by omega)
              have g1 := HMB.out y hyl
              have w1' := HWB.out y hy x hxl
              have w2' := HWB.out (y + 1) (by omega) x hxl
              have HN := Lib.hid (HWN.out y x)
              rw [HN.out] at w2'
              have HT1 : Hid (∀ m', Calls Try.prog 18 #[.slice (some ⟨g2, 0, none⟩) k c2] (wA.drewN m') (fun e w'' => e = .returned (.int .i64 A) ∧ w'' = wA.drewN m')) := fun m' => (HTM.out _ (Go.Proofs.Ytmkijibfgdeidaa.Below.drewN' hbx m')).mono (fun _ _ h => ⟨h.1, h.2.symm⟩)
              have HT2 : Hid (∀ m', Calls Try.prog 18 #[.slice (some ⟨b y, 0, none⟩) (N y) (c y)] (wA.drewN m') (fun e w'' => e = .returned (.int .i64 (fS N F y)) ∧ w'' = wA.drewN m')) := fun m' => hTL.out y hyl _ (Go.Proofs.Ytmkijibfgdeidaa.Below.drewN' hbx m')
              have hsh := share_bd hPb.1 hPb.2 hAp s0
              have hpr := prod_bd g1.1 g1.2 f1.1 f1.2 hsh.2.1 hsh.2.2
              obtain ⟨S, hS⟩ : ∃ S, fS N F y = S := ⟨_, rfl⟩
              rw [hS] at s0 HT2 hsh hpr HN w2'
              rw [hNy] at HT2
              have HSS := Lib.hid hS
              have e1 : IntKind.i64.wrap (f2 y * F y x) = f2 y * F y x := IntWalk.i64_in _ (by omega)
              have e2 : IntKind.i64.wrap (f2 y * F y x * (P / A / S)) = f2 y * F y x * (P / A / S) := IntWalk.i64_in _ (by omega)
              clear hS fb hNy
              go_wp2_with fail
              go_quiet ((first | (go_at_call 18; (with_reducible exact quietAt (HT1.out _))) | (go_at_call 18; (with_reducible exact quietAt (HT2.out _)))))
              go_wp2
              go_roundw
              case rel => exact ⟨y + 1, by omega, by go_num, by rw [HN.out], _, rfl⟩
              case measure => simp [intOf]; omega
            · obtain rfl : y = k := by omega
              have hown' := hown.drewN m
              have hb' := Go.Proofs.Ytmkijibfgdeidaa.Below.drewN' hbx m
              have HT := Lib.hid (tab_length (WW y) x)
              go_wp2_with (first | (at_builtin; refine wpList_app1 _ rfl _ _ 23 rfl (w.heap.size) 2 Try.infoI Try.underlying23 _ _ rfl hown' _ rfl (by have := HT.out; omega) (hb'.size) ?_; intro v' w5 hown5 hb5))
              go_roundw
              case rel => exact ⟨x + 1, by omega, by go_num, by rw [tab]; exact hown5, hb'.trans hb5⟩
              case measure => simp [intOf]; omega
        · obtain rfl : x = N 0 := by omega
          go_wp2_with fail
          go_ret3
          rw [Z1.out, Z2.out, HO.out]
          exact ⟨_, rfl, hown, by rw [tab_length]; omega, hbx⟩
end Go.Proofs.Ytmkijibfgdeidaa
