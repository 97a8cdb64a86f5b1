/-
  spec.FactorWeights gives what the plain law tells. Condition: fewer than 1000000000 integers in each list.
-/
import Derived.Test.YtmkijibfgdeidaaFactorI
import Derived.Test.YtmkijibfgdeidaaSharesP
import Derived.StillTailTactics
namespace Go.Proofs.Ytmkijibfgdeidaa
open Go.RowKit
set_option linter.unusedVariables false

def mixW (W : Nat → Nat → Int) (y x i : Nat) : Int := if i < x then W (y + 1) i else W y i
theorem mixW_zero (W : Nat → Nat → Int) (y n : Nat) : tab (mixW W y 0) n = tab (W y) n := tab_congr _ _ _ (fun i _ => by unfold mixW; rw [if_neg (by omega)])
theorem mixW_all (W : Nat → Nat → Int) (y n : Nat) : tab (mixW W y n) n = tab (W (y + 1)) n := tab_congr _ _ _ (fun i hi => by unfold mixW; rw [if_pos hi])
theorem mixW_at (W : Nat → Nat → Int) (y x : Nat) : mixW W y x x = W y x := by unfold mixW; rw [if_neg (by omega)]
theorem mixW_next (W : Nat → Nat → Int) (y x : Nat) : mixW W y (x + 1) x = W (y + 1) x := by unfold mixW; rw [if_pos (by omega)]
theorem mixW_other (W : Nat → Nat → Int) (y x : Nat) {i : Nat} (h : i ≠ x) : mixW W y x i = mixW W y (x + 1) i := by
  unfold mixW
  by_cases e : i < x
  · rw [if_pos e, if_pos (by omega)]
  · rw [if_neg e, if_neg (by omega)]
theorem spec_bd {P A s x y : Int} (p0 : 0 < P) (p1 : P ≤ 36000000000000) (a0 : 0 < A) (a1 : A ≤ 36) (s0 : 0 < s) (s1 : s ≤ 1000) (x0 : 0 ≤ x) (x1 : x ≤ 9) (y0 : 0 ≤ y) (y1 : y ≤ 1000) :
    (1 ≤ A * s ∧ A * s ≤ 36000) ∧ (0 ≤ P / (A * s) ∧ P / (A * s) ≤ 36000000000000) ∧ (0 ≤ P / (A * s) * x ∧ P / (A * s) * x ≤ 324000000000000) ∧ (0 ≤ P / (A * s) * x * y ∧ P / (A * s) * x * y ≤ 324000000000000000) := by
  have h1 : 0 < A * s := Int.mul_pos a0 s0
  have h2 : A * s ≤ 36 * 1000 := Int.mul_le_mul a1 s1 (by omega) (by omega)
  have h3 : 0 ≤ P / (A * s) := Int.ediv_nonneg (by omega) (by omega)
  have h4 : P / (A * s) ≤ P := Int.ediv_le_self _ (by omega)
  have h5 : 0 ≤ P / (A * s) * x := Int.mul_nonneg h3 x0
  have h6 : P / (A * s) * x ≤ 36000000000000 * 9 := Int.mul_le_mul (by omega) x1 x0 (by omega)
  have h7 : 0 ≤ P / (A * s) * x * y := Int.mul_nonneg h5 y0
  have h8 : P / (A * s) * x * y ≤ 324000000000000 * 1000 := Int.mul_le_mul (by omega) y1 y0 (by omega)
  omega
theorem fw_no6 {n m : Nat} {N : Nat → Nat} {F : Nat → Nat → Int} {f2 : Nat → Int} {k : Nat} (hk : k < m) (h : win (f2 k) 0 9 = false) : fwOk n N F m f2 = false := fw_no3 (allW_false k hk h)

set_option maxHeartbeats 6400000 in
set_option maxRecDepth 100000 in
theorem factor_spec (n g cg : Nat) (b N c : Nat → Nat) (F : Nat → Nat → Int) (m g2 c2 : Nat) (f2 : Nat → Int) (w : World) (m1 : n < 1000000000) (m2 : m < 1000000000)
    (IL : LsIn w g n b N c F) (I2 : Ints w g2 0 m f2) :
    Calls Try.prog 5 #[.slice (some ⟨g, 0, none⟩) n cg, .slice (some ⟨g2, 0, none⟩) m c2] w (RetL1i 2 w (fwL n N F m f2) (fwA n N F m f2) (fwOk n N F m f2)) := by
  by_cases h1 : win n 1 4 = true
  case neg =>
    have hf := fw_no1 (N := N) (F := F) (m := m) (f2 := f2) (Bool.eq_false_iff.2 h1)
    rw [fwL_no hf, fwA_no hf, hf]
    have h1' := win_not.1 (Bool.eq_false_iff.2 h1)
    clear hf h1
    rcases h1' with h1 | h1
    · go_enter Try.func5, Try.ntmps5
      go_wp2_with fail
      go_ret3
      exact RetL1i.no _ (Below.refl _ _)
    · go_enter Try.func5, Try.ntmps5
      go_wp2_with fail
      go_ret3
      exact RetL1i.no _ (Below.refl _ _)
  obtain ⟨n1, n4⟩ := win_iff.1 h1
  by_cases h2 : m = n
  case neg =>
    have hf := fw_no2 (N := N) (F := F) (f2 := f2) h2
    rw [fwL_no hf, fwA_no hf, hf]
    have h2' : ¬ ((m : Int) = n) := by omega
    have d0 : ((m : Int) != (n : Int)) = true := bne_iff_ne.2 h2'
    have d1 : decide ((n : Int) < 1) = false := decide_eq_false (by omega)
    have d2 : decide (4 < (n : Int)) = false := decide_eq_false (by omega)
    clear hf h1
    go_enter Try.func5, Try.ntmps5
    go_wp2_with fail
    go_ret3
    exact RetL1i.no _ (Below.refl _ _)
  subst h2
  have HNO : Hid (∀ k, k < m → fwk N F k = false → fwOk m N F m f2 = false) := fun k hk h => fw_no5 hk h
  have HNW : Hid (∀ k, k < m → win (f2 k) 0 9 = false → fwOk m N F m f2 = false) := fun k hk h => fw_no6 hk h
  have HN4 : Hid (sumTo f2 m = 0 → fwOk m N F m f2 = false) := fun h => fw_no4 h
  have HYES : Hid (allW f2 0 9 m = true → ¬ sumTo f2 m = 0 → allB (fwk N F) m = true → fwOk m N F m f2 = true) := fun h3 h4 h => fw_yes h1 rfl h3 h4 h
  have HPL : Hid (∀ k, k < m → ∀ w', Below w.heap.size w w' → Calls Try.prog 15 #[.slice (some ⟨b k, 0, none⟩) (N k) (c k)] w' (PlcOf (F k) (N k) w')) := fun k hk w' hb => places_spec (N k) (b k) (c k) (F k) w' (IL.len k hk) ((IL.ints k hk).below hb)
  have HLC : Hid (∀ k, k < m → ∀ w', Below w.heap.size w w' → w'.cell? ⟨g, k, none⟩ = some (.slice (some ⟨b k, 0, none⟩) (N k) (c k))) := fun k hk w' hb => (IL.below hb).cell k hk
  have HLEN : Hid (∀ k, k < m → N k < 1000000000) := IL.len
  have HN0 : Hid (fwOk m N F m f2 = false → fwL m N F m f2 = [] ∧ fwA m N F m f2 = 0) := fun h => ⟨fwL_no h, fwA_no h⟩
  have HN1 : Hid (fwOk m N F m f2 = true → fwL m N F m f2 = tab (fW f2 F (fP m N F f2) (sumTo f2 m) (fS N F) m) (N 0) ∧ fwA m N F m f2 = fP m N F f2) := fun h => ⟨fwL_yes h, fwA_yes h⟩
  have HI2 : Hid (∀ k, k < m → ∀ w', Below w.heap.size w w' → w'.cell? ⟨g2, k, none⟩ = some (.int .i64 (f2 k))) := fun k hk w' hb => (I2.below hb).at0 k hk
  have HIF : Hid (∀ k, k < m → ∀ i, i < N k → ∀ w', Below w.heap.size w w' → w'.cell? ⟨b k, i, none⟩ = some (.int .i64 (F k i))) := fun k hk i hi w' hb => ((IL.ints k hk).below hb).at0 i hi
  have HSM : Hid (∀ k, k ≤ m → allW f2 0 9 k = true → 0 ≤ sumTo f2 k ∧ sumTo f2 k ≤ 36) := fun k hk h => by
    have := allW_sum (f := f2) (n := k) (by omega) h k (Nat.le_refl _)
    exact this
  obtain ⟨OK, hOK⟩ : ∃ OK, fwOk m N F m f2 = OK := ⟨_, rfl⟩
  obtain ⟨RL, hRL⟩ : ∃ RL, fwL m N F m f2 = RL := ⟨_, rfl⟩
  obtain ⟨RA, hRA⟩ : ∃ RA, fwA m N F m f2 = RA := ⟨_, rfl⟩
  have HFF : Hid (OK = true → FwF m N F f2) := fun h => fw_facts (hOK.trans h)
  have HWK : Hid (fP m N F f2 = pr (sumTo f2 m) (fS N F) m) := rfl
  rw [hOK] at HNO HNW HN4 HYES HN0 HN1
  rw [hRL] at HN0 HN1
  rw [hRA] at HN0 HN1
  rw [hOK, hRL, hRA]
  clear hOK hRL hRA h1 IL
  have l0 : 0 < m := by omega
  have d1 : decide ((m : Int) < 1) = false := decide_eq_false (by omega)
  have d2 : decide (4 < (m : Int)) = false := decide_eq_false (by omega)
  go_enter Try.func5, Try.ntmps5
  go_wp2_with fail
  clear d1 d2
  go_loopw [9, 7, 8] (fun i a s wr => ∃ k : Nat, k ≤ m ∧ i = .int .i64 k ∧ a = .int .i64 (sumTo f2 k) ∧ Own 2 wr w.heap.size s (tab (fS N F) k) ∧ Hid (allB (fwk N F) k = true) ∧ Hid (allW f2 0 9 k = true) ∧ Below w.heap.size w wr) (fun i _ _ _ => m - (intOf i).toNat)
  case atStart => exact ⟨0, Nat.zero_le _, rfl, rfl, Own.made _ _ (Nat.le_refl _), rfl, rfl, (Below.refl _ _).alloc (Nat.le_refl _) _⟩
  case round =>
    obtain ⟨k, hk, rfl, rfl, hown, hall, hallw, hbr⟩ := hrel
    have hsk := HSM.out k hk hallw.out
    by_cases hlt : k < m
    · have x1 := HLC.out k hlt _ hbr
      have l1 : (k : Int) < m := by omega
      have hlen := HLEN.out k hlt
      have hlen0 := HLEN.out 0 l0
      have HP := Lib.hid (HPL.out k hlt _ hbr)
      cases hp : plcOk (F k) (N k)
      · have HO : Hid (OK = false) := HNO.out k hlt (fwk_no1 hp)
        obtain ⟨z1, z2⟩ := HN0.out HO.out
        have HP2 : Hid (Calls Try.prog 15 #[.slice (some ⟨b k, 0, none⟩) (N k) (c k)] wr (fun e w' => ∃ s : Int, e = .returned (.tuple #[.int .i64 s, .bool false]) ∧ wr = w')) := HP.out.mono (fun e w' ⟨s, he, _, hw⟩ => ⟨s, by rw [he, hp], hw⟩)
        rw [z1, z2, HO.out]
        clear z1 z2 hp HP
        go_wp2_with (first | (go_at_call 15; refine HP2.out.mono ?_; rintro e w2 ⟨s, rfl, rfl⟩))
        go_quiet (fail)
        go_wp2
        go_ret3
        exact RetL1i.no _ (Go.Proofs.Ytmkijibfgdeidaa.Below.drewN' hbr nq)
      · have hS0 := (plc_is hp).2.2.2.1
        have HP2 : Hid (Calls Try.prog 15 #[.slice (some ⟨b k, 0, none⟩) (N k) (c k)] wr (fun e w' => e = .returned (.tuple #[.int .i64 (fS N F k), .bool true]) ∧ wr = w')) := HP.out.mono (fun e w' ⟨s, he, hs, hw⟩ => ⟨by rw [he, hp, hs hp]; rfl, hw⟩)
        have hSe : Hid (fS N F k = sumTo (F k) (N k)) := rfl
        rw [← hSe.out] at hS0
        clear HP
        by_cases hs : fS N F k ≤ 1000
        case neg =>
          have HO : Hid (OK = false) := HNO.out k hlt (fwk_no3 (by rw [← hSe.out]; exact hs))
          obtain ⟨z1, z2⟩ := HN0.out HO.out
          rw [z1, z2, HO.out]
          clear z1 z2 hp
          go_wp2_with (first | (go_at_call 15; refine HP2.out.mono ?_; rintro e w2 ⟨rfl, rfl⟩))
          go_quiet (fail)
          go_wp2
          go_ret3
          exact RetL1i.no _ (Go.Proofs.Ytmkijibfgdeidaa.Below.drewN' hbr nq)
        have x0 := HLC.out 0 l0 _ hbr
        by_cases hn : N k = N 0
        case neg =>
          have HO : Hid (OK = false) := HNO.out k hlt (fwk_no2 hn)
          obtain ⟨z1, z2⟩ := HN0.out HO.out
          rw [z1, z2, HO.out]
          have hn' : ¬ ((N k : Int) = (N 0 : Int)) := by omega
          clear z1 z2 hp
          go_wp2_with (first | (go_at_call 15; refine HP2.out.mono ?_; rintro e w2 ⟨rfl, rfl⟩))
          go_quiet (fail)
          go_wp2
          go_ret3
          exact RetL1i.no _ (Go.Proofs.Ytmkijibfgdeidaa.Below.drewN' hbr nq)
        have hkk : fwk N F k = true := fwk_yes hp hn hs
        have HAL2 := Lib.hid (allB_succ hall.out hkk)
        rw [hn] at x1 HP2
        clear hn hp hkk
        have x2 := HI2.out k hlt _ hbr
        have HIN : Hid (∀ q, Calls Try.prog 16 #[.int .i64 (f2 k), .int .i64 0, .int .i64 9] (wr.drewN q) (fun e w'' => e = .returned (.bool (win (f2 k) 0 9)) ∧ ∃ p, w'' = wr.drewN p)) := fun q => (spec_l00In_any _ _ _ _).mono (fun e w'' h => ⟨h.1, q, h.2.symm⟩)
        cases hw : win (f2 k) 0 9
        · have HO : Hid (OK = false) := HNW.out k hlt hw
          obtain ⟨z1, z2⟩ := HN0.out HO.out
          rw [z1, z2, HO.out]
          rw [hw] at HIN
          clear z1 z2 hw
          go_wp2_with (first | (go_at_call 15; refine HP2.out.mono ?_; rintro e w2 ⟨rfl, rfl⟩))
          go_quiet ((go_at_call 16; (with_reducible exact HIN.out _)))
          go_wp2
          go_ret3
          exact RetL1i.no _ (Go.Proofs.Ytmkijibfgdeidaa.Below.drewN' hbr nq)
        have HW2 := Lib.hid (allW_succ hallw.out hw)
        have hsk2 := HSM.out (k + 1) (by omega) HW2.out
        have HE : Hid (sumTo f2 (k + 1) = sumTo f2 k + f2 k) := rfl
        rw [HE.out] at hsk2
        rw [hw] at HIN
        have hsz := hbr.size
        have HT := Lib.hid (tab_length (fS N F) k)
        have HY : Hid (∀ w', Below w.heap.size w w' → w'.cell? ⟨g2, k, none⟩ = some (.int .i64 (f2 k))) := HI2.out k hlt
        clear hw
        go_wp2_with (first | (go_at_call 15; refine HP2.out.mono ?_; rintro e w2 ⟨rfl, rfl⟩))
        go_quiet ((go_at_call 16; (with_reducible exact HIN.out _)))
        have hown' := hown.drewN nq
        have hb' := Go.Proofs.Ytmkijibfgdeidaa.Below.drewN' hbr nq
        clear hown x2 x0 x1
        go_wp2_with (first | (at_builtin; refine wpList_app1 _ rfl _ _ 23 rfl (w.heap.size) 2 Try.infoI Try.underlying23 _ _ rfl hown' _ rfl (by have := HT.out; omega) hb'.size ?_; intro v' w5 hown5 hb5; have B5 := hb'.trans hb5; have y5 := HY.out _ B5))
        go_roundw
        case rel => exact ⟨k + 1, by omega, by go_num, by rw [HE.out], by rw [tab]; exact hown5, HAL2, HW2, B5⟩
        case measure => simp [intOf]; omega
    · obtain rfl : k = m := by omega
      by_cases h4 : sumTo f2 k = 0
      · have HO : Hid (OK = false) := HN4.out h4
        obtain ⟨z1, z2⟩ := HN0.out HO.out
        have Z1 := Lib.hid z1
        have Z2 := Lib.hid z2
        clear z1 z2
        go_wp2_with fail
        go_ret3
        rw [Z1.out, Z2.out, HO.out]
        exact RetL1i.no _ hbr
      have HO : Hid (OK = true) := HYES.out hallw.out h4 hall.out
      obtain ⟨z1, z2⟩ := HN1.out HO.out
      have hf := HFF.out HO.out
      have HN0' : Hid (∀ q, q < k → N q = N 0) := fun q hq => (fwk_is (hf.k q hq)).2.1
      have hN0 : 1 ≤ N 0 ∧ N 0 ≤ 12 := (fwk_is (hf.k 0 l0)).2.2.2.1
      have HKP : Hid (∀ q, q < k → (0 < fS N F q ∧ fS N F q ≤ 1000) ∧ ∀ i, i < N q → 0 ≤ F q i ∧ F q i ≤ 1000) := fun q hq => by obtain ⟨a, _, s, _, d⟩ := fwk_is (hf.k q hq); exact ⟨s, d⟩
      have HWB := Lib.hid hf.w
      have HMB := Lib.hid hf.m
      have HPB := Lib.hid hf.p
      have HWN : Hid (∀ q i, fW f2 F (fP k N F f2) (sumTo f2 k) (fS N F) (q + 1) i = fW f2 F (fP k N F f2) (sumTo f2 k) (fS N F) q i + f2 q * F q i * (fP k N F f2 / sumTo f2 k / fS N F q)) := fun q i => rfl
      have HW0 : Hid (∀ i, fW f2 F (fP k N F f2) (sumTo f2 k) (fS N F) 0 i = 0) := fun i => rfl
      have HPN : Hid (∀ q, pr (sumTo f2 k) (fS N F) (q + 1) = pr (sumTo f2 k) (fS N F) q * fS N F q) := fun q => rfl
      have HP0 : Hid (pr (sumTo f2 k) (fS N F) 0 = sumTo f2 k) := rfl
      have hPb := hf.p k (Nat.le_refl _)
      have hAp := hf.a
      rw [HWK.out] at HWB HWN HW0 z1 z2
      obtain ⟨PP, hPP⟩ : ∃ PP, pr (sumTo f2 k) (fS N F) = PP := ⟨_, rfl⟩
      obtain ⟨A, hA⟩ : ∃ A, sumTo f2 k = A := ⟨_, rfl⟩
      rw [hPP] at hPb HWB HWN HW0 HPB HPN HP0 z1 z2
      obtain ⟨P, hP⟩ : ∃ P, PP k = P := ⟨_, rfl⟩
      rw [hP] at hPb HWB HWN HW0 z1 z2
      rw [hA] at HWB HWN HW0 HP0 hAp z1 hsk h4 ⊢
      obtain ⟨WW, hWW⟩ : ∃ WW, fW f2 F P A (fS N F) = WW := ⟨_, rfl⟩
      rw [hWW] at HWB HWN HW0 z1
      have Z1 := Lib.hid z1
      have Z2 := Lib.hid z2
      have HPK := Lib.hid hP
      clear hf z1 z2 hA hWW hPP hP HWK HPL HNO HYES HN0 HN1 HFF HNW HN4 HSM
      obtain ⟨gs, cs, rfl, s1, s2⟩ := hown.formTs (by omega)
      have HSC : Hid (∀ q, q < k → wr.cell? ⟨gs, q, none⟩ = some (.int .i64 (fS N F q))) := fun q hq => hown.cellTab q hq
      have hsz := hbr.size
      have y1 := HLC.out 0 l0 _ hbr
      generalize hwz : wr = wz at *
      clear hwz hown
      go_wp2_with fail
      go_loopw [13, 12] (fun i p wr => ∃ q : Nat, q ≤ k ∧ i = .int .i64 q ∧ p = .int .i64 (PP q) ∧ wr = wz) (fun i _ _ => k - (intOf i).toNat)
      case atStart => exact ⟨0, Nat.zero_le _, rfl, by rw [HP0.out], rfl⟩
      case round =>
        obtain ⟨q, hq, rfl, rfl, rfl⟩ := hrel
        by_cases hql : q < k
        · have d1 := HSC.out q hql
          have l2 : (q : Int) < k := by omega
          have p2 := HPB.out (q + 1) (by omega)
          have HN := Lib.hid (HPN.out q)
          rw [HN.out] at p2
          have e1 : IntKind.i64.wrap (PP q * fS N F q) = PP q * fS N F q := IntWalk.i64_in _ (by omega)
          go_wp2_with fail
          go_roundw
          case rel => exact ⟨q + 1, by omega, by go_num, by rw [HN.out], trivial⟩
          case measure => simp [intOf]; omega
        · obtain rfl : q = k := by omega
          rw [HPK.out]
          have T0 : Hid (List.replicate (N 0) 0 = tab (WW 0) (N 0)) := tab_rep (N 0) _ (fun i => HW0.out i)
          go_wp2_with (first | (at_make; refine wpList_mk _ rfl _ _ 23 rfl wr.heap.size 2 Try.infoI Try.underlying23 _ _ _ _ (N 0) rfl rfl rfl rfl (by omega) (Nat.le_refl _) ?_; intro w4 hown4 hb4))
          rw [T0.out] at hown4
          generalize hwz : wr = wz at *
          clear hwz
          go_loopw [15] (fun i wr => ∃ y : Nat, y ≤ q ∧ i = .int .i64 y ∧ Own 2 wr wz.heap.size (.slice (some ⟨wz.heap.size, 0, none⟩) (N 0) (N 0)) (tab (WW y) (N 0)) ∧ Below wz.heap.size wz wr) (fun i _ => q - (intOf i).toNat)
          case atStart => exact ⟨0, Nat.zero_le _, rfl, hown4, hb4⟩
          case round =>
            obtain ⟨y, hy, rfl, howy, hby⟩ := hrel
            by_cases hyl : y < q
            · have l3 : (y : Int) < q := by omega
              rw [← mixW_zero] at howy
              generalize hwA : wr = wA at *
              clear hwA
              go_wp2_with fail
              go_loopw [16] (fun i wr => ∃ x : Nat, x ≤ N 0 ∧ i = .int .i64 x ∧ Own 2 wr wz.heap.size (.slice (some ⟨wz.heap.size, 0, none⟩) (N 0) (N 0)) (tab (mixW WW y x) (N 0)) ∧ Below wz.heap.size wz wr) (fun i _ => N 0 - (intOf i).toNat)
              case atStart => exact ⟨0, Nat.zero_le _, rfl, howy, hby⟩
              case round =>
                obtain ⟨x, hx, rfl, howx, hbx⟩ := hrel
                by_cases hxl : x < N 0
                · have B := hbr.trans (hbx.mono hsz)
                  have x1 := HLC.out y hyl _ B
                  have x2 := HI2.out y hyl _ B
                  have hNy := HN0'.out y hyl
                  have x3 := HIF.out y hyl x (by omega) _ B
                  have x4 := Below.cellOf hbx rfl (HSC.out y hyl)
                  have x5 := howx.cellTab x hxl
                  have x6 := howx.freeAt x
                  rw [mixW_at] at x5
                  rw [hNy] at x1
                  have l4 : (x : Int) < N 0 := by omega
                  obtain ⟨⟨s0, s1'⟩, fb⟩ := HKP.out y hyl
                  have f1 := fb x (by omega)
                  have g1 := HMB.out y hyl
                  have w1' := HWB.out y hy x hxl
                  have w2' := HWB.out (y + 1) (by omega) x hxl
                  have HN := HWN.out y x
                  rw [← share_eq hAp.1 (f2 y) (F y x)] at HN
                  have HN := Lib.hid HN
                  rw [HN.out] at w2'
                  have hsb := spec_bd hPb.1 hPb.2 hAp.1 hAp.2 s0 s1' g1.1 g1.2 f1.1 f1.2
                  have hNXT : Own 2 (wr.drew.setCell ⟨wz.heap.size, x, none⟩ (.int .i64 (WW y x + P / (A * fS N F y) * f2 y * F y x))) wz.heap.size (.slice (some ⟨wz.heap.size, 0, none⟩) (N 0) (N 0)) (tab (mixW WW y (x + 1)) (N 0)) := (howx.below (Below.drew (Below.refl _ wr))).tabSet _ x hxl _ (by rw [mixW_next, HN.out]) (fun i _ hi => mixW_other WW y x hi)
                  have HNXT := Lib.hid hNXT
                  obtain ⟨S, hS⟩ : ∃ S, fS N F y = S := ⟨_, rfl⟩
                  rw [hS] at s0 hsb x4 w2' HNXT
                  obtain ⟨D, hD⟩ : ∃ D, A * S = D := ⟨_, rfl⟩
                  rw [hD] at hsb w2' HNXT
                  have e0 : IntKind.i64.wrap (A * S) = D := by rw [hD]; exact IntWalk.i64_in _ (by omega)
                  have hDn : ¬ D = 0 := by omega
                  have e1 : IntKind.i64.wrap (P / D * f2 y) = P / D * f2 y := IntWalk.i64_in _ (by omega)
                  have e2 : IntKind.i64.wrap (P / D * f2 y * F y x) = P / D * f2 y * F y x := IntWalk.i64_in _ (by omega)
                  have e3 : IntKind.i64.wrap (WW y x + P / D * f2 y * F y x) = WW y x + P / D * f2 y * F y x := IntWalk.i64_in _ (by omega)
                  clear hS hD hNy fb hNXT
                  go_wp2_with fail
                  go_still_tail 27, (by kernel_rfl)
                  change wpList _ _ _ _ _ wr.drew
                  go_wp2
                  go_roundw
                  case rel => exact ⟨x + 1, by omega, by go_num, HNXT.out, hbx.drew.setCell (Nat.le_refl _) _⟩
                  case measure => simp [intOf]; omega
                · obtain rfl : x = N 0 := by omega
                  rw [mixW_all] at howx
                  go_wp2_with fail
                  go_roundw
                  case rel => exact ⟨y + 1, by omega, by go_num, howx, hbx⟩
                  case measure => simp [intOf]; omega
            · obtain rfl : y = q := by omega
              go_wp2_with fail
              go_ret3
              rw [Z1.out, Z2.out, HO.out]
              exact ⟨_, rfl, howy.mono hsz, by rw [tab_length]; omega, hbr.trans (hby.mono hsz)⟩

def fF (X : RecL) (k i : Nat) : Int := (X.f k).getD i 0
def fNn (X : RecL) (k : Nat) : Nat := (X.f k).length
def FactorWeights_r0 (X : RecL) (xs : List Int) : List Int := fwL X.length (fNn X) (fF X) xs.length (fun i => xs.getD i 0)
def FactorWeights_r1 (X : RecL) (xs : List Int) : Int := fwA X.length (fNn X) (fF X) xs.length (fun i => xs.getD i 0)
def FactorWeights_r2 (X : RecL) (xs : List Int) : Bool := fwOk X.length (fNn X) (fF X) xs.length (fun i => xs.getD i 0)
theorem FactorWeights_impl {w : World} {B T B2 : Nat} {v u : Value} {X : RecL} {xs : List Int} (h : RowII 2 w B T v X) (h2 : RowI 2 w B2 u xs) : Calls Try.prog 8 #[v, u] w (RetL1i 2 w (FactorWeights_r0 X xs) (FactorWeights_r1 X xs) (FactorWeights_r2 X xs)) := by
  obtain ⟨g, b, c, rfl, m1, IL⟩ := h.ls
  obtain ⟨g2, c2, rfl, _, _, _, _, I2, _, m2⟩ := h2.form
  exact factor_impl _ g _ b _ c _ _ g2 c2 _ w m1 m2 IL I2
theorem FactorWeights_spec {w : World} {B T B2 : Nat} {v u : Value} {X : RecL} {xs : List Int} (h : RowII 2 w B T v X) (h2 : RowI 2 w B2 u xs) : Calls Try.prog 5 #[v, u] w (RetL1i 2 w (FactorWeights_r0 X xs) (FactorWeights_r1 X xs) (FactorWeights_r2 X xs)) := by
  obtain ⟨g, b, c, rfl, m1, IL⟩ := h.ls
  obtain ⟨g2, c2, rfl, _, _, _, _, I2, _, m2⟩ := h2.form
  exact factor_spec _ g _ b _ c _ _ g2 c2 _ w m1 m2 IL I2
end Go.Proofs.Ytmkijibfgdeidaa
