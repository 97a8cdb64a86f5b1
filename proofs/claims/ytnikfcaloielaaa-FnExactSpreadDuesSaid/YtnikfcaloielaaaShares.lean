/-
  spec.l04Shares gives the parts by the greatest rests. Conditions: 1 to 12 weights of at least 0, their sum above 0, a number of 0 to 1000000000.
-/
import Derived.Test.YtnikfcaloielaaaPartP
import Derived.Test.YtnikfcaloielaaaBoolRow
import Derived.Test.YtnikfcaloielaaaSmall
import Derived.Test.YtnikfcaloielaaaTotal
import Derived.Deep.QuietTactic
import Derived.BigQuiet
namespace Go.Proofs.Ytnikfcaloielaaa
open Go.RowKit
set_option linter.unusedVariables false

theorem Own.formTs {E : TypeId} {w : World} {B n : Nat} {v : Value} {f : Nat → Int} (h : Own E w B v (tab f n)) (hn : 1 ≤ n) : ∃ g cap, v = .slice (some ⟨g, 0, none⟩) n cap ∧ B ≤ g ∧ g < w.heap.size := by
  rcases h.form with ⟨_, h0⟩ | ⟨g, cap, hv, h1, h2, _⟩
  · have := congrArg List.length h0
    rw [tab_length] at this
    simp at this
    omega
  · rw [tab_length] at hv
    exact ⟨g, cap, hv, h1, h2⟩

/-- The first of the greatest of the first k numbers that are not negative; -1 where there is none. -/
def sB (R : Nat → Int) : Nat → Int
  | 0 => -1
  | k + 1 => if 0 ≤ R k ∧ (sB R k < 0 ∨ R (sB R k).toNat < R k) then k else sB R k
theorem sB_is (R : Nat → Int) : ∀ k, (sB R k = -1 ∧ ∀ i, i < k → R i < 0) ∨ (∃ b : Nat, sB R k = b ∧ Best R k b ∧ 0 ≤ R b) := by
  intro k
  induction k with
  | zero => exact .inl ⟨rfl, fun i h => by omega⟩
  | succ k ih =>
    rcases ih with ⟨h1, h2⟩ | ⟨b, h1, h2, h3⟩
    · by_cases hk : 0 ≤ R k
      · right
        refine ⟨k, ?_, ⟨by omega, fun i hi hne => .inl (by have := h2 i (by omega); omega)⟩, hk⟩
        simp only [sB]
        rw [if_pos ⟨hk, .inl (by omega)⟩]
      · left
        refine ⟨?_, fun i hi => ?_⟩
        · simp only [sB]
          rw [if_neg (by omega)]
          exact h1
        · by_cases e : i = k
          · subst e; omega
          · exact h2 i (by omega)
    · right
      have eb : (sB R k).toNat = b := by omega
      have hb := h2.1
      by_cases hk : R b < R k
      · refine ⟨k, ?_, ⟨by omega, fun i hi hne => .inl ?_⟩, by omega⟩
        · simp only [sB]
          rw [if_pos ⟨by omega, .inr (by rw [eb]; exact hk)⟩]
        · by_cases e : i = b
          · subst e; exact hk
          · have := h2.2 i (by omega) e
            omega
      · refine ⟨b, ?_, ⟨by omega, fun i hi hne => ?_⟩, h3⟩
        · simp only [sB]
          rw [if_neg (by rw [eb]; omega)]
          exact h1
        · by_cases e : i = k
          · subst e; omega
          · exact h2.2 i (by omega) hne
theorem sB_gB {R : Nat → Int} {n : Nat} (h : ∃ i, i < n ∧ 0 ≤ R i) : sB R n = gB R n := by
  rcases sB_is R n with ⟨_, h2⟩ | ⟨b, h1, h2, _⟩
  · obtain ⟨i, h3, h4⟩ := h
    have := h2 i h3
    omega
  · rw [h1, best_gB h2]

set_option maxHeartbeats 3200000 in
set_option maxRecDepth 100000 in
theorem shares_any (n g cp : Nat) (c s : Int) (f : Nat → Int) (w : World) (n1 : 1 ≤ n) (n12 : n ≤ 12) (c0 : 0 ≤ c) (c1 : c ≤ 1000000000) (hf : ∀ i, i < n → 0 ≤ f i ∧ f i ≤ 1000000000) (hs : 0 < sumTo f n) (hse : sumTo f n = s) (hI : Ints w g 0 n f) :
    Calls Try.prog 50 #[.int .i64 c, .slice (some ⟨g, 0, none⟩) n cp, .int .i64 s] w (fun e w' => ∃ v, e = .returned v ∧ Own 2 w' w.heap.size v (tab (ptO c f n) n) ∧ Below w.heap.size w w') := by
  have hsb := sumTo_bd hf (Int.le_refl _) (by omega) n (Nat.le_refl _)
  have HL0 : Hid (∀ k, k ≤ n → 0 ≤ pL c f (sumTo f n) k ∧ pL c f (sumTo f n) k ≤ c) := pL_lo c0 (fun i hi => (hf i hi).1) hs
  have HQ0 : Hid (∀ k, k < n → 0 ≤ pQ c f (sumTo f n) k ∧ pQ c f (sumTo f n) k ≤ c) := fun k hk => pQ_bd hs c0 (hf k hk).1 (sumTo_ge n (fun i hi => (hf i hi).1) k hk)
  have HR0 : Hid (∀ k, 0 ≤ pR c f (sumTo f n) k ∧ pR c f (sumTo f n) k < sumTo f n) := fun k => pR_bd hs k
  have HLN : Hid (pL c f (sumTo f n) n < n) := (pL_bd (by omega) hs).2
  have HLS : Hid (∀ k, pL c f (sumTo f n) (k + 1) = pL c f (sumTo f n) k - pQ c f (sumTo f n) k) := fun k => pL_step k
  have HL00 : Hid (pL c f (sumTo f n) 0 = c) := by show c - 0 = c; omega
  have HQE : Hid (∀ k, c * f k / sumTo f n = pQ c f (sumTo f n) k ∧ c * f k % sumTo f n = pR c f (sumTo f n) k) := fun k => ⟨rfl, rfl⟩
  have HP : Hid (∀ k, k < n → 0 ≤ c * f k ∧ c * f k ≤ 1000000000000000000) := fun k hk => by
    have h := hf k hk
    have : c * f k ≤ 1000000000 * 1000000000 := Int.mul_le_mul c1 h.2 h.1 (by omega)
    exact ⟨Int.mul_nonneg c0 h.1, by omega⟩
  have HPT : Hid (∀ j : Nat, (j : Int) = pL c f (sumTo f n) n → gO (pQ c f (sumTo f n)) (pR c f (sumTo f n)) n j = ptO c f n) := fun j hj => by unfold ptO; rw [show (pL c f (sumTo f n) n).toNat = j by omega]
  have HSOME : Hid (∀ j, j < n → sB (gR (pR c f (sumTo f n)) n j) n = gB (gR (pR c f (sumTo f n)) n j) n) := fun j hj => sB_gB (gR_some (fun i _ => (pR_bd hs i).1) hj)
  have HOB : Hid (∀ j i, i < n → 0 ≤ gO (pQ c f (sumTo f n)) (pR c f (sumTo f n)) n j i ∧ gO (pQ c f (sumTo f n)) (pR c f (sumTo f n)) n j i ≤ c + j) := fun j i hi => gO_bd (fun i hi => HQ0.out i hi) j i hi
  have HCK : Hid (∀ k, k < n → ∀ w', Below w.heap.size w w' → w'.cell? ⟨g, k, none⟩ = some (.int .i64 (f k))) := fun k hk w' hb => (hI.below hb).at0 k hk
  rw [hse] at hs hsb HL0 HQ0 HR0 HLN HLS HL00 HQE HPT HSOME HOB
  obtain ⟨q, hq⟩ : ∃ q, pQ c f s = q := ⟨_, rfl⟩
  obtain ⟨r, hr⟩ : ∃ r, pR c f s = r := ⟨_, rfl⟩
  rw [hq] at HQ0 HLS HQE HPT HOB
  rw [hr] at HR0 HQE HPT HSOME HOB
  clear hf hse hq hr
  go_enter Try.func50, Try.ntmps50
  go_wp2_with fail
  go_loopw [10, 7, 8, 9] (fun i v u l wr => ∃ k : Nat, k ≤ n ∧ i = .int .i64 k ∧ l = .int .i64 (pL c f s k) ∧ Own 2 wr w.heap.size v (tab q k) ∧ Own 2 wr w.heap.size u (tab r k) ∧ Hid (Apart v u) ∧ Below w.heap.size w wr) (fun i _ _ _ _ => n - (intOf i).toNat)
  case atStart =>
    have q1 : Below w.heap.size w (w.alloc (.cells #[] 2)) := by go_grown
    have q2 : Below (w.alloc (.cells #[] 2)).heap.size (w.alloc (.cells #[] 2)) ((w.alloc (.cells #[] 2)).alloc (.cells #[] 2)) := by go_grown
    have hz1 : (w.alloc (.cells #[] 2)).heap.size = w.heap.size + 1 := by simp
    have A2 := Own.made 2 (w.alloc (.cells #[] 2)) (B := w.heap.size) (by omega)
    rw [hz1] at A2
    exact ⟨0, Nat.zero_le _, rfl, by rw [HL00.out], (Own.made 2 w (Nat.le_refl _)).below q2, A2, Apart.two (by omega), bnext q1 q2⟩
  case round =>
    obtain ⟨k, hk, rfl, rfl, hv, hu, hd, hbr⟩ := hrel
    have hL := HL0.out k hk
    by_cases hlt : k < n
    · have hc := HCK.out k hlt _ hbr
      have hp := HP.out k hlt
      have hq := HQ0.out k hlt
      have hr := HR0.out k
      obtain ⟨he1, he2⟩ := HQE.out k
      have hL2 := HL0.out (k + 1) (by omega)
      rw [HLS.out] at hL2
      obtain ⟨L, hLe⟩ : ∃ L, pL c f s k = L := ⟨_, rfl⟩
      have HLe := Lib.hid hLe
      rw [hLe] at hL hL2
      obtain ⟨Q, hQe⟩ : ∃ Q, q k = Q := ⟨_, rfl⟩
      obtain ⟨R, hRe⟩ : ∃ R, r k = R := ⟨_, rfl⟩
      rw [hQe] at hq he1 hL2
      rw [hRe] at hr he2
      have HQe := Lib.hid hQe
      have HRe := Lib.hid hRe
      have e1 : IntKind.i64.wrap (c * f k) = c * f k := IntWalk.i64_in _ (by omega)
      have e2 : (c * f k).tdiv s = Q := by rw [Int.tdiv_eq_ediv_of_nonneg hp.1]; exact he1
      have e3 : (c * f k).tmod s = R := by rw [Int.tmod_eq_emod_of_nonneg hp.1]; exact he2
      have s1 : ¬ s = 0 := by omega
      have HT1 := Lib.hid (tab_len8s (f := q) (k := k) (by omega))
      have HT2 := Lib.hid (tab_len8s (f := r) (k := k) (by omega))
      rw [hLe]
      clear hLe hQe hRe
      go_wp2_with (first | (at_builtin; refine wpList_app2 _ rfl _ _ 22 rfl w.heap.size 2 Try.infoI Try.underlying22 _ _ rfl hv _ rfl (by have := HT1.out; omega) hbr.size ?_; intro v' w4 hv4 hb4 hs4; have hc4 := HCK.out k hlt _ (hbr.trans hb4); have hu4 := (hs4 _ _ _ hu hd.out).1; have hd4 := (hs4 _ _ _ hu hd.out).2; have hbr4 := hbr.trans hb4) | (at_builtin; refine wpList_app2 _ rfl _ _ 22 rfl w.heap.size 2 Try.infoI Try.underlying22 _ _ rfl hu4 _ rfl (by have := HT2.out; omega) hbr4.size ?_; intro u' w5 hu5 hb5 hs5))
      have hv5 := hs5 _ _ _ hv4 hd4.symm
      rw [← HQe.out] at hv5
      rw [← HRe.out] at hu5
      go_roundw
      case rel => exact ⟨k + 1, by omega, by go_num, by rw [HLS.out, HLe.out, HQe.out], by rw [tab]; exact hv5.1, by rw [tab]; exact hu5, hv5.2.symm, hbr4.trans hb5⟩
      case measure => simp [intOf]; omega
    · obtain rfl : k = n := by omega
      obtain ⟨gv, cv, rfl, v1, v2⟩ := hv.formTs n1
      obtain ⟨gu, cu, rfl, u1, u2⟩ := hu.formTs n1
      have hne : gv ≠ gu := fun e => hd.out gv rfl (by rw [e]; rfl)
      obtain ⟨L, hL0⟩ := Int.eq_ofNat_of_zero_le hL.1
      have HLe := Lib.hid hL0
      have hLk : L < k := by have := HLN.out; omega
      have hLc : (L : Int) ≤ c := by omega
      rw [hL0]
      clear hL hL0
      go_wp2_with fail
      go_loopw [9] (fun l wr => ∃ j : Nat, j ≤ L ∧ l = .int .i64 ((L - j : Nat) : Int) ∧ Own 2 wr w.heap.size (.slice (some ⟨gv, 0, none⟩) k cv) (tab (gO q r k j) k) ∧ Own 2 wr w.heap.size (.slice (some ⟨gu, 0, none⟩) k cu) (tab (gR r k j) k) ∧ Below w.heap.size w wr) (fun l _ => (intOf l).toNat)
      case atStart => exact ⟨0, Nat.zero_le _, by rw [Nat.sub_zero], hv, hu, hbr⟩
      case round =>
        obtain ⟨j, hj, rfl, hv, hu, hbr⟩ := hrel
        by_cases hlt2 : j < L
        · obtain ⟨li, hli⟩ : ∃ li : Int, ((L - j : Nat) : Int) = li := ⟨_, rfl⟩
          have li0 : 0 < li ∧ li ≤ 100 := by omega
          rw [hli]
          have HLI := Lib.hid hli
          clear hli
          have HS := Lib.hid (HSOME.out j (by omega))
          have HCU : Hid (∀ i, i < k → wr.cell? ⟨gu, i, none⟩ = some (.int .i64 (gR r k j i))) := fun i hi => hu.cellTab i hi
          have HBI := Lib.hid (sB_is (gR r k j))
          have HSS : Hid (∀ i, sB (gR r k j) (i + 1) = if 0 ≤ gR r k j i ∧ (sB (gR r k j) i < 0 ∨ gR r k j (sB (gR r k j) i).toNat < gR r k j i) then (i : Int) else sB (gR r k j) i) := fun i => rfl
          have HB0 : Hid (sB (gR r k j) 0 = -1) := rfl
          have HGB := Lib.hid (gB_lt (gR r k j) k (by omega))
          have HNO : Hid (gO q r k (j + 1) = upd (gO q r k j) (gB (gR r k j) k) (gO q r k j (gB (gR r k j) k) + 1)) := rfl
          have HNR : Hid (gR r k (j + 1) = upd (gR r k j) (gB (gR r k j) k) (-1)) := rfl
          have HCV : Hid (∀ i, i < k → wr.cell? ⟨gv, i, none⟩ = some (.int .i64 (gO q r k j i)) ∧ 0 ≤ gO q r k j i ∧ gO q r k j i ≤ 2000000000) := fun i hi => ⟨hv.cellTab i hi, by have := HOB.out j i hi; omega⟩
          have HV := Lib.hid hv
          have HU := Lib.hid hu
          clear hv hu
          obtain ⟨RR, hRR⟩ : ∃ RR, gR r k j = RR := ⟨_, rfl⟩
          rw [hRR] at HS HCU HBI HSS HB0 HGB HNO HNR HU
          obtain ⟨OO, hOO⟩ : ∃ OO, gO q r k j = OO := ⟨_, rfl⟩
          rw [hOO] at HNO HCV HV
          clear hRR hOO
          generalize hwA : wr = wA at *
          clear hwA
          go_wp2_with fail
          go_loopw [13, 12] (fun x y wq => ∃ p : Nat, p ≤ k ∧ x = .int .i64 p ∧ y = .int .i64 (sB RR p) ∧ ∃ m, wq = wA.drewN m) (fun x _ _ => k - (intOf x).toNat)
          case atStart => exact ⟨0, Nat.zero_le _, rfl, by rw [HB0.out], 0, rfl⟩
          case round =>
            obtain ⟨p, hp, rfl, rfl, m, rfl⟩ := hrel
            by_cases hlt3 : p < k
            · have d1 := HCU.out p hlt3
              have l1 : (p : Int) < k := by omega
              rcases HBI.out p with ⟨b1, _⟩ | ⟨b, b1, b2, _⟩
              · by_cases hn : 0 ≤ RR p
                · have HN : Hid (sB RR (p + 1) = p) := by show _ = _; rw [HSS.out, if_pos ⟨hn, .inl (by omega)⟩]
                  rw [b1]
                  clear b1
                  go_wp2_with fail
                  go_quiet (fail)
                  go_wp2
                  go_roundw
                  case rel => exact ⟨p + 1, by omega, by go_num, by rw [HN.out], _, rfl⟩
                  case measure => simp [intOf]; omega
                · have HN : Hid (sB RR (p + 1) = -1) := by show _ = _; rw [HSS.out, if_neg (by omega)]; exact b1
                  have hn2 : decide (RR p ≥ 0) = false := decide_eq_false hn
                  have hn3 : decide (0 ≤ RR p) = false := decide_eq_false hn
                  rw [b1]
                  clear b1
                  go_wp2_with fail
                  go_quiet (fail)
                  go_wp2
                  go_roundw
                  case rel => exact ⟨p + 1, by omega, by go_num, by rw [HN.out], _, rfl⟩
                  case measure => simp [intOf]; omega
              · have bp := b2.1
                have d2 := HCU.out b (by omega)
                have l2 : (b : Int) < k := by omega
                have eb : (sB RR p).toNat = b := by omega
                have l3 : ¬ ((b : Int) < 0) := by omega
                by_cases hn : 0 ≤ RR p
                · by_cases hc : RR b < RR p
                  · have HN : Hid (sB RR (p + 1) = p) := by show _ = _; rw [HSS.out, if_pos ⟨hn, .inr (by rw [eb]; exact hc)⟩]
                    rw [b1]
                    clear b1 eb b2
                    go_wp2_with fail
                    go_quiet (fail)
                    go_wp2
                    go_roundw
                    case rel => exact ⟨p + 1, by omega, by go_num, by rw [HN.out], _, rfl⟩
                    case measure => simp [intOf]; omega
                  · have HN : Hid (sB RR (p + 1) = b) := by show _ = _; rw [HSS.out, if_neg (by rw [eb]; omega)]; exact b1
                    have hc2 : decide (RR b < RR p) = false := decide_eq_false hc
                    rw [b1]
                    clear b1 eb b2
                    go_wp2_with fail
                    go_quiet (fail)
                    go_wp2
                    go_roundw
                    case rel => exact ⟨p + 1, by omega, by go_num, by rw [HN.out], _, rfl⟩
                    case measure => simp [intOf]; omega
                · have HN : Hid (sB RR (p + 1) = b) := by show _ = _; rw [HSS.out, if_neg (by omega)]; exact b1
                  have hn2 : decide (RR p ≥ 0) = false := decide_eq_false hn
                  have hn3 : decide (0 ≤ RR p) = false := decide_eq_false hn
                  rw [b1]
                  clear b1 eb b2
                  go_wp2_with fail
                  go_quiet (fail)
                  go_wp2
                  go_roundw
                  case rel => exact ⟨p + 1, by omega, by go_num, by rw [HN.out], _, rfl⟩
                  case measure => simp [intOf]; omega
            · obtain rfl : p = k := by omega
              rw [HS.out]
              obtain ⟨b, hb⟩ : ∃ b, gB RR p = b := ⟨_, rfl⟩
              rw [hb] at HGB HNO HNR ⊢
              have hbp := HGB.out
              have l2 : (b : Int) < p := by omega
              obtain ⟨d1, d2⟩ := HCV.out b hbp
              have d3 := HCU.out b hbp
              have f1 := HV.out.freeAt b
              have f2 := HU.out.freeAt b
              have D1 : (⟨gv, b, none⟩ : Addr) ≠ ⟨gu, b, none⟩ := by intro h; cases h; exact hne rfl
              have hV1 := (HV.out.drewN m).tabSet (upd OO b (OO b + 1)) b hbp (OO b + 1) (upd_at _ _ _) (fun i _ hi => (upd_ne _ _ hi).symm)
              have hU1 := (HU.out.drewN m).keep ⟨gv, b, none⟩ hne (.int .i64 (OO b + 1))
              have hU2 := hU1.tabSet (upd RR b (-1)) b hbp (-1) (upd_at _ _ _) (fun i _ hi => (upd_ne _ _ hi).symm)
              have hV2 := hV1.keep ⟨gu, b, none⟩ (Ne.symm hne) (.int .i64 (-1))
              rw [← HNO.out] at hV2
              rw [← HNR.out] at hU2
              have HV2 := Lib.hid hV2
              have HU2 := Lib.hid hU2
              have HBB := Lib.hid (((Go.Proofs.Ytnikfcaloielaaa.Below.drewN' hbr m).setCell (p := ⟨gv, b, none⟩) v1 (.int .i64 (OO b + 1))).setCell (p := ⟨gu, b, none⟩) u1 (.int .i64 (-1)))
              clear hV1 hU1 hU2 hV2 hb
              go_wp2_with fail
              go_roundw
              case rel => exact ⟨j + 1, by omega, by rw [show ((L - (j + 1) : Nat) : Int) = li - 1 by have := HLI.out; omega], HV2.out, HU2.out, HBB.out⟩
              case measure => simp [intOf]; omega
        · obtain rfl : j = L := by omega
          rw [HPT.out j HLe.out.symm] at hv
          rw [Nat.sub_self]
          go_wp2_with fail
          go_ret
          exact ⟨_, rfl, hv, hbr⟩
end Go.Proofs.Ytnikfcaloielaaa
