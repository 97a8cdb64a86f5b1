/-
  spec.l03Split gives the parts by the greatest rests. Conditions: 1 to 24 weights of 0 to 1000000000, their sum above 0, a number of 0 to 1000000000000.
-/
import Derived.Test.YtcpjbnfmkhaadaaSharesP
import Derived.Test.YtcpjbnfmkhaadaaTwice
namespace Go.Proofs.Ytcpjbnfmkhaadaa
open Go.RowKit
set_option linter.unusedVariables false

theorem quo_any (a b m : Int) (w : World) (a0 : 0 ≤ a) (a1 : a ≤ 2199023255551) (b0 : 0 ≤ b) (b1 : b ≤ 1000000000000000) (m0 : 1 ≤ m) (m1 : m ≤ 1000000000000000) (q1 : a * b / m ≤ 1000000000000000000) :
    Calls Try.prog 34 #[.int .i64 a, .int .i64 b, .int .i64 m] w fun e w' => e = .returned (.int .i64 (a * b / m)) ∧ w = w' := by
  have H := Lib.hid (twice_any a b m w a0 a1 b0 b1 m0 m1 q1)
  go_enter Try.func34, Try.ntmps34
  go_wp2_with fail
  refine H.out.mono ?_
  rintro e w1 ⟨rfl, rfl⟩
  go_wp2
  go_ret
  exact ⟨rfl, rfl⟩
theorem rest_any (a b m : Int) (w : World) (a0 : 0 ≤ a) (a1 : a ≤ 2199023255551) (b0 : 0 ≤ b) (b1 : b ≤ 1000000000000000) (m0 : 1 ≤ m) (m1 : m ≤ 1000000000000000) (q1 : a * b / m ≤ 1000000000000000000) :
    Calls Try.prog 35 #[.int .i64 a, .int .i64 b, .int .i64 m] w fun e w' => e = .returned (.int .i64 (a * b % m)) ∧ w = w' := by
  have H := Lib.hid (twice_any a b m w a0 a1 b0 b1 m0 m1 q1)
  go_enter Try.func35, Try.ntmps35
  go_wp2_with fail
  refine H.out.mono ?_
  rintro e w1 ⟨rfl, rfl⟩
  go_wp2
  go_ret
  exact ⟨rfl, rfl⟩
theorem split_mul2 (c w s : Int) (hs : 0 < s) : c * w / s = c / s * w + c % s * w / s ∧ c * w % s = c % s * w % s := by
  have e : c * w = c % s * w + s * (c / s * w) := by
    have h := Int.mul_ediv_add_emod c s
    calc c * w = (s * (c / s) + c % s) * w := by rw [h]
      _ = s * (c / s) * w + c % s * w := Int.add_mul _ _ _
      _ = c % s * w + s * (c / s * w) := by rw [Int.mul_assoc]; omega
  constructor
  · rw [e, Int.add_mul_ediv_left _ _ (by omega)]; omega
  · rw [e, Int.add_mul_emod_self_left]

set_option maxHeartbeats 3200000 in
set_option maxRecDepth 100000 in
theorem split_any (n g cp : Nat) (c s : Int) (f : Nat → Int) (w : World) (n1 : 1 ≤ n) (n12 : n ≤ 24) (c0 : 0 ≤ c) (c1 : c ≤ 1000000000000) (hf : ∀ i, i < n → 0 ≤ f i ∧ f i ≤ 1000000000) (hs : 0 < sumTo f n) (hse : sumTo f n = s) (hI : Ints w g 0 n f) :
    Calls Try.prog 19 #[.int .i64 c, .slice (some ⟨g, 0, none⟩) n cp, .int .i64 s] w (fun e w' => ∃ v, e = .returned v ∧ Own 2 w' w.heap.size v (tab (ptO c f n) n) ∧ Below w.heap.size w w') := by
  have hsb := sumTo_bd hf (Int.le_refl _) (by omega) n (Nat.le_refl _)
  have HL0 : Hid (∀ k, k ≤ n → 0 ≤ pL c f (sumTo f n) k ∧ pL c f (sumTo f n) k ≤ c) := pL_lo c0 (fun i hi => (hf i hi).1) hs
  have HQ0 : Hid (∀ k, k < n → 0 ≤ pQ c f (sumTo f n) k ∧ pQ c f (sumTo f n) k ≤ c) := fun k hk => pQ_bd hs c0 (hf k hk).1 (sumTo_ge n (fun i hi => (hf i hi).1) k hk)
  have HR0 : Hid (∀ k, 0 ≤ pR c f (sumTo f n) k ∧ pR c f (sumTo f n) k < sumTo f n) := fun k => pR_bd hs k
  have HLN : Hid (pL c f (sumTo f n) n < n) := (pL_bd (by omega) hs).2
  have HLS : Hid (∀ k, pL c f (sumTo f n) (k + 1) = pL c f (sumTo f n) k - pQ c f (sumTo f n) k) := fun k => pL_step k
  have HL00 : Hid (pL c f (sumTo f n) 0 = c) := by show c - 0 = c; omega
  have HQE : Hid (∀ k, c * f k / sumTo f n = pQ c f (sumTo f n) k ∧ c * f k % sumTo f n = pR c f (sumTo f n) k) := fun k => ⟨rfl, rfl⟩
  have HFB := Lib.hid hf
  have HSE := Lib.hid hse
  have HP : Hid (∀ k, k < n → (c * f k / sumTo f n = c / sumTo f n * f k + c % sumTo f n * f k / sumTo f n ∧ c * f k % sumTo f n = c % sumTo f n * f k % sumTo f n) ∧ (0 ≤ c / sumTo f n * f k ∧ c / sumTo f n * f k ≤ 1000000000000) ∧ c % sumTo f n * f k / sumTo f n ≤ 1000000000000) := fun k hk => by
    have h := split_mul2 c (f k) (sumTo f n) hs
    have h1 := pQ_bd hs c0 (hf k hk).1 (sumTo_ge n (fun i hi => (hf i hi).1) k hk)
    have h2 : 0 ≤ c % sumTo f n * f k / sumTo f n := Int.ediv_nonneg (Int.mul_nonneg (Int.emod_nonneg _ (by omega)) (hf k hk).1) (by omega)
    have h3 : 0 ≤ c / sumTo f n * f k := Int.mul_nonneg (Int.ediv_nonneg c0 (by omega)) (hf k hk).1
    unfold pQ at h1
    exact ⟨h, ⟨h3, by omega⟩, by omega⟩
  have HPT : Hid (∀ j : Nat, (j : Int) = pL c f (sumTo f n) n → gO (pQ c f (sumTo f n)) (pR c f (sumTo f n)) n j = ptO c f n) := fun j hj => by unfold ptO; rw [show (pL c f (sumTo f n) n).toNat = j by omega]
  have HSOME : Hid (n = n) := rfl
  have HOB : Hid (∀ j i, i < n → 0 ≤ gO (pQ c f (sumTo f n)) (pR c f (sumTo f n)) n j i ∧ gO (pQ c f (sumTo f n)) (pR c f (sumTo f n)) n j i ≤ c + j) := fun j i hi => gO_bd (fun i hi => HQ0.out i hi) j i hi
  have HCK : Hid (∀ k, k < n → ∀ w', Below w.heap.size w w' → w'.cell? ⟨g, k, none⟩ = some (.int .i64 (f k))) := fun k hk w' hb => (hI.below hb).at0 k hk
  rw [hse] at hs hsb HL0 HQ0 HR0 HLN HLS HL00 HQE HPT HOB HP
  obtain ⟨q, hq⟩ : ∃ q, pQ c f s = q := ⟨_, rfl⟩
  obtain ⟨r, hr⟩ : ∃ r, pR c f s = r := ⟨_, rfl⟩
  rw [hq] at HQ0 HLS HQE HPT HOB
  rw [hr] at HR0 HQE HPT HOB
  clear hf hse hq hr
  go_enter Try.func19, Try.ntmps19
  go_wp2_with fail
  go_loopw [21, 7, 8, 9] (fun i v u l wr => ∃ k : Nat, k ≤ n ∧ i = .int .i64 k ∧ l = .int .i64 (pL c f s k) ∧ Own 2 wr w.heap.size v (tab q k) ∧ Own 2 wr w.heap.size u (tab r k) ∧ Hid (Apart v u) ∧ Below w.heap.size w wr) (fun i _ _ _ _ => n - (intOf i).toNat)
  case atStart =>
    have q1 : Below w.heap.size w (w.alloc (.cells #[] 2)) := by go_grown
    have q2 : Below (w.alloc (.cells #[] 2)).heap.size (w.alloc (.cells #[] 2)) ((w.alloc (.cells #[] 2)).alloc (.cells #[] 2)) := by go_grown
    have hz1 : (w.alloc (.cells #[] 2)).heap.size = w.heap.size + 1 := by simp
    have A2 := Own.made 2 (w.alloc (.cells #[] 2)) (B := w.heap.size) (by omega)
    rw [hz1] at A2
    exact ⟨0, Nat.zero_le _, rfl, by rw [HL00.out], (Own.made 2 w (Nat.le_refl _)).below q2, A2, Apart.two (by omega), bnext q1 q2⟩
  case round =>
    obtain ⟨k, hk, rfl, rfl, hv, hu, hd, hbr⟩ := hrel
    have hL := HL0.out k hk
    by_cases hlt : k < n
    · have hc := HCK.out k hlt _ hbr
      have hf := HFB.out k hlt
      obtain ⟨⟨p1, p2⟩, p3, p4⟩ := HP.out k hlt
      have hq := HQ0.out k hlt
      have hr := HR0.out k
      obtain ⟨he1, he2⟩ := HQE.out k
      have hL2 := HL0.out (k + 1) (by omega)
      rw [HLS.out] at hL2
      obtain ⟨L, hLe⟩ : ∃ L, pL c f s k = L := ⟨_, rfl⟩
      have HLe := Lib.hid hLe
      rw [hLe] at hL hL2
      obtain ⟨Q, hQe⟩ : ∃ Q, q k = Q := ⟨_, rfl⟩
      obtain ⟨R, hRe⟩ : ∃ R, r k = R := ⟨_, rfl⟩
      rw [hQe] at hq he1 hL2
      rw [hRe] at hr he2
      rw [he1] at p1
      rw [he2] at p2
      have HQe := Lib.hid hQe
      have HRe := Lib.hid hRe
      have m0 := Int.emod_nonneg c (show s ≠ 0 by omega)
      have m1 := Int.emod_lt_of_pos c hs
      have w0 := Int.ediv_nonneg c0 (show 0 ≤ s by omega)
      have w1 : c / s ≤ c := Int.ediv_le_self _ c0
      obtain ⟨M, hM⟩ : ∃ M, c % s = M := ⟨_, rfl⟩
      obtain ⟨W, hW⟩ : ∃ W, c / s = W := ⟨_, rfl⟩
      have t1 : c.tdiv s = W := by rw [Int.tdiv_eq_ediv_of_nonneg c0]; exact hW
      have t2 : c.tmod s = M := by rw [Int.tmod_eq_emod_of_nonneg c0]; exact hM
      rw [hM] at m0 m1 p1 p2 p4
      rw [hW] at w0 w1 p1 p3
      obtain ⟨X, hX⟩ : ∃ X, f k = X := ⟨_, rfl⟩
      rw [hX] at hc hf p1 p2 p3 p4
      have s1 : ¬ s = 0 := by omega
      have HCK4 : Hid (∀ w', Below w.heap.size w w' → w'.cell? ⟨g, k, none⟩ = some (.int .i64 X)) := fun w' h => by rw [HCK.out k hlt w' h, hX]
      obtain ⟨Z, hZ⟩ : ∃ Z, M * X / s = Z := ⟨_, rfl⟩
      have HQU : Hid (∀ w', Calls Try.prog 34 #[.int .i64 M, .int .i64 X, .int .i64 s] w' fun e w'' => e = .returned (.int .i64 Z) ∧ w' = w'') := fun w' => by have := quo_any M X s w' m0 (by omega) hf.1 (by omega) (by omega) (by omega) (by omega); rwa [hZ] at this
      have HRU : Hid (∀ w', Calls Try.prog 35 #[.int .i64 M, .int .i64 X, .int .i64 s] w' fun e w'' => e = .returned (.int .i64 R) ∧ w' = w'') := fun w' => by have := rest_any M X s w' m0 (by omega) hf.1 (by omega) (by omega) (by omega) (by omega); rwa [← p2] at this
      rw [hZ] at p1 p4
      obtain ⟨Y, hY⟩ : ∃ Y, W * X = Y := ⟨_, rfl⟩
      rw [hY] at p1 p3
      have z0 : Y + Z = Q := p1.symm
      have z1 : IntKind.i64.wrap Y = Y := IntWalk.i64_in _ (by omega)
      have HT1 := Lib.hid (tab_len8s (f := q) (k := k) (by omega))
      have HT2 := Lib.hid (tab_len8s (f := r) (k := k) (by omega))
      rw [hLe]
      clear hLe hQe hRe he1 he2 hM hW hZ p1 p2 hX
      go_wp2_with fail
      go_quiet ((go_at_call 34; exact Calls.quiet_of_same ((HQU.out _).mono (fun _ _ h => ⟨h.1, h.2.symm⟩))))
      have hvD := hv.drewN nq
      have huD := hu.drewN nq
      have hbD : Below w.heap.size w (wr.drewN nq) := Go.Proofs.Ytcpjbnfmkhaadaa.Below.drewN' hbr nq
      go_wp2_with (first | (go_at_call 35; refine (HRU.out _).mono ?_; rintro e w9 ⟨rfl, rfl⟩) | (at_builtin; refine wpList_app2 _ rfl _ _ 22 rfl w.heap.size 2 Try.infoI Try.underlying22 _ _ rfl hvD _ rfl (by have := HT1.out; omega) hbD.size ?_; intro v' w4 hv4 hb4 hs4; have hc4 := HCK4.out _ (hbD.trans hb4); have hu4 := (hs4 _ _ _ huD hd.out).1; have hd4 := (hs4 _ _ _ huD hd.out).2; have hbr4 := hbD.trans hb4) | (at_builtin; refine wpList_app2 _ rfl _ _ 22 rfl w.heap.size 2 Try.infoI Try.underlying22 _ _ rfl hu4 _ rfl (by have := HT2.out; omega) hbr4.size ?_; intro u' w5 hu5 hb5 hs5))
      have hv5 := hs5 _ _ _ hv4 hd4.symm
      rw [← HQe.out] at hv5
      rw [← HRe.out] at hu5
      go_roundw
      case rel => exact ⟨k + 1, by omega, by go_num, by rw [HLS.out, HLe.out, HQe.out], by rw [tab]; exact hv5.1, by rw [tab]; exact hu5, hv5.2.symm, hbr4.trans hb5⟩
      case measure => simp [intOf]; omega
    · obtain rfl : k = n := by omega
      obtain ⟨gv, cv, rfl, v1, v2⟩ := hv.formTs n1
      obtain ⟨gu, cu, rfl, u1, u2⟩ := hu.formTs n1
      have hne : gv ≠ gu := fun e => hd.out gv rfl (by rw [e]; rfl)
      obtain ⟨L, hL0⟩ := Int.eq_ofNat_of_zero_le hL.1
      have HLe := Lib.hid hL0
      have hLk : L < k := by have := HLN.out; omega
      have hLc : (L : Int) ≤ c := by omega
      rw [hL0]
      clear hL hL0
      go_wp2_with fail
      go_loopw [9] (fun l wr => ∃ j : Nat, j ≤ L ∧ l = .int .i64 ((L - j : Nat) : Int) ∧ Own 2 wr w.heap.size (.slice (some ⟨gv, 0, none⟩) k cv) (tab (gO q r k j) k) ∧ Own 2 wr w.heap.size (.slice (some ⟨gu, 0, none⟩) k cu) (tab (gR r k j) k) ∧ Below w.heap.size w wr) (fun l _ => (intOf l).toNat)
      case atStart => exact ⟨0, Nat.zero_le _, by rw [Nat.sub_zero], hv, hu, hbr⟩
      case round =>
        obtain ⟨j, hj, rfl, hv, hu, hbr⟩ := hrel
        by_cases hlt2 : j < L
        · obtain ⟨li, hli⟩ : ∃ li : Int, ((L - j : Nat) : Int) = li := ⟨_, rfl⟩
          have li0 : 0 < li ∧ li ≤ 100 := by omega
          rw [hli]
          have HLI := Lib.hid hli
          clear hli
          have HCU : Hid (∀ i, i < k → wr.cell? ⟨gu, i, none⟩ = some (.int .i64 (gR r k j i))) := fun i hi => hu.cellTab i hi
          have HBI : Hid (∀ p, p ≤ k → gB (gR r k j) p < k) := fun p hp => by
            rcases Nat.eq_zero_or_pos p with h | h
            · subst h; show 0 < k; omega
            · have := gB_lt (gR r k j) p h; omega
          have HSS : Hid (∀ i, gB (gR r k j) (i + 1) = if gR r k j (gB (gR r k j) i) < gR r k j i then i else gB (gR r k j) i) := fun i => rfl
          have HB0 : Hid (gB (gR r k j) 0 = 0) := rfl
          have HGB := Lib.hid (gB_lt (gR r k j) k (by omega))
          have HNO : Hid (gO q r k (j + 1) = upd (gO q r k j) (gB (gR r k j) k) (gO q r k j (gB (gR r k j) k) + 1)) := rfl
          have HNR : Hid (gR r k (j + 1) = upd (gR r k j) (gB (gR r k j) k) (-1)) := rfl
          have HCV : Hid (∀ i, i < k → wr.cell? ⟨gv, i, none⟩ = some (.int .i64 (gO q r k j i)) ∧ 0 ≤ gO q r k j i ∧ gO q r k j i ≤ 2000000000000) := fun i hi => ⟨hv.cellTab i hi, by have := HOB.out j i hi; omega⟩
          have HV := Lib.hid hv
          have HU := Lib.hid hu
          clear hv hu
          obtain ⟨RR, hRR⟩ : ∃ RR, gR r k j = RR := ⟨_, rfl⟩
          rw [hRR] at HCU HBI HSS HB0 HGB HNO HNR HU
          obtain ⟨OO, hOO⟩ : ∃ OO, gO q r k j = OO := ⟨_, rfl⟩
          rw [hOO] at HNO HCV HV
          clear hRR hOO
          generalize hwA : wr = wA at *
          clear hwA
          go_wp2_with fail
          go_loopw [68, 14] (fun x y wq => ∃ p : Nat, p ≤ k ∧ x = .int .i64 p ∧ y = .int .i64 (gB RR p : Nat) ∧ ∃ m, wq = wA.drewN m) (fun x _ _ => k - (intOf x).toNat)
          case atStart => exact ⟨0, Nat.zero_le _, rfl, by rw [HB0.out]; rfl, 0, rfl⟩
          case round =>
            obtain ⟨p, hp, rfl, rfl, m, rfl⟩ := hrel
            by_cases hlt3 : p < k
            · have d1 := HCU.out p hlt3
              have l1 : (p : Int) < k := by omega
              have hbk := HBI.out p hp
              have hn := HSS.out p
              obtain ⟨b, hb⟩ : ∃ b, gB RR p = b := ⟨_, rfl⟩
              rw [hb] at hbk hn
              rw [hb]
              clear hb
              have d2 := HCU.out b hbk
              have l2 : (b : Int) < k := by omega
              by_cases hc : RR b < RR p
              · rw [if_pos hc] at hn
                have HN := Lib.hid hn
                clear hn
                go_wp2_with fail
                go_quiet (fail)
                go_wp2
                go_roundw
                case rel => exact ⟨p + 1, by omega, by go_num, by rw [HN.out], _, rfl⟩
                case measure => simp [intOf]; omega
              · rw [if_neg hc] at hn
                have HN := Lib.hid hn
                clear hn
                go_wp2_with fail
                go_quiet (fail)
                go_wp2
                go_roundw
                case rel => exact ⟨p + 1, by omega, by go_num, by rw [HN.out], _, rfl⟩
                case measure => simp [intOf]; omega
            · obtain rfl : p = k := by omega
              obtain ⟨b, hb⟩ : ∃ b, gB RR p = b := ⟨_, rfl⟩
              rw [hb] at HGB HNO HNR ⊢
              have hbp := HGB.out
              have l2 : (b : Int) < p := by omega
              obtain ⟨d1, d2⟩ := HCV.out b hbp
              have d3 := HCU.out b hbp
              have f1 := HV.out.freeAt b
              have f2 := HU.out.freeAt b
              have D1 : (⟨gv, b, none⟩ : Addr) ≠ ⟨gu, b, none⟩ := by intro h; cases h; exact hne rfl
              have hV1 := (HV.out.drewN m).tabSet (upd OO b (OO b + 1)) b hbp (OO b + 1) (upd_at _ _ _) (fun i _ hi => (upd_ne _ _ hi).symm)
              have hU1 := (HU.out.drewN m).keep ⟨gv, b, none⟩ hne (.int .i64 (OO b + 1))
              have hU2 := hU1.tabSet (upd RR b (-1)) b hbp (-1) (upd_at _ _ _) (fun i _ hi => (upd_ne _ _ hi).symm)
              have hV2 := hV1.keep ⟨gu, b, none⟩ (Ne.symm hne) (.int .i64 (-1))
              rw [← HNO.out] at hV2
              rw [← HNR.out] at hU2
              have HV2 := Lib.hid hV2
              have HU2 := Lib.hid hU2
              have HBB := Lib.hid (((Go.Proofs.Ytcpjbnfmkhaadaa.Below.drewN' hbr m).setCell (p := ⟨gv, b, none⟩) v1 (.int .i64 (OO b + 1))).setCell (p := ⟨gu, b, none⟩) u1 (.int .i64 (-1)))
              clear hV1 hU1 hU2 hV2 hb
              go_wp2_with fail
              go_roundw
              case rel => exact ⟨j + 1, by omega, by rw [show ((L - (j + 1) : Nat) : Int) = li - 1 by have := HLI.out; omega], HV2.out, HU2.out, HBB.out⟩
              case measure => simp [intOf]; omega
        · obtain rfl : j = L := by omega
          rw [HPT.out j HLe.out.symm] at hv
          rw [Nat.sub_self]
          go_wp2_with fail
          go_ret
          exact ⟨_, rfl, hv, hbr⟩
end Go.Proofs.Ytcpjbnfmkhaadaa
