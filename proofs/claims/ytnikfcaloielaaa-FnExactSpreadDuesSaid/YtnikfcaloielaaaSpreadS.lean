/-
  spec.SpreadDues spreads what is left over as the plain law tells. Condition: fewer than 1000000000 integers in each list.
-/
import Derived.Test.YtnikfcaloielaaaSpreadI
import Derived.Test.YtnikfcaloielaaaSpreadT
import Derived.Test.YtnikfcaloielaaaShares
import Derived.Test.YtnikfcaloielaaaAppV
import Derived.Deep.RegionHeld3
namespace Go.Proofs.Ytnikfcaloielaaa
open Go.RowKit
set_option linter.unusedVariables false

theorem sd_kinds {f1 f2 f3 : Nat → Int} {n m : Nat} {r M : Int} (hk : ∀ i, i < n → 0 ≤ f2 i ∧ f2 i < m) (hq : ∀ i, i < n → 0 ≤ sdQ f1 f2 f3 i ∧ sdQ f1 f2 f3 i ≤ M) :
    ∃ (OF RF LF MR : Nat → Nat → Nat → Int) (LL : Nat → Int), (∀ k, 0 ≤ LL k ∧ LL k ≤ n) ∧
      tab (sdQ f1 f2 f3) n = tab (OF 0 0) n ∧ tab (sdR f1 f2 f3) n = tab (RF 0 0) n ∧ tab (sdL f1 f2 f3 n r) m = tab (LF 0 0) m ∧
      (∀ K t, t ≤ n → ∀ i, i < n → 0 ≤ OF K t i ∧ OF K t i ≤ M + n) ∧
      (∀ K t, LF K t K = LL K - t) ∧
      (∀ (K t i : Nat), f2 i = (K : Int) → RF K t i = MR K t i) ∧
      (∀ (K t i : Nat), f2 i ≠ (K : Int) → MR K t i = -1) ∧
      (∀ K t : Nat, (t : Int) < LL K → sB (MR K t) n = gB (MR K t) n ∧ f2 (gB (MR K t) n) = K ∧ gB (MR K t) n < n) ∧
      (∀ K t : Nat, (t : Int) < LL K → RF K (t + 1) = upd (RF K t) (gB (MR K t) n) (-1) ∧ OF K (t + 1) = upd (OF K t) (gB (MR K t) n) (OF K t (gB (MR K t) n) + 1) ∧ LF K (t + 1) = upd (LF K t) K (LL K - t - 1)) ∧
      (∀ K : Nat, RF (K + 1) 0 = RF K (LL K).toNat ∧ OF (K + 1) 0 = OF K (LL K).toNat ∧ LF (K + 1) 0 = LF K (LL K).toNat) ∧
      tab (OF m 0) n = tab (sdO f1 f2 f3 n r) n := by
  have hLC : ∀ k, 0 ≤ sdL f1 f2 f3 n r k ∧ sdL f1 f2 f3 n r k ≤ n := fun k => by
    have a := sdL_bd (f1 := f1) (f2 := f2) (f3 := f3) (n := n) (r := r) k
    have b := cnt_le (f2 := f2) k n
    omega
  have hS : ∀ K t : Nat, (t : Int) < sdL f1 f2 f3 n r K → sB (gR (mask f2 K (sdR f1 f2 f3)) n t) n = gB (gR (mask f2 K (sdR f1 f2 f3)) n t) n ∧ f2 (gB (gR (mask f2 K (sdR f1 f2 f3)) n t) n) = K ∧ gB (gR (mask f2 K (sdR f1 f2 f3)) n t) n < n := fun K t h => by
    obtain ⟨i, h1, h2⟩ := sd_some h
    have hb := gB_best (gR (mask f2 K (sdR f1 f2 f3)) n t) n (by omega)
    refine ⟨sB_gB ⟨i, h1, h2⟩, gB_in ?_, hb.1⟩
    by_cases e : i = gB (gR (mask f2 K (sdR f1 f2 f3)) n t) n
    · rw [← e]; exact h2
    · have := hb.2 i h1 e
      omega
  refine ⟨tO f2 (sdR f1 f2 f3) (sdQ f1 f2 f3) (sdL f1 f2 f3 n r) n, tR f2 (sdR f1 f2 f3) (sdL f1 f2 f3 n r) n, tL (sdL f1 f2 f3 n r), fun K t => gR (mask f2 K (sdR f1 f2 f3)) n t, sdL f1 f2 f3 n r, hLC,
    tab_congr _ _ n (fun i hi => (tO_start (hk i hi).1).symm), tab_congr _ _ n (fun i hi => (tR_start (hk i hi).1).symm), by rw [tL_start], fun K t ht i hi => tO_bd hq hLC ht i hi, fun K t => tL_at, fun K t i h => tR_in h, fun K t i h => gR_off h, hS,
    fun K t h => ⟨tR_step (hS K t h).2.1, tO_step (hS K t h).2.1, tL_step⟩, fun K => ⟨tR_next, tO_next, tL_next (hLC K).1⟩, tab_congr _ _ n (fun i hi => tO_end hk hi)⟩

set_option maxHeartbeats 6400000 in
set_option maxRecDepth 100000 in
theorem spread_spec (n1 g1 c1 : Nat) (f1 : Nat → Int) (n2 g2 c2 : Nat) (f2 : Nat → Int) (n3 g3 c3 : Nat) (f3 : Nat → Int) (r : Int) (w : World) (m1 : n1 < 1000000000) (m2 : n2 < 1000000000) (m3 : n3 < 1000000000)
    (I1 : Ints w g1 0 n1 f1) (I2 : Ints w g2 0 n2 f2) (I3 : Ints w g3 0 n3 f3) :
    Calls Try.prog 15 #[.slice (some ⟨g1, 0, none⟩) n1 c1, .slice (some ⟨g2, 0, none⟩) n2 c2, .slice (some ⟨g3, 0, none⟩) n3 c3, .int .i64 r] w (RetL1 2 w (sdLs f1 n1 f2 n2 f3 n3 r) (linesOk f1 n1 f2 n2 f3 n3 r)) := by
  cases h : linesOk f1 n1 f2 n2 f3 n3 r
  · rw [sdLs_no h]
    go_enter Try.func15, Try.ntmps15
    go_wp2_with (first | (go_at_call 40; refine (l04Lines_any n1 g1 c1 f1 n2 g2 c2 f2 n3 g3 c3 f3 r _ m1 m2 m3 I1 I2 I3).mono ?_; rintro e w1 ⟨rfl, hb⟩))
    go_ret2
    exact RetL1.no _ hb
  · rw [sdLs_yes h]
    obtain ⟨p1, p2, p3, rfl, q1, q2, q4, q5, q6⟩ := lines_is h
    obtain ⟨n, hn⟩ : ∃ n, n = n2 := ⟨_, rfl⟩
    rw [← hn] at h p1 p2 q1 q2 q6 m1 m2 I1 I2 ⊢
    clear hn
    have HC : Hid (∀ w', Ints w' g1 0 n f1 → Ints w' g2 0 n f2 → Ints w' g3 0 n3 f3 → Calls Try.prog 40 #[.slice (some ⟨g1, 0, none⟩) n c1, .slice (some ⟨g2, 0, none⟩) n c2, .slice (some ⟨g3, 0, none⟩) n3 c3, .int .i64 r] w' (RetV w' (.bool true))) := fun w' a b c => by have := l04Lines_any n g1 c1 f1 n g2 c2 f2 n3 g3 c3 f3 r w' m1 m2 m3 a b c; rwa [h] at this
    have HRD : Hid (∀ w', Ints w' g1 0 n f1 → Ints w' g2 0 n f2 → Ints w' g3 0 n3 f3 → _) := fun w' a b c => rates_row_spec n g1 c1 f1 g2 c2 f2 n3 g3 c3 f3 r w' m1 m3 a b c h
    have HI := Lib.hid p1
    have HJ := Lib.hid p2
    have HK := Lib.hid p3
    have hqb : ∀ i, i < n → 0 ≤ sdQ f1 f2 f3 i ∧ sdQ f1 f2 f3 i ≤ 1000000000001 := fun i hi => by
      have a := p1 i hi
      have b := p2 i hi
      have c := p3 (f2 i).toNat (by omega)
      have := due_bd (f1 i) (f3 (f2 i).toNat) 0 a.1 c.1 c.2
      unfold sdQ
      omega
    have HLB : Hid (∀ k, k ≤ n → ∀ j, j < n3 → -40000000000000 ≤ sdLF f1 f2 f3 n r k j ∧ sdLF f1 f2 f3 n r k j ≤ 40000000000000) := fun k hk j hj => by
      have a := ksum_bd2 (f2 := f2) (fun i hi => (p1 i hi).1) q6 n (Nat.le_refl _) j
      have c := p3 j hj
      have d := due_bd (ksum f1 f2 n j) (f3 j) r a.1 c.1 c.2
      have e := ksum_bd (f2 := f2) (fun i hi => (hqb i hi).1) j k hk
      have g := sumTo_bd hqb (by omega) (by omega) k hk
      unfold sdLF rateAt
      omega
    have HQB := Lib.hid hqb
    have HLC : Hid (∀ k, 0 ≤ sdL f1 f2 f3 n r k ∧ sdL f1 f2 f3 n r k ≤ n) := fun k => by
      have a := sdL_bd (f1 := f1) (f2 := f2) (f3 := f3) (n := n) (r := r) k
      have b := cnt_le (f2 := f2) k n
      omega
    have g1lt : g1 < w.heap.size := World.block_lt_of_cell? w _ (I1.at0 0 (by omega))
    have g2lt : g2 < w.heap.size := World.block_lt_of_cell? w _ (I2.at0 0 (by omega))
    have g3lt : g3 < w.heap.size := World.block_lt_of_cell? w _ (I3.at0 0 (by omega))
    clear p1 p2 p3 q6 h hqb
    go_enter Try.func15, Try.ntmps15
    go_wp2_with fail
    refine (HC.out _ I1 I2 I3).mono ?_
    rintro e w1 ⟨rfl, b1⟩
    have J1 := I1.below b1
    have J2 := I2.below b1
    have J3 := I3.below b1
    have hsz1 := b1.size
    go_wp2_with fail
    refine (HRD.out _ J1 J2 J3).mono ?_
    rintro e w3 ⟨vL, rfl, hL, b3⟩
    obtain ⟨gl, cl, rfl, l1, l2⟩ := hL.formTs (by omega)
    have HLL := Lib.hid hL
    have HT0 : Hid (tab (rateAt f1 f2 f3 n r) n3 = tab (sdLF f1 f2 f3 n r 0) n3) := tab_congr _ _ n3 (fun i _ => by show _ = _ - 0; omega)
    have hsz3 := b3.size
    clear hL
    go_wp2_with fail
    go_loopw [13, 11, 12] (fun i vO vR wr => ∃ k : Nat, k ≤ n ∧ i = .int .i64 k ∧ Own 2 wr w1.heap.size vO (tab (sdQ f1 f2 f3) k) ∧ Own 2 wr w1.heap.size vR (tab (sdR f1 f2 f3) k) ∧ Own 2 wr w1.heap.size (.slice (some ⟨gl, 0, none⟩) n3 cl) (tab (sdLF f1 f2 f3 n r k) n3) ∧ Hid (Apart vO vR) ∧ Hid (Apart vO (.slice (some ⟨gl, 0, none⟩) n3 cl)) ∧ Hid (Apart vR (.slice (some ⟨gl, 0, none⟩) n3 cl)) ∧ Below w1.heap.size w1 wr) (fun i _ _ _ => n - (intOf i).toNat)
    case atStart =>
      have z1 : Below w3.heap.size w3 (w3.alloc (.cells #[] 2)) := by go_grown
      have z2 : Below (w3.alloc (.cells #[] 2)).heap.size (w3.alloc (.cells #[] 2)) ((w3.alloc (.cells #[] 2)).alloc (.cells #[] 2)) := by go_grown
      have hz1 : (w3.alloc (.cells #[] 2)).heap.size = w3.heap.size + 1 := by simp
      have A2 := Own.made 2 (w3.alloc (.cells #[] 2)) (B := w1.heap.size) (by omega)
      rw [hz1] at A2
      have q12 := bnext z1 z2
      exact ⟨0, Nat.zero_le _, rfl, (Own.made 2 w3 (B := w1.heap.size) hsz3).below z2, A2, by rw [← HT0.out]; exact HLL.out.below q12, Apart.two (by omega), Apart.two (by omega), Apart.two (by omega), bnext b3 q12⟩
    case round =>
      obtain ⟨k, hk, rfl, hvO, hvR, hvL, aOR, aOL, aRL, hbr⟩ := hrel
      by_cases hlt : k < n
      · obtain ⟨a0, a1⟩ := HI.out k hlt
        obtain ⟨b0, b1'⟩ := HJ.out k hlt
        obtain ⟨j, hj⟩ : ∃ j : Nat, f2 k = j := ⟨(f2 k).toNat, by omega⟩
        have hj3 : j < n3 := by omega
        obtain ⟨d0, d1⟩ := HK.out j hj3
        have x1 := (J1.below hbr).at0 k hlt
        have x2 := (J2.below hbr).at0 k hlt
        have x3 := (J3.below hbr).at0 j hj3
        rw [hj] at x2
        have hqk := HQB.out k hlt
        have hlb := HLB.out k hk j hj3
        have HQE : Hid (sdQ f1 f2 f3 k = rnd (f1 k * f3 j) 10000 0) := by show rnd (f1 k * f3 (f2 k).toNat) 10000 0 = _; rw [hj]; rfl
        have HRE : Hid (sdR f1 f2 f3 k = f1 k * f3 j % 10000) := by show f1 k * f3 (f2 k).toNat % 10000 = _; rw [hj]; rfl
        obtain ⟨X, hX⟩ : ∃ X, f1 k = X := ⟨_, rfl⟩
        obtain ⟨Y, hY⟩ : ∃ Y, f3 j = Y := ⟨_, rfl⟩
        obtain ⟨Qv, hQ⟩ : ∃ Q, sdQ f1 f2 f3 k = Q := ⟨_, rfl⟩
        obtain ⟨Rv, hR⟩ : ∃ R, sdR f1 f2 f3 k = R := ⟨_, rfl⟩
        rw [hX] at x1 a0 a1 HQE HRE
        rw [hY] at x3 d0 d1 HQE HRE
        rw [hQ] at HQE hqk
        rw [hR] at HRE
        have HDB : Hid (∀ q, Calls Try.prog 42 #[.int .i64 X, .int .i64 Y, .int .i64 0] (wr.drewN q) (fun e w'' => e = .returned (.int .i64 Qv) ∧ ∃ p, w'' = wr.drewN p)) := fun q => by
          refine (spec_l04Due X Y 0 _ a0 (by omega) d0 d1).mono ?_
          rintro e w'' ⟨he, p, hp⟩
          exact ⟨by rw [HQE.out]; exact he, q + p, by rw [hp]; simp⟩
        have p0 : 0 ≤ X * Y := Int.mul_nonneg a0 d0
        have pp1 : X * Y ≤ 1000000000000 * 10000 := Int.mul_le_mul a1 d1 d0 (by omega)
        have e1 : IntKind.i64.wrap (X * Y) = X * Y := IntWalk.i64_in _ (by omega)
        have e2 : (X * Y).tmod 10000 = Rv := by rw [Int.tmod_eq_emod_of_nonneg p0]; exact HRE.out.symm
        have hrv : 0 ≤ Rv ∧ Rv < 10000 := by rw [← hR]; exact sdR_bd k
        have HQ := Lib.hid hQ
        have HR := Lib.hid hR
        have l4 : (k : Int) < n := by omega
        have l5 : (j : Int) < n3 := by omega
        have HT1 := Lib.hid (tab_len8s (f := sdQ f1 f2 f3) (k := k) (by omega))
        have HT2 := Lib.hid (tab_len8s (f := sdR f1 f2 f3) (k := k) (by omega))
        have HLF1 : Hid (sdLF f1 f2 f3 n r (k + 1) j = sdLF f1 f2 f3 n r k j - Qv) := by
          show _ = _
          unfold sdLF
          rw [ksum_at _ _ k j hj, hQ]
          omega
        have HLF2 : Hid (∀ i, i ≠ j → sdLF f1 f2 f3 n r k i = sdLF f1 f2 f3 n r (k + 1) i) := fun i hi => by
          unfold sdLF
          rw [ksum_off _ _ k j i hj hi]
        have JJ : Hid (∀ w', Below w1.heap.size w1 w' → w'.cell? ⟨g1, k, none⟩ = some (.int .i64 X) ∧ w'.cell? ⟨g2, k, none⟩ = some (.int .i64 (j : Int)) ∧ w'.cell? ⟨g3, j, none⟩ = some (.int .i64 Y)) := fun w' hb => ⟨by have := (J1.below hb).at0 k hlt; rwa [hX] at this, by have := (J2.below hb).at0 k hlt; rwa [hj] at this, by have := (J3.below hb).at0 j hj3; rwa [hY] at this⟩
        have t1 : g1 < w1.heap.size := by omega
        have t2 : g2 < w1.heap.size := by omega
        have t3 : g3 < w1.heap.size := by omega
        have HE2 := Lib.hid e2
        clear hX hY hQ hR hj b0 b1' e2
        go_wp2_with fail
        go_quiet ((go_at_call 42; (with_reducible exact HDB.out _)))
        have hvO' := hvO.drewN nq
        have hvR' := hvR.drewN nq
        have hvL' := hvL.drewN nq
        have hb' : Below w1.heap.size w1 (wr.drewN nq) := Go.Proofs.Ytnikfcaloielaaa.Below.drewN' hbr nq
        clear hvO hvR hvL x1 x2 x3
        go_wp2_with (first | (at_builtin; refine wpList_app3 _ rfl _ _ 22 rfl w1.heap.size 2 Try.infoI Try.underlying22 _ _ rfl hvO' _ rfl (by have := HT1.out; omega) hb'.size ?_; intro v5 w5 hO5 b5 k5; have hR5 := k5.own hvR' aOR.out; have hL5 := k5.own hvL' aOL.out; have B5 := hb'.trans b5; obtain ⟨y1, y2, y3⟩ := JJ.out _ B5))
        have e2 := HE2.out
        have s5 := B5.size
        have v1 := t1
        have v2 := t2
        have v3 := t3
        have bW : Below w5.heap.size w5 (w5.alloc (.cells #[.int .i64 Rv] 2)).drew := ((Below.refl _ _).alloc (Nat.le_refl _) _).drew
        have hRW := Own.below hR5.1 bW
        have hOW := Own.below hO5 bW
        have hLW := Own.below hL5.1 bW
        have cW : ((w5.alloc (.cells #[.int .i64 Rv] 2)).drew).cell? ⟨w5.heap.size, 0, none⟩ = some (.int .i64 Rv) := by simp [go_sem]
        have sW : w1.heap.size ≤ ((w5.alloc (.cells #[.int .i64 Rv] 2)).drew).heap.size := Nat.le_trans s5 bW.size
        have HTW : Hid ((tab (sdR f1 f2 f3) k).length < 100000000) := by have := HT2.out; show _ < _; omega
        go_region_held3 (fun w' => w'.cell? ⟨g1, k, none⟩ = some (.int .i64 X) ∧ w'.cell? ⟨g2, k, none⟩ = some (.int .i64 (j : Int)) ∧ w'.cell? ⟨g3, j, none⟩ = some (.int .i64 Y))
          (first | go_keep | (go_split_ands; refine ⟨?_, ?_, ?_⟩ <;> (apply Below.cellOf (by assumption) rfl; assumption)) | (go_split_ands; refine ⟨?_, ?_, ?_⟩ <;> (refine (hb5.cell (by assumption)).trans ?_; assumption)))
          ((refine step_appI _ rfl _ _ 22 rfl w1.heap.size 2 Try.infoI Try.underlying22 _ _ rfl hRW _ _ rfl cW HTW.out sW ?_; intro v7 w7 hR7 hb5 k7))
        have B7 := Below.trans (Below.trans B5 (Below.mono bW s5)) hb5
        have hO7 := k7.own hOW hR5.2.symm
        have hL7 := k7.own hLW aRL.out
        have y4 := (JJ.out _ B7).2.1
        have y5 := hL7.1.cellTab j hj3
        have y6 := hL7.1.freeAt j
        have hL8 := hL7.1.tabSet (sdLF f1 f2 f3 n r (k + 1)) j hj3 (sdLF f1 f2 f3 n r k j - Qv) HLF1.out (fun i _ hi => HLF2.out i hi)
        have hO8 := Own.keepV (E := 2) hO7.1 ⟨gl, j, none⟩ (fun e => hL5.2 gl e rfl) (.int .i64 (sdLF f1 f2 f3 n r k j - Qv))
        have hR8 := Own.keepV (E := 2) hR7 ⟨gl, j, none⟩ (fun e => hL7.2 gl e rfl) (.int .i64 (sdLF f1 f2 f3 n r k j - Qv))
        have HL8 := Lib.hid hL8
        have HO8 := Lib.hid hO8
        have HR8 := Lib.hid hR8
        have A1 := hO7.2.symm
        have A2 := hL5.2
        have A3 := hL7.2
        clear hRW hOW hLW bW cW sW hL8 hO8 hR8 hO7 hL7 hR7 hL5 hO5 hR5 y1 y2 y3 e2
        go_wp2_with fail
        go_roundw
        case rel => exact ⟨k + 1, by omega, by go_num, by rw [tab, HQ.out]; exact HO8.out, by rw [tab, HR.out]; exact HR8.out, HL8.out, A1, A2, A3, B7.setCell (show w1.heap.size ≤ gl by omega) _⟩
        case measure => simp [intOf]; omega
      · obtain rfl : k = n := by omega
        obtain ⟨gv, cv, rfl, v1, v2⟩ := hvO.formTs (by omega)
        obtain ⟨gu, cu, rfl, u1, u2⟩ := hvR.formTs (by omega)
        have hne : gv ≠ gu := fun e => aOR.out gv rfl (by rw [e]; rfl)
        have hvl : gv ≠ gl := fun e => aOL.out gv rfl (by rw [e]; rfl)
        have hul : gu ≠ gl := fun e => aRL.out gu rfl (by rw [e]; rfl)
        obtain ⟨OF, RF, LF, MR, LL, zL, zO, zR, zF, zB, zK, zI, zX, zS, zT, zN, zE⟩ := sd_kinds (r := r) (m := n3) (M := 1000000000001) HJ.out HQB.out
        have HLF0 : Hid (tab (sdLF f1 f2 f3 k r k) n3 = tab (LF 0 0) n3) := zF
        rw [zO] at hvO
        rw [zR] at hvR
        rw [HLF0.out] at hvL
        have HLC := Lib.hid zL
        have HOB := Lib.hid zB
        have HLK := Lib.hid zK
        have HIN := Lib.hid zI
        have HOFF := Lib.hid zX
        have HSOME := Lib.hid zS
        have HSTEP := Lib.hid zT
        have HNEXT := Lib.hid zN
        have HEND := Lib.hid zE
        clear zL zO zR zF zB zK zI zX zS zT zN zE HQB HLB HLF0 HT0 HLL aOR aOL aRL HI HK
        go_wp2_with fail
        go_loopw [15] (fun i wr => ∃ K : Nat, K ≤ n3 ∧ i = .int .i64 K ∧ Own 2 wr w1.heap.size (.slice (some ⟨gv, 0, none⟩) k cv) (tab (OF K 0) k) ∧ Own 2 wr w1.heap.size (.slice (some ⟨gu, 0, none⟩) k cu) (tab (RF K 0) k) ∧ Own 2 wr w1.heap.size (.slice (some ⟨gl, 0, none⟩) n3 cl) (tab (LF K 0) n3) ∧ Below w1.heap.size w1 wr) (fun i _ => n3 - (intOf i).toNat)
        case atStart => exact ⟨0, Nat.zero_le _, rfl, hvO, hvR, hvL, hbr⟩
        case round =>
          obtain ⟨K, hK, rfl, hv, hu, hl, hbq⟩ := hrel
          by_cases hlt2 : K < n3
          · obtain ⟨m, hm⟩ := Int.eq_ofNat_of_zero_le (HLC.out K).1
            have hmk : m ≤ k := by have := (HLC.out K).2; omega
            have HM := Lib.hid hm
            have HN := Lib.hid (HNEXT.out K)
            have l4 : (K : Int) < n3 := by omega
            have C0 := hl.cellTab K hlt2
            clear hm
            go_wp2_with fail
            go_loopw [16] (fun _ wr => ∃ t : Nat, t ≤ m ∧ Own 2 wr w1.heap.size (.slice (some ⟨gv, 0, none⟩) k cv) (tab (OF K t) k) ∧ Own 2 wr w1.heap.size (.slice (some ⟨gu, 0, none⟩) k cu) (tab (RF K t) k) ∧ Own 2 wr w1.heap.size (.slice (some ⟨gl, 0, none⟩) n3 cl) (tab (LF K t) n3) ∧ Below w1.heap.size w1 wr) (fun _ wr => (intOf ((wr.cell? ⟨gl, K, none⟩).getD (.int .i64 0))).toNat)
            case atStart => exact ⟨0, Nat.zero_le _, hv, hu, hl, hbq⟩
            case round =>
              obtain ⟨t, ht, hv, hu, hl, hbq⟩ := hrel
              have hcl := hl.cellTab K hlt2
              rw [HLK.out, HM.out] at hcl
              have fl := hl.freeAt K
              by_cases hlt3 : t < m
              · obtain ⟨li, hli⟩ : ∃ li : Int, ((m : Nat) : Int) - t = li := ⟨_, rfl⟩
                rw [hli] at hcl
                have li0 : 0 < li ∧ li ≤ 100 := by omega
                have HLI := Lib.hid hli
                have tl : (t : Int) < LL K := by have := HM.out; omega
                obtain ⟨s1, s2, s3⟩ := HSOME.out K t tl
                obtain ⟨s4, s5, s6⟩ := HSTEP.out K t tl
                have S6 : Hid (LF K (t + 1) = upd (LF K t) K (li - 1)) := by show _ = _; rw [s6]; have := HM.out; rw [show LL K - (t : Int) - 1 = li - 1 by omega]
                have S1 := Lib.hid s1
                have S4 := Lib.hid s4
                have S5 := Lib.hid s5
                have HCU : Hid (∀ i, i < k → f2 i = (K : Int) → wr.cell? ⟨gu, i, none⟩ = some (.int .i64 (MR K t i))) := fun i hi h => by rw [← HIN.out K t i h]; exact hu.cellTab i hi
                have HOF := Lib.hid (HOFF.out K t)
                have HBI := Lib.hid (sB_is (MR K t))
                have HSS : Hid (∀ i, sB (MR K t) (i + 1) = if 0 ≤ MR K t i ∧ (sB (MR K t) i < 0 ∨ MR K t (sB (MR K t) i).toNat < MR K t i) then (i : Int) else sB (MR K t) i) := fun i => rfl
                have HB0 : Hid (sB (MR K t) 0 = -1) := rfl
                have HCV : Hid (∀ i, i < k → wr.cell? ⟨gv, i, none⟩ = some (.int .i64 (OF K t i)) ∧ 0 ≤ OF K t i ∧ OF K t i ≤ 2000000000000) := fun i hi => ⟨hv.cellTab i hi, by have := HOB.out K t (by omega) i hi; omega⟩
                have HCR : Hid (∀ i, i < k → wr.cell? ⟨gu, i, none⟩ = some (.int .i64 (RF K t i))) := fun i hi => hu.cellTab i hi
                have HC2 : Hid (∀ i, i < k → wr.cell? ⟨g2, i, none⟩ = some (.int .i64 (f2 i))) := fun i hi => (J2.below hbq).at0 i hi
                have HV := Lib.hid hv
                have HU := Lib.hid hu
                have HL := Lib.hid hl
                clear hv hu hl s1 s4 s5 s6 hli
                obtain ⟨RR, hRR⟩ : ∃ RR, MR K t = RR := ⟨_, rfl⟩
                rw [hRR] at S1 S4 S5 s2 s3 HCU HOF HBI HSS HB0
                obtain ⟨OO, hOO⟩ : ∃ OO, OF K t = OO := ⟨_, rfl⟩
                rw [hOO] at S5 HCV HV
                obtain ⟨QQ, hQQ⟩ : ∃ QQ, RF K t = QQ := ⟨_, rfl⟩
                rw [hQQ] at S4 HCR HU
                obtain ⟨ZZ, hZZ⟩ : ∃ ZZ, LF K t = ZZ := ⟨_, rfl⟩
                rw [hZZ] at S6 HL
                clear hRR hOO hQQ hZZ
                obtain ⟨bb, hbb⟩ : ∃ bb, gB RR k = bb := ⟨_, rfl⟩
                rw [hbb] at S1 S4 S5 s2 s3
                clear hbb
                generalize hwA : wr = wA at *
                clear hwA
                go_wp2_with fail
                go_loopw [17, 16] (fun x y wq => ∃ p : Nat, p ≤ k ∧ x = .int .i64 p ∧ y = .int .i64 (sB RR p) ∧ ∃ m, wq = wA.drewN m) (fun x _ _ => k - (intOf x).toNat)
                case atStart => exact ⟨0, Nat.zero_le _, rfl, by rw [HB0.out], 0, rfl⟩
                case round =>
                  obtain ⟨p, hp, rfl, rfl, mm, rfl⟩ := hrel
                  by_cases hlt4 : p < k
                  · have d0 := HC2.out p hlt4
                    have l1 : (p : Int) < k := by omega
                    by_cases hkp : f2 p = (K : Int)
                    · have d1 := HCU.out p hlt4 hkp
                      rw [hkp] at d0
                      clear hkp
                      rcases HBI.out p with ⟨b1, _⟩ | ⟨b, b1, b2, b3⟩
                      · by_cases hn : 0 ≤ RR p
                        · have HN : Hid (sB RR (p + 1) = p) := by show _ = _; rw [HSS.out, if_pos ⟨hn, .inl (by omega)⟩]
                          rw [b1]
                          clear b1
                          go_wp2_with fail
                          go_quiet (fail)
                          go_wp2
                          go_roundw
                          case rel => exact ⟨p + 1, by omega, by go_num, by rw [HN.out], _, rfl⟩
                          case measure => simp [intOf]; omega
                        · have HN : Hid (sB RR (p + 1) = -1) := by show _ = _; rw [HSS.out, if_neg (by omega)]; exact b1
                          have hn2 : decide (RR p ≥ 0) = false := decide_eq_false hn
                          have hn3 : decide (0 ≤ RR p) = false := decide_eq_false hn
                          rw [b1]
                          clear b1
                          go_wp2_with fail
                          go_quiet (fail)
                          go_wp2
                          go_roundw
                          case rel => exact ⟨p + 1, by omega, by go_num, by rw [HN.out], _, rfl⟩
                          case measure => simp [intOf]; omega
                      · have bp := b2.1
                        have hkb : f2 b = (K : Int) := by
                          apply Classical.byContradiction
                          intro c
                          have := HOF.out b c
                          omega
                        have d2 := HCU.out b (by omega) hkb
                        have l2 : (b : Int) < k := by omega
                        have eb : (sB RR p).toNat = b := by omega
                        have l3 : ¬ ((b : Int) < 0) := by omega
                        clear hkb b3
                        by_cases hn : 0 ≤ RR p
                        · by_cases hc : RR b < RR p
                          · have HN : Hid (sB RR (p + 1) = p) := by show _ = _; rw [HSS.out, if_pos ⟨hn, .inr (by rw [eb]; exact hc)⟩]
                            rw [b1]
                            clear b1 eb b2
                            go_wp2_with fail
                            go_quiet (fail)
                            go_wp2
                            go_roundw
                            case rel => exact ⟨p + 1, by omega, by go_num, by rw [HN.out], _, rfl⟩
                            case measure => simp [intOf]; omega
                          · have HN : Hid (sB RR (p + 1) = b) := by show _ = _; rw [HSS.out, if_neg (by rw [eb]; omega)]; exact b1
                            have hc2 : decide (RR b < RR p) = false := decide_eq_false hc
                            rw [b1]
                            clear b1 eb b2
                            go_wp2_with fail
                            go_quiet (fail)
                            go_wp2
                            go_roundw
                            case rel => exact ⟨p + 1, by omega, by go_num, by rw [HN.out], _, rfl⟩
                            case measure => simp [intOf]; omega
                        · have HN : Hid (sB RR (p + 1) = b) := by show _ = _; rw [HSS.out, if_neg (by omega)]; exact b1
                          have hn2 : decide (RR p ≥ 0) = false := decide_eq_false hn
                          have hn3 : decide (0 ≤ RR p) = false := decide_eq_false hn
                          rw [b1]
                          clear b1 eb b2
                          go_wp2_with fail
                          go_quiet (fail)
                          go_wp2
                          go_roundw
                          case rel => exact ⟨p + 1, by omega, by go_num, by rw [HN.out], _, rfl⟩
                          case measure => simp [intOf]; omega
                    · have HN : Hid (sB RR (p + 1) = sB RR p) := by show _ = _; have := HOF.out p hkp; rw [HSS.out, if_neg (by omega)]
                      have hk2 : decide (f2 p = (K : Int)) = false := decide_eq_false hkp
                      have hk3 : (f2 p == (K : Int)) = false := by simp [hkp]
                      obtain ⟨sb, hsb⟩ : ∃ sb, sB RR p = sb := ⟨_, rfl⟩
                      rw [hsb] at HN ⊢
                      clear hsb
                      go_wp2_with fail
                      go_quiet (fail)
                      go_wp2
                      go_roundw
                      case rel => exact ⟨p + 1, by omega, by go_num, by rw [HN.out], _, rfl⟩
                      case measure => simp [intOf]; omega
                  · obtain rfl : p = k := by omega
                    rw [S1.out]
                    have l2 : (bb : Int) < p := by omega
                    obtain ⟨d1, d2, d2'⟩ := HCV.out bb s3
                    have d3 := HCR.out bb s3
                    have f1' := HV.out.freeAt bb
                    have f2' := HU.out.freeAt bb
                    have D1 : (⟨gv, bb, none⟩ : Addr) ≠ ⟨gu, bb, none⟩ := by intro h; cases h; exact hne rfl
                    have D2 : (⟨gv, bb, none⟩ : Addr) ≠ ⟨gl, K, none⟩ := by intro h; cases h; exact hvl rfl
                    have D3 : (⟨gu, bb, none⟩ : Addr) ≠ ⟨gl, K, none⟩ := by intro h; cases h; exact hul rfl
                    have hV1 := (HV.out.drewN mm).tabSet (upd OO bb (OO bb + 1)) bb s3 (OO bb + 1) (upd_at _ _ _) (fun i _ hi => (upd_ne _ _ hi).symm)
                    have hV2 := (hV1.keep ⟨gu, bb, none⟩ (Ne.symm hne) (.int .i64 (-1))).keep ⟨gl, K, none⟩ (Ne.symm hvl) (.int .i64 (li - 1))
                    have hU1 := (HU.out.drewN mm).keep ⟨gv, bb, none⟩ hne (.int .i64 (OO bb + 1))
                    have hU2 := (hU1.tabSet (upd QQ bb (-1)) bb s3 (-1) (upd_at _ _ _) (fun i _ hi => (upd_ne _ _ hi).symm)).keep ⟨gl, K, none⟩ (Ne.symm hul) (.int .i64 (li - 1))
                    have hL1 := ((HL.out.drewN mm).keep ⟨gv, bb, none⟩ hvl (.int .i64 (OO bb + 1))).keep ⟨gu, bb, none⟩ hul (.int .i64 (-1))
                    have hL2 := hL1.tabSet (upd ZZ K (li - 1)) K hlt2 (li - 1) (upd_at _ _ _) (fun i _ hi => (upd_ne _ _ hi).symm)
                    rw [← S5.out] at hV2
                    rw [← S4.out] at hU2
                    rw [← S6.out] at hL2
                    have HV2 := Lib.hid hV2
                    have HU2 := Lib.hid hU2
                    have HL2 := Lib.hid hL2
                    have HBB := Lib.hid ((((Go.Proofs.Ytnikfcaloielaaa.Below.drewN' hbq mm).setCell (p := ⟨gv, bb, none⟩) (show w1.heap.size ≤ gv by omega) (.int .i64 (OO bb + 1))).setCell (p := ⟨gu, bb, none⟩) (show w1.heap.size ≤ gu by omega) (.int .i64 (-1))).setCell (p := ⟨gl, K, none⟩) (show w1.heap.size ≤ gl by omega) (.int .i64 (li - 1)))
                    have HME : Hid (LF K (t + 1) K = li - 1) := by show _ = _; rw [S6.out, upd_at]
                    clear hV1 hU1 hL1 hU2 hV2 hL2
                    go_wp2_with fail
                    go_roundw
                    case rel => exact ⟨t + 1, by omega, HV2.out, HU2.out, HL2.out, HBB.out⟩
                    case measure =>
                      rw [HL2.out.cellTab K hlt2, HME.out, hcl]
                      simp [intOf]
                      omega
              · obtain rfl : t = m := by omega
                obtain ⟨n1', n2', n3'⟩ := HN.out
                rw [HM.out, show ((t : Nat) : Int).toNat = t by omega] at n1' n2' n3'
                rw [← n1'] at hu
                rw [← n2'] at hv
                rw [← n3'] at hl
                rw [show (t : Int) - t = 0 by omega] at hcl
                clear n1' n2' n3'
                go_wp2_with fail
                go_roundw
                case rel => exact ⟨K + 1, by omega, by go_num, hv, hu, hl, hbq⟩
                case measure => simp [intOf]; omega
          · obtain rfl : K = n3 := by omega
            rw [HEND.out] at hv
            go_wp2_with fail
            go_ret2
            exact ⟨_, rfl, hv.mono (by omega), by rw [tab_length]; omega, bnext b1 hbq⟩
end Go.Proofs.Ytnikfcaloielaaa
