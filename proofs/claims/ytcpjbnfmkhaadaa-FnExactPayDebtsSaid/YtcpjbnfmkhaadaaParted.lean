/-
  impl.parted gives the parts by the greatest rests. Conditions: 1 to 39 weights of at least 0, a sum above 0, a number of at least 0; the division tells its quotients and rests.
-/
import Derived.Test.YtcpjbnfmkhaadaaPartP
import Derived.Test.YtcpjbnfmkhaadaaApp3R
import Derived.Test.YtcpjbnfmkhaadaaPartedC
import Derived.Test.YtcpjbnfmkhaadaaTotal
import Derived.Test.YtcpjbnfmkhaadaaBits
import Derived.BigRegion
namespace Go.Proofs.Ytcpjbnfmkhaadaa
open Go.RowKit
set_option linter.unusedVariables false

theorem Own.formTc {E : TypeId} {w : World} {B n : Nat} {v : Value} {f : Nat → Int} (h : Own E w B v (tab f n)) (hn : 1 ≤ n) : ∃ g cap, v = .slice (some ⟨g, 0, none⟩) n cap ∧ B ≤ g ∧ g < w.heap.size ∧ n ≤ cap := by
  rcases h.form with ⟨_, h0⟩ | ⟨g, cap, hv, h1, h2, h3, _⟩
  · have := congrArg List.length h0
    rw [tab_length] at this
    simp at this
    omega
  · rw [tab_length] at hv h3
    exact ⟨g, cap, hv, h1, h2, h3⟩
theorem Own.formTb {E : TypeId} {w : World} {B n : Nat} {v : Value} {f : Nat → Int} (h : Own E w B v (tab f n)) (hn : 1 ≤ n) : ∃ g cap, v = .slice (some ⟨g, 0, none⟩) n cap ∧ B ≤ g ∧ g < w.heap.size := by
  obtain ⟨g, cap, h1, h2, h3, _⟩ := h.formTc hn
  exact ⟨g, cap, h1, h2, h3⟩
theorem pt_infoJ : (Try.prog.info? 3).map (fun i => (i.zero, i.size, i.bytes)) = some (some (.int .i64 0), 1, 8) := by kernel_rfl
theorem pt_infoU : (Try.prog.info? 62).map (fun i => (i.zero, i.size, i.bytes)) = some (some (.int .u64 0), 1, 8) := by kernel_rfl
set_option maxHeartbeats 6400000 in
set_option maxRecDepth 100000 in
theorem parted_any (n g cp : Nat) (c : Int) (f : Nat → Int) (w : World) (n1 : 1 ≤ n) (n40 : n < 40) (c0 : 0 ≤ c) (c1 : c ≤ 1000000000000) (hf : ∀ i, i < n → 0 ≤ f i ∧ f i ≤ 1000000000) (hs : 0 < sumTo f n) (hI : Ints w g 0 n f) (hdv : ∀ i, i < n → DivC (c * f i) (sumTo f n)) :
    Calls Try.prog 22 #[.int .i64 c, .slice (some ⟨g, 0, none⟩) n cp] w (fun e w' => ∃ v, e = .returned v ∧ Own 2 w' w.heap.size v (tab (ptO c f n) n) ∧ Below w.heap.size w w') := by
  have hsb := sumTo_bd hf (Int.le_refl _) (by omega) n (Nat.le_refl _)
  have HSB : Hid (∀ k, k ≤ n → -9000000000000000000 ≤ sumTo f k ∧ sumTo f k ≤ 9000000000000000000) := fun k hk => by
    have := sumTo_bd hf (Int.le_refl _) (by omega) k hk
    have := sumTo_nonneg (fun i hi => (hf i hi).1) k hk
    omega
  have HF := Lib.hid hf
  have HDV := Lib.hid hdv
  have HL0 : Hid (∀ k, k ≤ n → 0 ≤ pL c f (sumTo f n) k ∧ pL c f (sumTo f n) k ≤ c) := pL_lo c0 (fun i hi => (hf i hi).1) hs
  have HQ0 : Hid (∀ k, k < n → 0 ≤ pQ c f (sumTo f n) k ∧ pQ c f (sumTo f n) k ≤ c) := fun k hk => pQ_bd hs c0 (hf k hk).1 (sumTo_ge n (fun i hi => (hf i hi).1) k hk)
  have HR0 : Hid (∀ k, 0 ≤ pR c f (sumTo f n) k ∧ pR c f (sumTo f n) k < sumTo f n) := fun k => pR_bd hs k
  have HLN : Hid (pL c f (sumTo f n) n < n) := (pL_bd (by omega) hs).2
  have HLS : Hid (∀ k, pL c f (sumTo f n) (k + 1) = pL c f (sumTo f n) k - pQ c f (sumTo f n) k) := fun k => pL_step k
  have HL00 : Hid (pL c f (sumTo f n) 0 = c) := by show c - 0 = c; omega
  have HQE : Hid (∀ k, c * f k / sumTo f n = pQ c f (sumTo f n) k ∧ c * f k % sumTo f n = pR c f (sumTo f n) k) := fun k => ⟨rfl, rfl⟩
  clear hf hdv
  obtain ⟨s, hS⟩ : ∃ s, sumTo f n = s := ⟨_, rfl⟩
  have HS := Lib.hid hS
  rw [hS] at hs hsb HL0 HQ0 HR0 HLN HLS HL00 HQE
  have HTOT : Hid (∀ w', Ints w' g 0 n f → Calls Try.prog 29 #[.slice (some ⟨g, 0, none⟩) n cp] w' fun e w'' => e = .returned (.int .i64 s) ∧ w' = w'') := fun w' i => by have := total_any n g 0 cp f w' (by omega) i HSB; rwa [hS] at this
  have hgw := World.block_lt_of_cell? w _ (hI.at0 0 (by omega))
  have ws : IntKind.u64.wrap s = s := by rw [IntKind.wrap_u64]; omega
  clear hS
  go_enter Try.func22, Try.ntmps22
  go_wp2_with fail
  refine (HTOT.out _ hI).mono ?_
  rintro e w1 ⟨rfl, rfl⟩
  go_wp2_with fail
  go_loopw [27, 6, 7, 9] (fun i vO vD l wr => ∃ (k : Nat) (vR : Value), k ≤ n ∧ i = .int .i64 k ∧ l = .int .i64 (pL c f s k) ∧ Hid (Mid3 2 62 3 w (w.heap.size + 1 + 1 + 1) 0 0 0 vR vO (tab (pQ c f s) k) vR (tab (pR c f s) k) vD (tab ido k) none none none wr)) (fun i _ _ _ _ => n - (intOf i).toNat)
  case atStart =>
    have A1 := (((Own.made 2 w (B := w.heap.size) (Nat.le_refl _)).up (.cells #[] 3)).up (.cells #[] 62)).up (.cells #[.slice (some ⟨w.heap.size + 1 + 1, 0, none⟩) 0 0] 63)
    have A2 := ((Own.made 3 (w.alloc (.cells #[] 2)) (B := w.heap.size) (by simp)).up (.cells #[] 62)).up (.cells #[.slice (some ⟨w.heap.size + 1 + 1, 0, none⟩) 0 0] 63)
    have A3 := (OwnU.made 62 ((w.alloc (.cells #[] 2)).alloc (.cells #[] 3)) (B := w.heap.size) (by simp; omega)).up (.cells #[.slice (some ⟨w.heap.size + 1 + 1, 0, none⟩) 0 0] 63)
    have z1 : (w.alloc (.cells #[] 2)).heap.size = w.heap.size + 1 := by simp
    have z2 : ((w.alloc (.cells #[] 2)).alloc (.cells #[] 3)).heap.size = w.heap.size + 1 + 1 := by simp
    rw [z1] at A2
    rw [z2] at A3
    exact ⟨0, .slice (some ⟨w.heap.size + 1 + 1, 0, none⟩) 0 0, Nat.zero_le _, rfl, by rw [HL00.out], ⟨upB (upB (upB (upB (Below.refl _ _) _) _) _) _, A1, A3, A2, by simp [go_sem], by simp [go_sem], Apart.two (by omega), Apart.two (by omega), Apart.two (by omega),
      (fun e => by have h' : w.heap.size = w.heap.size + 1 + 1 + 1 := Option.some.inj e; omega), (fun e => by have h' : w.heap.size + 1 + 1 = w.heap.size + 1 + 1 + 1 := Option.some.inj e; omega), (fun e => by have h' : w.heap.size + 1 = w.heap.size + 1 + 1 + 1 := Option.some.inj e; omega),
      (fun g e => by cases e), (fun g e => by cases e), (fun g e => by cases e)⟩⟩
  case round =>
    obtain ⟨k, vR, hk, rfl, rfl, hM⟩ := hrel
    have hL := HL0.out k hk
    by_cases hlt : k < n
    · have hc := (hI.below (hM.out.b)).at0 k hlt
      have hf := HF.out k hlt
      have hq := HQ0.out k hlt
      have hr := HR0.out k
      obtain ⟨he1, he2⟩ := HQE.out k
      have hdv := HDV.out k hlt
      rw [HS.out] at hdv
      have hL2 := HL0.out (k + 1) (by omega)
      rw [HLS.out] at hL2
      obtain ⟨X, hX⟩ : ∃ X, f k = X := ⟨_, rfl⟩
      rw [hX] at hc hf he1 he2 hdv
      obtain ⟨L, hLe⟩ : ∃ L, pL c f s k = L := ⟨_, rfl⟩
      have HLe := Lib.hid hLe
      obtain ⟨Qv, hQe⟩ : ∃ Q, pQ c f s k = Q := ⟨_, rfl⟩
      obtain ⟨Rv, hRe⟩ : ∃ R, pR c f s k = R := ⟨_, rfl⟩
      rw [hLe, hQe] at hL2
      rw [hLe] at hL
      rw [hQe] at hq he1
      rw [hRe] at hr he2
      have HQe := Lib.hid hQe
      have HRe := Lib.hid hRe
      have m1 := mul64_int c X (by omega) (by omega)
      unfold DivC at hdv
      rw [he1, he2] at hdv
      obtain ⟨hi, hhi⟩ : ∃ x, c * X / 18446744073709551616 = x := ⟨_, rfl⟩
      obtain ⟨lo, hlo⟩ : ∃ x, c * X % 18446744073709551616 = x := ⟨_, rfl⟩
      rw [hhi, hlo] at m1 hdv
      have HMU := Lib.hid m1
      have HDI := Lib.hid hdv
      have w1 : IntKind.u64.wrap c = c := by rw [IntKind.wrap_u64]; omega
      have w2 : IntKind.u64.wrap X = X := by rw [IntKind.wrap_u64]; omega
      have w3 : IntKind.i64.wrap Qv = Qv := IntWalk.i64_in _ (by omega)
      rw [hLe]
      clear hLe hQe hRe he1 he2 m1 hdv hhi hlo hX
      go_wp2_with fail
      refine (HMU.out _).mono ?_
      rintro e w5 ⟨rfl, rfl⟩
      go_wp2_with fail
      refine (HDI.out _).mono ?_
      rintro e w6 ⟨rfl, mq, hw6⟩
      have b6 : Below w5.heap.size w5 w6 := by rw [hw6]; exact Below.drewN' (Below.refl _ _) mq
      clear hw6
      go_wp2_with fail
      refine region_start (by kernel_rfl) rfl ?_
      refine take1 (i := 0) (d := some 47) (v := u6) rfl (by kernel_rfl) (by kernel_rfl) (by kernel_rfl) rfl (fun _ _ _ h => h) (by rfl) (fun w => rfl) ?_
      simp only [Act.put, List.setIfInBounds_toArray, List.set_cons_zero, List.set_cons_succ]
      refine take1 (i := 1) (d := some 48) (v := .int .u64 Qv) rfl (by kernel_rfl) (by kernel_rfl) (by kernel_rfl) rfl (fun _ _ _ h => h) (by rfl) (fun w => rfl) ?_
      simp only [Act.put, List.setIfInBounds_toArray, List.set_cons_zero, List.set_cons_succ]
      refine take1 (i := 2) (d := some 49) (v := .int .i64 Qv) rfl (by kernel_rfl) (by kernel_rfl) (by kernel_rfl) rfl (fun _ _ _ h => h) (by rfl) (fun w => by go_simp) ?_
      simp only [Act.put, List.setIfInBounds_toArray, List.set_cons_zero, List.set_cons_succ]
      refine take1 (i := 6) (d := some 53) (v := .int .u64 Rv) rfl (by kernel_rfl) (by kernel_rfl) (by kernel_rfl) rfl (fun _ _ _ h => h) (by rfl) (fun w => rfl) ?_
      simp only [Act.put, List.setIfInBounds_toArray, List.set_cons_zero, List.set_cons_succ]
      refine take1 (i := 9) (d := some 56) (v := u7) rfl (by kernel_rfl) (by kernel_rfl) (by kernel_rfl) rfl (fun _ _ _ h => h) (by rfl) (fun w => rfl) ?_
      simp only [Act.put, List.setIfInBounds_toArray, List.set_cons_zero, List.set_cons_succ]
      refine take1 (i := 10) (d := some 57) (v := .int .i64 k) rfl (by kernel_rfl) (by kernel_rfl) (by kernel_rfl) rfl (fun _ _ _ h => h) (by rfl) (fun w => rfl) ?_
      simp only [Act.put, List.setIfInBounds_toArray, List.set_cons_zero, List.set_cons_succ]
      have hM6 := (hM.out.next b6).re Qv Rv k
      have hM7 := hM6.next (Below.refl w6.heap.size w6).drew
      refine app3_go (w0 := w) (EI := 2) (EU := 62) (EJ := 3) (TI := 22) (TU := 63) (TJ := 54) (bx := w.heap.size + 1 + 1 + 1) (q := Qv) (r := Rv) (k := k) (vO := u6) (vB := vR) (vD := u7) (lO := tab (pQ c f s) k) (lR := tab (pR c f s) k) (lD := tab ido k) (s4 := .tmp 47) (s12 := .tmp 56)
        (by simp) rfl rfl rfl rfl rfl rfl rfl rfl rfl rfl rfl rfl rfl rfl rfl rfl rfl rfl rfl rfl rfl
        (fun a w hA => run_bs1 rfl Try.underlying22 Try.infoI ((hA (.tmp 49) (by simp [Plain])).trans rfl))
        (fun a w hA => run_bs1 rfl Try.underlying63 pt_infoU ((hA (.tmp 53) (by simp [Plain])).trans rfl))
        (fun a w hA => run_bs1 rfl Try.underlying54 pt_infoJ ((hA (.tmp 57) (by simp [Plain])).trans rfl))
        (fun a w hA hc => run_ld1 rfl ((hA (.tmp 8) (by simp [Plain])).trans rfl) (by simp [go_sem, hc]))
        rfl rfl rfl (by simp [Plain]) rfl (by simp [Plain]) rfl Try.infoI pt_infoU pt_infoJ Try.underlying22 Try.underlying63 Try.underlying54
        (fun b1 b2 b3 l => by cases b1 <;> cases b2 <;> cases b3 <;> cases l <;> kernel_rfl)
        (fun b2 b3 l => by cases b2 <;> cases b3 <;> cases l <;> kernel_rfl)
        (fun b3 => by cases b3 <;> kernel_rfl)
        (tab_len8s (by omega)) (tab_len8s (by omega)) (tab_len8s (by omega)) hM7 ?hf
      case hf =>
        intro n1 v1 n2 v2 n3 v3 w7 hM8
        obtain ⟨ad2, m2, cp2, rfl⟩ : ∃ ad m cp, v2 = Value.slice ad m cp := by
          rcases hM8.u.2 with ⟨h0, _⟩ | ⟨g, cap, cur, h0, _⟩
          · exact ⟨_, _, _, h0⟩
          · exact ⟨_, _, _, h0⟩
        have hc8 := hM8.c
        have hf8 := hM8.f
        simp only [chn, pif_true, Act.put, List.setIfInBounds_toArray, List.set_cons_zero, List.set_cons_succ]
        refine wpAny_all (rs := [13]) (by kernel_rfl) (by simp) ?_
        intro i hi
        obtain rfl : i = 13 := by simpa using hi
        refine wpOp_val (d := some 6) (v := v1) rfl rfl rfl rfl ?_
        simp only [Act.put, List.setIfInBounds_toArray, List.set_cons_zero, List.set_cons_succ]
        refine wpAny_all (rs := [14]) (by kernel_rfl) (by simp) ?_
        intro i hi
        obtain rfl : i = 14 := by simpa using hi
        refine wpOp_skip (w' := w7.setCell ⟨w.heap.size + 1 + 1 + 1, 0, none⟩ (Value.slice ad2 m2 cp2)) rfl rfl rfl (by simp [execOp, go_sem, hc8, hf8, Act.eval]) ?_
        refine wpAny_all (rs := [15]) (by kernel_rfl) (by simp) ?_
        intro i hi
        obtain rfl : i = 15 := by simpa using hi
        refine wpOp_val (d := some 7) (v := v3) rfl rfl rfl rfl ?_
        simp only [Act.put, List.setIfInBounds_toArray, List.set_cons_zero, List.set_cons_succ]
        refine wpAny_done (by kernel_rfl) ?_ _
        have hM9 := Lib.hid (hM8.store (by omega) (Value.slice ad2 m2 cp2))
        clear hM8 hM7 hM6 hc8 hf8
        go_wp2_with fail
        go_roundw
        case rel => exact ⟨k + 1, Value.slice ad2 m2 cp2, by omega, by go_num, by rw [HLS.out, HLe.out, HQe.out], by rw [tab, tab, tab, HQe.out, HRe.out]; exact hM9.out.re 0 0 0⟩
        case measure => simp [intOf]; omega
    · obtain rfl : k = n := by omega
      obtain ⟨gv, cv, rfl, v1, v2⟩ := hM.out.o.formTb n1
      obtain ⟨gd, cd, rfl, d1, d2, d3⟩ := hM.out.d.formTc n1
      obtain ⟨gr, cr, rfl, r1, r2, r3⟩ := hM.out.u.form n1
      have hvd : gv ≠ gd := fun e => hM.out.od gv rfl (by rw [e]; rfl)
      have hdr : gr ≠ gd := fun e => hM.out.dr gd rfl (by rw [e]; rfl)
      have hbd : w.heap.size + 1 + 1 + 1 ≠ gd := fun e => hM.out.nd (by rw [e]; rfl)
      have hrow : RowAt wr gd k ido := ⟨fun i hi => by rw [Nat.zero_add]; exact hM.out.d.cellTab i hi, fun i => hM.out.d.freeAt i⟩
      have HV := Lib.hid hM.out.o
      have HBR := Lib.hid hM.out.b
      have HSORT := Lib.hid (sortStable_pt k gd cd (.pointer (some ⟨w.heap.size + 1 + 1 + 1, 0, none⟩)) (pkey (pR c f s)) ido wr n40 (pt_cmp k gd gr cr (w.heap.size + 1 + 1 + 1) (pR c f s) wr (by omega) hM.out.c r3 hbd hdr) hrow (fun p q h1 h2 => by show (p : Int) < (q : Int); omega) (ido_rng k))
      obtain ⟨L, hL0⟩ := Int.eq_ofNat_of_zero_le hL.1
      have HLe := Lib.hid hL0
      have hLk : L < k := by have := HLN.out; omega
      have l1 : (L : Int) ≤ cd := by omega
      have l2 : (L : Int) ≤ k := by omega
      have l3 : L ≤ cd := by omega
      have HPT : Hid (gO (pQ c f s) (pR c f s) k L = ptO c f k) := by
        show _ = _
        unfold ptO
        rw [HS.out, hL0]
        rfl
      rw [hL0]
      clear hM hL0 hL hrow r3
      go_wp2_with fail
      refine HSORT.out.mono ?_
      rintro e w2 ⟨rfl, o, hR2, hM2, hS2, hK2⟩
      have HO := Lib.hid (Ord.of hM2)
      have HPK : Hid (∀ j, j < k → ((gB (gR (pR c f s) k j) k : Nat) : Int) = o j) := fun j hj => pick_at (fun i _ => (HR0.out i).1) HO.out hS2 hj
      have HGB : Hid (∀ j, gB (gR (pR c f s) k j) k < k) := fun j => gB_lt _ k (by omega)
      have HOB : Hid (∀ j i, i < k → 0 ≤ gO (pQ c f s) (pR c f s) k j i ∧ gO (pQ c f s) (pR c f s) k j i ≤ c + j) := fun j i hi => gO_bd (fun i hi => HQ0.out i hi) j i hi
      have hv2 := hK2.own HV.out (fun j hj => by have h' : gv = j := Option.some.inj hj; omega)
      have hb2 : Below w.heap.size w w2 := HBR.out.trans (hK2.toBelow (fun j hj => by have h' : j = gd := hj; omega) HBR.out.size)
      clear hM2 hS2 hK2
      go_wp2_with fail
      go_loopw [72] (fun i wr => ∃ j : Nat, j ≤ L ∧ i = .int .i64 j ∧ Own 2 wr w.heap.size (.slice (some ⟨gv, 0, none⟩) k cv) (tab (gO (pQ c f s) (pR c f s) k j) k) ∧ RowAt wr gd k o ∧ Below w.heap.size w wr) (fun i _ => L - (intOf i).toNat)
      case atStart => exact ⟨0, Nat.zero_le _, rfl, hv2, hR2, hb2⟩
      case round =>
        obtain ⟨j, hj, rfl, hv, hR, hbq⟩ := hrel
        by_cases hlt2 : j < L
        · have hg := HGB.out j
          have hp := HPK.out j (by omega)
          have x1 := hR.at j (by omega)
          rw [← hp] at x1
          have hob := HOB.out j (gB (gR (pR c f s) k j) k) hg
          have x2 := hv.cellTab (gB (gR (pR c f s) k j) k) hg
          have f2 := hv.freeAt (gB (gR (pR c f s) k j) k)
          have HN : Hid (gO (pQ c f s) (pR c f s) k (j + 1) = upd (gO (pQ c f s) (pR c f s) k j) (gB (gR (pR c f s) k j) k) (gO (pQ c f s) (pR c f s) k j (gB (gR (pR c f s) k j) k) + 1)) := rfl
          have HV3 := Lib.hid hv
          obtain ⟨b, hb⟩ : ∃ b, gB (gR (pR c f s) k j) k = b := ⟨_, rfl⟩
          obtain ⟨OO, hOO⟩ : ∃ OO, gO (pQ c f s) (pR c f s) k j = OO := ⟨_, rfl⟩
          rw [hb] at hg x1 x2 f2 hob HN
          rw [hOO] at x2 hob HN HV3
          have l4 : (j : Int) < L := by omega
          have l5 : (b : Int) < k := by omega
          have hv4 := HV3.out.tabSet (upd OO b (OO b + 1)) b hg (OO b + 1) (upd_at _ _ _) (fun i _ hi => (upd_ne _ _ hi).symm)
          rw [← HN.out] at hv4
          have HV4 := Lib.hid hv4
          have HR4 : Hid (RowAt (wr.setCell ⟨gv, b, none⟩ (.int .i64 (OO b + 1))) gd k o) := ⟨fun i hi => by rw [World.cell?_setCell_other _ _ _ _ (by intro h; cases h; exact hvd rfl)]; exact hR.1 i hi, fun i => by rw [World.frozen?_setCell]; exact hR.2 i⟩
          have HB4 := Lib.hid (hbq.setCell (p := ⟨gv, b, none⟩) v1 (.int .i64 (OO b + 1)))
          clear hv4 hv hR hb hOO hp
          go_wp2_with fail
          go_roundw
          case rel => exact ⟨j + 1, by omega, by go_num, HV4.out, HR4.out, HB4.out⟩
          case measure => simp [intOf]; omega
        · obtain rfl : j = L := by omega
          rw [HPT.out] at hv
          go_wp2_with fail
          go_ret
          exact ⟨_, rfl, hv, hbq⟩
end Go.Proofs.Ytcpjbnfmkhaadaa
