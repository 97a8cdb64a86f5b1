/-
  impl.JoinScales joins as the plain law tells. Condition: fewer than 1000000000 integers in each list.
-/
import Derived.Test.YtdaijapdfleohaaJoinG
import Derived.Test.YtdaijapdfleohaaJoinQ
import Derived.Test.YtdaijapdfleohaaJoinC
import Derived.Test.YtdaijapdfleohaaAppV
import Derived.StillTailTactics
import Derived.Deep.RegionHeld3
import Derived.Deep.QuietTactic
import Derived.BigQuiet
namespace Go.Proofs.Ytdaijapdfleohaa
open Go.RowKit
set_option linter.unusedVariables false

theorem abs_worldI {F : Act → World → Prop} {a : Act} {W : World} (S : World → Prop) (h : S W) (k : ∀ W', S W' → F a W') : F a W := k W h
theorem Own.litI {E : TypeId} {w : World} {B : Nat} {v : Value} {xs : List Int} (h : Own E w B v xs) (hx : xs ≠ []) : ∃ g c L, v = .slice (some ⟨g, 0, none⟩) L c := by
  obtain ⟨a, c, hv, hh⟩ := h.shape
  obtain ⟨g, rfl, _⟩ := hh hx
  exact ⟨g, c, _, hv⟩
theorem Kept3.notBlkI {w0 w' : World} {v v' : Value} (h : Kept3 w0 v w' v') {g : Nat} (hg : g < w0.heap.size) (hd : v.ownBlock = some g → False) : v'.ownBlock = some g → False := fun e => by
  rcases h.2.1 g e with h1 | h1
  · exact hd h1
  · omega

set_option maxHeartbeats 12800000 in
set_option maxRecDepth 100000 in
theorem join_impl (gb cb gr cr nb nr : Nat) (fb fr : Nat → Int) (g3 c3 g4 c4 n3 n4 : Nat) (f3 f4 : Nat → Int) (w : World) (mb : nb < 1000000000) (mr : nr < 1000000000) (Ib : Ints w gb 0 nb fb) (Ir : Ints w gr 0 nr fr) (m3 : n3 < 1000000000) (m4 : n4 < 1000000000) (I3 : Ints w g3 0 n3 f3) (I4 : Ints w g4 0 n4 f4) :
    Calls Try.prog 22 #[.agg #[.slice (some ⟨gb, 0, none⟩) nb cb, .slice (some ⟨gr, 0, none⟩) nr cr], .agg #[.slice (some ⟨g3, 0, none⟩) n3 c3, .slice (some ⟨g4, 0, none⟩) n4 c4]] w (RetS 2 w (jLb fb fr nb nr f3 f4 n3 n4) (jLr fb fr nb nr f3 f4 n3 n4) (jOk fb fr nb nr f3 f4 n3 n4)) := by
  obtain ⟨wA, hwA⟩ : ∃ wA, (((w.alloc (.cells #[.slice (some ⟨gb, 0, none⟩) nb cb, .slice (some ⟨gr, 0, none⟩) nr cr] 29)).alloc (.cells #[.slice (some ⟨g3, 0, none⟩) n3 c3, .slice (some ⟨g4, 0, none⟩) n4 c4] 29)).alloc (.cells #[.slice none 0 0, .slice none 0 0] 29)) = wA := ⟨_, rfl⟩
  have bA : Below w.heap.size w wA := by rw [← hwA]; go_grown
  have HK0 : Hid (wA.cell? ⟨w.heap.size, 0, none⟩ = some (.slice (some ⟨gb, 0, none⟩) nb cb)) := by show World.cell? _ _ = _; rw [← hwA]; simp [go_sem]
  have HK1 : Hid (wA.cell? ⟨w.heap.size, 1, none⟩ = some (.slice (some ⟨gr, 0, none⟩) nr cr)) := by show World.cell? _ _ = _; rw [← hwA]; simp [go_sem]
  have HK2 : Hid (wA.cell? ⟨w.heap.size + 1, 0, none⟩ = some (.slice (some ⟨g3, 0, none⟩) n3 c3)) := by show World.cell? _ _ = _; rw [← hwA]; simp [go_sem]
  have HK3 : Hid (wA.cell? ⟨w.heap.size + 1, 1, none⟩ = some (.slice (some ⟨g4, 0, none⟩) n4 c4)) := by show World.cell? _ _ = _; rw [← hwA]; simp [go_sem]
  have HZ0 : Hid (wA.cell? ⟨w.heap.size + 1 + 1, 0, none⟩ = some (.slice none 0 0)) := by show World.cell? _ _ = _; rw [← hwA]; simp [go_sem]
  have HZ1 : Hid (wA.cell? ⟨w.heap.size + 1 + 1, 1, none⟩ = some (.slice none 0 0)) := by show World.cell? _ _ = _; rw [← hwA]; simp [go_sem]
  have HZF : Hid (∀ i, wA.frozen? ⟨w.heap.size + 1 + 1, i, none⟩ = false) := fun i => by show World.frozen? _ _ = _; rw [← hwA]; simp [go_sem]
  have hwz : w.heap.size + 1 + 1 < wA.heap.size := by rw [← hwA]; simp
  have HV1 : Hid (∀ w', Below w.heap.size w w' → Calls Try.prog 28 #[.agg #[.slice (some ⟨gb, 0, none⟩) nb cb, .slice (some ⟨gr, 0, none⟩) nr cr]] w' (RetV w' (.bool (scaleOk fb nb fr nr)))) := fun w' hb => valid_impl gb cb gr cr nb nr fb fr w' mb mr (Ib.below hb) (Ir.below hb)
  have HV2 : Hid (∀ w', Below w.heap.size w w' → Calls Try.prog 28 #[.agg #[.slice (some ⟨g3, 0, none⟩) n3 c3, .slice (some ⟨g4, 0, none⟩) n4 c4]] w' (RetV w' (.bool (scaleOk f3 n3 f4 n4)))) := fun w' hb => valid_impl g3 c3 g4 c4 n3 n4 f3 f4 w' m3 m4 (I3.below hb) (I4.below hb)
  cases h1 : scaleOk fb nb fr nr
  · have hj : jOk fb fr nb nr f3 f4 n3 n4 = false := by simp only [jOk, h1, Bool.false_and]
    obtain ⟨z1, z2⟩ := j_no hj
    rw [z1, z2, hj]
    rw [h1] at HV1
    clear z1 z2 hj
    have p0 := HK0.out
    have p1 := HK1.out
    have p2 := HK2.out
    have p3 := HK3.out
    go_enter Try.func22, Try.ntmps22
    go_wp2_with (first | (go_at_call 28; refine (HV1.out _ bA).mono ?_; rintro e w1 ⟨rfl, b1⟩; have C1 := bnext bA b1; have kk0 := Below.cellOf b1 rfl HK0.out; have kk1 := Below.cellOf b1 rfl HK1.out; have z0 := Below.cellOf b1 rfl HZ0.out; have z1 := Below.cellOf b1 rfl HZ1.out; have f0 := (b1.frozen (p := ⟨w.heap.size + 1 + 1, 0, none⟩) hwz).trans (HZF.out 0); have f1 := (b1.frozen (p := ⟨w.heap.size + 1 + 1, 1, none⟩) hwz).trans (HZF.out 1)))
    (try simp only [Exit.inBlock, Exit.then])
    refine bodyPost_ret (v := .tuple #[.agg #[.slice none 0 0, .slice none 0 0], .bool false]) ?_ rfl ?_
    · rw [results_cell_tmp rfl]
      go_simp
    · exact RetS.no _ ((C1.setCell (by show w.heap.size ≤ w.heap.size + 1 + 1; omega) _).setCell (by show w.heap.size ≤ w.heap.size + 1 + 1; omega) _)
  cases h2 : scaleOk f3 n3 f4 n4
  · have hj : jOk fb fr nb nr f3 f4 n3 n4 = false := by simp only [jOk, h2, Bool.false_and, Bool.and_false]
    obtain ⟨z1, z2⟩ := j_no hj
    rw [z1, z2, hj]
    rw [h1] at HV1
    rw [h2] at HV2
    clear z1 z2 hj
    have p0 := HK0.out
    have p1 := HK1.out
    have p2 := HK2.out
    have p3 := HK3.out
    go_enter Try.func22, Try.ntmps22
    go_wp2_with (first | (go_at_call 28; refine (HV2.out _ C1).mono ?_; rintro e w2 ⟨rfl, b2⟩; have C2 := bnext C1 b2; have bb := bnext b1 b2; have q0 := Below.cellOf bb rfl HK0.out; have q1 := Below.cellOf bb rfl HK1.out; have q2 := Below.cellOf bb rfl HK2.out; have q3 := Below.cellOf bb rfl HK3.out; have z0 := Below.cellOf bb rfl HZ0.out; have z1 := Below.cellOf bb rfl HZ1.out; have f0 := (bb.frozen (p := ⟨w.heap.size + 1 + 1, 0, none⟩) hwz).trans (HZF.out 0); have f1 := (bb.frozen (p := ⟨w.heap.size + 1 + 1, 1, none⟩) hwz).trans (HZF.out 1)) | (go_at_call 28; refine (HV1.out _ bA).mono ?_; rintro e w1 ⟨rfl, b1⟩; have C1 := bnext bA b1; have kk0 := Below.cellOf b1 rfl HK0.out; have kk1 := Below.cellOf b1 rfl HK1.out; have kk2 := Below.cellOf b1 rfl HK2.out; have kk3 := Below.cellOf b1 rfl HK3.out))
    (try simp only [Exit.inBlock, Exit.then])
    refine bodyPost_ret (v := .tuple #[.agg #[.slice none 0 0, .slice none 0 0], .bool false]) ?_ rfl ?_
    · rw [results_cell_tmp rfl]
      go_simp
    · exact RetS.no _ ((C2.setCell (by show w.heap.size ≤ w.heap.size + 1 + 1; omega) _).setCell (by show w.heap.size ≤ w.heap.size + 1 + 1; omega) _)
  have hs1 := scale_is h1
  have hs2 := scale_is h2
  have HS1 := Lib.hid hs1
  have HS2 := Lib.hid hs2
  rw [h1] at HV1
  rw [h2] at HV2
  obtain ⟨J, hJ⟩ : ∃ J, jB fb nb f3 n3 = J := ⟨_, rfl⟩
  obtain ⟨R, hR⟩ : ∃ R, jR fb fr nb f3 f4 n3 = R := ⟨_, rfl⟩
  have HRE : Hid (∀ x, R x = rateF fb fr nb x + rateF f3 f4 n3 x) := fun x => by rw [← hR]; rfl
  have HRB : Hid (∀ x, (0 ≤ rateF fb fr nb x ∧ rateF fb fr nb x ≤ 10000) ∧ (0 ≤ rateF f3 f4 n3 x ∧ rateF f3 f4 n3 x ≤ 10000)) := fun x => ⟨rtS_bd hs1.r nb (Nat.le_refl _), rtS_bd hs2.r n3 (Nat.le_refl _)⟩
  have HOK : Hid (jOk fb fr nb nr f3 f4 n3 n4 = scaleOk (fun i => J.getD i 0) J.length (fun i => (J.map R).getD i 0) J.length) := by
    show _ = _
    rw [jOk, h1, h2, hJ, hR, Bool.true_and, Bool.true_and]
  have HJY : Hid (jOk fb fr nb nr f3 f4 n3 n4 = true → jLb fb fr nb nr f3 f4 n3 n4 = J ∧ jLr fb fr nb nr f3 f4 n3 n4 = J.map R) := fun h => by rw [← hJ, ← hR]; exact j_yes h
  have HJN : Hid (jOk fb fr nb nr f3 f4 n3 n4 = false → jLb fb fr nb nr f3 f4 n3 n4 = [] ∧ jLr fb fr nb nr f3 f4 n3 n4 = []) := fun h => j_no h
  have HJ0 : Hid (mrg fb nb f3 n3 (nb + n3) 0 0 = J) := hJ
  have HJL : Hid (1 ≤ J.length ∧ J.length ≤ 16) := by rw [← hJ]; exact ⟨jB_pos hs1.n1, jB_len hs1.n8 hs2.n8⟩
  have HJB : Hid (∀ x, x ∈ J → 0 ≤ x) := fun x hx => (jB_nn hs1 hs2 x (by rw [hJ]; exact hx)).1
  have n1 := hs1.n1
  have n2 := hs2.n1
  have n18 := hs1.n8
  have n28 := hs2.n8
  have HJE : Hid (cmpct (srt (tab fb nb ++ tab f3 n3)) = J) := by rw [← hJ]; exact join_eq hs1.asc hs2.asc
  have HST : Hid (∀ p q, p ≤ nb → q ≤ n3 → (p < nb ∨ q < n3) → nxA fb nb f3 n3 p q ≤ nb ∧ nxB fb nb f3 n3 p q ≤ n3 ∧ p + q < nxA fb nb f3 n3 p q + nxB fb nb f3 n3 p q) := fun p q a b c => by have := nx_lt (A := fb) (B := f3) a b c; omega
  clear h1 h2 hJ hR hs1 hs2
  have p0 := HK0.out
  have p1 := HK1.out
  have p2 := HK2.out
  have p3 := HK3.out
  go_enter Try.func22, Try.ntmps22
  go_wp2_with (first | (go_at_call 28; refine (HV2.out _ C1).mono ?_; rintro e w2 ⟨rfl, b2⟩; have C2 := bnext C1 b2; have bb := bnext b1 b2; have q0 := Below.cellOf bb rfl HK0.out; have q1 := Below.cellOf bb rfl HK1.out; have q2 := Below.cellOf bb rfl HK2.out; have q3 := Below.cellOf bb rfl HK3.out) | (go_at_call 28; refine (HV1.out _ bA).mono ?_; rintro e w1 ⟨rfl, b1⟩; have C1 := bnext bA b1; have kk0 := Below.cellOf b1 rfl HK0.out; have kk1 := Below.cellOf b1 rfl HK1.out; have kk2 := Below.cellOf b1 rfl HK2.out; have kk3 := Below.cellOf b1 rfl HK3.out) | (go_at_call 42; have C3 := C2.alloc C2.size (.cells #[.slice (some ⟨gb, 0, none⟩) nb cb, .slice (some ⟨g3, 0, none⟩) n3 c3] 22); refine (concat_own nb gb cb n3 g3 c3 w2.heap.size fb f3 _ ⟨by omega, by omega⟩ ⟨by omega, by omega⟩ (Ib.below C3) (I3.below C3) (by simp [go_sem]) (by simp [go_sem])).mono ?_; rintro e w3 ⟨gc, cc, rfl, hO, b3⟩) | (go_at_call 43; refine (sort_own hO (by omega)).mono ?_; rintro e w4 ⟨rfl, hO4, K4⟩) | (go_at_call 44; have key := compact_own hO4 (by omega); rw [HJE.out] at key; refine key.mono ?_; rintro e w5 ⟨rfl, hO5, K5⟩; have hgc := hO.lt0.1; have B5 : Below w2.heap.size w2 w5 := ((Below.refl w2.heap.size w2).alloc (Nat.le_refl _) _).trans ((((Below.kept b3).trans K4).trans K5).toBelow (B := w2.heap.size) (fun k e => by subst e; exact Nat.le_trans (by simp) hgc) (by simp)); have hgb : w2.heap.size ≤ gc := Nat.le_trans (by simp) hgc; clear hO hO4 K4 K5 b3 hgc C3 key))
  have D0 := Lib.hid (Below.cellOf B5 rfl q0)
  have D1 := Lib.hid (Below.cellOf B5 rfl q1)
  have D2 := Lib.hid (Below.cellOf B5 rfl q2)
  have D3 := Lib.hid (Below.cellOf B5 rfl q3)
  obtain ⟨aJ, cJ, hv, hh⟩ := hO5.shape
  obtain ⟨gJ, hv2, j1, j2, _, _, IJ, _⟩ := hh (fun e => by have := HJL.out.1; rw [e] at this; simp at this)
  subst hv2
  injection hv with hva hvb hvc
  injection hva with hva
  injection hva with hva
  subst hva
  clear hvb hvc hh
  have hgc5 : gc < w5.heap.size := hO5.lt0.2
  have HDZ0 := Lib.hid (Below.cellOf B5 rfl (Below.cellOf bb rfl HZ0.out))
  have HDZ1 := Lib.hid (Below.cellOf B5 rfl (Below.cellOf bb rfl HZ1.out))
  have hw2 : w.heap.size + 1 + 1 < w2.heap.size := Nat.lt_of_lt_of_le hwz bb.size
  have DZF : Hid (∀ i, w5.frozen? ⟨w.heap.size + 1 + 1, i, none⟩ = false) := fun i => (B5.frozen (p := ⟨w.heap.size + 1 + 1, i, none⟩) hw2).trans ((bb.frozen (p := ⟨w.heap.size + 1 + 1, i, none⟩) hwz).trans (HZF.out i))
  have C5 : Below w.heap.size w w5 := C2.trans (B5.mono C2.size)
  have hw5 : w.heap.size + 1 + 1 < w5.heap.size := Nat.lt_of_lt_of_le hw2 B5.size
  have HO5 : Hid (∀ w', Below w5.heap.size w5 w' → Own 2 w' w.heap.size (.slice (some ⟨gc, 0, none⟩) J.length cc) J) := fun w' hb => (hO5.below hb).mono (Nat.le_trans C2.size (by simp))
  have HAT : Hid (∀ w', Below w5.heap.size w5 w' → ∀ x : Int, Calls Try.prog 45 #[.agg #[.slice (some ⟨gb, 0, none⟩) nb cb, .slice (some ⟨gr, 0, none⟩) nr cr], .int .i64 x] w' (RetV w' (.int .i64 (rateF fb fr nb x)))) := fun w' hb x => by
    have hb2 := C5.trans (hb.mono C5.size)
    exact rate_impl gb cb gr cr nb nr fb fr x w' mb mr (Ib.below hb2) (Ir.below hb2) HS1.out
  have HBT : Hid (∀ w', Below w5.heap.size w5 w' → ∀ x : Int, Calls Try.prog 45 #[.agg #[.slice (some ⟨g3, 0, none⟩) n3 c3, .slice (some ⟨g4, 0, none⟩) n4 c4], .int .i64 x] w' (RetV w' (.int .i64 (rateF f3 f4 n3 x)))) := fun w' hb x => by
    have hb2 := C5.trans (hb.mono C5.size)
    exact rate_impl g3 c3 g4 c4 n3 n4 f3 f4 x w' m3 m4 (I3.below hb2) (I4.below hb2) HS2.out
  go_loopw [33] (fun i wr => ∃ (k : Nat) (vr : Value), k ≤ J.length ∧ i = .int .i64 k ∧ wr.cell? ⟨w5.heap.size, 0, none⟩ = some (.slice (some ⟨gc, 0, none⟩) J.length cc) ∧ wr.cell? ⟨w5.heap.size, 1, none⟩ = some vr ∧ Own 2 wr w5.heap.size vr ((J.take k).map R) ∧ Hid (vr.ownBlock = some w5.heap.size → False) ∧ Hid (∀ i, wr.frozen? ⟨w5.heap.size, i, none⟩ = false) ∧ Below w5.heap.size w5 wr) (fun i _ => J.length - (intOf i).toNat)
  case atStart =>
    refine ⟨0, .slice none 0 0, Nat.zero_le _, rfl, by simp [go_sem], by simp [go_sem], Own.nil _ _ _, (fun h => by cases h), (fun i => by simp [go_sem]), by go_grown⟩
  case round =>
    obtain ⟨k, vr, hk, rfl, k0, k1, hvr, nb1, fz, hbr⟩ := hrel
    have hHlt : w5.heap.size < wr.heap.size := World.block_lt_of_cell? _ _ k0
    by_cases hlt : k < J.length
    · have x1 : wr.cell? ⟨gc, k, none⟩ = some (.int .i64 (J.getD k 0)) := (IJ.below hbr).at0 k hlt
      have l1 : (k : Int) < J.length := by omega
      have l2 : (J.length : Int) ≤ 16 := by have := HJL.out.2; omega
      obtain ⟨X, hX⟩ : ∃ X, J.getD k 0 = X := ⟨_, rfl⟩
      have HT : Hid ((J.take (k + 1)).map R = (J.take k).map R ++ [R X]) := by
        show _ = _
        rw [List.take_succ_eq_append_getElem hlt, List.map_append, ← hX, List.getD_eq_getElem?_getD, List.getElem?_eq_getElem hlt, Option.getD_some]
        rfl
      have HKL : Hid (((J.take k).map R).length < 1000) := by
        have := HJL.out.2
        show _ < _
        rw [List.length_map, List.length_take]
        omega
      rw [hX] at x1
      have HA1 := Lib.hid fun w' hb => HAT.out w' hb X
      have HA2 := Lib.hid fun w' hb => HBT.out w' hb X
      have hrb := HRB.out X
      obtain ⟨ra, hra⟩ : ∃ ra, rateF fb fr nb X = ra := ⟨_, rfl⟩
      obtain ⟨rb, hrb'⟩ : ∃ rb, rateF f3 f4 n3 X = rb := ⟨_, rfl⟩
      rw [hra] at HA1 hrb
      rw [hrb'] at HA2 hrb
      have HRX : Hid (R X = ra + rb) := by rw [← hra, ← hrb']; exact HRE.out X
      have eW : IntKind.i64.wrap (ra + rb) = ra + rb := IntWalk.i64_in _ (by omega)
      have SDR : Below w5.heap.size w5 wr.drew := hbr.drew
      have dd : Below wr.heap.size wr wr.drew := Below.drew (Below.refl _ wr)
      have a0 := Below.cellOf hbr rfl D0.out
      have a1 := Below.cellOf hbr rfl D1.out
      have e0 := Below.cellOf hbr rfl D2.out
      have e1 := Below.cellOf hbr rfl D3.out
      have a0d := Below.cellOf dd rfl a0
      have a1d := Below.cellOf dd rfl a1
      have e0d := Below.cellOf dd rfl e0
      have e1d := Below.cellOf dd rfl e1
      have k1d := Below.cellOf dd rfl k1
      have HB1 := HA1.out _ SDR
      clear hra hrb' hX HA1
      go_wp2_with fail
      go_region_law (first | (refine step_appI _ rfl _ _ 22 rfl w5.heap.size 2 Try.infoI Try.underlying22 _ _ rfl sRa w7.heap.size (ra + rb) rfl hyA.out (by have := HKL.out; omega) sBa.size ?_; intro v8 w8 hO8 b8 k8; have y0 := k8.cell s0a.out (nb1.out); have y1 := k8.cell s1a.out (nb1.out); have g0 := k8.frozen hza (gal.out 0) (nb1.out); have g1 := k8.frozen hza (gal.out 1) (nb1.out); have gall := Lib.hid (fun i => k8.frozen (i := i) hza (gal.out i) nb1.out); have nb8 := Lib.hid (k8.notBlkI hza nb1.out); obtain ⟨gd, cd, L8, rfl⟩ := hO8.litI (by simp)) | (go_simp; go_at_call 45; (with_reducible refine HB1.mono ?_); rintro e w6 ⟨rfl, b6⟩; have S6 := SDR.trans (b6.mono SDR.size); have k1e := Below.cellOf b6 rfl k1d; have e0e := Below.cellOf b6 rfl e0d; have e1e := Below.cellOf b6 rfl e1d) | (go_simp; go_at_call 45; (with_reducible refine (HA2.out _ S6).mono ?_); rintro e w7 ⟨rfl, b7⟩; have k1f := Below.cellOf b7 rfl k1e; have T7 := b6.trans (b7.mono b6.size); have aW : Below w7.heap.size w7 (w7.alloc (.cells #[.int .i64 (ra + rb)] 2)) := (Below.refl _ _).alloc (Nat.le_refl _) _; have TA := T7.trans (aW.mono T7.size); have TW := dd.trans (TA.mono dd.size); have sRa := hvr.below TW; have s0a := Lib.hid (Below.cellOf TW rfl k0); have s1a := Lib.hid (Below.cellOf TW rfl k1); have k1g := s1a.out; have gal := Lib.hid (fun i => (TW.frozen (p := ⟨w5.heap.size, i, none⟩) hHlt).trans (fz.out i)); have hza := Nat.lt_of_lt_of_le hHlt TW.size; have sBa := hbr.trans (TW.mono hbr.size); have hyA := Lib.hid (World.cell?_alloc_at (w := w7) #[.int .i64 (ra + rb)] 2 w7.heap.size 0 rfl)))
      all_goals
        go_wp2
        go_roundw
        case rel => exact ⟨k + 1, .slice (some ⟨gd, 0, none⟩) L8 cd, by omega, by go_num, by rw [World.cell?_setCell_other _ _ _ _ (by intro e; cases e)]; exact y0, by rw [World.cell?_setCell_same _ _ _ y1], by rw [HT.out, HRX.out]; exact hO8.keepV ⟨w5.heap.size, 1, none⟩ nb8.out _, nb8, fun i => by rw [World.frozen?_setCell]; exact gall.out i, (sBa.trans b8).setCell (Nat.le_refl _) _⟩
        case measure => simp [intOf]; omega
    · obtain rfl : k = J.length := by omega
      rw [List.take_length] at hvr
      have hbw := C5.trans (hbr.mono C5.size)
      have hvb := HO5.out _ hbr
      obtain ⟨aK, cK, hv, hh⟩ := hvr.shape
      obtain ⟨gK, rfl, q1', q2', _, _, IK, _⟩ := hh (fun e => by have h1 := HJL.out.1; have h2 := congrArg List.length e; rw [List.length_map] at h2; have h3 : J.length = 0 := h2; omega)
      subst hv
      rw [List.length_map] at IK
      have hkl : (J.map R).length = J.length := List.length_map _
      rw [hkl] at hvr k1
      have hap : Apart (.slice (some ⟨gc, 0, none⟩) J.length cc) (.slice (some ⟨gK, 0, none⟩) J.length cK) := fun kk h1 h2 => by
        have h3 : gc = kk := Option.some.inj h1
        have h4 : gK = kk := Option.some.inj h2
        omega
      have hLb : J.length < 1000000000 := by have := HJL.out.2; omega
      have HGV := Lib.hid (scale_impl gc cc gK cK J.length J.length (fun i => J.getD i 0) (fun i => (J.map R).getD i 0) wr hLb hLb (IJ.below hbr) IK)
      have hz0 := Below.cellOf hbr rfl HDZ0.out
      have hz1 := Below.cellOf hbr rfl HDZ1.out
      have hzf : Hid (∀ i, wr.frozen? ⟨w.heap.size + 1 + 1, i, none⟩ = false) := fun i => (hbr.frozen (p := ⟨w.heap.size + 1 + 1, i, none⟩) hw5).trans (DZF.out i)
      have hwr : w.heap.size + 1 + 1 < wr.heap.size := Nat.lt_of_lt_of_le hw5 hbr.size
      have hgc2 : w2.heap.size ≤ gc := hgb
      generalize hL : J.length = L at *
      cases hok : scaleOk (fun i => J.getD i 0) L (fun i => (J.map R).getD i 0) L
      · rw [hok] at HGV HOK
        obtain ⟨u1, u2⟩ := HJN.out HOK.out
        have HG2 : Hid (Calls Try.prog 46 #[.agg #[.slice (some ⟨gc, 0, none⟩) L cc, .slice (some ⟨gK, 0, none⟩) L cK]] wr (RetV wr (.tuple #[.agg #[.slice none 0 0, .slice none 0 0], .bool false]))) := HGV.out
        have U1 := Lib.hid u1
        have U2 := Lib.hid u2
        clear u1 u2 HGV
        go_wp2_with (first | (go_at_call 46; refine HG2.out.mono ?_; rintro e w9 ⟨rfl, b9⟩; have z0 := Below.cellOf b9 rfl hz0; have z1 := Below.cellOf b9 rfl hz1; have f0 := (b9.frozen (p := ⟨w.heap.size + 1 + 1, 0, none⟩) hwr).trans (hzf.out 0); have f1 := (b9.frozen (p := ⟨w.heap.size + 1 + 1, 1, none⟩) hwr).trans (hzf.out 1)))
        (try simp only [Exit.inBlock, Exit.then])
        refine bodyPost_ret (v := .tuple #[.agg #[.slice none 0 0, .slice none 0 0], .bool false]) ?_ rfl ?_
        · rw [results_cell_tmp rfl]
          go_simp
        · rw [U1.out, U2.out, HOK.out]
          exact RetS.no _ (((bnext hbw b9).setCell (by show w.heap.size ≤ w.heap.size + 1 + 1; omega) _).setCell (by show w.heap.size ≤ w.heap.size + 1 + 1; omega) _)
      · rw [hok] at HGV HOK
        obtain ⟨u1, u2⟩ := HJY.out HOK.out
        have HG2 : Hid (Calls Try.prog 46 #[.agg #[.slice (some ⟨gc, 0, none⟩) L cc, .slice (some ⟨gK, 0, none⟩) L cK]] wr (RetV wr (.tuple #[.agg #[.slice (some ⟨gc, 0, none⟩) L cc, .slice (some ⟨gK, 0, none⟩) L cK], .bool true]))) := HGV.out
        have U1 := Lib.hid u1
        have U2 := Lib.hid u2
        clear u1 u2 HGV
        go_wp2_with (first | (go_at_call 46; refine HG2.out.mono ?_; rintro e w9 ⟨rfl, b9⟩; have z0 := Below.cellOf b9 rfl hz0; have z1 := Below.cellOf b9 rfl hz1; have f0 := (b9.frozen (p := ⟨w.heap.size + 1 + 1, 0, none⟩) hwr).trans (hzf.out 0); have f1 := (b9.frozen (p := ⟨w.heap.size + 1 + 1, 1, none⟩) hwr).trans (hzf.out 1)))
        (try simp only [Exit.inBlock, Exit.then])
        refine bodyPost_ret (v := .tuple #[.agg #[.slice (some ⟨gc, 0, none⟩) L cc, .slice (some ⟨gK, 0, none⟩) L cK], .bool true]) ?_ rfl ?_
        · rw [results_cell_tmp rfl]
          go_simp
        · rw [U1.out, U2.out, HOK.out]
          have hne1 : gc ≠ w.heap.size + 1 + 1 := by omega
          have hne2 : gK ≠ w.heap.size + 1 + 1 := by omega
          have oB := ((hvb.below b9).keepV ⟨w.heap.size + 1 + 1, 0, none⟩ (fun e => hne1 (Option.some.inj e)) (.slice (some ⟨gc, 0, none⟩) L cc)).keepV ⟨w.heap.size + 1 + 1, 1, none⟩ (fun e => hne1 (Option.some.inj e)) (.slice (some ⟨gK, 0, none⟩) L cK)
          have oR := ((hvr.below b9).keepV ⟨w.heap.size + 1 + 1, 0, none⟩ (fun e => hne2 (Option.some.inj e)) (.slice (some ⟨gc, 0, none⟩) L cc)).keepV ⟨w.heap.size + 1 + 1, 1, none⟩ (fun e => hne2 (Option.some.inj e)) (.slice (some ⟨gK, 0, none⟩) L cK)
          exact ⟨_, rfl, ⟨_, _, rfl, oB.mono (by omega), oR.mono (by omega), hap⟩, ⟨by omega, by rw [List.length_map]; omega⟩, ((bnext hbw b9).setCell (by show w.heap.size ≤ w.heap.size + 1 + 1; omega) _).setCell (by show w.heap.size ≤ w.heap.size + 1 + 1; omega) _⟩
end Go.Proofs.Ytdaijapdfleohaa
