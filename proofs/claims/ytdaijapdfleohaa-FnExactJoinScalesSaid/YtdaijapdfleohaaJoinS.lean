/-
  spec.JoinScales joins as the plain law tells. Condition: fewer than 1000000000 integers in each list.
-/
import Derived.Test.YtdaijapdfleohaaJoinG
import Derived.Test.YtdaijapdfleohaaJoinQ
import Derived.Test.YtdaijapdfleohaaAppV
import Derived.StillTailTactics
import Derived.Deep.RegionHeld3
import Derived.Deep.QuietTactic
import Derived.BigQuiet
namespace Go.Proofs.Ytdaijapdfleohaa
open Go.RowKit
set_option linter.unusedVariables false

theorem abs_world {F : Act → World → Prop} {a : Act} {W : World} (S : World → Prop) (h : S W) (k : ∀ W', S W' → F a W') : F a W := k W h
theorem Own.lit {E : TypeId} {w : World} {B : Nat} {v : Value} {xs : List Int} (h : Own E w B v xs) (hx : xs ≠ []) : ∃ g c L, v = .slice (some ⟨g, 0, none⟩) L c := by
  obtain ⟨a, c, hv, hh⟩ := h.shape
  obtain ⟨g, rfl, _⟩ := hh hx
  exact ⟨g, c, _, hv⟩
theorem Kept3.notBlk {w0 w' : World} {v v' : Value} (h : Kept3 w0 v w' v') {g : Nat} (hg : g < w0.heap.size) (hd : v.ownBlock = some g → False) : v'.ownBlock = some g → False := fun e => by
  rcases h.2.1 g e with h1 | h1
  · exact hd h1
  · omega
theorem l00Min_anyJ (a b : Int) (w : World) : Calls Try.prog 39 #[.int .i64 a, .int .i64 b] w fun e w' => e = .returned (.int .i64 (min a b)) ∧ w' = w := by
  go_enter Try.func39, Try.ntmps39
  go_wp2
  all_goals (go_ret; exact ⟨ret_int (by omega), rfl⟩)

set_option maxHeartbeats 12800000 in
set_option maxRecDepth 100000 in
theorem join_spec (gb cb gr cr nb nr : Nat) (fb fr : Nat → Int) (g3 c3 g4 c4 n3 n4 : Nat) (f3 f4 : Nat → Int) (w : World) (mb : nb < 1000000000) (mr : nr < 1000000000) (Ib : Ints w gb 0 nb fb) (Ir : Ints w gr 0 nr fr) (m3 : n3 < 1000000000) (m4 : n4 < 1000000000) (I3 : Ints w g3 0 n3 f3) (I4 : Ints w g4 0 n4 f4) :
    Calls Try.prog 21 #[.agg #[.slice (some ⟨gb, 0, none⟩) nb cb, .slice (some ⟨gr, 0, none⟩) nr cr], .agg #[.slice (some ⟨g3, 0, none⟩) n3 c3, .slice (some ⟨g4, 0, none⟩) n4 c4]] w (RetS 2 w (jLb fb fr nb nr f3 f4 n3 n4) (jLr fb fr nb nr f3 f4 n3 n4) (jOk fb fr nb nr f3 f4 n3 n4)) := by
  obtain ⟨wA, hwA⟩ : ∃ wA, (((w.alloc (.cells #[.slice (some ⟨gb, 0, none⟩) nb cb, .slice (some ⟨gr, 0, none⟩) nr cr] 29)).alloc (.cells #[.slice (some ⟨g3, 0, none⟩) n3 c3, .slice (some ⟨g4, 0, none⟩) n4 c4] 29)).alloc (.cells #[.slice none 0 0, .slice none 0 0] 29)) = wA := ⟨_, rfl⟩
  have bA : Below w.heap.size w wA := by rw [← hwA]; go_grown
  have HK0 : Hid (wA.cell? ⟨w.heap.size, 0, none⟩ = some (.slice (some ⟨gb, 0, none⟩) nb cb)) := by show World.cell? _ _ = _; rw [← hwA]; simp [go_sem]
  have HK1 : Hid (wA.cell? ⟨w.heap.size, 1, none⟩ = some (.slice (some ⟨gr, 0, none⟩) nr cr)) := by show World.cell? _ _ = _; rw [← hwA]; simp [go_sem]
  have HK2 : Hid (wA.cell? ⟨w.heap.size + 1, 0, none⟩ = some (.slice (some ⟨g3, 0, none⟩) n3 c3)) := by show World.cell? _ _ = _; rw [← hwA]; simp [go_sem]
  have HK3 : Hid (wA.cell? ⟨w.heap.size + 1, 1, none⟩ = some (.slice (some ⟨g4, 0, none⟩) n4 c4)) := by show World.cell? _ _ = _; rw [← hwA]; simp [go_sem]
  have HZ0 : Hid (wA.cell? ⟨w.heap.size + 1 + 1, 0, none⟩ = some (.slice none 0 0)) := by show World.cell? _ _ = _; rw [← hwA]; simp [go_sem]
  have HZ1 : Hid (wA.cell? ⟨w.heap.size + 1 + 1, 1, none⟩ = some (.slice none 0 0)) := by show World.cell? _ _ = _; rw [← hwA]; simp [go_sem]
  have HZF : Hid (∀ i, wA.frozen? ⟨w.heap.size + 1 + 1, i, none⟩ = false) := fun i => by show World.frozen? _ _ = _; rw [← hwA]; simp [go_sem]
  have hwz : w.heap.size + 1 + 1 < wA.heap.size := by rw [← hwA]; simp
  have HV1 : Hid (∀ w', w'.cell? ⟨w.heap.size, 0, none⟩ = some (.slice (some ⟨gb, 0, none⟩) nb cb) → w'.cell? ⟨w.heap.size, 1, none⟩ = some (.slice (some ⟨gr, 0, none⟩) nr cr) → Below w.heap.size w w' → Calls Try.prog 25 #[.pointer (some ⟨w.heap.size, 0, none⟩)] w' (RetV w' (.bool (scaleOk fb nb fr nr)))) := fun w' a b hb => is_spec w.heap.size gb cb gr cr nb nr fb fr w' a b mb mr (Ib.below hb) (Ir.below hb)
  have HV2 : Hid (∀ w', w'.cell? ⟨w.heap.size + 1, 0, none⟩ = some (.slice (some ⟨g3, 0, none⟩) n3 c3) → w'.cell? ⟨w.heap.size + 1, 1, none⟩ = some (.slice (some ⟨g4, 0, none⟩) n4 c4) → Below w.heap.size w w' → Calls Try.prog 25 #[.pointer (some ⟨w.heap.size + 1, 0, none⟩)] w' (RetV w' (.bool (scaleOk f3 n3 f4 n4)))) := fun w' a b hb => is_spec (w.heap.size + 1) g3 c3 g4 c4 n3 n4 f3 f4 w' a b m3 m4 (I3.below hb) (I4.below hb)
  cases h1 : scaleOk fb nb fr nr
  · have hj : jOk fb fr nb nr f3 f4 n3 n4 = false := by simp only [jOk, h1, Bool.false_and]
    obtain ⟨z1, z2⟩ := j_no hj
    rw [z1, z2, hj]
    rw [h1] at HV1
    clear z1 z2 hj
    go_enter Try.func21, Try.ntmps21
    go_wp2_with (first | (go_at_call 25; refine (HV1.out _ HK0.out HK1.out bA).mono ?_; rintro e w1 ⟨rfl, b1⟩; have C1 := bnext bA b1; have z0 := Below.cellOf b1 rfl HZ0.out; have z1 := Below.cellOf b1 rfl HZ1.out; have f0 := (b1.frozen (p := ⟨w.heap.size + 1 + 1, 0, none⟩) hwz).trans (HZF.out 0); have f1 := (b1.frozen (p := ⟨w.heap.size + 1 + 1, 1, none⟩) hwz).trans (HZF.out 1)))
    (try simp only [Exit.inBlock, Exit.then])
    refine bodyPost_ret (v := .tuple #[.agg #[.slice none 0 0, .slice none 0 0], .bool false]) ?_ rfl ?_
    · rw [results_cell_tmp rfl]
      go_simp
    · exact RetS.no _ ((C1.setCell (by show w.heap.size ≤ w.heap.size + 1 + 1; omega) _).setCell (by show w.heap.size ≤ w.heap.size + 1 + 1; omega) _)
  cases h2 : scaleOk f3 n3 f4 n4
  · have hj : jOk fb fr nb nr f3 f4 n3 n4 = false := by simp only [jOk, h2, Bool.false_and, Bool.and_false]
    obtain ⟨z1, z2⟩ := j_no hj
    rw [z1, z2, hj]
    rw [h1] at HV1
    rw [h2] at HV2
    clear z1 z2 hj
    go_enter Try.func21, Try.ntmps21
    go_wp2_with (first | (go_at_call 25; refine (HV2.out _ kk2 kk3 C1).mono ?_; rintro e w2 ⟨rfl, b2⟩; have C2 := bnext C1 b2; have bb := bnext b1 b2; have z0 := Below.cellOf bb rfl HZ0.out; have z1 := Below.cellOf bb rfl HZ1.out; have f0 := (bb.frozen (p := ⟨w.heap.size + 1 + 1, 0, none⟩) hwz).trans (HZF.out 0); have f1 := (bb.frozen (p := ⟨w.heap.size + 1 + 1, 1, none⟩) hwz).trans (HZF.out 1)) | (go_at_call 25; refine (HV1.out _ HK0.out HK1.out bA).mono ?_; rintro e w1 ⟨rfl, b1⟩; have C1 := bnext bA b1; have kk2 := Below.cellOf b1 rfl HK2.out; have kk3 := Below.cellOf b1 rfl HK3.out))
    (try simp only [Exit.inBlock, Exit.then])
    refine bodyPost_ret (v := .tuple #[.agg #[.slice none 0 0, .slice none 0 0], .bool false]) ?_ rfl ?_
    · rw [results_cell_tmp rfl]
      go_simp
    · exact RetS.no _ ((C2.setCell (by show w.heap.size ≤ w.heap.size + 1 + 1; omega) _).setCell (by show w.heap.size ≤ w.heap.size + 1 + 1; omega) _)
  have hs1 := scale_is h1
  have hs2 := scale_is h2
  have HS1 := Lib.hid hs1
  have HS2 := Lib.hid hs2
  rw [h1] at HV1
  rw [h2] at HV2
  obtain ⟨J, hJ⟩ : ∃ J, jB fb nb f3 n3 = J := ⟨_, rfl⟩
  obtain ⟨R, hR⟩ : ∃ R, jR fb fr nb f3 f4 n3 = R := ⟨_, rfl⟩
  have HRE : Hid (∀ x, R x = rateF fb fr nb x + rateF f3 f4 n3 x) := fun x => by rw [← hR]; rfl
  have HRB : Hid (∀ x, (0 ≤ rateF fb fr nb x ∧ rateF fb fr nb x ≤ 10000) ∧ (0 ≤ rateF f3 f4 n3 x ∧ rateF f3 f4 n3 x ≤ 10000)) := fun x => ⟨rtS_bd hs1.r nb (Nat.le_refl _), rtS_bd hs2.r n3 (Nat.le_refl _)⟩
  have HOK : Hid (jOk fb fr nb nr f3 f4 n3 n4 = scaleOk (fun i => J.getD i 0) J.length (fun i => (J.map R).getD i 0) J.length) := by
    show _ = _
    rw [jOk, h1, h2, hJ, hR, Bool.true_and, Bool.true_and]
  have HJY : Hid (jOk fb fr nb nr f3 f4 n3 n4 = true → jLb fb fr nb nr f3 f4 n3 n4 = J ∧ jLr fb fr nb nr f3 f4 n3 n4 = J.map R) := fun h => by rw [← hJ, ← hR]; exact j_yes h
  have HJN : Hid (jOk fb fr nb nr f3 f4 n3 n4 = false → jLb fb fr nb nr f3 f4 n3 n4 = [] ∧ jLr fb fr nb nr f3 f4 n3 n4 = []) := fun h => j_no h
  have HJ0 : Hid (mrg fb nb f3 n3 (nb + n3) 0 0 = J) := hJ
  have HJL : Hid (1 ≤ J.length ∧ J.length ≤ 16) := by rw [← hJ]; exact ⟨jB_pos hs1.n1, jB_len hs1.n8 hs2.n8⟩
  have HJB : Hid (∀ x, x ∈ J → 0 ≤ x) := fun x hx => (jB_nn hs1 hs2 x (by rw [hJ]; exact hx)).1
  have n1 := hs1.n1
  have n2 := hs2.n1
  have n18 := hs1.n8
  have n28 := hs2.n8
  have HST : Hid (∀ p q, p ≤ nb → q ≤ n3 → (p < nb ∨ q < n3) → nxA fb nb f3 n3 p q ≤ nb ∧ nxB fb nb f3 n3 p q ≤ n3 ∧ p + q < nxA fb nb f3 n3 p q + nxB fb nb f3 n3 p q) := fun p q a b c => by have := nx_lt (A := fb) (B := f3) a b c; omega
  clear h1 h2 hJ hR hs1 hs2
  go_enter Try.func21, Try.ntmps21
  go_wp2_with (first | (go_at_call 25; refine (HV2.out _ kk2 kk3 C1).mono ?_; rintro e w2 ⟨rfl, b2⟩; have C2 := bnext C1 b2; have bb := bnext b1 b2) | (go_at_call 25; refine (HV1.out _ HK0.out HK1.out bA).mono ?_; rintro e w1 ⟨rfl, b1⟩; have C1 := bnext bA b1; have kk2 := Below.cellOf b1 rfl HK2.out; have kk3 := Below.cellOf b1 rfl HK3.out))
  have D0 := Lib.hid (Below.cellOf bb rfl HK0.out)
  have D1 := Lib.hid (Below.cellOf bb rfl HK1.out)
  have D2 := Lib.hid (Below.cellOf bb rfl HK2.out)
  have D3 := Lib.hid (Below.cellOf bb rfl HK3.out)
  have DZ0 := Lib.hid (Below.cellOf bb rfl HZ0.out)
  have DZ1 := Lib.hid (Below.cellOf bb rfl HZ1.out)
  have DZF : Hid (∀ i, w2.frozen? ⟨w.heap.size + 1 + 1, i, none⟩ = false) := fun i => (bb.frozen (p := ⟨w.heap.size + 1 + 1, i, none⟩) hwz).trans (HZF.out i)
  have HAT : Hid (∀ w', Below w2.heap.size w2 w' → ∀ x : Int, 0 ≤ x → Calls Try.prog 40 #[.pointer (some ⟨w.heap.size, 0, none⟩), .int .i64 x] w' (fun e w'' => e = .returned (.int .i64 (rateF fb fr nb x)) ∧ w'' = w')) := fun w' hb x hx => by
    have hb2 := C2.trans (hb.mono C2.size)
    exact at_spec w.heap.size gb cb gr cr nb nr fb fr x w' (Below.cellOf hb rfl D0.out) (Below.cellOf hb rfl D1.out) mb mr (Ib.below hb2) (Ir.below hb2) HS1.out hx
  have HBT : Hid (∀ w', Below w2.heap.size w2 w' → ∀ x : Int, 0 ≤ x → Calls Try.prog 40 #[.pointer (some ⟨w.heap.size + 1, 0, none⟩), .int .i64 x] w' (fun e w'' => e = .returned (.int .i64 (rateF f3 f4 n3 x)) ∧ w'' = w')) := fun w' hb x hx => by
    have hb2 := C2.trans (hb.mono C2.size)
    exact at_spec (w.heap.size + 1) g3 c3 g4 c4 n3 n4 f3 f4 x w' (Below.cellOf hb rfl D2.out) (Below.cellOf hb rfl D3.out) m3 m4 (I3.below hb2) (I4.below hb2) HS2.out hx
  have hw2 : w.heap.size + 1 + 1 < w2.heap.size := Nat.lt_of_lt_of_le hwz bb.size
  go_loopw [7, 8] (fun i j wr => ∃ (p q f : Nat) (xs : List Int) (vb vr : Value), p ≤ nb ∧ q ≤ n3 ∧ i = .int .i64 p ∧ j = .int .i64 q ∧ Hid ((nb - p) + (n3 - q) ≤ f ∧ xs ++ mrg fb nb f3 n3 f p q = J) ∧ wr.cell? ⟨w2.heap.size, 0, none⟩ = some vb ∧ wr.cell? ⟨w2.heap.size, 1, none⟩ = some vr ∧ Own 2 wr w2.heap.size vb xs ∧ Own 2 wr w2.heap.size vr (xs.map R) ∧ Hid (Apart vb vr) ∧ Hid (vb.ownBlock = some w2.heap.size → False) ∧ Hid (vr.ownBlock = some w2.heap.size → False) ∧ Hid (∀ i, wr.frozen? ⟨w2.heap.size, i, none⟩ = false) ∧ Below w2.heap.size w2 wr) (fun i j _ => (nb + n3) - ((intOf i).toNat + (intOf j).toNat))
  case atStart =>
    refine ⟨0, 0, nb + n3, [], .slice none 0 0, .slice none 0 0, Nat.zero_le _, Nat.zero_le _, rfl, rfl, ⟨by omega, HJ0.out⟩, by simp [go_sem], by simp [go_sem], Own.nil _ _ _, Own.nil _ _ _, (fun _ h _ => by cases h), (fun h => by cases h), (fun h => by cases h), (fun i => by simp [go_sem]), by go_grown⟩
  case round =>
    obtain ⟨p, q, f, xs, vb, vr, hp, hq, rfl, rfl, HM, k0, k1, hvb, hvr, hap, nb0, nb1, fz, hbr⟩ := hrel
    have hHlt : w2.heap.size < wr.heap.size := World.block_lt_of_cell? _ _ k0
    have hbw := C2.trans (hbr.mono C2.size)
    have HXL : Hid (xs.length ≤ 16 ∧ (xs.map R).length ≤ 16) := by
      have h1 := HM.out.2
      have h2 := HJL.out.2
      rw [← h1, List.length_append] at h2
      exact ⟨by omega, by rw [List.length_map]; omega⟩
    have a0 := Below.cellOf hbr rfl D0.out
    have b0 := Below.cellOf hbr rfl D2.out
    rcases (Decidable.em (p < nb ∨ q < n3)).symm with hgo | hgo
    · obtain rfl : p = nb := by omega
      obtain rfl : q = n3 := by omega
      have hxs : xs = J := by have := HM.out.2; rwa [mrg_end, List.append_nil] at this
      subst hxs
      obtain ⟨aJ, cJ, hv, hh⟩ := hvb.shape
      obtain ⟨gJ, rfl, j1, j2, _, _, IJ, _⟩ := hh (fun e => by have := HJL.out.1; rw [e] at this; simp at this)
      subst hv
      obtain ⟨aK, cK, hv, hh⟩ := hvr.shape
      obtain ⟨gK, rfl, q1, q2, _, _, IK, _⟩ := hh (fun e => by have h1 := HJL.out.1; have h2 := congrArg List.length e; rw [List.length_map] at h2; have h3 : xs.length = 0 := h2; omega)
      subst hv
      rw [List.length_map] at IK
      have hkl : (xs.map R).length = xs.length := List.length_map _
      rw [hkl] at hvr k1 hap
      have hLb : xs.length < 1000000000 := by have := HJL.out.2; omega
      have HGV := Lib.hid (give_spec gJ cJ gK cK xs.length xs.length (fun i => xs.getD i 0) (fun i => (xs.map R).getD i 0) wr hLb hLb IJ IK)
      have hz0 := Below.cellOf hbr rfl DZ0.out
      have hz1 := Below.cellOf hbr rfl DZ1.out
      have hzf : Hid (∀ i, wr.frozen? ⟨w.heap.size + 1 + 1, i, none⟩ = false) := fun i => (hbr.frozen (p := ⟨w.heap.size + 1 + 1, i, none⟩) hw2).trans (DZF.out i)
      have hwr : w.heap.size + 1 + 1 < wr.heap.size := Nat.lt_of_lt_of_le hw2 hbr.size
      generalize hL : xs.length = L at *
      cases hok : scaleOk (fun i => xs.getD i 0) L (fun i => (xs.map R).getD i 0) L
      · rw [hok] at HGV HOK
        obtain ⟨u1, u2⟩ := HJN.out HOK.out
        have HG2 : Hid (Calls Try.prog 41 #[.agg #[.slice (some ⟨gJ, 0, none⟩) L cJ, .slice (some ⟨gK, 0, none⟩) L cK]] wr (RetV wr (.tuple #[.agg #[.slice none 0 0, .slice none 0 0], .bool false]))) := HGV.out
        have U1 := Lib.hid u1
        have U2 := Lib.hid u2
        clear u1 u2 HGV
        go_wp2_with (first | (go_at_call 41; refine HG2.out.mono ?_; rintro e w9 ⟨rfl, b9⟩; have z0 := Below.cellOf b9 rfl hz0; have z1 := Below.cellOf b9 rfl hz1; have f0 := (b9.frozen (p := ⟨w.heap.size + 1 + 1, 0, none⟩) hwr).trans (hzf.out 0); have f1 := (b9.frozen (p := ⟨w.heap.size + 1 + 1, 1, none⟩) hwr).trans (hzf.out 1)))
        (try simp only [Exit.inBlock, Exit.then])
        refine bodyPost_ret (v := .tuple #[.agg #[.slice none 0 0, .slice none 0 0], .bool false]) ?_ rfl ?_
        · rw [results_cell_tmp rfl]
          go_simp
        · rw [U1.out, U2.out, HOK.out]
          exact RetS.no _ (((bnext hbw b9).setCell (by show w.heap.size ≤ w.heap.size + 1 + 1; omega) _).setCell (by show w.heap.size ≤ w.heap.size + 1 + 1; omega) _)
      · rw [hok] at HGV HOK
        obtain ⟨u1, u2⟩ := HJY.out HOK.out
        have HG2 : Hid (Calls Try.prog 41 #[.agg #[.slice (some ⟨gJ, 0, none⟩) L cJ, .slice (some ⟨gK, 0, none⟩) L cK]] wr (RetV wr (.tuple #[.agg #[.slice (some ⟨gJ, 0, none⟩) L cJ, .slice (some ⟨gK, 0, none⟩) L cK], .bool true]))) := HGV.out
        have U1 := Lib.hid u1
        have U2 := Lib.hid u2
        clear u1 u2 HGV
        go_wp2_with (first | (go_at_call 41; refine HG2.out.mono ?_; rintro e w9 ⟨rfl, b9⟩; have z0 := Below.cellOf b9 rfl hz0; have z1 := Below.cellOf b9 rfl hz1; have f0 := (b9.frozen (p := ⟨w.heap.size + 1 + 1, 0, none⟩) hwr).trans (hzf.out 0); have f1 := (b9.frozen (p := ⟨w.heap.size + 1 + 1, 1, none⟩) hwr).trans (hzf.out 1)))
        (try simp only [Exit.inBlock, Exit.then])
        refine bodyPost_ret (v := .tuple #[.agg #[.slice (some ⟨gJ, 0, none⟩) L cJ, .slice (some ⟨gK, 0, none⟩) L cK], .bool true]) ?_ rfl ?_
        · rw [results_cell_tmp rfl]
          go_simp
        · rw [U1.out, U2.out, HOK.out]
          have hne1 : gJ ≠ w.heap.size + 1 + 1 := by omega
          have hne2 : gK ≠ w.heap.size + 1 + 1 := by omega
          have oB := ((hvb.below b9).keepV ⟨w.heap.size + 1 + 1, 0, none⟩ (fun e => hne1 (Option.some.inj e)) (.slice (some ⟨gJ, 0, none⟩) L cJ)).keepV ⟨w.heap.size + 1 + 1, 1, none⟩ (fun e => hne1 (Option.some.inj e)) (.slice (some ⟨gK, 0, none⟩) L cK)
          have oR := ((hvr.below b9).keepV ⟨w.heap.size + 1 + 1, 0, none⟩ (fun e => hne2 (Option.some.inj e)) (.slice (some ⟨gJ, 0, none⟩) L cJ)).keepV ⟨w.heap.size + 1 + 1, 1, none⟩ (fun e => hne2 (Option.some.inj e)) (.slice (some ⟨gK, 0, none⟩) L cK)
          exact ⟨_, rfl, ⟨_, _, rfl, oB.mono (by omega), oR.mono (by omega), hap.out⟩, ⟨by omega, by rw [List.length_map]; omega⟩, ((bnext hbw b9).setCell (by show w.heap.size ≤ w.heap.size + 1 + 1; omega) _).setCell (by show w.heap.size ≤ w.heap.size + 1 + 1; omega) _⟩
    · obtain ⟨f', hf'⟩ : ∃ f', f = f' + 1 := ⟨f - 1, by have := HM.out.1; omega⟩
      have HST2 := HST.out p q hp hq hgo
      have HM2 : Hid ((nb - nxA fb nb f3 n3 p q) + (n3 - nxB fb nb f3 n3 p q) ≤ f' ∧ (xs ++ [xv fb nb f3 n3 p q]) ++ mrg fb nb f3 n3 f' (nxA fb nb f3 n3 p q) (nxB fb nb f3 n3 p q) = J) := by
        have h0 := HM.out
        rw [hf', mrg_go hgo] at h0
        refine ⟨by omega, ?_⟩
        rw [List.append_assoc, List.singleton_append]
        exact h0.2
      have hX0 : 0 ≤ xv fb nb f3 n3 p q := HJB.out _ (by rw [← HM2.out.2]; simp)
      have hxe : xv fb nb f3 n3 p q = (if p = nb then f3 q else if q = n3 then fb p else min (fb p) (f3 q)) := rfl
      have hAe : nxA fb nb f3 n3 p q = (if p < nb ∧ fb p = xv fb nb f3 n3 p q then p + 1 else p) := rfl
      have hBe : nxB fb nb f3 n3 p q = (if q < n3 ∧ f3 q = xv fb nb f3 n3 p q then q + 1 else q) := rfl
      obtain ⟨X, hX⟩ : ∃ X, xv fb nb f3 n3 p q = X := ⟨_, rfl⟩
      obtain ⟨p', hp'⟩ : ∃ p', nxA fb nb f3 n3 p q = p' := ⟨_, rfl⟩
      obtain ⟨q', hq'⟩ : ∃ q', nxB fb nb f3 n3 p q = q' := ⟨_, rfl⟩
      rw [hX] at hxe hAe hBe HM2 hX0
      rw [hp'] at hAe HM2 HST2
      rw [hq'] at hBe HM2 HST2
      clear hX hp' hq' hf' HM
      by_cases e1 : p = nb
      · have e2 := e1.symm
        subst e2
        have hq3 : q < n3 := by omega
        rw [if_pos rfl] at hxe
        have x2 := (I3.below hbw).at0 q hq3
        rw [← hxe] at x2 hBe
        rw [if_neg (by omega)] at hAe
        rw [if_pos ⟨hq3, rfl⟩] at hBe
        have HPQ : Hid (p' = nb ∧ q' = q + 1) := ⟨hAe, hBe⟩
        have l2 : (q : Int) < n3 := by omega
        clear hxe hAe hBe
        rw [HPQ.out.1, HPQ.out.2] at HM2 HST2
        go_wp2_with (first | (at_builtin; refine wpList_app3 _ rfl _ _ 22 rfl w2.heap.size 2 Try.infoI Try.underlying22 _ _ rfl hvb _ rfl (by have := HXL.out; omega) hbr.size ?_; intro v5 w5 hO5 b5 k5; have B5 := hbr.trans b5; have y0 := k5.cell k0 (nb0.out); have y1 := k5.cell k1 (nb0.out); have z0 := k5.frozen hHlt (fz.out 0) (nb0.out); have z1 := k5.frozen hHlt (fz.out 1) (nb0.out); have zall := Lib.hid (fun i => k5.frozen (i := i) hHlt (fz.out i) (nb0.out)); have hR5 := k5.own hvr hap.out; have nb5 := Lib.hid (k5.notBlk hHlt nb0.out); obtain ⟨ga, ca, L5, rfl⟩ := hO5.lit (by simp)))
        refine abs_world (fun W => W.cell? ⟨w2.heap.size, 0, none⟩ = some (.slice (some ⟨ga, 0, none⟩) L5 ca) ∧ W.cell? ⟨w2.heap.size, 1, none⟩ = some vr ∧ (∀ i, W.frozen? ⟨w2.heap.size, i, none⟩ = false) ∧ Own 2 W w2.heap.size (.slice (some ⟨ga, 0, none⟩) L5 ca) (xs ++ [X]) ∧ Own 2 W w2.heap.size vr (xs.map R) ∧ w2.heap.size < W.heap.size ∧ Below w2.heap.size w2 W) ⟨by rw [World.cell?_setCell_same _ _ _ y0], by rw [World.cell?_setCell_other _ _ _ _ (by intro e; cases e)]; exact y1, fun i => by rw [World.frozen?_setCell]; exact zall.out i, hO5.keepV ⟨w2.heap.size, 0, none⟩ nb5.out _, hR5.1.keepV ⟨w2.heap.size, 0, none⟩ nb1.out _, by simpa using World.block_lt_of_cell? _ _ y0, B5.setCell (Nat.le_refl _) _⟩ ?_
        rintro W ⟨s0, s1, sf, sO, sR, sl, sB⟩
        have f0 := sf 0
        have f1 := sf 1
        have SF := Lib.hid sf
        clear sf
        have SDR : Below w2.heap.size w2 W.drew := sB.drew
        have HA1 := HAT.out _ SDR X hX0
        have HA2 := HBT.out _ SDR X hX0
        have hrb := HRB.out X
        have sO' := sO.below (Below.drew (Below.refl _ W))
        have sR' := sR.below (Below.drew (Below.refl _ W))
        have s0' := Below.cellOf (Below.drew (Below.refl _ W)) rfl s0
        have s1' := Below.cellOf (Below.drew (Below.refl _ W)) rfl s1
        have hap5 := hR5.2
        clear k0 k1 y0 y1 z0 z1 hO5 b5 k5 hR5 hvb hvr B5
        obtain ⟨ra, hra⟩ : ∃ ra, rateF fb fr nb X = ra := ⟨_, rfl⟩
        obtain ⟨rb, hrb'⟩ : ∃ rb, rateF f3 f4 n3 X = rb := ⟨_, rfl⟩
        rw [hra] at HA1 hrb
        rw [hrb'] at HA2 hrb
        have HRX : Hid (R X = ra + rb) := by rw [← hra, ← hrb']; exact HRE.out X
        have eW : IntKind.i64.wrap (ra + rb) = ra + rb := IntWalk.i64_in _ (by omega)
        have aW : Below W.heap.size W (W.alloc (.cells #[.int .i64 (ra + rb)] 2)).drew := ((Below.refl _ _).alloc (Nat.le_refl _) _).drew
        have s0a := Lib.hid (Below.cellOf aW rfl s0)
        have s1a := Lib.hid (Below.cellOf aW rfl s1)
        have f0a := Lib.hid ((aW.frozen (p := ⟨w2.heap.size, 0, none⟩) sl).trans f0)
        have f1a := Lib.hid ((aW.frozen (p := ⟨w2.heap.size, 1, none⟩) sl).trans f1)
        have hza : w2.heap.size < ((W.alloc (.cells #[.int .i64 (ra + rb)] 2)).drew).heap.size := Nat.lt_of_lt_of_le sl aW.size
        have sOa := sO.below aW
        have sRa := sR.below aW
        have sBa : Below w2.heap.size w2 ((W.alloc (.cells #[.int .i64 (ra + rb)] 2)).drew) := sB.trans (aW.mono (Nat.le_of_lt sl))
        have hyA := Lib.hid (show ((W.alloc (.cells #[.int .i64 (ra + rb)] 2)).drew).cell? ⟨W.heap.size, 0, none⟩ = some (.int .i64 (ra + rb)) by rw [World.cell?_drew]; exact World.cell?_alloc_at (w := W) #[.int .i64 (ra + rb)] 2 W.heap.size 0 rfl)
        clear hra hrb'
        go_region_law (first | (refine step_appI _ rfl _ _ 22 rfl w2.heap.size 2 Try.infoI Try.underlying22 _ _ rfl sRa W.heap.size (ra + rb) rfl hyA.out (by have := HXL.out; omega) sBa.size ?_; intro v7 w7 hO7 b7 k7; have y0 := k7.cell s0a.out (nb1.out); have y1 := k7.cell s1a.out (nb1.out); have g0 := k7.frozen hza f0a.out (nb1.out); have g1 := k7.frozen hza f1a.out (nb1.out); have gall := Lib.hid (fun i => k7.frozen (i := i) hza ((aW.frozen (p := ⟨w2.heap.size, i, none⟩) sl).trans (SF.out i)) nb1.out); have sO7 := k7.own sOa (fun k a b => hap5 k b a); have nb7 := Lib.hid (k7.notBlk hza nb1.out); obtain ⟨gc, cc, L7, rfl⟩ := hO7.lit (by simp)) | (go_simp; go_at_call 40; (with_reducible refine HA1.mono ?_); rintro e w' ⟨rfl, rfl⟩) | (go_simp; go_at_call 40; (with_reducible refine HA2.mono ?_); rintro e w' ⟨rfl, rfl⟩))
        all_goals
          go_wp2
          go_roundw
          case rel => exact ⟨nb, q + 1, f', xs ++ [X], .slice (some ⟨ga, 0, none⟩) L5 ca, .slice (some ⟨gc, 0, none⟩) L7 cc, by omega, by omega, by go_num, by go_num, HM2, by rw [World.cell?_setCell_other _ _ _ _ (by intro e; cases e)]; exact y0, by rw [World.cell?_setCell_same _ _ _ y1], sO7.1.keepV ⟨w2.heap.size, 1, none⟩ nb5.out _, by rw [List.map_append, List.map_cons, List.map_nil, HRX.out]; exact hO7.keepV ⟨w2.heap.size, 1, none⟩ nb7.out _, sO7.2.symm, nb5, nb7, fun i => by rw [World.frozen?_setCell]; exact gall.out i, (sBa.trans b7).setCell (Nat.le_refl _) _⟩
          case measure => simp [intOf]; omega
      · have hpn : p < nb := by omega
        rw [if_neg e1] at hxe
        have l1 : (p : Int) < nb := by omega
        have x1 := (Ib.below hbw).at0 p hpn
        have e1' : ¬ ((p : Int) = nb) := by omega
        by_cases e2 : q = n3
        · have e3 := e2.symm
          subst e3
          rw [if_pos rfl] at hxe
          rw [← hxe] at x1 hAe
          rw [if_pos ⟨hpn, rfl⟩] at hAe
          rw [if_neg (by omega)] at hBe
          have HPQ : Hid (p' = p + 1 ∧ q' = n3) := ⟨hAe, hBe⟩
          clear hxe hAe hBe
          rw [HPQ.out.1, HPQ.out.2] at HM2 HST2
          go_wp2_with (first | (at_builtin; refine wpList_app3 _ rfl _ _ 22 rfl w2.heap.size 2 Try.infoI Try.underlying22 _ _ rfl hvb _ rfl (by have := HXL.out; omega) hbr.size ?_; intro v5 w5 hO5 b5 k5; have B5 := hbr.trans b5; have y0 := k5.cell k0 (nb0.out); have y1 := k5.cell k1 (nb0.out); have z0 := k5.frozen hHlt (fz.out 0) (nb0.out); have z1 := k5.frozen hHlt (fz.out 1) (nb0.out); have zall := Lib.hid (fun i => k5.frozen (i := i) hHlt (fz.out i) (nb0.out)); have hR5 := k5.own hvr hap.out; have nb5 := Lib.hid (k5.notBlk hHlt nb0.out); obtain ⟨ga, ca, L5, rfl⟩ := hO5.lit (by simp)))
          refine abs_world (fun W => W.cell? ⟨w2.heap.size, 0, none⟩ = some (.slice (some ⟨ga, 0, none⟩) L5 ca) ∧ W.cell? ⟨w2.heap.size, 1, none⟩ = some vr ∧ (∀ i, W.frozen? ⟨w2.heap.size, i, none⟩ = false) ∧ Own 2 W w2.heap.size (.slice (some ⟨ga, 0, none⟩) L5 ca) (xs ++ [X]) ∧ Own 2 W w2.heap.size vr (xs.map R) ∧ w2.heap.size < W.heap.size ∧ Below w2.heap.size w2 W) ⟨by rw [World.cell?_setCell_same _ _ _ y0], by rw [World.cell?_setCell_other _ _ _ _ (by intro e; cases e)]; exact y1, fun i => by rw [World.frozen?_setCell]; exact zall.out i, hO5.keepV ⟨w2.heap.size, 0, none⟩ nb5.out _, hR5.1.keepV ⟨w2.heap.size, 0, none⟩ nb1.out _, by simpa using World.block_lt_of_cell? _ _ y0, B5.setCell (Nat.le_refl _) _⟩ ?_
          rintro W ⟨s0, s1, sf, sO, sR, sl, sB⟩
          have f0 := sf 0
          have f1 := sf 1
          have SF := Lib.hid sf
          clear sf
          have SDR : Below w2.heap.size w2 W.drew := sB.drew
          have HA1 := HAT.out _ SDR X hX0
          have HA2 := HBT.out _ SDR X hX0
          have hrb := HRB.out X
          have sO' := sO.below (Below.drew (Below.refl _ W))
          have sR' := sR.below (Below.drew (Below.refl _ W))
          have s0' := Below.cellOf (Below.drew (Below.refl _ W)) rfl s0
          have s1' := Below.cellOf (Below.drew (Below.refl _ W)) rfl s1
          have hap5 := hR5.2
          clear k0 k1 y0 y1 z0 z1 hO5 b5 k5 hR5 hvb hvr B5
          obtain ⟨ra, hra⟩ : ∃ ra, rateF fb fr nb X = ra := ⟨_, rfl⟩
          obtain ⟨rb, hrb'⟩ : ∃ rb, rateF f3 f4 n3 X = rb := ⟨_, rfl⟩
          rw [hra] at HA1 hrb
          rw [hrb'] at HA2 hrb
          have HRX : Hid (R X = ra + rb) := by rw [← hra, ← hrb']; exact HRE.out X
          have eW : IntKind.i64.wrap (ra + rb) = ra + rb := IntWalk.i64_in _ (by omega)
          have aW : Below W.heap.size W (W.alloc (.cells #[.int .i64 (ra + rb)] 2)).drew := ((Below.refl _ _).alloc (Nat.le_refl _) _).drew
          have s0a := Lib.hid (Below.cellOf aW rfl s0)
          have s1a := Lib.hid (Below.cellOf aW rfl s1)
          have f0a := Lib.hid ((aW.frozen (p := ⟨w2.heap.size, 0, none⟩) sl).trans f0)
          have f1a := Lib.hid ((aW.frozen (p := ⟨w2.heap.size, 1, none⟩) sl).trans f1)
          have hza : w2.heap.size < ((W.alloc (.cells #[.int .i64 (ra + rb)] 2)).drew).heap.size := Nat.lt_of_lt_of_le sl aW.size
          have sOa := sO.below aW
          have sRa := sR.below aW
          have sBa : Below w2.heap.size w2 ((W.alloc (.cells #[.int .i64 (ra + rb)] 2)).drew) := sB.trans (aW.mono (Nat.le_of_lt sl))
          have hyA := Lib.hid (show ((W.alloc (.cells #[.int .i64 (ra + rb)] 2)).drew).cell? ⟨W.heap.size, 0, none⟩ = some (.int .i64 (ra + rb)) by rw [World.cell?_drew]; exact World.cell?_alloc_at (w := W) #[.int .i64 (ra + rb)] 2 W.heap.size 0 rfl)
          clear hra hrb'
          go_region_law (first | (refine step_appI _ rfl _ _ 22 rfl w2.heap.size 2 Try.infoI Try.underlying22 _ _ rfl sRa W.heap.size (ra + rb) rfl hyA.out (by have := HXL.out; omega) sBa.size ?_; intro v7 w7 hO7 b7 k7; have y0 := k7.cell s0a.out (nb1.out); have y1 := k7.cell s1a.out (nb1.out); have g0 := k7.frozen hza f0a.out (nb1.out); have g1 := k7.frozen hza f1a.out (nb1.out); have gall := Lib.hid (fun i => k7.frozen (i := i) hza ((aW.frozen (p := ⟨w2.heap.size, i, none⟩) sl).trans (SF.out i)) nb1.out); have sO7 := k7.own sOa (fun k a b => hap5 k b a); have nb7 := Lib.hid (k7.notBlk hza nb1.out); obtain ⟨gc, cc, L7, rfl⟩ := hO7.lit (by simp)) | (go_simp; go_at_call 40; (with_reducible refine HA1.mono ?_); rintro e w' ⟨rfl, rfl⟩) | (go_simp; go_at_call 40; (with_reducible refine HA2.mono ?_); rintro e w' ⟨rfl, rfl⟩))
          all_goals
            go_wp2
            go_roundw
            case rel => exact ⟨p + 1, n3, f', xs ++ [X], .slice (some ⟨ga, 0, none⟩) L5 ca, .slice (some ⟨gc, 0, none⟩) L7 cc, by omega, by omega, by go_num, by go_num, HM2, by rw [World.cell?_setCell_other _ _ _ _ (by intro e; cases e)]; exact y0, by rw [World.cell?_setCell_same _ _ _ y1], sO7.1.keepV ⟨w2.heap.size, 1, none⟩ nb5.out _, by rw [List.map_append, List.map_cons, List.map_nil, HRX.out]; exact hO7.keepV ⟨w2.heap.size, 1, none⟩ nb7.out _, sO7.2.symm, nb5, nb7, fun i => by rw [World.frozen?_setCell]; exact gall.out i, (sBa.trans b7).setCell (Nat.le_refl _) _⟩
            case measure => simp [intOf]; omega
        · have hqn : q < n3 := by omega
          rw [if_neg e2] at hxe
          have l2 : (q : Int) < n3 := by omega
          have x2 := (I3.below hbw).at0 q hqn
          have e2' : ¬ ((q : Int) = n3) := by omega
          rcases Int.lt_trichotomy (fb p) (f3 q) with hlt | hlt | hlt
          · have hXe : X = fb p := by omega
            obtain ⟨Y, hY⟩ : ∃ Y, f3 q = Y := ⟨_, rfl⟩
            rw [hY] at x2 hBe hlt
            rw [← hXe] at x1 hAe hlt
            have hne : ¬ Y = X := by omega
            rw [if_pos ⟨hpn, rfl⟩] at hAe
            rw [if_neg (fun h => hne h.2)] at hBe
            have HPQ : Hid (p' = p + 1 ∧ q' = q) := ⟨hAe, hBe⟩
            have HMN : Hid (∀ m, Calls Try.prog 39 #[.int .i64 X, .int .i64 Y] (wr.drewN m) fun e w' => e = .returned (.int .i64 X) ∧ w' = wr.drewN m) := fun m => by have := l00Min_anyJ X Y (wr.drewN m); rwa [show min X Y = X by omega] at this
            clear hxe hAe hBe hXe hY
            rw [HPQ.out.1, HPQ.out.2] at HM2 HST2
            go_wp2_with fail
            go_quiet ((go_at_call 39; exact Calls.quiet_of_same (HMN.out _)))
            replace hvb := hvb.drewN nq
            replace hvr := hvr.drewN nq
            replace hbr := Go.Proofs.Ytdaijapdfleohaa.Below.drewN' hbr nq
            have dq : Below wr.heap.size wr (wr.drewN nq) := Go.Proofs.Ytdaijapdfleohaa.Below.drewN' (Below.refl _ _) nq
            replace k0 := Below.cellOf dq rfl k0
            replace k1 := Below.cellOf dq rfl k1
            have fz2 : Hid (∀ i, (wr.drewN nq).frozen? ⟨w2.heap.size, i, none⟩ = false) := fun i => (dq.frozen (p := ⟨w2.heap.size, i, none⟩) hHlt).trans (fz.out i)
            replace hHlt : w2.heap.size < (wr.drewN nq).heap.size := Nat.lt_of_lt_of_le hHlt dq.size
            clear fz
            have fz := fz2
            clear fz2
            replace x1 := Below.cellOf dq rfl x1
            replace x2 := Below.cellOf dq rfl x2
            replace a0 := Below.cellOf dq rfl a0
            replace b0 := Below.cellOf dq rfl b0
            clear dq
            generalize wr.drewN nq = wr at *
            go_wp2_with (first | (at_builtin; refine wpList_app3 _ rfl _ _ 22 rfl w2.heap.size 2 Try.infoI Try.underlying22 _ _ rfl hvb _ rfl (by have := HXL.out; omega) hbr.size ?_; intro v5 w5 hO5 b5 k5; have B5 := hbr.trans b5; have y0 := k5.cell k0 (nb0.out); have y1 := k5.cell k1 (nb0.out); have z0 := k5.frozen hHlt (fz.out 0) (nb0.out); have z1 := k5.frozen hHlt (fz.out 1) (nb0.out); have zall := Lib.hid (fun i => k5.frozen (i := i) hHlt (fz.out i) (nb0.out)); have hR5 := k5.own hvr hap.out; have nb5 := Lib.hid (k5.notBlk hHlt nb0.out); obtain ⟨ga, ca, L5, rfl⟩ := hO5.lit (by simp)))
            refine abs_world (fun W => W.cell? ⟨w2.heap.size, 0, none⟩ = some (.slice (some ⟨ga, 0, none⟩) L5 ca) ∧ W.cell? ⟨w2.heap.size, 1, none⟩ = some vr ∧ (∀ i, W.frozen? ⟨w2.heap.size, i, none⟩ = false) ∧ Own 2 W w2.heap.size (.slice (some ⟨ga, 0, none⟩) L5 ca) (xs ++ [X]) ∧ Own 2 W w2.heap.size vr (xs.map R) ∧ w2.heap.size < W.heap.size ∧ Below w2.heap.size w2 W) ⟨by rw [World.cell?_setCell_same _ _ _ y0], by rw [World.cell?_setCell_other _ _ _ _ (by intro e; cases e)]; exact y1, fun i => by rw [World.frozen?_setCell]; exact zall.out i, hO5.keepV ⟨w2.heap.size, 0, none⟩ nb5.out _, hR5.1.keepV ⟨w2.heap.size, 0, none⟩ nb1.out _, by simpa using World.block_lt_of_cell? _ _ y0, B5.setCell (Nat.le_refl _) _⟩ ?_
            rintro W ⟨s0, s1, sf, sO, sR, sl, sB⟩
            have f0 := sf 0
            have f1 := sf 1
            have SF := Lib.hid sf
            clear sf
            have SDR : Below w2.heap.size w2 W.drew := sB.drew
            have HA1 := HAT.out _ SDR X hX0
            have HA2 := HBT.out _ SDR X hX0
            have hrb := HRB.out X
            have sO' := sO.below (Below.drew (Below.refl _ W))
            have sR' := sR.below (Below.drew (Below.refl _ W))
            have s0' := Below.cellOf (Below.drew (Below.refl _ W)) rfl s0
            have s1' := Below.cellOf (Below.drew (Below.refl _ W)) rfl s1
            have hap5 := hR5.2
            clear k0 k1 y0 y1 z0 z1 hO5 b5 k5 hR5 hvb hvr B5
            obtain ⟨ra, hra⟩ : ∃ ra, rateF fb fr nb X = ra := ⟨_, rfl⟩
            obtain ⟨rb, hrb'⟩ : ∃ rb, rateF f3 f4 n3 X = rb := ⟨_, rfl⟩
            rw [hra] at HA1 hrb
            rw [hrb'] at HA2 hrb
            have HRX : Hid (R X = ra + rb) := by rw [← hra, ← hrb']; exact HRE.out X
            have eW : IntKind.i64.wrap (ra + rb) = ra + rb := IntWalk.i64_in _ (by omega)
            have aW : Below W.heap.size W (W.alloc (.cells #[.int .i64 (ra + rb)] 2)).drew := ((Below.refl _ _).alloc (Nat.le_refl _) _).drew
            have s0a := Lib.hid (Below.cellOf aW rfl s0)
            have s1a := Lib.hid (Below.cellOf aW rfl s1)
            have f0a := Lib.hid ((aW.frozen (p := ⟨w2.heap.size, 0, none⟩) sl).trans f0)
            have f1a := Lib.hid ((aW.frozen (p := ⟨w2.heap.size, 1, none⟩) sl).trans f1)
            have hza : w2.heap.size < ((W.alloc (.cells #[.int .i64 (ra + rb)] 2)).drew).heap.size := Nat.lt_of_lt_of_le sl aW.size
            have sOa := sO.below aW
            have sRa := sR.below aW
            have sBa : Below w2.heap.size w2 ((W.alloc (.cells #[.int .i64 (ra + rb)] 2)).drew) := sB.trans (aW.mono (Nat.le_of_lt sl))
            have hyA := Lib.hid (show ((W.alloc (.cells #[.int .i64 (ra + rb)] 2)).drew).cell? ⟨W.heap.size, 0, none⟩ = some (.int .i64 (ra + rb)) by rw [World.cell?_drew]; exact World.cell?_alloc_at (w := W) #[.int .i64 (ra + rb)] 2 W.heap.size 0 rfl)
            clear hra hrb'
            go_region_law (first | (refine step_appI _ rfl _ _ 22 rfl w2.heap.size 2 Try.infoI Try.underlying22 _ _ rfl sRa W.heap.size (ra + rb) rfl hyA.out (by have := HXL.out; omega) sBa.size ?_; intro v7 w7 hO7 b7 k7; have y0 := k7.cell s0a.out (nb1.out); have y1 := k7.cell s1a.out (nb1.out); have g0 := k7.frozen hza f0a.out (nb1.out); have g1 := k7.frozen hza f1a.out (nb1.out); have gall := Lib.hid (fun i => k7.frozen (i := i) hza ((aW.frozen (p := ⟨w2.heap.size, i, none⟩) sl).trans (SF.out i)) nb1.out); have sO7 := k7.own sOa (fun k a b => hap5 k b a); have nb7 := Lib.hid (k7.notBlk hza nb1.out); obtain ⟨gc, cc, L7, rfl⟩ := hO7.lit (by simp)) | (go_simp; go_at_call 40; (with_reducible refine HA1.mono ?_); rintro e w' ⟨rfl, rfl⟩) | (go_simp; go_at_call 40; (with_reducible refine HA2.mono ?_); rintro e w' ⟨rfl, rfl⟩))
            all_goals
              go_wp2
              go_roundw
              case rel => exact ⟨p + 1, q, f', xs ++ [X], .slice (some ⟨ga, 0, none⟩) L5 ca, .slice (some ⟨gc, 0, none⟩) L7 cc, by omega, by omega, by go_num, by go_num, HM2, by rw [World.cell?_setCell_other _ _ _ _ (by intro e; cases e)]; exact y0, by rw [World.cell?_setCell_same _ _ _ y1], sO7.1.keepV ⟨w2.heap.size, 1, none⟩ nb5.out _, by rw [List.map_append, List.map_cons, List.map_nil, HRX.out]; exact hO7.keepV ⟨w2.heap.size, 1, none⟩ nb7.out _, sO7.2.symm, nb5, nb7, fun i => by rw [World.frozen?_setCell]; exact gall.out i, (sBa.trans b7).setCell (Nat.le_refl _) _⟩
              case measure => simp [intOf]; omega
          · have hXe : X = fb p := by omega
            have hXf : X = f3 q := by omega
            rw [← hXf] at x2 hBe
            rw [← hXe] at x1 hAe
            rw [if_pos ⟨hpn, rfl⟩] at hAe
            rw [if_pos ⟨hqn, rfl⟩] at hBe
            have HPQ : Hid (p' = p + 1 ∧ q' = q + 1) := ⟨hAe, hBe⟩
            have HMN : Hid (∀ m, Calls Try.prog 39 #[.int .i64 X, .int .i64 X] (wr.drewN m) fun e w' => e = .returned (.int .i64 X) ∧ w' = wr.drewN m) := fun m => by have := l00Min_anyJ X X (wr.drewN m); rwa [show min X X = X by omega] at this
            clear hxe hAe hBe hXe hXf hlt
            rw [HPQ.out.1, HPQ.out.2] at HM2 HST2
            go_wp2_with fail
            go_quiet ((go_at_call 39; exact Calls.quiet_of_same (HMN.out _)))
            replace hvb := hvb.drewN nq
            replace hvr := hvr.drewN nq
            replace hbr := Go.Proofs.Ytdaijapdfleohaa.Below.drewN' hbr nq
            have dq : Below wr.heap.size wr (wr.drewN nq) := Go.Proofs.Ytdaijapdfleohaa.Below.drewN' (Below.refl _ _) nq
            replace k0 := Below.cellOf dq rfl k0
            replace k1 := Below.cellOf dq rfl k1
            have fz2 : Hid (∀ i, (wr.drewN nq).frozen? ⟨w2.heap.size, i, none⟩ = false) := fun i => (dq.frozen (p := ⟨w2.heap.size, i, none⟩) hHlt).trans (fz.out i)
            replace hHlt : w2.heap.size < (wr.drewN nq).heap.size := Nat.lt_of_lt_of_le hHlt dq.size
            clear fz
            have fz := fz2
            clear fz2
            replace x1 := Below.cellOf dq rfl x1
            replace x2 := Below.cellOf dq rfl x2
            replace a0 := Below.cellOf dq rfl a0
            replace b0 := Below.cellOf dq rfl b0
            clear dq
            generalize wr.drewN nq = wr at *
            go_wp2_with (first | (at_builtin; refine wpList_app3 _ rfl _ _ 22 rfl w2.heap.size 2 Try.infoI Try.underlying22 _ _ rfl hvb _ rfl (by have := HXL.out; omega) hbr.size ?_; intro v5 w5 hO5 b5 k5; have B5 := hbr.trans b5; have y0 := k5.cell k0 (nb0.out); have y1 := k5.cell k1 (nb0.out); have z0 := k5.frozen hHlt (fz.out 0) (nb0.out); have z1 := k5.frozen hHlt (fz.out 1) (nb0.out); have zall := Lib.hid (fun i => k5.frozen (i := i) hHlt (fz.out i) (nb0.out)); have hR5 := k5.own hvr hap.out; have nb5 := Lib.hid (k5.notBlk hHlt nb0.out); obtain ⟨ga, ca, L5, rfl⟩ := hO5.lit (by simp)))
            refine abs_world (fun W => W.cell? ⟨w2.heap.size, 0, none⟩ = some (.slice (some ⟨ga, 0, none⟩) L5 ca) ∧ W.cell? ⟨w2.heap.size, 1, none⟩ = some vr ∧ (∀ i, W.frozen? ⟨w2.heap.size, i, none⟩ = false) ∧ Own 2 W w2.heap.size (.slice (some ⟨ga, 0, none⟩) L5 ca) (xs ++ [X]) ∧ Own 2 W w2.heap.size vr (xs.map R) ∧ w2.heap.size < W.heap.size ∧ Below w2.heap.size w2 W) ⟨by rw [World.cell?_setCell_same _ _ _ y0], by rw [World.cell?_setCell_other _ _ _ _ (by intro e; cases e)]; exact y1, fun i => by rw [World.frozen?_setCell]; exact zall.out i, hO5.keepV ⟨w2.heap.size, 0, none⟩ nb5.out _, hR5.1.keepV ⟨w2.heap.size, 0, none⟩ nb1.out _, by simpa using World.block_lt_of_cell? _ _ y0, B5.setCell (Nat.le_refl _) _⟩ ?_
            rintro W ⟨s0, s1, sf, sO, sR, sl, sB⟩
            have f0 := sf 0
            have f1 := sf 1
            have SF := Lib.hid sf
            clear sf
            have SDR : Below w2.heap.size w2 W.drew := sB.drew
            have HA1 := HAT.out _ SDR X hX0
            have HA2 := HBT.out _ SDR X hX0
            have hrb := HRB.out X
            have sO' := sO.below (Below.drew (Below.refl _ W))
            have sR' := sR.below (Below.drew (Below.refl _ W))
            have s0' := Below.cellOf (Below.drew (Below.refl _ W)) rfl s0
            have s1' := Below.cellOf (Below.drew (Below.refl _ W)) rfl s1
            have hap5 := hR5.2
            clear k0 k1 y0 y1 z0 z1 hO5 b5 k5 hR5 hvb hvr B5
            obtain ⟨ra, hra⟩ : ∃ ra, rateF fb fr nb X = ra := ⟨_, rfl⟩
            obtain ⟨rb, hrb'⟩ : ∃ rb, rateF f3 f4 n3 X = rb := ⟨_, rfl⟩
            rw [hra] at HA1 hrb
            rw [hrb'] at HA2 hrb
            have HRX : Hid (R X = ra + rb) := by rw [← hra, ← hrb']; exact HRE.out X
            have eW : IntKind.i64.wrap (ra + rb) = ra + rb := IntWalk.i64_in _ (by omega)
            have aW : Below W.heap.size W (W.alloc (.cells #[.int .i64 (ra + rb)] 2)).drew := ((Below.refl _ _).alloc (Nat.le_refl _) _).drew
            have s0a := Lib.hid (Below.cellOf aW rfl s0)
            have s1a := Lib.hid (Below.cellOf aW rfl s1)
            have f0a := Lib.hid ((aW.frozen (p := ⟨w2.heap.size, 0, none⟩) sl).trans f0)
            have f1a := Lib.hid ((aW.frozen (p := ⟨w2.heap.size, 1, none⟩) sl).trans f1)
            have hza : w2.heap.size < ((W.alloc (.cells #[.int .i64 (ra + rb)] 2)).drew).heap.size := Nat.lt_of_lt_of_le sl aW.size
            have sOa := sO.below aW
            have sRa := sR.below aW
            have sBa : Below w2.heap.size w2 ((W.alloc (.cells #[.int .i64 (ra + rb)] 2)).drew) := sB.trans (aW.mono (Nat.le_of_lt sl))
            have hyA := Lib.hid (show ((W.alloc (.cells #[.int .i64 (ra + rb)] 2)).drew).cell? ⟨W.heap.size, 0, none⟩ = some (.int .i64 (ra + rb)) by rw [World.cell?_drew]; exact World.cell?_alloc_at (w := W) #[.int .i64 (ra + rb)] 2 W.heap.size 0 rfl)
            clear hra hrb'
            go_region_law (first | (refine step_appI _ rfl _ _ 22 rfl w2.heap.size 2 Try.infoI Try.underlying22 _ _ rfl sRa W.heap.size (ra + rb) rfl hyA.out (by have := HXL.out; omega) sBa.size ?_; intro v7 w7 hO7 b7 k7; have y0 := k7.cell s0a.out (nb1.out); have y1 := k7.cell s1a.out (nb1.out); have g0 := k7.frozen hza f0a.out (nb1.out); have g1 := k7.frozen hza f1a.out (nb1.out); have gall := Lib.hid (fun i => k7.frozen (i := i) hza ((aW.frozen (p := ⟨w2.heap.size, i, none⟩) sl).trans (SF.out i)) nb1.out); have sO7 := k7.own sOa (fun k a b => hap5 k b a); have nb7 := Lib.hid (k7.notBlk hza nb1.out); obtain ⟨gc, cc, L7, rfl⟩ := hO7.lit (by simp)) | (go_simp; go_at_call 40; (with_reducible refine HA1.mono ?_); rintro e w' ⟨rfl, rfl⟩) | (go_simp; go_at_call 40; (with_reducible refine HA2.mono ?_); rintro e w' ⟨rfl, rfl⟩))
            all_goals
              go_wp2
              go_roundw
              case rel => exact ⟨p + 1, q + 1, f', xs ++ [X], .slice (some ⟨ga, 0, none⟩) L5 ca, .slice (some ⟨gc, 0, none⟩) L7 cc, by omega, by omega, by go_num, by go_num, HM2, by rw [World.cell?_setCell_other _ _ _ _ (by intro e; cases e)]; exact y0, by rw [World.cell?_setCell_same _ _ _ y1], sO7.1.keepV ⟨w2.heap.size, 1, none⟩ nb5.out _, by rw [List.map_append, List.map_cons, List.map_nil, HRX.out]; exact hO7.keepV ⟨w2.heap.size, 1, none⟩ nb7.out _, sO7.2.symm, nb5, nb7, fun i => by rw [World.frozen?_setCell]; exact gall.out i, (sBa.trans b7).setCell (Nat.le_refl _) _⟩
              case measure => simp [intOf]; omega
          · have hXe : X = f3 q := by omega
            obtain ⟨Y, hY⟩ : ∃ Y, fb p = Y := ⟨_, rfl⟩
            rw [hY] at x1 hAe hlt
            rw [← hXe] at x2 hBe hlt
            have hne : ¬ Y = X := by omega
            rw [if_neg (fun h => hne h.2)] at hAe
            rw [if_pos ⟨hqn, rfl⟩] at hBe
            have HPQ : Hid (p' = p ∧ q' = q + 1) := ⟨hAe, hBe⟩
            have HMN : Hid (∀ m, Calls Try.prog 39 #[.int .i64 Y, .int .i64 X] (wr.drewN m) fun e w' => e = .returned (.int .i64 X) ∧ w' = wr.drewN m) := fun m => by have := l00Min_anyJ Y X (wr.drewN m); rwa [show min Y X = X by omega] at this
            clear hxe hAe hBe hXe hY
            rw [HPQ.out.1, HPQ.out.2] at HM2 HST2
            go_wp2_with fail
            go_quiet ((go_at_call 39; exact Calls.quiet_of_same (HMN.out _)))
            replace hvb := hvb.drewN nq
            replace hvr := hvr.drewN nq
            replace hbr := Go.Proofs.Ytdaijapdfleohaa.Below.drewN' hbr nq
            have dq : Below wr.heap.size wr (wr.drewN nq) := Go.Proofs.Ytdaijapdfleohaa.Below.drewN' (Below.refl _ _) nq
            replace k0 := Below.cellOf dq rfl k0
            replace k1 := Below.cellOf dq rfl k1
            have fz2 : Hid (∀ i, (wr.drewN nq).frozen? ⟨w2.heap.size, i, none⟩ = false) := fun i => (dq.frozen (p := ⟨w2.heap.size, i, none⟩) hHlt).trans (fz.out i)
            replace hHlt : w2.heap.size < (wr.drewN nq).heap.size := Nat.lt_of_lt_of_le hHlt dq.size
            clear fz
            have fz := fz2
            clear fz2
            replace x1 := Below.cellOf dq rfl x1
            replace x2 := Below.cellOf dq rfl x2
            replace a0 := Below.cellOf dq rfl a0
            replace b0 := Below.cellOf dq rfl b0
            clear dq
            generalize wr.drewN nq = wr at *
            go_wp2_with (first | (at_builtin; refine wpList_app3 _ rfl _ _ 22 rfl w2.heap.size 2 Try.infoI Try.underlying22 _ _ rfl hvb _ rfl (by have := HXL.out; omega) hbr.size ?_; intro v5 w5 hO5 b5 k5; have B5 := hbr.trans b5; have y0 := k5.cell k0 (nb0.out); have y1 := k5.cell k1 (nb0.out); have z0 := k5.frozen hHlt (fz.out 0) (nb0.out); have z1 := k5.frozen hHlt (fz.out 1) (nb0.out); have zall := Lib.hid (fun i => k5.frozen (i := i) hHlt (fz.out i) (nb0.out)); have hR5 := k5.own hvr hap.out; have nb5 := Lib.hid (k5.notBlk hHlt nb0.out); obtain ⟨ga, ca, L5, rfl⟩ := hO5.lit (by simp)))
            refine abs_world (fun W => W.cell? ⟨w2.heap.size, 0, none⟩ = some (.slice (some ⟨ga, 0, none⟩) L5 ca) ∧ W.cell? ⟨w2.heap.size, 1, none⟩ = some vr ∧ (∀ i, W.frozen? ⟨w2.heap.size, i, none⟩ = false) ∧ Own 2 W w2.heap.size (.slice (some ⟨ga, 0, none⟩) L5 ca) (xs ++ [X]) ∧ Own 2 W w2.heap.size vr (xs.map R) ∧ w2.heap.size < W.heap.size ∧ Below w2.heap.size w2 W) ⟨by rw [World.cell?_setCell_same _ _ _ y0], by rw [World.cell?_setCell_other _ _ _ _ (by intro e; cases e)]; exact y1, fun i => by rw [World.frozen?_setCell]; exact zall.out i, hO5.keepV ⟨w2.heap.size, 0, none⟩ nb5.out _, hR5.1.keepV ⟨w2.heap.size, 0, none⟩ nb1.out _, by simpa using World.block_lt_of_cell? _ _ y0, B5.setCell (Nat.le_refl _) _⟩ ?_
            rintro W ⟨s0, s1, sf, sO, sR, sl, sB⟩
            have f0 := sf 0
            have f1 := sf 1
            have SF := Lib.hid sf
            clear sf
            have SDR : Below w2.heap.size w2 W.drew := sB.drew
            have HA1 := HAT.out _ SDR X hX0
            have HA2 := HBT.out _ SDR X hX0
            have hrb := HRB.out X
            have sO' := sO.below (Below.drew (Below.refl _ W))
            have sR' := sR.below (Below.drew (Below.refl _ W))
            have s0' := Below.cellOf (Below.drew (Below.refl _ W)) rfl s0
            have s1' := Below.cellOf (Below.drew (Below.refl _ W)) rfl s1
            have hap5 := hR5.2
            clear k0 k1 y0 y1 z0 z1 hO5 b5 k5 hR5 hvb hvr B5
            obtain ⟨ra, hra⟩ : ∃ ra, rateF fb fr nb X = ra := ⟨_, rfl⟩
            obtain ⟨rb, hrb'⟩ : ∃ rb, rateF f3 f4 n3 X = rb := ⟨_, rfl⟩
            rw [hra] at HA1 hrb
            rw [hrb'] at HA2 hrb
            have HRX : Hid (R X = ra + rb) := by rw [← hra, ← hrb']; exact HRE.out X
            have eW : IntKind.i64.wrap (ra + rb) = ra + rb := IntWalk.i64_in _ (by omega)
            have aW : Below W.heap.size W (W.alloc (.cells #[.int .i64 (ra + rb)] 2)).drew := ((Below.refl _ _).alloc (Nat.le_refl _) _).drew
            have s0a := Lib.hid (Below.cellOf aW rfl s0)
            have s1a := Lib.hid (Below.cellOf aW rfl s1)
            have f0a := Lib.hid ((aW.frozen (p := ⟨w2.heap.size, 0, none⟩) sl).trans f0)
            have f1a := Lib.hid ((aW.frozen (p := ⟨w2.heap.size, 1, none⟩) sl).trans f1)
            have hza : w2.heap.size < ((W.alloc (.cells #[.int .i64 (ra + rb)] 2)).drew).heap.size := Nat.lt_of_lt_of_le sl aW.size
            have sOa := sO.below aW
            have sRa := sR.below aW
            have sBa : Below w2.heap.size w2 ((W.alloc (.cells #[.int .i64 (ra + rb)] 2)).drew) := sB.trans (aW.mono (Nat.le_of_lt sl))
            have hyA := Lib.hid (show ((W.alloc (.cells #[.int .i64 (ra + rb)] 2)).drew).cell? ⟨W.heap.size, 0, none⟩ = some (.int .i64 (ra + rb)) by rw [World.cell?_drew]; exact World.cell?_alloc_at (w := W) #[.int .i64 (ra + rb)] 2 W.heap.size 0 rfl)
            clear hra hrb'
            go_region_law (first | (refine step_appI _ rfl _ _ 22 rfl w2.heap.size 2 Try.infoI Try.underlying22 _ _ rfl sRa W.heap.size (ra + rb) rfl hyA.out (by have := HXL.out; omega) sBa.size ?_; intro v7 w7 hO7 b7 k7; have y0 := k7.cell s0a.out (nb1.out); have y1 := k7.cell s1a.out (nb1.out); have g0 := k7.frozen hza f0a.out (nb1.out); have g1 := k7.frozen hza f1a.out (nb1.out); have gall := Lib.hid (fun i => k7.frozen (i := i) hza ((aW.frozen (p := ⟨w2.heap.size, i, none⟩) sl).trans (SF.out i)) nb1.out); have sO7 := k7.own sOa (fun k a b => hap5 k b a); have nb7 := Lib.hid (k7.notBlk hza nb1.out); obtain ⟨gc, cc, L7, rfl⟩ := hO7.lit (by simp)) | (go_simp; go_at_call 40; (with_reducible refine HA1.mono ?_); rintro e w' ⟨rfl, rfl⟩) | (go_simp; go_at_call 40; (with_reducible refine HA2.mono ?_); rintro e w' ⟨rfl, rfl⟩))
            all_goals
              go_wp2
              go_roundw
              case rel => exact ⟨p, q + 1, f', xs ++ [X], .slice (some ⟨ga, 0, none⟩) L5 ca, .slice (some ⟨gc, 0, none⟩) L7 cc, by omega, by omega, by go_num, by go_num, HM2, by rw [World.cell?_setCell_other _ _ _ _ (by intro e; cases e)]; exact y0, by rw [World.cell?_setCell_same _ _ _ y1], sO7.1.keepV ⟨w2.heap.size, 1, none⟩ nb5.out _, by rw [List.map_append, List.map_cons, List.map_nil, HRX.out]; exact hO7.keepV ⟨w2.heap.size, 1, none⟩ nb7.out _, sO7.2.symm, nb5, nb7, fun i => by rw [World.frozen?_setCell]; exact gall.out i, (sBa.trans b7).setCell (Nat.le_refl _) _⟩
              case measure => simp [intOf]; omega
end Go.Proofs.Ytdaijapdfleohaa
