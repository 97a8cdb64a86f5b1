/-
  impl.CarryLosses and spec.CarryLosses answer alike: every list of fewer than 1000000000 integers, every number. No other condition.
-/
import Derived.Test.YtjopeidmfgkhnaaCarryI
import Derived.Test.YtjopeidmfgkhnaaMinMax
namespace Go.Proofs.Ytjopeidmfgkhnaa
open Go.RowKit
set_option linter.unusedVariables false

set_option maxHeartbeats 3200000 in
theorem cl_spec (n g c : Nat) (f : Nat → Int) (back on : Int) (w : World) (hn : n < 1000000000) (hI : Ints w g 0 n f) :
    Calls Try.prog 19 #[.slice (some ⟨g, 0, none⟩) n c, .int .i64 back, .int .i64 on] w (RetL2 2 w (clG f n back on) (clL f n back on) (clOk f n back on)) := by
  have HN : Hid (win n 1 24 = false ∨ win back 0 3 = false ∨ win on 0 24 = false → clOk f n back on = false) := fun h => by
    rcases h with h | h | h
    · simp only [clOk, cnt_no h, Bool.false_and]
    · simp only [clOk, h, Bool.and_false, Bool.false_and]
    · simp only [clOk, h, Bool.and_false]
  by_cases h1 : (n : Int) < 1
  · have h := HN.out (.inl (win_not.2 (.inl h1)))
    rw [(cl_no h).1, (cl_no h).2, h]
    clear h
    go_enter Try.func19, Try.ntmps19
    go_wp2_with fail
    go_ret3
    exact RetL2.no _ (Below.refl _ _)
  by_cases h2 : 24 < (n : Int)
  · have h := HN.out (.inl (win_not.2 (.inr h2)))
    rw [(cl_no h).1, (cl_no h).2, h]
    clear h
    go_enter Try.func19, Try.ntmps19
    go_wp2_with fail
    go_ret3
    exact RetL2.no _ (Below.refl _ _)
  cases h3 : win back 0 3
  · have h := HN.out (.inr (.inl h3))
    rw [(cl_no h).1, (cl_no h).2, h]
    clear h
    go_enter Try.func19, Try.ntmps19
    go_wp2_with (first | (go_at_call 51; refine (spec_l00In_any _ _ _ _).mono ?_; rintro e w' ⟨rfl, rfl⟩))
    go_ret3
    exact RetL2.no _ (Below.refl _ _)
  cases h4 : win on 0 24
  · have h := HN.out (.inr (.inr h4))
    rw [(cl_no h).1, (cl_no h).2, h]
    clear h
    go_enter Try.func19, Try.ntmps19
    go_wp2_with (first | (go_at_call 51; refine (spec_l00In_any _ _ _ _).mono ?_; rintro e w' ⟨rfl, rfl⟩))
    go_ret3
    exact RetL2.no _ (Below.refl _ _)
  obtain ⟨b0, b3⟩ := win_iff.1 h3
  obtain ⟨o0, o24⟩ := win_iff.1 h4
  have HX : Hid (allW f (-1000000000) 1000000000 n = true → clOk f n back on = true) := fun h => by
    simp only [clOk, h3, h4, Bool.and_true, cntB, h, win_iff]; omega
  have HY : Hid (∀ i, i < n → win (f i) (-1000000000) 1000000000 = false → clOk f n back on = false) := fun i hi h => by
    simp only [clOk, cnt_no2 (allW_false i hi h), Bool.false_and]
  clear HN
  go_enter Try.func19, Try.ntmps19
  go_wp2_with (first | (go_at_call 51; refine (spec_l00In_any _ _ _ _).mono ?_; rintro e w' ⟨rfl, rfl⟩))
  go_loopw [38, 10, 11] (fun i u v wr => ∃ k : Nat, k ≤ n ∧ i = .int .i64 k ∧ Own 2 wr w.heap.size u (tab (clS f).1 k) ∧ Own 2 wr w.heap.size v (tab (clS f).2 k) ∧ Hid (Apart u v) ∧ Hid (allW f (-1000000000) 1000000000 k = true) ∧ Below w.heap.size w wr) (fun i _ _ _ => n - (intOf i).toNat)
  case atStart =>
    have q1 : Below w.heap.size w (w.alloc (.cells #[] 2)) := by go_grown
    have q2 : Below (w.alloc (.cells #[] 2)).heap.size (w.alloc (.cells #[] 2)) ((w.alloc (.cells #[] 2)).alloc (.cells #[] 2)) := by go_grown
    have hz : (w.alloc (.cells #[] 2)).heap.size = w.heap.size + 1 := by simp
    have A2 := Own.made 2 (w.alloc (.cells #[] 2)) (B := w.heap.size) (by omega)
    rw [hz] at A2
    exact ⟨0, Nat.zero_le _, rfl, (Own.made 2 w (B := w.heap.size) (Nat.le_refl _)).below q2, A2, Apart.two (by omega), rfl, bnext q1 q2⟩
  case round =>
    obtain ⟨k, hk, rfl, hG, hL, hd, ha, hbr⟩ := hrel
    have HTG := Lib.hid (tab_length (clS f).1 k)
    have HTL := Lib.hid (tab_length (clS f).2 k)
    by_cases hlt : k < n
    · have d1 := Below.cellOf hbr rfl (hI.at0 k hlt)
      have glt := World.block_lt_of_cell? w _ (hI.at0 k hlt)
      cases hx : win (f k) (-1000000000) 1000000000
      · have HF := Lib.hid (HY.out k hlt hx)
        go_wp2_with (first | (go_at_call 51; refine (spec_l00In_any _ _ _ _).mono ?_; rintro e w' ⟨rfl, rfl⟩))
        go_ret3
        rw [(cl_no HF.out).1, (cl_no HF.out).2, HF.out]
        exact RetL2.no _ hbr
      · have f1 := win_iff.1 hx
        have HA := Lib.hid (allW_succ ha.out hx)
        have E1 : Hid (max 0 (f k) = (clS f).1 k) := Int.max_comm _ _
        have E2 : Hid (max 0 (-(f k)) = (clS f).2 k) := Int.max_comm _ _
        go_wp2_with (first | (go_at_call 51; refine (spec_l00In_any _ _ _ _).mono ?_; rintro e w' ⟨rfl, rfl⟩) | (go_at_call 52; refine (spec_l00Max_any _ _ _).mono ?_; rintro e w' ⟨rfl, rfl⟩) | (at_builtin; refine wpList_app2 _ rfl _ _ 29 rfl w.heap.size 2 Try.infoI Try.underlying29 _ _ rfl hG _ rfl (by have := HTG.out; omega) hbr.size ?_; intro v5 w5 hG5 hb5 sp5; have d5 := (hb5.cell (p := ⟨g, k, none⟩) glt).trans d1; obtain ⟨hL5, ap5⟩ := sp5 _ _ _ hL hd.out) | (at_builtin; refine wpList_app2 _ rfl _ _ 29 rfl w.heap.size 2 Try.infoI Try.underlying29 _ _ rfl hL5 _ rfl (by have := HTL.out; omega) (Nat.le_trans hbr.size hb5.size) ?_; intro v6 w6 hL6 hb6 sp6; obtain ⟨hG6, ap6⟩ := sp6 _ _ _ hG5 ap5.symm))
        go_roundw
        case rel => exact ⟨k + 1, by omega, by go_num, by rw [tab, ← E1.out]; exact hG6, by rw [tab, ← E2.out]; exact hL6, ap6.symm, HA, (hbr.trans hb5).trans hb6⟩
        case measure => simp [intOf]; omega
    · obtain rfl : k = n := by omega
      have hok := HX.out ha.out
      have HF := Lib.hid (allW_iff.1 ha.out)
      have HV : Hid (∀ i, i ≤ k → clInv k (clOut (clS f) k back on i)) := clOut_inv (clS_inv HF.out) b0 o0
      obtain ⟨gG, cG, rfl, G1, G2⟩ := hG.formTab (by omega)
      obtain ⟨gL, cL, rfl, L1, L2⟩ := hL.formTab (by omega)
      have HOK := Lib.hid hok
      have d0 : gG ≠ gL := fun e => hd.out gG rfl (by rw [e]; rfl)
      clear hok h3 h4 HX HY ha
      have HG := Lib.hid hG
      have HL := Lib.hid hL
      clear hG hL
      generalize hw3 : wr = w3 at *
      clear hw3
      generalize hnn : k = n at *
      clear hnn
      go_wp2_with fail
      go_loopw [67] (fun i wr => ∃ k : Nat, k ≤ n ∧ i = .int .i64 k ∧ Own 2 wr w.heap.size (.slice (some ⟨gL, 0, none⟩) n cL) (tab (clOut (clS f) n back on k).2 n) ∧ Own 2 wr w.heap.size (.slice (some ⟨gG, 0, none⟩) n cG) (tab (clOut (clS f) n back on k).1 n) ∧ Below w.heap.size w wr) (fun i _ => n - (intOf i).toNat)
      case atStart => exact ⟨0, Nat.zero_le _, rfl, HL.out, HG.out, hbr⟩
      case round =>
        obtain ⟨i, hi, rfl, hL, hG, hbr⟩ := hrel
        by_cases hlt : i < n
        · generalize hwA : wr = wA at *
          clear hwA
          have l1 : (i : Int) < n := by omega
          obtain ⟨lo1, lo2⟩ := clLo_is (i := i) b0
          obtain ⟨hi1, hi2, hi3⟩ := clHi_is (n := n) (i := i) o0 hlt
          have hv := HV.out i (Nat.le_of_lt hlt)
          have HN : Hid (clOut (clS f) n back on (i + 1) = clRun (clOut (clS f) n back on i) i (clLo i back) (clHi n i on - clLo i back)) := rfl
          have HR : Hid (∀ m, clLo i back + m ≤ n → clInv n (clRun (clOut (clS f) n back on i) i (clLo i back) m)) := clRun_inv hv hlt
          have e2 : max 0 ((i : Int) - back) = (clLo i back : Int) := by rw [lo2]; omega
          have e3 : min ((n : Int) - 1) ((i : Int) + on) = (clHi n i on : Int) - 1 := by rw [hi3]; omega
          clear hv
          generalize hlo : clLo i back = lo at *
          generalize hhi : clHi n i on = up at *
          generalize hss : clOut (clS f) n back on i = s at *
          have HL1 := Lib.hid hL
          have HG1 := Lib.hid hG
          clear hL hG hlo hhi hss lo2 hi3
          go_wp2_with (first | (go_at_call 52; refine (spec_l00Max_any _ _ _).mono ?_; rintro e w' ⟨rfl, rfl⟩))
          go_loopw [14] (fun k wr => ∃ m : Nat, lo + m ≤ up ∧ k = .int .i64 (lo + m : Nat) ∧ Own 2 wr w.heap.size (.slice (some ⟨gL, 0, none⟩) n cL) (tab (clRun s i lo m).2 n) ∧ Own 2 wr w.heap.size (.slice (some ⟨gG, 0, none⟩) n cG) (tab (clRun s i lo m).1 n) ∧ Below w.heap.size w wr) (fun k _ => up - (intOf k).toNat)
          case atStart => exact ⟨0, by omega, by simp, HL1.out, HG1.out, hbr⟩
          case round =>
            obtain ⟨m, hm, rfl, hL, hG, hbq⟩ := hrel
            by_cases hlt2 : lo + m < up
            · have l2 : ((lo + m : Nat) : Int) ≤ (up : Int) - 1 := by omega
              have l3 : ((lo + m : Nat) : Int) < n := by omega
              have x1 := hL.cellTab i hlt
              have x2 := hG.cellTab (lo + m) (by omega)
              have f1 := hL.freeAt i
              have f2 := hG.freeAt (lo + m)
              have hv := HR.out m (by omega)
              have b1 := hv i hlt
              have b2 := hv (lo + m) (by omega)
              have HU : Hid (clRun s i lo (m + 1) = clUse (clRun s i lo m) i (lo + m)) := rfl
              generalize hs2 : clRun s i lo m = S at *
              obtain ⟨z, hz⟩ : ∃ z, min (S.2 i) (S.1 (lo + m)) = z := ⟨_, rfl⟩
              have E3 : Hid ((clUse S i (lo + m)).2 = upd S.2 i (S.2 i - z)) := by rw [← hz]; exact rfl
              have E4 : Hid ((clUse S i (lo + m)).1 = upd S.1 (lo + m) (S.1 (lo + m) - z)) := by rw [← hz]; exact rfl
              have m0 : 0 ≤ z ∧ z ≤ 1000000000 := by omega
              have m1 : z ≤ S.2 i ∧ z ≤ S.1 (lo + m) := by omega
              have HL2 := Lib.hid hL
              have HG2 := Lib.hid hG
              clear hL hG hv hs2
              have D1 : (⟨gL, i, none⟩ : Addr) ≠ ⟨gG, lo + m, none⟩ := by intro h; cases h; exact d0 rfl
              generalize hq : lo + m = q at *
              have HQ := Lib.hid hq
              clear hq
              go_wp2_with (first | (go_at_call 53; refine (spec_l00Min_any _ _ _).mono ?_; rintro e w' ⟨rfl, rfl⟩))
              go_quiet ((first | (go_at_call 53; exact Calls.quiet_of_same ((spec_l00Min_any _ _ _).mono (fun _ _ h => ⟨h.1, h.2.symm⟩)))))
              go_wp2_with fail
              have hL1 := (HL2.out.drewN nq).tabSet (clUse S i q).2 i hlt (S.2 i - z) (by rw [E3.out, upd_at]) (fun j _ hj => by rw [E3.out, upd_ne _ _ hj])
              have hG1 := (HG2.out.drewN nq).keep ⟨gL, i, none⟩ (Ne.symm d0) (.int .i64 (S.2 i - z))
              have hG2 := hG1.tabSet (clUse S i q).1 q (by omega) (S.1 q - z) (by rw [E4.out, upd_at]) (fun j _ hj => by rw [E4.out, upd_ne _ _ hj])
              have hL2 := hL1.keep ⟨gG, q, none⟩ d0 (.int .i64 (S.1 q - z))
              go_roundw
              case rel => exact ⟨m + 1, by have := HQ.out; omega, by rw [← Nat.add_assoc, HQ.out]; go_num, by rw [HU.out]; exact hL2, by rw [HU.out]; exact hG2, ((Below.drewN' hbq nq).setCell (p := ⟨gL, i, none⟩) L1 _).setCell (p := ⟨gG, q, none⟩) G1 _⟩
              case measure => simp [intOf]; omega
            · have l2 : ¬ ((lo + m : Nat) : Int) ≤ (up : Int) - 1 := by omega
              obtain rfl : m = up - lo := by omega
              rw [← HN.out] at hL hG
              go_wp2_with (first | (go_at_call 53; refine (spec_l00Min_any _ _ _).mono ?_; rintro e w' ⟨rfl, rfl⟩))
              go_roundw
              case rel => exact ⟨i + 1, by omega, by go_num, hL, hG, hbq⟩
              case measure => simp [intOf]; omega
        · obtain rfl : i = n := by omega
          go_wp2_with fail
          go_ret3
          rw [(cl_yes HOK.out).1, (cl_yes HOK.out).2, HOK.out]
          exact ⟨_, _, rfl, hG, by rw [tab_length]; omega, hL, by rw [tab_length]; omega, Apart.two d0, hbr⟩

theorem CarryLosses_impl {w : World} {B : Nat} {v : Value} {xs : List Int} (h : RowI 2 w B v xs) (back on : Int) : Calls Try.prog 21 #[v, .int .i64 back, .int .i64 on] w (RetL2 2 w (CarryLosses_r0 xs back on) (CarryLosses_r1 xs back on) (CarryLosses_r2 xs back on)) := by
  obtain ⟨g, c, rfl, _, _, _, _, hI, _, hn⟩ := h.form
  exact cl_impl xs.length g c _ back on w hn hI
theorem CarryLosses_spec {w : World} {B : Nat} {v : Value} {xs : List Int} (h : RowI 2 w B v xs) (back on : Int) : Calls Try.prog 19 #[v, .int .i64 back, .int .i64 on] w (RetL2 2 w (CarryLosses_r0 xs back on) (CarryLosses_r1 xs back on) (CarryLosses_r2 xs back on)) := by
  obtain ⟨g, c, rfl, _, _, _, _, hI, _, hn⟩ := h.form
  exact cl_spec xs.length g c _ back on w hn hI
end Go.Proofs.Ytjopeidmfgkhnaa
