/-
  impl.CarryLosses and spec.CarryLosses answer alike: every list of fewer than 1000000000 integers, every number. No other condition.
-/
import Derived.Test.YtjopeidmfgkhnaaCarryP
import Derived.Test.YtjopeidmfgkhnaaWithin
import Derived.Test.YtjopeidmfgkhnaaTwo
import Derived.Deep.QuietTactic
import Derived.BigQuiet
namespace Go.Proofs.Ytjopeidmfgkhnaa
open Go.RowKit
set_option linter.unusedVariables false

theorem gain_at (f : Nat → Int) (k : Nat) (hx : -1000000000 ≤ f k ∧ f k ≤ 1000000000) (w : World) : Calls Try.prog 56 #[.int .i64 (f k)] w fun e w' => e = .returned (.int .i64 (max (f k) 0)) ∧ w = w' := by
  go_enter Try.func56, Try.ntmps56
  go_wp2
  all_goals (go_ret; exact ⟨ret_int (by first | rfl | (simp only [IntKind.wrap_i64]; omega) | omega), rfl⟩)
theorem loss_at (f : Nat → Int) (k : Nat) (hx : -1000000000 ≤ f k ∧ f k ≤ 1000000000) (w : World) : Calls Try.prog 57 #[.int .i64 (f k)] w fun e w' => e = .returned (.int .i64 (max (-(f k)) 0)) ∧ w = w' := by
  go_enter Try.func57, Try.ntmps57
  go_wp2
  all_goals (go_ret; exact ⟨ret_int (by first | rfl | (simp only [IntKind.wrap_i64]; omega) | omega), rfl⟩)

set_option maxHeartbeats 1600000 in
theorem mapped_gain (n g c : Nat) (f : Nat → Int) (w : World) (hn : n < 1000000000) (hf : Hid (∀ i, i < n → -1000000000 ≤ f i ∧ f i ≤ 1000000000)) (hI : Ints w g 0 n f) :
    Calls Try.prog 55 #[.slice (some ⟨g, 0, none⟩) n c, .func (.func 56) #[] #[]] w (fun e w' => ∃ v, e = .returned v ∧ Own 2 w' w.heap.size v (tab (clS f).1 n) ∧ Below w.heap.size w w') := by
  go_enter Try.func55, Try.ntmps55
  go_wp2_with fail
  go_loopw [11, 5] (fun i v wr => ∃ k : Nat, k ≤ n ∧ i = .int .i64 k ∧ Own 2 wr w.heap.size v (tab (clS f).1 k) ∧ Below w.heap.size w wr) (fun i _ _ => n - (intOf i).toNat)
  case atStart => exact ⟨0, Nat.zero_le _, rfl, Own.made _ _ (Nat.le_refl _), (Below.refl _ _).alloc (Nat.le_refl _) _⟩
  case round =>
    obtain ⟨k, hk, rfl, hown, hbr⟩ := hrel
    by_cases hlt : k < n
    · have hc := Below.cellOf hbr rfl (hI.at0 k hlt)
      have hx := hf.out k hlt
      have HT := Lib.hid (tab_length (clS f).1 k)
      go_wp2_with (first | (go_at_call 56; refine (gain_at f k hx _).mono ?_; rintro e w' ⟨rfl, rfl⟩) | (at_builtin; refine wpList_app1 _ rfl _ _ 29 rfl (w.heap.size) 2 Try.infoI Try.underlying29 _ _ rfl hown _ rfl (by have := HT.out; omega) (hbr.size) ?_; intro v' w5 hown5 hb5))
      go_roundw
      case rel => exact ⟨k + 1, by omega, by go_num, by rw [tab]; exact hown5, hbr.trans hb5⟩
      case measure => simp [intOf]; omega
    · obtain rfl : k = n := by omega
      go_wp2
      go_ret
      exact ⟨_, rfl, hown, hbr⟩

set_option maxHeartbeats 1600000 in
theorem mapped_loss (n g c : Nat) (f : Nat → Int) (w : World) (hn : n < 1000000000) (hf : Hid (∀ i, i < n → -1000000000 ≤ f i ∧ f i ≤ 1000000000)) (hI : Ints w g 0 n f) :
    Calls Try.prog 55 #[.slice (some ⟨g, 0, none⟩) n c, .func (.func 57) #[] #[]] w (fun e w' => ∃ v, e = .returned v ∧ Own 2 w' w.heap.size v (tab (clS f).2 n) ∧ Below w.heap.size w w') := by
  go_enter Try.func55, Try.ntmps55
  go_wp2_with fail
  go_loopw [11, 5] (fun i v wr => ∃ k : Nat, k ≤ n ∧ i = .int .i64 k ∧ Own 2 wr w.heap.size v (tab (clS f).2 k) ∧ Below w.heap.size w wr) (fun i _ _ => n - (intOf i).toNat)
  case atStart => exact ⟨0, Nat.zero_le _, rfl, Own.made _ _ (Nat.le_refl _), (Below.refl _ _).alloc (Nat.le_refl _) _⟩
  case round =>
    obtain ⟨k, hk, rfl, hown, hbr⟩ := hrel
    by_cases hlt : k < n
    · have hc := Below.cellOf hbr rfl (hI.at0 k hlt)
      have hx := hf.out k hlt
      have HT := Lib.hid (tab_length (clS f).2 k)
      go_wp2_with (first | (go_at_call 57; refine (loss_at f k hx _).mono ?_; rintro e w' ⟨rfl, rfl⟩) | (at_builtin; refine wpList_app1 _ rfl _ _ 29 rfl (w.heap.size) 2 Try.infoI Try.underlying29 _ _ rfl hown _ rfl (by have := HT.out; omega) (hbr.size) ?_; intro v' w5 hown5 hb5))
      go_roundw
      case rel => exact ⟨k + 1, by omega, by go_num, by rw [tab]; exact hown5, hbr.trans hb5⟩
      case measure => simp [intOf]; omega
    · obtain rfl : k = n := by omega
      go_wp2
      go_ret
      exact ⟨_, rfl, hown, hbr⟩

set_option maxHeartbeats 1600000 in
/-- What one use does to gains and losses. -/
theorem use_any (n gL cL gG cG pL pI pG i k B : Nat) (s : CS) (w : World) (hn : n ≤ 24) (hi : i < n) (hk : k < n) (hv : clInv n s) (hd : gL ≠ gG)
    (hL : Own 2 w B (.slice (some ⟨gL, 0, none⟩) n cL) (tab s.2 n)) (hG : Own 2 w B (.slice (some ⟨gG, 0, none⟩) n cG) (tab s.1 n))
    (kL : w.cell? ⟨pL, 0, none⟩ = some (.slice (some ⟨gL, 0, none⟩) n cL)) (kI : w.cell? ⟨pI, 0, none⟩ = some (.int .i64 i)) (kG : w.cell? ⟨pG, 0, none⟩ = some (.slice (some ⟨gG, 0, none⟩) n cG))
    (d1 : pL ≠ gL ∧ pL ≠ gG) (d2 : pI ≠ gL ∧ pI ≠ gG) (d3 : pG ≠ gL ∧ pG ≠ gG) :
    Calls Try.prog 58 #[.int .i64 k, .pointer (some ⟨pL, 0, none⟩), .pointer (some ⟨pI, 0, none⟩), .pointer (some ⟨pG, 0, none⟩)] w (fun e w' => e = .returned (.tuple #[]) ∧ Own 2 w' B (.slice (some ⟨gL, 0, none⟩) n cL) (tab (clUse s i k).2 n) ∧ Own 2 w' B (.slice (some ⟨gG, 0, none⟩) n cG) (tab (clUse s i k).1 n) ∧ Kept (fun b => b = gL ∨ b = gG) w w') := by
  have x1 := hL.cellTab i hi
  have x2 := hG.cellTab k hk
  have f1 := hL.freeAt i
  have f2 := hG.freeAt k
  have b1 := hv i hi
  have b2 := hv k hk
  have l1 : (i : Int) < n := by omega
  have l2 : (k : Int) < n := by omega
  obtain ⟨m, hm⟩ : ∃ m, min (s.2 i) (s.1 k) = m := ⟨_, rfl⟩
  have e2 : (if s.1 k < s.2 i then s.1 k else s.2 i) = m := by rw [← hm]; split <;> omega
  have e3 : (clUse s i k).2 = upd s.2 i (s.2 i - m) := by rw [← hm]; rfl
  have e4 : (clUse s i k).1 = upd s.1 k (s.1 k - m) := by rw [← hm]; rfl
  have m0 : 0 ≤ m ∧ m ≤ 1000000000 := by omega
  have m1 : m ≤ s.2 i ∧ m ≤ s.1 k := by omega
  have E3 := Lib.hid e3
  have E4 := Lib.hid e4
  have HL := Lib.hid hL
  have HG := Lib.hid hG
  clear e3 e4 hv hL hG
  have D1 : (⟨gL, i, none⟩ : Addr) ≠ ⟨gG, k, none⟩ := by intro h; cases h; exact hd rfl
  go_enter Try.func58, Try.ntmps58
  go_wp2_with fail
  go_quiet (fail)
  go_wp2_with fail
  go_end0
  have hL1 := (HL.out.drewN nq).tabSet (clUse s i k).2 i hi (s.2 i - m) (by rw [E3.out, upd_at]) (fun j _ hj => by rw [E3.out, upd_ne _ _ hj])
  have hG1 := (HG.out.drewN nq).keep ⟨gL, i, none⟩ hd (.int .i64 (s.2 i - m))
  have hG2 := hG1.tabSet (clUse s i k).1 k hk (s.1 k - m) (by rw [E4.out, upd_at]) (fun j _ hj => by rw [E4.out, upd_ne _ _ hj])
  have hL2 := hL1.keep ⟨gG, k, none⟩ (Ne.symm hd) (.int .i64 (s.1 k - m))
  exact ⟨rfl, hL2, hG2, ((Kept.drewN' (Kept.refl _ w) nq).setCell (p := ⟨gL, i, none⟩) (.inl rfl) _).setCell (p := ⟨gG, k, none⟩) (.inr rfl) _⟩

theorem Own.formTab {E : TypeId} {w : World} {B n : Nat} {v : Value} {f : Nat → Int} (h : Own E w B v (tab f n)) (hn : 1 ≤ n) : ∃ g cap, v = .slice (some ⟨g, 0, none⟩) n cap ∧ B ≤ g ∧ g < w.heap.size := by
  rcases h.form with ⟨_, h0⟩ | ⟨g, cap, hv, h1, h2, _⟩
  · have := congrArg List.length h0
    rw [tab_length] at this
    simp at this
    omega
  · rw [tab_length] at hv
    exact ⟨g, cap, hv, h1, h2⟩

set_option maxHeartbeats 3200000 in
theorem cl_impl (n g c : Nat) (f : Nat → Int) (back on : Int) (w : World) (hn : n < 1000000000) (hI : Ints w g 0 n f) :
    Calls Try.prog 21 #[.slice (some ⟨g, 0, none⟩) n c, .int .i64 back, .int .i64 on] w (RetL2 2 w (clG f n back on) (clL f n back on) (clOk f n back on)) := by
  cases h : clOk f n back on
  · rw [(cl_no h).1, (cl_no h).2]
    rcases first_no3 h with h1 | ⟨h1, h2 | ⟨h2, h3⟩⟩
    all_goals
      clear h
      go_enter Try.func21, Try.ntmps21
      go_wp2_with (first | (go_at_call 42; refine (impl_within_any _ _ _ _).mono ?_; rintro e w' ⟨rfl, rfl⟩) | (go_at_call 54; refine (hasCount_any n g 0 c f _ _ _ _ _ hn hI).mono ?_; rintro e w1 ⟨rfl, hb⟩))
      go_ret3
      exact RetL2.no _ hb
  · rw [(cl_yes h).1, (cl_yes h).2]
    obtain ⟨h1, h2, h3⟩ := all_yes3 h
    obtain ⟨⟨n1, n24⟩, hf⟩ := cntB_iff.1 h1
    obtain ⟨b0, b3⟩ := win_iff.1 h2
    obtain ⟨o0, o24⟩ := win_iff.1 h3
    have HF := Lib.hid hf
    have HV : Hid (∀ i, i ≤ n → clInv n (clOut (clS f) n back on i)) := clOut_inv (clS_inv hf) b0 o0
    clear h hf
    go_enter Try.func21, Try.ntmps21
    go_wp2_with (first | (go_at_call 42; refine (impl_within_any _ _ _ _).mono ?_; rintro e w' ⟨rfl, rfl⟩) | (go_at_call 54; refine (hasCount_any n g 0 c f _ _ _ _ _ hn hI).mono ?_; rintro e w1 ⟨rfl, hb⟩))
    clear h1 h2 h3
    refine (mapped_gain n g c f _ hn HF (hI.below hb)).mono ?_
    rintro e w2 ⟨v2, rfl, hG, b2⟩
    obtain ⟨gG, cG, rfl, G1, G2⟩ := hG.formTab (by omega)
    have C2 := bnext hb b2
    go_wp2_with fail
    have q3 : Below w2.heap.size w2 (w2.alloc (.cells #[.slice (some ⟨gG, 0, none⟩) n cG] 29)) := by go_grown
    have C3 := bnext C2 q3
    refine (mapped_loss n g c f _ hn HF (hI.below C3)).mono ?_
    rintro e w4 ⟨v4, rfl, hL, b4⟩
    obtain ⟨gL, cL, rfl, L1, L2⟩ := hL.formTab (by omega)
    have C4 := bnext C3 b4
    have z3 : (w2.alloc (.cells #[.slice (some ⟨gG, 0, none⟩) n cG] 29)).heap.size = w2.heap.size + 1 := by simp
    rw [z3] at L1
    have z1 := C2.size
    have z4 := b4.size
    rw [z3] at z4
    have hG4 := ((hG.below q3).below b4).mono hb.size
    have kG4 : w4.cell? ⟨w2.heap.size, 0, none⟩ = some (.slice (some ⟨gG, 0, none⟩) n cG) := Below.cellOf b4 rfl (by simp [go_sem])
    have KG4 := Lib.hid kG4
    have HG4 := Lib.hid hG4
    have HL4 := Lib.hid (hL.mono (show w.heap.size ≤ _ from C3.size))
    clear kG4 hG4 hG hL
    go_wp2_with fail
    go_loopw [36] (fun i wr => ∃ k : Nat, k ≤ n ∧ i = .int .i64 k ∧ Own 2 wr w.heap.size (.slice (some ⟨gL, 0, none⟩) n cL) (tab (clOut (clS f) n back on k).2 n) ∧ Own 2 wr w.heap.size (.slice (some ⟨gG, 0, none⟩) n cG) (tab (clOut (clS f) n back on k).1 n) ∧ wr.cell? ⟨w4.heap.size, 0, none⟩ = some (.slice (some ⟨gL, 0, none⟩) n cL) ∧ wr.cell? ⟨w2.heap.size, 0, none⟩ = some (.slice (some ⟨gG, 0, none⟩) n cG) ∧ Below w.heap.size w wr) (fun i _ => n - (intOf i).toNat)
    case atStart =>
      have q5 : Below w4.heap.size w4 (w4.alloc (.cells #[.slice (some ⟨gL, 0, none⟩) n cL] 29)) := by go_grown
      exact ⟨0, Nat.zero_le _, rfl, HL4.out.below q5, HG4.out.below q5, by simp [go_sem], Below.cellOf q5 rfl KG4.out, bnext C4 q5⟩
    case round =>
      obtain ⟨i, hi, rfl, hL, hG, kL, kG, hbr⟩ := hrel
      by_cases hlt : i < n
      · generalize hwA : wr = wA at *
        clear hwA
        have l1 : (i : Int) < n := by omega
        obtain ⟨lo1, lo2⟩ := clLo_is (i := i) b0
        obtain ⟨hi1, hi2, hi3⟩ := clHi_is (n := n) (i := i) o0 hlt
        have hv := HV.out i (Nat.le_of_lt hlt)
        have HN : Hid (clOut (clS f) n back on (i + 1) = clRun (clOut (clS f) n back on i) i (clLo i back) (clHi n i on - clLo i back)) := rfl
        have HR : Hid (∀ m, clLo i back + m ≤ n → clInv n (clRun (clOut (clS f) n back on i) i (clLo i back) m)) := clRun_inv hv hlt
        have HS := Lib.hid (clRun_same hv hlt lo1)
        have e1 : (if (i : Int) - back < 0 then 0 else (i : Int) - back) = (clLo i back : Int) := by rw [lo2]; split <;> omega
        have e2 := lo2.symm
        have e3 := hi3.symm
        have e4 : (if (i : Int) + on + 1 < n then (i : Int) + on + 1 else (n : Int)) = (clHi n i on : Int) := by rw [hi3]; split <;> omega
        have e5 : (if (n : Int) < (i : Int) + on + 1 then (n : Int) else (i : Int) + on + 1) = (clHi n i on : Int) := by rw [hi3]; split <;> omega
        have e6 : min ((i : Int) + on + 1) (n : Int) = (clHi n i on : Int) := by rw [hi3]; omega
        have zL := hL.lt0
        have zG := hG.lt0
        have y1 := World.block_lt_of_cell? wA _ kL
        have y2 := World.block_lt_of_cell? wA _ kG
        simp only at y1 y2
        clear hv
        generalize hlo : clLo i back = lo at *
        generalize hhi : clHi n i on = up at *
        generalize hss : clOut (clS f) n back on i = s at *
        have HL := Lib.hid hL
        have HG := Lib.hid hG
        have KL := Lib.hid kL
        have KG := Lib.hid kG
        clear hL hG kL kG hlo hhi hss lo2 hi3
        go_wp2_with fail
        have q6 : Below wA.heap.size wA (wA.alloc (.cells #[.int .i64 i] 2)) := by go_grown
        have d1 : w4.heap.size ≠ gL ∧ w4.heap.size ≠ gG := by omega
        have d2 : wA.heap.size ≠ gL ∧ wA.heap.size ≠ gG := by omega
        have d3 : w2.heap.size ≠ gL ∧ w2.heap.size ≠ gG := by omega
        have d0 : gL ≠ gG := by omega
        go_loopw [14] (fun k wr => ∃ m : Nat, lo + m ≤ i ∧ k = .int .i64 (lo + m : Nat) ∧ Own 2 wr w.heap.size (.slice (some ⟨gL, 0, none⟩) n cL) (tab (clRun s i lo m).2 n) ∧ Own 2 wr w.heap.size (.slice (some ⟨gG, 0, none⟩) n cG) (tab (clRun s i lo m).1 n) ∧ wr.cell? ⟨w4.heap.size, 0, none⟩ = some (.slice (some ⟨gL, 0, none⟩) n cL) ∧ wr.cell? ⟨w2.heap.size, 0, none⟩ = some (.slice (some ⟨gG, 0, none⟩) n cG) ∧ wr.cell? ⟨wA.heap.size, 0, none⟩ = some (.int .i64 i) ∧ Below w.heap.size w wr) (fun k _ => i - (intOf k).toNat)
        case atStart => exact ⟨0, by omega, by simp, HL.out.below q6, HG.out.below q6, Below.cellOf q6 rfl KL.out, Below.cellOf q6 rfl KG.out, by simp [go_sem], bnext hbr q6⟩
        case round =>
          obtain ⟨m, hm, rfl, hL2, hG2, kL2, kG2, kI2, hbq⟩ := hrel
          by_cases hlt2 : lo + m < i
          · have l2 : ((lo + m : Nat) : Int) < i := by omega
            have hU := use_any n gL cL gG cG w4.heap.size wA.heap.size w2.heap.size i (lo + m) w.heap.size (clRun s i lo m) wr (by omega) hlt (by omega) (HR.out m (by omega)) d0 hL2 hG2 kL2 kI2 kG2 d1 d2 d3
            go_wp2_with fail
            refine hU.mono ?_
            rintro e w7 ⟨rfl, hL7, hG7, k7⟩
            go_wp2_with fail
            go_roundw
            case rel => exact ⟨m + 1, by omega, by go_num, hL7, hG7, k7.cellOf (by omega) kL2, k7.cellOf (by omega) kG2, k7.cellOf (by omega) kI2, hbq.trans (k7.toBelow (fun k hk => by omega) hbq.size)⟩
            case measure => simp [intOf]; omega
          · have l2 : ¬ ((lo + m : Nat) : Int) < i := by omega
            have hm2 : m = i - lo := by omega
            rw [hm2, ← HS.out] at hL2 hG2
            have HL2 := Lib.hid hL2
            have HG2 := Lib.hid hG2
            have KL2 := Lib.hid kL2
            have KG2 := Lib.hid kG2
            clear hL2 hG2 kL2 kG2
            generalize hwB : wr = wB at *
            clear hwB
            have l2 : ¬ ((lo + m : Nat) : Int) < i := by omega
            go_wp2_with fail
            go_loopw [15] (fun k wr => ∃ m : Nat, lo + m ≤ up ∧ i + 1 ≤ lo + m ∧ k = .int .i64 (lo + m : Nat) ∧ Own 2 wr w.heap.size (.slice (some ⟨gL, 0, none⟩) n cL) (tab (clRun s i lo m).2 n) ∧ Own 2 wr w.heap.size (.slice (some ⟨gG, 0, none⟩) n cG) (tab (clRun s i lo m).1 n) ∧ wr.cell? ⟨w4.heap.size, 0, none⟩ = some (.slice (some ⟨gL, 0, none⟩) n cL) ∧ wr.cell? ⟨w2.heap.size, 0, none⟩ = some (.slice (some ⟨gG, 0, none⟩) n cG) ∧ wr.cell? ⟨wA.heap.size, 0, none⟩ = some (.int .i64 i) ∧ Below w.heap.size w wr) (fun k _ => up - (intOf k).toNat)
            case atStart => exact ⟨i + 1 - lo, by omega, by omega, by rw [show lo + (i + 1 - lo) = i + 1 by omega]; go_num, HL2.out, HG2.out, KL2.out, KG2.out, kI2, hbq⟩
            case round =>
              obtain ⟨m, hm, hm1, rfl, hL2, hG2, kL2, kG2, kI2, hbq⟩ := hrel
              by_cases hlt3 : lo + m < up
              · have l3 : ((lo + m : Nat) : Int) < up := by omega
                have hU := use_any n gL cL gG cG w4.heap.size wA.heap.size w2.heap.size i (lo + m) w.heap.size (clRun s i lo m) wr (by omega) hlt (by omega) (HR.out m (by omega)) d0 hL2 hG2 kL2 kI2 kG2 d1 d2 d3
                go_wp2_with fail
                refine hU.mono ?_
                rintro e w7 ⟨rfl, hL7, hG7, k7⟩
                go_wp2_with fail
                go_roundw
                case rel => exact ⟨m + 1, by omega, by omega, by go_num, hL7, hG7, k7.cellOf (by omega) kL2, k7.cellOf (by omega) kG2, k7.cellOf (by omega) kI2, hbq.trans (k7.toBelow (fun k hk => by omega) hbq.size)⟩
                case measure => simp [intOf]; omega
              · have l3 : ¬ ((lo + m : Nat) : Int) < up := by omega
                obtain rfl : m = up - lo := by omega
                rw [← HN.out] at hL2 hG2
                go_wp2_with fail
                go_roundw
                case rel => exact ⟨i + 1, by omega, by go_num, hL2, hG2, kL2, kG2, hbq⟩
                case measure => simp [intOf]; omega
      · obtain rfl : i = n := by omega
        go_wp2_with fail
        go_quiet (fail)
        go_wp2
        go_ret3
        exact ⟨_, _, rfl, hG.drewN _, by rw [tab_length]; omega, hL.drewN _, by rw [tab_length]; omega, Apart.two (by omega), Below.drewN' hbr _⟩
end Go.Proofs.Ytjopeidmfgkhnaa
