/-
  impl.SettleAccounts and spec.SettleAccounts answer alike: every list of fewer than 1000000000 integers. No other condition.
-/
import Derived.Test.YtjopeidmfgkhnaaSettleI
import Derived.Test.YtjopeidmfgkhnaaMinMax
import Derived.Deep.QuietTactic
import Derived.BigQuiet
namespace Go.Proofs.Ytjopeidmfgkhnaa
open Go.RowKit
set_option linter.unusedVariables false

set_option maxHeartbeats 3200000 in
set_option maxRecDepth 100000 in
theorem stl_spec (n g c : Nat) (f : Nat → Int) (w : World) (hn : n < 1000000000) (hI : Ints w g 0 n f) :
    Calls Try.prog 32 #[.slice (some ⟨g, 0, none⟩) n c] w (RetL1 2 w (stlL f n) (stlOk f n)) := by
  have HN : Hid (win n 1 12 = false → stlOk f n = false) := fun h => by simp only [stlOk, cnt_no h, Bool.false_and]
  by_cases h1 : (n : Int) < 1
  · have h := HN.out (win_not.2 (.inl h1))
    rw [stl_no h, h]
    clear h
    go_enter Try.func32, Try.ntmps32
    go_wp2_with fail
    go_ret2
    exact RetL1.no _ (Below.refl _ _)
  by_cases h2 : 12 < (n : Int)
  · have h := HN.out (win_not.2 (.inr h2))
    rw [stl_no h, h]
    clear h
    go_enter Try.func32, Try.ntmps32
    go_wp2_with fail
    go_ret2
    exact RetL1.no _ (Below.refl _ _)
  have HY : Hid (∀ i, i < n → win (f i) (-1000000000) 1000000000 = false → stlOk f n = false) := fun i hi h => by
    simp only [stlOk, cnt_no2 (allW_false i hi h), Bool.false_and]
  have HX : Hid (allW f (-1000000000) 1000000000 n = true → stlOk f n = decide (sumTo f n = 0)) := fun h => by
    have e : cntB f n 1 12 (-1000000000) 1000000000 = true := by
      simp only [cntB, h, Bool.and_true, win_iff]; omega
    simp only [stlOk, e, Bool.true_and]
  have HS : Hid (∀ k, k ≤ n → allW f (-1000000000) 1000000000 k = true → -9000000000000 ≤ sumTo f k ∧ sumTo f k ≤ 9000000000000) := fun k hk h => by
    have hf := allW_iff.1 h
    have := sumTo_bd hf (by omega) (by omega) k (Nat.le_refl _)
    omega
  clear HN
  go_enter Try.func32, Try.ntmps32
  go_wp2_with fail
  go_loop [22, 4] (fun i s => ∃ k : Nat, k ≤ n ∧ i = .int .i64 k ∧ s = .int .i64 (sumTo f k) ∧ Hid (allW f (-1000000000) 1000000000 k = true)) (fun i _ => n - (intOf i).toNat)
  case atStart => exact ⟨0, Nat.zero_le _, rfl, rfl, rfl⟩
  case round =>
    obtain ⟨k, hk, rfl, rfl, ha⟩ := hrel
    have s1 := HS.out k hk ha.out
    by_cases hlt : k < n
    · have hc := hI.at0 k hlt
      cases hx : win (f k) (-1000000000) 1000000000
      · have HF := Lib.hid (HY.out k hlt hx)
        go_wp2_with (first | (go_at_call 51; refine (spec_l00In_any _ _ _ _).mono ?_; rintro e w' ⟨rfl, rfl⟩))
        go_ret2
        rw [stl_no HF.out, HF.out]
        exact RetL1.no _ (Below.refl _ _)
      · have f1 := win_iff.1 hx
        have HE : Hid (sumTo f (k + 1) = sumTo f k + f k) := rfl
        have HA := Lib.hid (allW_succ ha.out hx)
        go_wp2_with (first | (go_at_call 51; refine (spec_l00In_any _ _ _ _).mono ?_; rintro e w' ⟨rfl, rfl⟩))
        go_round
        case rel => exact ⟨k + 1, by omega, by go_num, by rw [HE.out], HA⟩
        case measure => simp [intOf]; omega
    · obtain rfl : k = n := by omega
      have HF := HX.out ha.out
      by_cases h0 : sumTo f k = 0
      · have hok : stlOk f k = true := by rw [HF]; exact decide_eq_true h0
        obtain ⟨n0, n12, hS⟩ := stl_is hok
        have h3 : (sumTo f k != 0) = false := by simp [h0]
        have HSE := Lib.hid hS
        have HOK := Lib.hid hok
        clear hok hS HF h0 s1 HX HY HS ha
        go_wp2_with (first | (at_builtin; refine wpList_cloneI _ rfl _ _ 29 rfl 2 Try.infoI Try.underlying29 k g c f rfl rfl hn hI ?_; intro gl cl w2 hO b2))
        have HO := Lib.hid hO
        clear hO h3
        generalize hkk : k = n at *
        clear hkk
        go_loopg [7] (n + 1) (fun G v wr => ∃ (b : Nat → Int) (out : List Int), SetIs b n G ∧ Hid (setOut n G b out = setOut n (n + 1) f []) ∧ out.length + 3 * G ≤ 3 * (n + 1) ∧ Own 2 wr w.heap.size (.slice (some ⟨gl, 0, none⟩) n cl) (tab b n) ∧ Own 2 wr w.heap.size v out ∧ Hid (v.ownBlock = some gl → False) ∧ Below w.heap.size w wr)
        case atStart =>
          have q1 : Below w2.heap.size w2 (w2.alloc (.cells #[] 2)) := by go_grown
          exact ⟨f, [], HSE.out, rfl, by simp, HO.out.below q1, (Own.made 2 w2 (B := w2.heap.size) (Nat.le_refl _)).mono b2.size, (fun h => by have h' : w2.heap.size = gl := Option.some.inj h; have := HO.out.lt0; omega), bnext b2 q1⟩
        case round =>
          obtain ⟨b, out, hs, ho, hln, hl, hv, hd, hbr⟩ := hrel
          have x0 : 0 < gk := by have := hs.z; omega
          obtain ⟨G', rfl⟩ : ∃ G', gk = G' + 1 := ⟨gk - 1, by omega⟩
          have HBN : Hid (∀ k, k ≤ n → amn b k < n ∧ amx b k < n) := fun k hk => by have := amn_lt b k; have := amx_lt b k; omega
          have HB0 : Hid (amn b 0 = 0 ∧ amx b 0 = 0) := ⟨rfl, rfl⟩
          have HS1 : Hid (∀ k, b k < b (amn b k) → amn b (k + 1) = k) := fun k h => if_pos h
          have HS2 : Hid (∀ k, ¬ b k < b (amn b k) → amn b (k + 1) = amn b k) := fun k h => if_neg h
          have HS3 : Hid (∀ k, b (amx b k) < b k → amx b (k + 1) = k) := fun k h => if_pos h
          have HS4 : Hid (∀ k, ¬ b (amx b k) < b k → amx b (k + 1) = amx b k) := fun k h => if_neg h
          have l1 := (amn_lt b n).2 n0
          have l2 := (amx_lt b n).2 n0
          have r1 := hs.r _ l1
          have r2 := hs.r _ l2
          have HE0 : Hid (b (amx b n) = 0 → setOut n (G' + 1) b out = out) := fun h => if_pos h
          have HE1 : Hid (b (amx b n) ≠ 0 → setOut n (G' + 1) b out = setOut n G' (setB b n) (out ++ [((amn b n : Nat) : Int), ((amx b n : Nat) : Int), setX b n])) := fun h => if_neg h
          have HM : Hid (b (amx b n) ≠ 0 → b (amn b n) < 0 ∧ 0 < b (amx b n) ∧ amn b n ≠ amx b n) := fun h => set_more hs n0 h
          have HNX : Hid (b (amx b n) ≠ 0 → SetIs (setB b n) n G') := fun h => set_next hs n0 h
          have HX : Hid (setX b n = min (-(b (amn b n))) (b (amx b n))) := rfl
          have HBB : Hid (∀ X, setX b n = X → setB b n = upd (upd b (amn b n) (b (amn b n) + X)) (amx b n) (b (amx b n) - X)) := fun X h => by rw [← h]; rfl
          have HL := Lib.hid hl
          have HV := Lib.hid hv
          have HC : Hid (∀ i, i < n → wr.cell? ⟨gl, i, none⟩ = some (.int .i64 (b i))) := fun i hi => hl.cellTab i hi
          generalize hwA : wr = wA at *
          clear hwA hl hv hs
          go_wp2_with fail
          go_loopw [46, 8, 9] (fun i lo hi wr => ∃ k : Nat, k ≤ n ∧ i = .int .i64 k ∧ lo = .int .i64 (amn b k : Nat) ∧ hi = .int .i64 (amx b k : Nat) ∧ ∃ m, wr = wA.drewN m) (fun i _ _ _ => n - (intOf i).toNat)
          case atStart => exact ⟨0, Nat.zero_le _, rfl, by rw [HB0.out.1]; rfl, by rw [HB0.out.2]; rfl, 0, rfl⟩
          case round =>
            obtain ⟨k, hk, rfl, rfl, rfl, m, rfl⟩ := hrel
            obtain ⟨b1, b2⟩ := HBN.out k hk
            by_cases hlt : k < n
            · have d1 := HC.out k hlt
              have d2 := HC.out _ b1
              have d3 := HC.out _ b2
              have l3 : (k : Int) < n := by omega
              have l4 : ((amn b k : Nat) : Int) < n := by omega
              have l5 : ((amx b k : Nat) : Int) < n := by omega
              by_cases t1 : b k < b (amn b k)
              all_goals
                by_cases t2 : b (amx b k) < b k
              all_goals
                first
                  | have hN1 := HS1.out k (by omega)
                  | have hN1 := HS2.out k (by omega)
                first
                  | have hN2 := HS3.out k (by omega)
                  | have hN2 := HS4.out k (by omega)
                have HN1 := Lib.hid hN1
                have HN2 := Lib.hid hN2
                clear hN1 hN2
                go_wp2_with fail
                go_quiet (fail)
                go_wp2_with fail
                go_quiet (fail)
                go_wp2
                go_roundw
                case rel => exact ⟨k + 1, by omega, by go_num, by rw [HN1.out], by rw [HN2.out], _, rfl⟩
                case measure => simp [intOf]; omega
            · obtain rfl : k = n := by omega
              have d2 := HC.out _ b1
              have d3 := HC.out _ b2
              have l4 : ((amn b k : Nat) : Int) < k := by omega
              have l5 : ((amx b k : Nat) : Int) < k := by omega
              by_cases h0 : b (amx b k) = 0
              · have h5 : (b (amx b k) == 0) = true := by rw [h0]; rfl
                have hE := Lib.hid (HE0.out h0)
                clear h0
                go_wp2_with fail
                go_ret2
                rw [stl_yes HOK.out, HOK.out, ← ho.out, hE.out]
                exact ⟨u7, rfl, HV.out.drewN _, by omega, Below.drewN' hbr _⟩
              · have h5 : (b (amx b k) == 0) = false := by simpa using h0
                have hE := HE1.out h0
                obtain ⟨m1, m2, m3⟩ := HM.out h0
                have hN := Lib.hid (HNX.out h0)
                obtain ⟨X, hX⟩ : ∃ X, setX b k = X := ⟨_, rfl⟩
                have e1 : min (-(b (amn b k))) (b (amx b k)) = X := HX.out.symm.trans hX
                have x1 : 0 ≤ X ∧ X ≤ 1000000000 := by omega
                have HB := Lib.hid (HBB.out X hX)
                rw [hX] at hE
                have hE := Lib.hid hE
                have ap : Hid (Apart u7 (.slice (some ⟨gl, 0, none⟩) k cl)) := fun q h1 h2 => hd.out (by cases h2; exact h1)
                clear HX HBB HE0 HE1 HNX HM HS1 HS2 HS3 HS4 HBN HB0 hX h0
                generalize hLL : amn b k = L at *
                generalize hHH : amx b k = H at *
                clear hLL hHH
                have m4 : H ≠ L := Ne.symm m3
                have OL := HL.out.drewN m
                have OV := HV.out.drewN m
                have hbD := Below.drewN' hbr m
                have g2 := OL.cellTab _ l1
                have g3 := OL.cellTab _ l2
                have OLH := Lib.hid OL
                have OVH := Lib.hid OV
                clear OL OV d2 d3 HC HL HV hbr
                generalize wA.drewN m = wD at *
                go_wp2_with fail
                go_quiet ((first | (go_at_call 53; exact Calls.quiet_of_same ((spec_l00Min_any _ _ _).mono (fun _ _ h => ⟨h.1, h.2.symm⟩)))))
                go_wp2_with (first | (at_builtin; refine wpList_app33 _ rfl _ _ 29 rfl w.heap.size 2 Try.infoI Try.underlying29 _ _ rfl (OVH.out.drewN _) _ _ _ (by first | rfl | (show Value.slice (some ⟨wD.heap.size, 0, none⟩) 3 3 = _; simp)) (by omega) (by simpa using hbD.size) ?_; intro v7 w7 hv7 hb7 k7; obtain ⟨hL7, ap7⟩ := k7.own (OLH.out.drewN _) ap.out; have d5 := hL7.cellTab _ l1; have d6 := hL7.cellTab _ l2; have f5 := hL7.freeAt L; have f6 := hL7.freeAt H))
                have hL1 := hL7.tabSet (upd b L (b L + X)) L l1 (b L + X) (upd_at _ _ _) (fun j _ hj => (upd_ne _ _ hj).symm)
                have hL2 := hL1.tabSet (setB b k) H l2 (b H - X) (by rw [HB.out, upd_at]) (fun j _ hj => by rw [HB.out, upd_ne _ _ hj])
                go_roundg G'
                case measure => omega
                case rel => exact ⟨setB b k, _, hN.out, hE.out.symm.trans ho.out, by simp; omega, hL2, (hv7.keepV ⟨gl, L, none⟩ (fun h => ap7 gl h rfl) _).keepV ⟨gl, H, none⟩ (fun h => ap7 gl h rfl) _, (fun h => ap7 gl h rfl), (((Below.drewN' hbD _).trans hb7).setCell OLH.out.lt0.1 _).setCell OLH.out.lt0.1 _⟩
      · have hok : stlOk f k = false := by rw [HF]; exact decide_eq_false h0
        have h3 : (sumTo f k != 0) = true := by simp [h0]
        have HOK := Lib.hid hok
        clear hok HF h0
        go_wp2_with fail
        go_ret2
        rw [stl_no HOK.out, HOK.out]
        exact RetL1.no _ (Below.refl _ _)

theorem SettleAccounts_impl {w : World} {B : Nat} {v : Value} {xs : List Int} (h : RowI 2 w B v xs) : Calls Try.prog 33 #[v] w (RetL1 2 w (SettleAccounts_r0 xs) (SettleAccounts_r1 xs)) := by
  obtain ⟨g, c, rfl, _, _, _, _, hI, _, hn⟩ := h.form
  exact stl_impl xs.length g c _ w hn hI
theorem SettleAccounts_spec {w : World} {B : Nat} {v : Value} {xs : List Int} (h : RowI 2 w B v xs) : Calls Try.prog 32 #[v] w (RetL1 2 w (SettleAccounts_r0 xs) (SettleAccounts_r1 xs)) := by
  obtain ⟨g, c, rfl, _, _, _, _, hI, _, hn⟩ := h.form
  exact stl_spec xs.length g c _ w hn hI
end Go.Proofs.Ytjopeidmfgkhnaa
