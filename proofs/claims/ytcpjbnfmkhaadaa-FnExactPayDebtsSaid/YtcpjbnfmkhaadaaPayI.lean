/-
  impl.PayDebts pays as the plain law tells. Condition: fewer than 1000000000 debts.
-/
import Derived.Test.YtcpjbnfmkhaadaaPayP
import Derived.Test.YtcpjbnfmkhaadaaDiv64
import Derived.Test.YtcpjbnfmkhaadaaParted
namespace Go.Proofs.Ytcpjbnfmkhaadaa
open Go.RowKit
set_option linter.unusedVariables false

theorem divC_debt {c x s : Int} (c0 : 0 ≤ c) (cs : c < s) (s1 : s ≤ 24000000000) (x0 : 0 ≤ x) (x1 : x ≤ 1000000000) : DivC (c * x) s := by
  have h0 : 0 ≤ c * x := Int.mul_nonneg c0 x0
  have h1 : c * x ≤ c * 1000000000 := Int.mul_le_mul_of_nonneg_left x1 c0
  by_cases h : c * x < 18446744073709551616
  · exact divC_small h0 h (by omega) (by omega)
  · intro w
    rw [show c * x / 18446744073709551616 = 1 by omega, show c * x % 18446744073709551616 = c * x - 18446744073709551616 by omega]
    exact (div64_one (c * x) s (by omega) (by omega) (by omega) (by omega) w).mono fun e w' h => ⟨h.1, 0, h.2⟩
theorem pd_infoJ : (Try.prog.info? 3).map (fun i => (i.zero, i.size, i.bytes)) = some (some (.int .i64 0), 1, 8) := by kernel_rfl

set_option maxHeartbeats 6400000 in
set_option maxRecDepth 100000 in
theorem pay_impl (n g : Nat) (f : Nat → Int) (c k : Int) (w : World) (hn : n < 1000000000) (hI : RowC w g 0 n 3 f) :
    Calls Try.prog 14 #[.slice (some ⟨g, 0, none⟩) n n, .int .i64 c, .int .i64 k] w (RetL1i 2 w (payL f n c k) (payV f n c k) (payOk f n c k)) := by
  have bA : Below w.heap.size w ((w.alloc (.cells #[.slice (some ⟨g, 0, none⟩) n n] 33)).alloc (.cells #[.int .i64 k] 2)) := by go_grown
  have HK0 : Hid (((w.alloc (.cells #[.slice (some ⟨g, 0, none⟩) n n] 33)).alloc (.cells #[.int .i64 k] 2)).cell? ⟨w.heap.size, 0, none⟩ = some (.slice (some ⟨g, 0, none⟩) n n)) := by show World.cell? _ _ = _; simp [go_sem]
  have HK1 : Hid (((w.alloc (.cells #[.slice (some ⟨g, 0, none⟩) n n] 33)).alloc (.cells #[.int .i64 k] 2)).cell? ⟨w.heap.size + 1, 0, none⟩ = some (.int .i64 k)) := by show World.cell? _ _ = _; simp [go_sem]
  have HD : Hid (∀ w', Below w.heap.size w w' → Calls Try.prog 27 #[.slice (some ⟨g, 0, none⟩) n n] w' (RetV w' (.bool (debtsOk f n)))) := fun w' hb => debts_impl n g f w' hn (hI.below hb)
  cases h : payOk f n c k
  · obtain ⟨z1, z2⟩ := pay_no h
    rw [z1, z2]
    clear z1 z2
    rcases first_no3 h with h1 | ⟨h1, h2 | ⟨h2, h3⟩⟩
    all_goals
      clear h
      rw [h1] at HD
      go_enter Try.func14, Try.ntmps14
      go_wp2_with (first | (go_at_call 27; refine (HD.out _ bA).mono ?_; rintro e w1 ⟨rfl, b1⟩; have C1 := bnext bA b1; have k1 := Below.cellOf b1 rfl HK1.out) | (go_at_call 28; refine (impl_within_any _ _ _ _).mono ?_; rintro e w' ⟨rfl, rfl⟩))
      go_ret3
      exact RetL1i.no _ C1
  · have hF := pay_is h
    obtain ⟨h1, h2, h3⟩ := all_yes3 h
    have HA2a : Hid (k = 2 → sumTo (pyL f) n ≤ c → payL f n c k = tab (pyL f) n ∧ payV f n c k = c - sumTo (pyL f) n) := fun e h' => by subst e; exact pay_2a h h'
    have HA2b : Hid (k = 2 → ¬ sumTo (pyL f) n ≤ c → payL f n c k = tab (ptO c (pyL f) n) n ∧ payV f n c k = 0) := fun e h' => by subst e; exact pay_2b h h'
    have HA1 : Hid (¬ k = 2 → payL f n c k = tab (pyO f k c n n) n ∧ payV f n c k = pyC f k c n n) := fun e => pay_1 h e
    have HF := Lib.hid hF
    have n1 := hF.n1
    have n2 := hF.n2
    rw [h1] at HD
    have HCE : Hid (∀ i, i < n * 3 → ∀ w', Below w.heap.size w w' → w'.cell? ⟨g, i, none⟩ = some (.int .i64 (f i))) := fun i hi w' hb => by
      have e : i = i / 3 * 3 + i % 3 := by omega
      have hlt : i / 3 < n := by omega
      rcases Nat.eq_zero_or_pos (i % 3) with e0 | e0
      · have := (hI.below hb).c0 (i / 3) hlt (by decide)
        rw [e0, Nat.add_zero] at e
        rw [← e] at this
        exact this
      · have := (hI.below hb).cs (i / 3) (i % 3) hlt (by omega)
        rw [← e] at this
        exact this
    clear h hF
    go_enter Try.func14, Try.ntmps14
    go_wp2_with (first | (go_at_call 27; refine (HD.out _ bA).mono ?_; rintro e w1 ⟨rfl, b1⟩; have C1 := bnext bA b1; have k0 := Below.cellOf b1 rfl HK0.out; have k1 := Below.cellOf b1 rfl HK1.out; have q2 : Below w1.heap.size w1 ((w1.alloc (.cells #[] 2)).alloc (.cells #[] 3)) := (by go_grown); have kk0 := Below.cellOf q2 rfl k0) | (go_at_call 28; refine (impl_within_any _ _ _ _).mono ?_; rintro e w' ⟨rfl, rfl⟩))
    have hw1 : w.heap.size + 1 < w1.heap.size := World.block_lt_of_cell? w1 _ k1
    clear h1 h2 h3
    have K0 := Lib.hid k0
    have K1 := Lib.hid k1
    clear k0 k1 kk0 q2
    go_loopw [34, 9, 10] (fun i vO vD wr => ∃ j : Nat, j ≤ n ∧ i = .int .i64 j ∧ Own 2 wr w1.heap.size vO (tab (pyL f) j) ∧ Own 3 wr w1.heap.size vD (tab ido j) ∧ Hid (Apart vO vD) ∧ Below w1.heap.size w1 wr) (fun i _ _ _ => n - (intOf i).toNat)
    case atStart =>
      exact ⟨0, Nat.zero_le _, rfl, (Own.made 2 w1 (B := w1.heap.size) (Nat.le_refl _)).up _, by have := Own.made 3 (w1.alloc (.cells #[] 2)) (B := w1.heap.size) (by simp); rw [World.size_alloc] at this; exact this, Apart.two (by omega), by go_grown⟩
    case round =>
      obtain ⟨j, hj, rfl, hvO, hvD, aOD, hbr⟩ := hrel
      by_cases hlt : j < n
      · have hbw := C1.trans (hbr.mono C1.size)
        have c0 := HCE.out (j * 3) (by omega) _ hbw
        have c1 := HCE.out (j * 3 + 1) (by omega) _ hbw
        have c2 := HCE.out (j * 3 + 2) (by omega) _ hbw
        have l4 : (j : Int) < n := by omega
        have HT1 := Lib.hid (tab_len8s (f := pyL f) (k := j) (by omega))
        have HT2 := Lib.hid (tab_len8s (f := ido) (k := j) (by omega))
        have HLE : Hid (f (j * 3 + 2) = pyL f j) := rfl
        rw [HLE.out] at c2
        have qd : Below wr.heap.size wr (wr.alloc (.cells #[.int .i64 (f (j * 3)), .int .i64 (f (j * 3 + 1)), .int .i64 (pyL f j)] 47)) := by go_grown
        have hvO' := hvO.below qd
        have hvD' := hvD.below qd
        have hbd := bnext hbr qd
        clear hvO hvD qd
        go_wp2_with (first | (at_builtin; refine wpList_app3 _ rfl _ _ 22 rfl w1.heap.size 2 Try.infoI Try.underlying22 _ _ rfl hvO' _ (by show Value.slice (some ⟨wr.heap.size + 1, 0, none⟩) 1 1 = _; simp) (by have := HT1.out; omega) hbd.size ?_; intro v5 w5 hO5 b5 k5; have hD5 := k5.own hvD' aOD.out; have B5 := hbd.trans b5) | (at_builtin; refine wpList_app3 _ rfl _ _ 54 rfl w1.heap.size 3 pd_infoJ Try.underlying54 _ _ rfl hD5.1 _ rfl (by have := HT2.out; omega) B5.size ?_; intro v6 w6 hD6 b6 k6; have hO6 := k6.own hO5 hD5.2.symm; have B6 := B5.trans b6))
        go_roundw
        case rel => exact ⟨j + 1, by omega, by go_num, by rw [tab]; exact hO6.1, by rw [tab]; exact hD6, hO6.2.symm, B6⟩
        case measure => simp [intOf]; omega
      · obtain rfl : j = n := by omega
        obtain ⟨gv, cv, rfl, v1, v2⟩ := hvO.formTs n1
        obtain ⟨gd, cd, rfl, d1, d2⟩ := hvD.formTs n1
        have hvd : gv ≠ gd := fun e => aOD.out gv rfl (by rw [e]; rfl)
        have k0 := Below.cellOf hbr rfl K0.out
        have k1 := Below.cellOf hbr rfl K1.out
        have hbw := C1.trans (hbr.mono C1.size)
        have hsz := hbr.size
        have hIO : Ints wr gv 0 j (pyL f) := fun i hi => by rw [Nat.zero_add]; exact hvO.cellTab i hi
        have hss := py_sum HF.out
        have hsj := hss j (Nat.le_refl _)
        have HTOT : Hid (Calls Try.prog 29 #[.slice (some ⟨gv, 0, none⟩) j cv] wr (fun e w'' => e = .returned (.int .i64 (sumTo (pyL f) j)) ∧ wr = w'')) := total_any j gv 0 cv (pyL f) wr hn hIO (fun q hq => by have := hss q hq; omega)
        by_cases hk2 : k = 2
        · subst hk2
          by_cases hsc : sumTo (pyL f) j ≤ c
          · obtain ⟨z1, z2⟩ := HA2a.out rfl (by omega)
            have Z1 := Lib.hid z1
            have Z2 := Lib.hid z2
            have hc1 := HF.out.c1
            clear z1 z2 hss hIO
            obtain ⟨S, hS⟩ : ∃ S, sumTo (pyL f) j = S := ⟨_, rfl⟩
            rw [hS] at HTOT hsc hsj Z2
            clear hS
            go_wp2_with (first | (go_at_call 29; refine HTOT.out.mono ?_; rintro e w' ⟨rfl, rfl⟩))
            go_ret3
            rw [Z1.out, Z2.out]
            exact ⟨_, rfl, hvO.mono C1.size, by rw [tab_length]; omega, hbw⟩
          · obtain ⟨z1, z2⟩ := HA2b.out rfl (by omega)
            have Z1 := Lib.hid z1
            have Z2 := Lib.hid z2
            have c0 := HF.out.c0
            have HP := Lib.hid (parted_any j gv cv c (pyL f) wr n1 (by omega) c0 HF.out.c1 HF.out.cents (by omega) hIO (fun i hi => divC_debt c0 (by omega) hsj.2 (HF.out.cents i hi).1 (HF.out.cents i hi).2))
            clear z1 z2 hss hIO
            obtain ⟨S, hS⟩ : ∃ S, sumTo (pyL f) j = S := ⟨_, rfl⟩
            rw [hS] at HTOT hsc hsj
            clear hS
            go_wp2_with (first | (go_at_call 29; refine HTOT.out.mono ?_; rintro e w' ⟨rfl, rfl⟩) | (go_at_call 22; refine HP.out.mono ?_; rintro e w2 ⟨v, rfl, hv, hb2⟩))
            go_ret3
            rw [Z1.out, Z2.out]
            exact ⟨_, rfl, hv.mono hbw.size, by rw [tab_length]; omega, bnext hbw hb2⟩
        · obtain ⟨z1, z2⟩ := HA1.out (by first | exact hk2 | omega)
          have Z1 := Lib.hid z1
          have Z2 := Lib.hid z2
          have hkb : (k == 2) = false := by simp [hk2]
          have hgw : g < w.heap.size := World.block_lt_of_cell? w _ (HCE.out 0 (by omega) w (Below.refl _ _))
          have hrow : RowAt wr gd j ido := ⟨fun i hi => by rw [Nat.zero_add]; exact hvD.cellTab i hi, fun i => hvD.freeAt i⟩
          have HSORT := Lib.hid (sortStable_pd j gd cd (.pointer (some ⟨w.heap.size, 0, none⟩)) (.pointer (some ⟨w.heap.size + 1, 0, none⟩)) (pkey (pyR f k)) ido wr (by omega) (pd_cmp HF.out g j w.heap.size (w.heap.size + 1) gd wr k0 k1 (fun i hi => HCE.out i hi _ hbw) (by omega) (by omega) (by omega)) hrow (fun p q h1 h2 => by show (p : Int) < (q : Int); omega) (ido_rng j))
          clear z1 z2 hss hIO hrow hvO hvD HTOT
          go_wp2_with fail
          refine HSORT.out.mono ?_
          rintro e w8 ⟨rfl, o, hR8, hM8, hS8, hK8⟩
          have B8 : Below w1.heap.size w1 w8 := hbr.trans (hK8.toBelow (fun x hx => by have h' : x = gd := hx; omega) hsz)
          have hbw8 := C1.trans (B8.mono C1.size)
          have HPK : Hid (∀ q, q < j → o q = pyA f k j q) := fun q hq => (pick_at HF.out.r (Ord.of hM8) hS8 hq).symm
          have k08 := Below.cellOf B8 rfl K0.out
          have K08 := Lib.hid k08
          have T0 : Hid (List.replicate j 0 = tab (pyO f k c j 0) j) := tab_rep j _ (fun _ => rfl)
          clear hM8 hS8 hK8 HSORT
          go_wp2_with (first | (at_make; refine wpList_mk _ rfl _ _ 22 rfl w8.heap.size 2 Try.infoI Try.underlying22 _ _ _ _ j rfl rfl rfl rfl (by omega) (Nat.le_refl _) ?_; intro w9 hown9 hb9))
          rw [T0.out] at hown9
          clear k0 k1 k08
          go_loopw [71, 1] (fun i cc wr => ∃ q : Nat, q ≤ j ∧ i = .int .i64 q ∧ cc = .int .i64 (pyC f k c j q) ∧ Own 2 wr w8.heap.size (.slice (some ⟨w8.heap.size, 0, none⟩) j j) (tab (pyO f k c j q) j) ∧ Below w8.heap.size w8 wr) (fun i _ _ => j - (intOf i).toNat)
          case atStart => exact ⟨0, Nat.zero_le _, rfl, rfl, hown9, hb9⟩
          case round =>
            obtain ⟨q, hq, rfl, rfl, howq, hbq⟩ := hrel
            by_cases hql : q < j
            · have ho := HPK.out q hql
              have hbl : pyA f k j q < j := pyA_lt n1 q
              have HN1 := Lib.hid (pyO_next (f := f) (k := k) (c := c) (n := j) q)
              have HN2 : Hid (∀ i, i ≠ pyA f k j q → pyO f k c j q i = pyO f k c j (q + 1) i) := fun i hi => pyO_other q hi
              have HN3 := Lib.hid (pyC_next (f := f) (k := k) (c := c) (n := j) q)
              obtain ⟨b, hb⟩ : ∃ b, pyA f k j q = b := ⟨_, rfl⟩
              rw [hb] at ho hbl HN1 HN2 HN3
              have x1 := Below.cellOf hbq rfl (hR8.at q hql)
              rw [ho] at x1
              have x2 := Below.cellOf hbq rfl K08.out
              have x3 := HCE.out (b * 3 + 2) (by omega) _ (hbw8.trans (hbq.mono hbw8.size))
              have HLE : Hid (f (b * 3 + 2) = pyL f b) := rfl
              rw [HLE.out] at x3
              have x4 := howq.cellTab b hbl
              have x5 := howq.freeAt b
              have hc := HF.out.left q
              have hx := HF.out.cents b hbl
              obtain ⟨X, hX⟩ : ∃ X, pyL f b = X := ⟨_, rfl⟩
              obtain ⟨C, hC⟩ : ∃ C, pyC f k c j q = C := ⟨_, rfl⟩
              rw [hX] at x3 hx HN1 HN3
              rw [hC] at hc HN1 HN3 ⊢
              obtain ⟨M, hM⟩ : ∃ M, min C X = M := ⟨_, rfl⟩
              rw [hM] at HN1 HN3
              have hM2 : (if C ≤ X then C else X) = M := by rw [← hM]; rfl
              have hM3 : (if X < C then X else C) = M := by rw [← hM]; split <;> omega
              have hMb : 0 ≤ M ∧ M ≤ C := by omega
              have hv4 := Lib.hid (howq.tabSet (pyO f k c j (q + 1)) b hbl M HN1.out (fun i _ hi => HN2.out i hi))
              have l1 : (q : Int) < j := by omega
              have l2 : (b : Int) < j := by omega
              clear howq ho hb hX hC hM
              go_wp2_with fail
              go_roundw
              case rel => exact ⟨q + 1, by omega, by go_num, by rw [HN3.out], hv4.out, hbq.setCell (Nat.le_refl _) _⟩
              case measure => simp [intOf]; omega
            · obtain rfl : q = j := by omega
              go_wp2_with fail
              go_ret3
              rw [Z1.out, Z2.out]
              exact ⟨_, rfl, howq.mono (by have := hbw8.size; omega), by rw [tab_length]; omega, hbw8.trans (hbq.mono hbw8.size)⟩
end Go.Proofs.Ytcpjbnfmkhaadaa
