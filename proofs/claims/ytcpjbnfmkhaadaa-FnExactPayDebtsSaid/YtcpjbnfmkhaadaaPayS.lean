/-
  spec.PayDebts pays as the plain law tells. Condition: fewer than 1000000000 debts.
-/
import Derived.Test.YtcpjbnfmkhaadaaPayI
import Derived.Test.YtcpjbnfmkhaadaaSplitS
import Derived.Test.YtcpjbnfmkhaadaaBoolRow
namespace Go.Proofs.Ytcpjbnfmkhaadaa
open Go.RowKit
set_option linter.unusedVariables false

theorem py_infoB : (Try.prog.info? 4).map (fun i => (i.zero, i.size, i.bytes)) = some (some (.bool false), 1, 1) := by kernel_rfl
theorem l00Min_anyY (a b : Int) (w : World) : Calls Try.prog 25 #[.int .i64 a, .int .i64 b] w fun e w' => e = .returned (.int .i64 (min b a)) ∧ w = w' := by
  go_enter Try.func25, Try.ntmps25
  go_wp2
  all_goals (go_ret; exact ⟨ret_int (by omega), rfl⟩)
def pyU (f : Nat → Int) (k : Int) (n q i : Nat) : Bool := decide (gR (pyR f k) n q i < 0)
theorem pyU_next (f : Nat → Int) (k : Int) (n q : Nat) : pyU f k n (q + 1) (pyA f k n q) = true ∧ ∀ i, i ≠ pyA f k n q → pyU f k n (q + 1) i = pyU f k n q i := by
  constructor
  · unfold pyU
    rw [gR_next]
    exact decide_eq_true (by rw [show gB (gR (pyR f k) n q) n = pyA f k n q from rfl, upd_at]; omega)
  · intro i hi
    unfold pyU
    rw [gR_next, upd_ne _ _ (show i ≠ gB (gR (pyR f k) n q) n from hi)]
/-- A call that draws, behind draws. -/
theorem quietMore {P : Program} {f : FuncId} {args : Array Value} {w : World} {a n : Nat} {v : Value} (h : Calls P f args (w.drewN (a + n)) fun e w' => e = .returned v ∧ ∃ p, w' = w.drewN (a + n + p)) :
    Calls P f args (w.drewN (a + n)) fun e w'' => e = .returned v ∧ ∃ m, w'' = w.drewN (a + m) := h.mono fun _ _ ⟨he, p, hp⟩ => ⟨he, n + p, by rw [hp, Nat.add_assoc]⟩

set_option maxHeartbeats 6400000 in
set_option maxRecDepth 100000 in
theorem pay_spec (n g : Nat) (f : Nat → Int) (c k : Int) (w : World) (hn : n < 1000000000) (hI : RowC w g 0 n 3 f) :
    Calls Try.prog 12 #[.slice (some ⟨g, 0, none⟩) n n, .int .i64 c, .int .i64 k] w (RetL1i 2 w (payL f n c k) (payV f n c k) (payOk f n c k)) := by
  have HD : Hid (Calls Try.prog 23 #[.slice (some ⟨g, 0, none⟩) n n] w (RetV w (.bool (debtsOk f n)))) := debts_spec n g f w hn hI
  cases h : payOk f n c k
  · obtain ⟨z1, z2⟩ := pay_no h
    rw [z1, z2]
    clear z1 z2
    rcases first_no3 h with h1 | ⟨h1, h2 | ⟨h2, h3⟩⟩
    all_goals
      clear h
      rw [h1] at HD
      go_enter Try.func12, Try.ntmps12
      go_wp2_with (first | (go_at_call 23; refine HD.out.mono ?_; rintro e w1 ⟨rfl, C1⟩) | (go_at_call 18; refine (spec_l00In_any _ _ _ _).mono ?_; rintro e w' ⟨rfl, rfl⟩))
      go_ret3
      exact RetL1i.no _ C1
  · have hF := pay_is h
    obtain ⟨h1, h2, h3⟩ := all_yes3 h
    have HA2a : Hid (k = 2 → sumTo (pyL f) n ≤ c → payL f n c k = tab (pyL f) n ∧ payV f n c k = c - sumTo (pyL f) n) := fun e h' => by subst e; exact pay_2a h h'
    have HA2b : Hid (k = 2 → ¬ sumTo (pyL f) n ≤ c → payL f n c k = tab (ptO c (pyL f) n) n ∧ payV f n c k = 0) := fun e h' => by subst e; exact pay_2b h h'
    have HA1 : Hid (¬ k = 2 → payL f n c k = tab (pyO f k c n n) n ∧ payV f n c k = pyC f k c n n) := fun e => pay_1 h e
    have HF := Lib.hid hF
    have n1 := hF.n1
    have n2 := hF.n2
    rw [h1] at HD
    have HCE : Hid (∀ i, i < n * 3 → ∀ w', Below w.heap.size w w' → w'.cell? ⟨g, i, none⟩ = some (.int .i64 (f i))) := fun i hi w' hb => by
      have e : i = i / 3 * 3 + i % 3 := by omega
      have hlt : i / 3 < n := by omega
      rcases Nat.eq_zero_or_pos (i % 3) with e0 | e0
      · have := (hI.below hb).c0 (i / 3) hlt (by decide)
        rw [e0, Nat.add_zero] at e
        rw [← e] at this
        exact this
      · have := (hI.below hb).cs (i / 3) (i % 3) hlt (by omega)
        rw [← e] at this
        exact this
    have HSM := Lib.hid (py_sum hF)
    clear h hF
    go_enter Try.func12, Try.ntmps12
    go_wp2_with (first | (go_at_call 23; refine HD.out.mono ?_; rintro e w1 ⟨rfl, C1⟩) | (go_at_call 18; refine (spec_l00In_any _ _ _ _).mono ?_; rintro e w' ⟨rfl, rfl⟩))
    clear h1 h2 h3
    go_loopw [33, 9, 10] (fun i vO a wr => ∃ j : Nat, j ≤ n ∧ i = .int .i64 j ∧ a = .int .i64 (sumTo (pyL f) j) ∧ Own 2 wr w1.heap.size vO (tab (pyL f) j) ∧ Below w1.heap.size w1 wr) (fun i _ _ _ => n - (intOf i).toNat)
    case atStart =>
      exact ⟨0, Nat.zero_le _, rfl, rfl, Own.made 2 w1 (B := w1.heap.size) (Nat.le_refl _), by go_grown⟩
    case round =>
      obtain ⟨j, hj, rfl, rfl, hvO, hbr⟩ := hrel
      have hs0 := HSM.out j hj
      by_cases hlt : j < n
      · have hbw := C1.trans (hbr.mono C1.size)
        have c2 := HCE.out (j * 3 + 2) (by omega) _ hbw
        have l4 : (j : Int) < n := by omega
        have HT1 := Lib.hid (tab_len8s (f := pyL f) (k := j) (by omega))
        have HLE : Hid (f (j * 3 + 2) = pyL f j) := rfl
        have HC2 : Hid (∀ w', Below w1.heap.size w1 w' → w'.cell? ⟨g, j * 3 + 2, none⟩ = some (.int .i64 (pyL f j))) := fun w' hb => HCE.out (j * 3 + 2) (by omega) _ (C1.trans (hb.mono C1.size))
        have hs1 := HSM.out (j + 1) (by omega)
        have HE : Hid (sumTo (pyL f) (j + 1) = sumTo (pyL f) j + pyL f j) := rfl
        rw [HE.out] at hs1
        rw [HLE.out] at c2
        go_wp2_with (first | (at_builtin; refine wpList_app3 _ rfl _ _ 22 rfl w1.heap.size 2 Try.infoI Try.underlying22 _ _ rfl hvO _ rfl (by have := HT1.out; omega) hbr.size ?_; intro v5 w5 hO5 b5 k5; have B5 := hbr.trans b5; have y5 := HC2.out _ B5))
        go_roundw
        case rel => exact ⟨j + 1, by omega, by go_num, by rw [HE.out], by rw [tab]; exact hO5, B5⟩
        case measure => simp [intOf]; omega
      · obtain rfl : j = n := by omega
        obtain ⟨gv, cv, rfl, v1, v2⟩ := hvO.formTs n1
        have hbw := C1.trans (hbr.mono C1.size)
        have hsz := hbr.size
        have hIO : Ints wr gv 0 j (pyL f) := fun i hi => by rw [Nat.zero_add]; exact hvO.cellTab i hi
        by_cases hk2 : k = 2
        · subst hk2
          by_cases hsc : sumTo (pyL f) j ≤ c
          · obtain ⟨z1, z2⟩ := HA2a.out rfl (by omega)
            have Z1 := Lib.hid z1
            have Z2 := Lib.hid z2
            have hc1 := HF.out.c1
            clear z1 z2 hIO
            obtain ⟨S, hS⟩ : ∃ S, sumTo (pyL f) j = S := ⟨_, rfl⟩
            rw [hS] at hsc hs0 Z2
            rw [hS]
            clear hS
            go_wp2_with fail
            go_ret3
            rw [Z1.out, Z2.out]
            exact ⟨_, rfl, hvO.mono C1.size, by rw [tab_length]; omega, hbw⟩
          · obtain ⟨z1, z2⟩ := HA2b.out rfl (by omega)
            have Z1 := Lib.hid z1
            have Z2 := Lib.hid z2
            have c0 := HF.out.c0
            have HP : Hid (∀ s, sumTo (pyL f) j = s → _) := fun s hs => split_any j gv cv c s (pyL f) wr n1 n2 c0 HF.out.c1 HF.out.cents (by omega) hs hIO
            have HP := Lib.hid (HP.out _ rfl)
            clear z1 z2 hIO
            obtain ⟨S, hS⟩ : ∃ S, sumTo (pyL f) j = S := ⟨_, rfl⟩
            rw [hS] at hsc hs0 HP
            rw [hS]
            clear hS
            go_wp2_with (first | (go_at_call 19; refine HP.out.mono ?_; rintro e w2 ⟨v, rfl, hv, hb2⟩))
            go_ret3
            rw [Z1.out, Z2.out]
            exact ⟨_, rfl, hv.mono hbw.size, by rw [tab_length]; omega, bnext hbw hb2⟩
        · obtain ⟨z1, z2⟩ := HA1.out (by first | exact hk2 | omega)
          have Z1 := Lib.hid z1
          have Z2 := Lib.hid z2
          have hkb : (k == 2) = false := by simp [hk2]
          have T0 : Hid (List.replicate j 0 = tab (pyO f k c j 0) j) := tab_rep j _ (fun _ => rfl)
          clear z1 z2 hIO hvO
          generalize hwz : wr = wz at *
          clear hwz
          go_wp2_with (first | (at_make; refine wpList_mk _ rfl _ _ 22 rfl wz.heap.size 2 Try.infoI Try.underlying22 _ _ _ _ j rfl rfl rfl rfl (by omega) (Nat.le_refl _) ?_; intro w9 hown9 hb9) | (at_make; refine wpList_mkB _ rfl _ _ 48 rfl 4 py_infoB Try.underlying48 _ _ _ _ j rfl rfl rfl rfl (by omega) ?_; intro w10 hu10 hb10))
          rw [T0.out] at hown9
          have hU0 : Bools w10 w9.heap.size j (pyU f k j 0) := ⟨hu10.1, fun i hi => by rw [hu10.2.1 i hi, show pyU f k j 0 i = false from decide_eq_false (by have := HF.out.r i hi; show ¬ pyR f k i < 0; omega)], hu10.2.2⟩
          have z9 : wz.heap.size < w9.heap.size := (hown9.lt _ rfl).2
          have B10 := bnext hb9 hb10
          clear hkb
          go_loopw [73, 1] (fun i cc wr => ∃ q : Nat, q ≤ j ∧ i = .int .i64 q ∧ cc = .int .i64 (pyC f k c j q) ∧ Own 2 wr wz.heap.size (.slice (some ⟨wz.heap.size, 0, none⟩) j j) (tab (pyO f k c j q) j) ∧ Bools wr w9.heap.size j (pyU f k j q) ∧ Below wz.heap.size wz wr) (fun i _ _ => j - (intOf i).toNat)
          case atStart => exact ⟨0, Nat.zero_le _, rfl, rfl, hown9.below hb10, hU0, B10⟩
          case round =>
            obtain ⟨q, hq, rfl, rfl, howq, hU, hbq⟩ := hrel
            have hbw8 := hbw.trans (hbq.mono hbw.size)
            by_cases hql : q < j
            · have HOW := Lib.hid howq
              have HU := Lib.hid hU
              have HBQ := Lib.hid hbq
              have HBW := Lib.hid hbw8
              have HR0 : Hid (∀ i, i < j → 0 ≤ pyR f k i) := HF.out.r
              have hqz := hbq.size
              clear howq hU hbq hbw8
              generalize hwA : wr = wA at *
              clear hwA
              go_wp2_with fail
              go_loopw [77, 14] (fun i a wr => ∃ x : Nat, x ≤ j ∧ i = .int .i64 x ∧ a = .int .i64 (sB (gR (pyR f k) j q) x) ∧ ∃ m, wr = wA.drewN m) (fun i _ _ => j - (intOf i).toNat)
              case atStart => exact ⟨0, Nat.zero_le _, rfl, rfl, 0, rfl⟩
              case round =>
                obtain ⟨x, hx, rfl, rfl, m, rfl⟩ := hrel
                by_cases hxl : x < j
                · have u1 := HU.out.2.1 x hxl
                  have l1 : (x : Int) < j := by omega
                  by_cases hR : gR (pyR f k) j q x < 0
                  · have HN := Lib.hid (py_t hR)
                    rw [show pyU f k j q x = true from decide_eq_true hR] at u1
                    clear hR
                    go_wp2_with fail
                    go_quiet (fail)
                    go_wp2
                    go_roundw
                    case rel => exact ⟨x + 1, by omega, by go_num, by rw [HN.out], _, rfl⟩
                    case measure => simp [intOf]; omega
                  · rw [show pyU f k j q x = false from decide_eq_false hR] at u1
                    have hR1 : 0 ≤ gR (pyR f k) j q x := by omega
                    rcases sB_is (gR (pyR f k) j q) x with ⟨hb, _⟩ | ⟨b, hb, _, _⟩
                    · have HN := Lib.hid (py_n hR1 (by omega))
                      rw [hb]
                      clear hR hR1 hb
                      go_wp2_with fail
                      go_quiet (fail)
                      go_wp2
                      go_roundw
                      case rel => exact ⟨x + 1, by omega, by go_num, by rw [HN.out], _, rfl⟩
                      case measure => simp [intOf]; omega
                    · obtain ⟨hbx, hb0⟩ := sB_lt hb
                      have HCM := Lib.hid (py_cmp (f := f) (k := k) hR1 hb0)
                      have hbe : Hid (sB (gR (pyR f k) j q) x = b) := hb
                      rw [hb]
                      have l2 : (b : Int) < j := by omega
                      have hC : Hid (∀ m', Calls Try.prog 24 #[.pointer (some ⟨g, x * 3, none⟩), .pointer (some ⟨g, b * 3, none⟩), .int .i64 k] (wA.drewN m') (fun e w' => e = .returned (.bool (decide (pdK f k x < pdK f k b))) ∧ ∃ p, w' = wA.drewN (m' + p))) := fun m' => by
                        have hbd := Go.Proofs.Ytcpjbnfmkhaadaa.Below.drewN' HBW.out m'
                        refine (before_any g k f x b _ (HCE.out _ (by omega) _ hbd) (HCE.out _ (by omega) _ hbd) (HCE.out _ (by omega) _ hbd) (HCE.out _ (by omega) _ hbd) (HF.out.day x hxl) (HF.out.day b (by omega))).mono ?_
                        rintro e w' ⟨he, p, hp⟩
                        exact ⟨he, p, by rw [hp]; simp⟩
                      clear hb
                      by_cases hlt3 : pdK f k x < pdK f k b
                      · have HN := Lib.hid (py_y hR1 hbe.out (HCM.out.2 hlt3))
                        rw [decide_eq_true hlt3] at hC
                        clear hR hR1 hlt3 hb0
                        go_wp2_with fail
                        go_quiet ((go_at_call 24; (with_reducible exact quietMore (hC.out _))))
                        go_wp2
                        go_roundw
                        case rel => exact ⟨x + 1, by omega, by go_num, by rw [HN.out], _, rfl⟩
                        case measure => simp [intOf]; omega
                      · have HN := Lib.hid (py_z (i := x) hbe.out (fun h => hlt3 (HCM.out.1 h)))
                        rw [decide_eq_false hlt3] at hC
                        clear hR hR1 hlt3 hb0
                        go_wp2_with fail
                        go_quiet ((go_at_call 24; (with_reducible exact quietMore (hC.out _))))
                        go_wp2
                        go_roundw
                        case rel => exact ⟨x + 1, by omega, by go_num, by rw [HN.out], _, rfl⟩
                        case measure => simp [intOf]; omega
                · obtain rfl : x = j := by omega
                  have hat : sB (gR (pyR f k) x q) x = pyA f k x q := sB_gB (gR_some HR0.out hql)
                  rw [hat]
                  have hbl : pyA f k x q < x := pyA_lt n1 q
                  have HN1 := Lib.hid (pyO_next (f := f) (k := k) (c := c) (n := x) q)
                  have HN2 : Hid (∀ i, i ≠ pyA f k x q → pyO f k c x q i = pyO f k c x (q + 1) i) := fun i hi => pyO_other q hi
                  have HN3 := Lib.hid (pyC_next (f := f) (k := k) (c := c) (n := x) q)
                  have HN4 := Lib.hid (pyU_next f k x q)
                  clear hat
                  obtain ⟨b, hb⟩ : ∃ b, pyA f k x q = b := ⟨_, rfl⟩
                  rw [hb] at hbl HN1 HN2 HN3 HN4
                  rw [hb]
                  have x3 := HCE.out (b * 3 + 2) (by omega) _ HBW.out
                  have HLE : Hid (f (b * 3 + 2) = pyL f b) := rfl
                  rw [HLE.out] at x3
                  have x4 := HOW.out.cellTab b hbl
                  have x5 := HOW.out.freeAt b
                  have x6 := HU.out.2.1 b hbl
                  have x7 := HU.out.2.2 b
                  have hc := HF.out.left q
                  have hx := HF.out.cents b hbl
                  obtain ⟨X, hX⟩ : ∃ X, pyL f b = X := ⟨_, rfl⟩
                  obtain ⟨C, hC⟩ : ∃ C, pyC f k c x q = C := ⟨_, rfl⟩
                  rw [hX] at x3 hx HN1 HN3
                  rw [hC] at hc HN1 HN3 ⊢
                  obtain ⟨M, hM⟩ : ∃ M, min C X = M := ⟨_, rfl⟩
                  rw [hM] at HN1 HN3
                  have hMb : 0 ≤ M ∧ M ≤ C := by omega
                  have HMI : Hid (∀ w', Calls Try.prog 25 #[.int .i64 X, .int .i64 C] w' (fun e w'' => e = .returned (.int .i64 M) ∧ w' = w'')) := fun w' => hM ▸ l00Min_anyY X C w'
                  have l1 : (q : Int) < x := by omega
                  have l2 : (b : Int) < x := by omega
                  have hne : wz.heap.size ≠ w9.heap.size := by omega
                  have hU4 : Bools ((wA.drewN m).setCell ⟨w9.heap.size, b, none⟩ (.bool true)) w9.heap.size x (pyU f k x (q + 1)) := (HU.out.below (Go.Proofs.Ytcpjbnfmkhaadaa.Below.drewN' (Below.refl _ _) m)).set b hbl true HN4.out.1 HN4.out.2
                  have hO3 := Own.keep (HOW.out.drewN m) ⟨w9.heap.size, b, none⟩ (fun e => hne e.symm) (.bool true)
                  have hO4 := Lib.hid (hO3.tabSet (pyO f k c x (q + 1)) b hbl M HN1.out (fun i _ hi => HN2.out i hi))
                  have hU5 : Hid (Bools (((wA.drewN m).setCell ⟨w9.heap.size, b, none⟩ (.bool true)).setCell ⟨wz.heap.size, b, none⟩ (.int .i64 M)) w9.heap.size x (pyU f k x (q + 1))) := hU4.block (by simp) (Below.heap_setCell _ _ _ _ (fun e => hne e.symm))
                  have hb5 : Hid (Below wz.heap.size wz (((wA.drewN m).setCell ⟨w9.heap.size, b, none⟩ (.bool true)).setCell ⟨wz.heap.size, b, none⟩ (.int .i64 M))) := ((Go.Proofs.Ytcpjbnfmkhaadaa.Below.drewN' HBQ.out m).setCell (show wz.heap.size ≤ w9.heap.size by omega) _).setCell (Nat.le_refl _) _
                  clear hb hX hC hM hU4 hO3
                  go_wp2_with (first | (go_at_call 25; refine (HMI.out _).mono ?_; rintro e w' ⟨rfl, rfl⟩))
                  go_roundw
                  case rel => exact ⟨q + 1, by omega, by go_num, by rw [HN3.out], hO4.out, hU5.out, hb5.out⟩
                  case measure => simp [intOf]; omega
            · obtain rfl : q = j := by omega
              go_wp2_with fail
              go_ret3
              rw [Z1.out, Z2.out]
              exact ⟨_, rfl, howq.mono hbw.size, by rw [tab_length]; omega, hbw8⟩

def PayDebts_r0 (X : Rec) (c k : Int) : List Int := payL X.f X.length c k
def PayDebts_r1 (X : Rec) (c k : Int) : Int := payV X.f X.length c k
def PayDebts_r2 (X : Rec) (c k : Int) : Bool := payOk X.f X.length c k
theorem PayDebts_impl {w : World} {B : Nat} {v : Value} {X : Rec} (hv : RowR 3 w B v X) (c k : Int) : Calls Try.prog 14 #[v, .int .i64 c, .int .i64 k] w (RetL1i 2 w (PayDebts_r0 X c k) (PayDebts_r1 X c k) (PayDebts_r2 X c k)) := by
  obtain ⟨g, rfl, _, _, hn, hI, _⟩ := hv
  exact pay_impl X.length g X.f c k w hn hI
theorem PayDebts_spec {w : World} {B : Nat} {v : Value} {X : Rec} (hv : RowR 3 w B v X) (c k : Int) : Calls Try.prog 12 #[v, .int .i64 c, .int .i64 k] w (RetL1i 2 w (PayDebts_r0 X c k) (PayDebts_r1 X c k) (PayDebts_r2 X c k)) := by
  obtain ⟨g, rfl, _, _, hn, hI, _⟩ := hv
  exact pay_spec X.length g X.f c k w hn hI
end Go.Proofs.Ytcpjbnfmkhaadaa
