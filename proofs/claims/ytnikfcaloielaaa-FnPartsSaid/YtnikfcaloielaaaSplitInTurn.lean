/-
  impl.SplitInTurn and spec.SplitInTurn answer alike: every list of fewer than 1000000000 integers, every number. No other condition.
-/
import Derived.Test.YtnikfcaloielaaaWeights
import Derived.Test.YtnikfcaloielaaaRounded
import Derived.Test.YtnikfcaloielaaaNearest
import Derived.Test.YtnikfcaloielaaaTab
namespace Go.Proofs.Ytnikfcaloielaaa
open Go.RowKit
set_option linter.unusedVariables false

/-- What is left in turn, and each part. -/
def sitC (f : Nat → Int) (n : Nat) (c : Int) : Nat → Int
  | 0 => c
  | k + 1 => sitC f n c k - (if 0 < sumTo f n - sumTo f k then rnd (sitC f n c k * f k) (sumTo f n - sumTo f k) 1 else 0)
def sitP (f : Nat → Int) (n : Nat) (c : Int) (k : Nat) : Int := if 0 < sumTo f n - sumTo f k then rnd (sitC f n c k * f k) (sumTo f n - sumTo f k) 1 else 0
def SplitInTurn_r1 (c : Int) (xs : List Int) : Bool := isSum c && wgtOk (fun i => xs.getD i 0) xs.length
def sitOk (c : Int) (f : Nat → Int) (n : Nat) : Bool := isSum c && wgtOk f n
def sitL (c : Int) (f : Nat → Int) (n : Nat) : List Int := bif sitOk c f n then tab (sitP f n c) n else []
def SplitInTurn_r0 (c : Int) (xs : List Int) : List Int := sitL c (fun i => xs.getD i 0) xs.length
theorem sit_no {c : Int} {f : Nat → Int} {n : Nat} (h : sitOk c f n = false) : sitL c f n = [] := by simp only [sitL, h, cond_false]
theorem sit_yes {c : Int} {f : Nat → Int} {n : Nat} (h : sitOk c f n = true) : sitL c f n = tab (sitP f n c) n := by simp only [sitL, h, cond_true]
theorem rnd_part {c f s : Int} (c0 : 0 ≤ c) (f0 : 0 ≤ f) (fs : f ≤ s) (s0 : 0 < s) : 0 ≤ rnd (c * f) s 1 ∧ rnd (c * f) s 1 ≤ c := by
  have p0 : 0 ≤ c * f := Int.mul_nonneg c0 f0
  have p1 : c * f ≤ c * s := Int.mul_le_mul_of_nonneg_left fs c0
  have b := rnd_bd (c * f) s 1 p0 (by omega)
  refine ⟨b.1, ?_⟩
  have q1 : c * f / s ≤ c := Int.ediv_le_of_le_mul s0 p1
  by_cases h : s ≤ 2 * (c * f % s)
  · rw [rnd_one_up h]
    have e := Int.mul_ediv_add_emod (c * f) s
    have : c * f / s ≠ c := by
      intro hq
      rw [hq, Int.mul_comm s c] at e
      omega
    omega
  · rw [rnd_one_no h]; exact q1
theorem sit_bd {f : Nat → Int} {n : Nat} {c : Int} (hw : wgtOk f n = true) (c0 : 0 ≤ c) : ∀ k, k ≤ n → 0 ≤ sitC f n c k ∧ sitC f n c k ≤ c := by
  obtain ⟨_, _, hf, _, hs⟩ := wgt_is hw
  intro k
  induction k with
  | zero => intro _; exact ⟨c0, Int.le_refl _⟩
  | succ k ih =>
    intro hk
    have h1 := ih (by omega)
    have h2 := hf k (by omega)
    have h3 := hs (k + 1) hk
    have e : sumTo f (k + 1) = sumTo f k + f k := rfl
    simp only [sitC]
    split
    · have := rnd_part h1.1 h2.1 (show f k ≤ sumTo f n - sumTo f k by omega) (by assumption)
      omega
    · omega
theorem suf_sum (f : Nat → Int) (k : Nat) : ∀ m, sumTo (fun i => f (k + i)) m = sumTo f (k + m) - sumTo f k := by
  intro m
  induction m with
  | zero => simp [sumTo]
  | succ m ih => rw [← Nat.add_assoc]; simp only [sumTo, ih]; omega

set_option maxHeartbeats 1600000 in
theorem sit_impl (c : Int) (n g cp : Nat) (f : Nat → Int) (w : World) (hn : n < 1000000000) (hcp : n ≤ cp) (hcm : cp ≤ maxLen) (hI : Ints w g 0 n f) :
    Calls Try.prog 11 #[.int .i64 c, .slice (some ⟨g, 0, none⟩) n cp] w (RetL1 2 w (sitL c f n) (sitOk c f n)) := by
  cases h : sitOk c f n
  · rw [sit_no h]
    rcases first_no2 h with h1 | ⟨h1, h2⟩
    all_goals
      clear h
      go_enter Try.func11, Try.ntmps11
      go_wp2_with (first | (go_at_call 36; refine (impl_isSum_any _ _).mono ?_; rintro e w' ⟨rfl, rfl⟩) | (go_at_call 37; refine (weights_impl n g cp f _ hn hI).mono ?_; rintro e w1 ⟨rfl, hb⟩))
      go_ret2
      exact RetL1.no _ (by first | assumption | exact Below.refl _ _)
  · rw [sit_yes h]
    obtain ⟨h1, h2⟩ := all_yes2 h
    obtain ⟨c0, c1⟩ := win_iff.1 h1
    obtain ⟨n1, n24, hf, ⟨s0, s1⟩, hs⟩ := wgt_is h2
    have HF := Lib.hid hf
    have HS := Lib.hid hs
    have HB := Lib.hid (sit_bd h2 c0)
    have HTOT : Hid (∀ (w' : World) (k : Nat), k < n → Ints w' g 0 n f → Calls Try.prog 38 #[.slice (some ⟨g, k, none⟩) (n - k) (cp - k)] w' fun e w'' => e = .returned (.int .i64 (sumTo f n - sumTo f k)) ∧ w' = w'') := fun w' k hk i => by
      have := total_any (n - k) g k (cp - k) (fun i => f (k + i)) w' (by omega) (fun j hj => by have := i (k + j) (by omega); rwa [Nat.zero_add] at this) (fun j hj => by
        rw [suf_sum]
        have x := hs k (by omega)
        have y := hs (k + j) (by omega)
        omega)
      rw [suf_sum, show k + (n - k) = n by omega] at this
      exact this
    unfold maxLen at hcm
    clear h hf hs
    go_enter Try.func11, Try.ntmps11
    go_wp2_with (first | (go_at_call 36; refine (impl_isSum_any _ _).mono ?_; rintro e w' ⟨rfl, rfl⟩) | (go_at_call 37; refine (weights_impl n g cp f _ hn hI).mono ?_; rintro e w1 ⟨rfl, hb⟩))
    clear h1 h2
    go_loopw [22, 0, 6] (fun i t v wr => ∃ k : Nat, k ≤ n ∧ i = .int .i64 k ∧ t = .int .i64 (sitC f n c k) ∧ Own 2 wr w.heap.size v (tab (sitP f n c) k) ∧ Below w.heap.size w wr) (fun i _ _ _ => n - (intOf i).toNat)
    case atStart => exact ⟨0, Nat.zero_le _, rfl, rfl, Own.made _ _ hb.size, hb.alloc hb.size _⟩
    case round =>
      obtain ⟨k, hk, rfl, rfl, hown, hbr⟩ := hrel
      by_cases hlt : k < n
      · have d1 := Below.cellOf hbr rfl (hI.at0 k hlt)
        have hJ := hI.below hbr
        have HC := Lib.hid (HTOT.out wr k hlt hJ)
        have b0 := HB.out k hk
        have b1 := HB.out (k + 1) (by omega)
        have f0 := HF.out k hlt
        have t0 := HS.out k hk
        have t1 := HS.out (k + 1) (by omega)
        have hE : sumTo f (k + 1) = sumTo f k + f k := rfl
        rw [hE] at t1
        have hN : sitC f n c (k + 1) = sitC f n c k - sitP f n c k := rfl
        rw [hN] at b1
        have HN := Lib.hid hN
        have HT := Lib.hid (tab_length (sitP f n c) k)
        have l1 : (k : Int) < n := by omega
        have l2 : (k : Int) ≤ n := by omega
        have l3 : k ≤ cp := by omega
        have l4 : k < cp := by omega
        have l5 : ¬ cp = k := by omega
        have l6 : ¬ cp - k = 0 := by omega
        have p0 : 0 ≤ sitC f n c k * f k := Int.mul_nonneg b0.1 f0.1
        have p1 : sitC f n c k * f k ≤ 1000000000 * 1000000000 := Int.mul_le_mul (by omega) f0.2 f0.1 (by omega)
        clear hE hN
        by_cases hz : 0 < sumTo f n - sumTo f k
        · have hP : sitP f n c k = nrst (sitC f n c k * f k) (sumTo f n - sumTo f k) := by unfold sitP nrst; rw [if_pos hz, if_neg (by omega)]
          rw [hP] at b1
          have HP := Lib.hid hP
          clear hP
          go_wp2_with fail
          refine HC.out.mono ?_
          rintro e w2 ⟨rfl, rfl⟩
          go_wp2_with (first | (go_at_call 39; refine (impl_nearest _ _ _ (by omega) (by omega) (by omega) (by omega)).mono ?_; rintro e w3 ⟨rfl, m, hw3⟩; have hb3 : Below wr.heap.size wr w3 := (by rw [hw3]; exact Below.drewN' (Below.refl _ _) m); clear hw3; have hown3 := hown.below hb3) | (at_builtin; refine wpList_app1 _ rfl _ _ 22 rfl (w.heap.size) 2 Try.infoI Try.underlying22 _ _ rfl hown3 _ rfl (by have := HT.out; omega) (Nat.le_trans hbr.size hb3.size) ?_; intro v' w5 hown5 hb5))
          go_roundw
          case rel => exact ⟨k + 1, by omega, by go_num, by rw [HN.out, HP.out], by rw [tab, HP.out]; exact hown5, (hbr.trans (hb3.mono hbr.size)).trans hb5⟩
          case measure => simp [intOf]; omega
        · have hP : sitP f n c k = 0 := if_neg hz
          rw [hP] at b1
          have HP := Lib.hid hP
          clear hP
          go_wp2_with fail
          refine HC.out.mono ?_
          rintro e w2 ⟨rfl, rfl⟩
          go_wp2_with (first | (at_builtin; refine wpList_app1 _ rfl _ _ 22 rfl (w.heap.size) 2 Try.infoI Try.underlying22 _ _ rfl hown _ rfl (by have := HT.out; omega) (hbr.size) ?_; intro v' w5 hown5 hb5))
          go_roundw
          case rel => exact ⟨k + 1, by omega, by go_num, by rw [HN.out, HP.out, Int.sub_zero], by rw [tab, HP.out]; exact hown5, hbr.trans hb5⟩
          case measure => simp [intOf]; omega
      · obtain rfl : k = n := by omega
        go_wp2
        go_ret2
        exact ⟨_, rfl, hown, by rw [tab_length]; omega, hbr⟩

set_option maxHeartbeats 1600000 in
theorem sit_spec (c : Int) (n g cp : Nat) (f : Nat → Int) (w : World) (hn : n < 1000000000) (hI : Ints w g 0 n f) :
    Calls Try.prog 9 #[.int .i64 c, .slice (some ⟨g, 0, none⟩) n cp] w (RetL1 2 w (sitL c f n) (sitOk c f n)) := by
  cases h : sitOk c f n
  · rw [sit_no h]
    cases h2 : wgtOk f n
    · have HW : Hid (Calls Try.prog 33 #[.slice (some ⟨g, 0, none⟩) n cp] w fun e w' => ∃ s : Int, e = .returned (.tuple #[.int .i64 s, .bool (wgtOk f n)]) ∧ w = w') := (weights_spec n g cp f w hn hI).mono (fun e w' ⟨s, he, _, hw⟩ => ⟨s, he, hw⟩)
      rw [h2] at HW
      clear h
      go_enter Try.func9, Try.ntmps9
      go_wp2_with fail
      refine HW.out.mono ?_
      rintro e w' ⟨s, rfl, rfl⟩
      go_wp2_with (first | (go_at_call 34; refine (spec_l00In_any _ _ _ _).mono ?_; rintro e w' ⟨rfl, rfl⟩))
      go_ret2
      exact RetL1.no _ (Below.refl _ _)
    · have h1 : win c 0 1000000000 = false := by rcases first_no2 h with h1 | ⟨_, h3⟩; exact h1; rw [h2] at h3; cases h3
      have HW : Hid (Calls Try.prog 33 #[.slice (some ⟨g, 0, none⟩) n cp] w fun e w' => ∃ s : Int, e = .returned (.tuple #[.int .i64 s, .bool (wgtOk f n)]) ∧ w = w') := (weights_spec n g cp f w hn hI).mono (fun e w' ⟨s, he, _, hw⟩ => ⟨s, he, hw⟩)
      rw [h2] at HW
      clear h
      go_enter Try.func9, Try.ntmps9
      go_wp2_with fail
      refine HW.out.mono ?_
      rintro e w' ⟨s, rfl, rfl⟩
      go_wp2_with (first | (go_at_call 34; refine (spec_l00In_any _ _ _ _).mono ?_; rintro e w' ⟨rfl, rfl⟩))
      go_ret2
      exact RetL1.no _ (Below.refl _ _)
  · rw [sit_yes h]
    obtain ⟨h1, h2⟩ := all_yes2 h
    obtain ⟨c0, c1⟩ := win_iff.1 h1
    obtain ⟨n1, n24, hf, ⟨s0, s1⟩, hs⟩ := wgt_is h2
    have HF := Lib.hid hf
    have HS := Lib.hid hs
    have HB := Lib.hid (sit_bd h2 c0)
    have HW : Hid (Calls Try.prog 33 #[.slice (some ⟨g, 0, none⟩) n cp] w fun e w' => e = .returned (.tuple #[.int .i64 (sumTo f n), .bool true]) ∧ w = w') := (weights_spec n g cp f w hn hI).mono (by
      rintro e w' ⟨s, he, hs, hw⟩
      rw [hs h2, h2] at he
      exact ⟨he, hw⟩)
    clear h hf hs h2
    go_enter Try.func9, Try.ntmps9
    go_wp2_with fail
    refine HW.out.mono ?_
    rintro e w' ⟨rfl, rfl⟩
    go_wp2_with (first | (go_at_call 34; refine (spec_l00In_any _ _ _ _).mono ?_; rintro e w' ⟨rfl, rfl⟩))
    clear h1
    go_loopw [26, 6, 0, 8] (fun i a t v wr => ∃ k : Nat, k ≤ n ∧ i = .int .i64 k ∧ a = .int .i64 (sumTo f n - sumTo f k) ∧ t = .int .i64 (sitC f n c k) ∧ Own 2 wr w.heap.size v (tab (sitP f n c) k) ∧ Below w.heap.size w wr) (fun i _ _ _ _ => n - (intOf i).toNat)
    case atStart => exact ⟨0, Nat.zero_le _, rfl, by simp [sumTo], rfl, Own.made _ _ (Nat.le_refl _), (Below.refl _ _).alloc (Nat.le_refl _) _⟩
    case round =>
      obtain ⟨k, hk, rfl, rfl, rfl, hown, hbr⟩ := hrel
      by_cases hlt : k < n
      · have d1 := Below.cellOf hbr rfl (hI.at0 k hlt)
        have glt := World.block_lt_of_cell? w _ (hI.at0 k hlt)
        have b0 := HB.out k hk
        have b1 := HB.out (k + 1) (by omega)
        have f0 := HF.out k hlt
        have t0 := HS.out k hk
        have t1 := HS.out (k + 1) (by omega)
        have hE : sumTo f (k + 1) = sumTo f k + f k := rfl
        rw [hE] at t1
        have HE := Lib.hid hE
        have hN : sitC f n c (k + 1) = sitC f n c k - sitP f n c k := rfl
        rw [hN] at b1
        have HN := Lib.hid hN
        have HT := Lib.hid (tab_length (sitP f n c) k)
        clear hE hN
        by_cases hz : 0 < sumTo f n - sumTo f k
        · have hP : sitP f n c k = rnd (sitC f n c k * f k) (sumTo f n - sumTo f k) 1 := if_pos hz
          rw [hP] at b1
          have HP := Lib.hid hP
          have p1 : sitC f n c k * f k ≤ 1000000000 * 1000000000 := Int.mul_le_mul (by omega) f0.2 f0.1 (by omega)
          have q1 : sitC f n c k * f k / (sumTo f n - sumTo f k) ≤ 1000000000000000000 := Int.ediv_le_of_le_mul hz (by omega)
          clear hP
          go_wp2_with (first | (go_at_call 35; refine (rounded_any _ _ _ _ b0.1 (by omega) f0.1 (by omega) (by omega) (by omega) q1).mono ?_; rintro e w3 ⟨rfl, rfl⟩) | (at_builtin; refine wpList_app1 _ rfl _ _ 22 rfl w.heap.size 2 Try.infoI Try.underlying22 _ _ rfl hown _ rfl (by have := HT.out; omega) hbr.size ?_; intro v' w5 hown5 hb5; have d5 := (hb5.cell (p := ⟨g, k, none⟩) glt).trans d1))
          go_roundw
          case rel => exact ⟨k + 1, by omega, by go_num, by rw [HE.out]; go_num, by rw [HN.out, HP.out], by rw [tab, HP.out]; exact hown5, hbr.trans hb5⟩
          case measure => simp [intOf]; omega
        · have hP : sitP f n c k = 0 := if_neg hz
          rw [hP] at b1
          have HP := Lib.hid hP
          clear hP
          go_wp2_with (first | (at_builtin; refine wpList_app1 _ rfl _ _ 22 rfl w.heap.size 2 Try.infoI Try.underlying22 _ _ rfl hown _ rfl (by have := HT.out; omega) hbr.size ?_; intro v' w5 hown5 hb5; have d5 := (hb5.cell (p := ⟨g, k, none⟩) glt).trans d1))
          go_roundw
          case rel => exact ⟨k + 1, by omega, by go_num, by rw [HE.out]; go_num, by rw [HN.out, HP.out, Int.sub_zero], by rw [tab, HP.out]; exact hown5, hbr.trans hb5⟩
          case measure => simp [intOf]; omega
      · obtain rfl : k = n := by omega
        go_wp2
        go_ret2
        exact ⟨_, rfl, hown, by rw [tab_length]; omega, hbr⟩

theorem SplitInTurn_impl {w : World} {B : Nat} {v : Value} {xs : List Int} (c : Int) (h : RowI 2 w B v xs) : Calls Try.prog 11 #[.int .i64 c, v] w (RetL1 2 w (SplitInTurn_r0 c xs) (SplitInTurn_r1 c xs)) := by
  obtain ⟨g, cp, rfl, _, _, h1, h2, I1, _, m1⟩ := h.form
  exact sit_impl c xs.length g cp _ w m1 h1 h2 I1
theorem SplitInTurn_spec {w : World} {B : Nat} {v : Value} {xs : List Int} (c : Int) (h : RowI 2 w B v xs) : Calls Try.prog 9 #[.int .i64 c, v] w (RetL1 2 w (SplitInTurn_r0 c xs) (SplitInTurn_r1 c xs)) := by
  obtain ⟨g, cp, rfl, _, _, h1, h2, I1, _, m1⟩ := h.form
  exact sit_spec c xs.length g cp _ w m1 I1
end Go.Proofs.Ytnikfcaloielaaa
