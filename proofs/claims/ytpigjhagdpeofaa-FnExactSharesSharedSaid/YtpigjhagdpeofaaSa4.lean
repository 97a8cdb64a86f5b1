/-
  impl.areWithin and impl.hasCount answer whether all integers of a row lie in a range, and whether their count does. Condition: fewer than 1000000000 integers.
  impl.arePlaces and spec.l04Weights tell whether a list has weights of places. Condition: fewer than 1000000000 integers.
  The literal that impl.SharesShared hands over: the first part of a number by weights. Conditions: weights of places, a number of 0 to 1000000000.
  impl.SharesShared over the second program: what it returns, or what it tells. No condition but the oracle.
  The first of the greatest numbers: plain. No program in sight. No condition.
  spec.l04Shares gives the parts by the greatest rests. Conditions: 1 to 12 weights of at least 0, their sum above 0, a number of 0 to 1000000000.
  spec.SharesShared over the second program. No condition.
  toInt64S gives a copy in new memory. Condition: at most 1048576 integers.
  The laws' helpers on slices of integers, by contracts: eqInt64S of two slices that hold the same integers is true; markInt64S writes k, k + 1, ..; heldInt64S of what was so marked is k + its length. Condition: fewer than 1000000000 integers.
  How the slices of integers among a call's arguments are opened: each reads as a list of integers. No program in sight. No condition.
  The lone law's memory at the start: the arguments' cells, the letter box and the oracle. No condition.
-/
import Derived.Test.YtpigjhagdpeofaaSm5
import Derived.Test.YtpigjhagdpeofaaSa2
import Derived.Test.YtpigjhagdpeofaaSa1
import Derived.Test.YtpigjhagdpeofaaSa3
import Derived.Test.YtpigjhagdpeofaaSm12
import Derived.Deep.QuietTactic
import Derived.BigQuiet
import Derived.Test.YtpigjhagdpeofaaProg
import Derived.Test.YtpigjhagdpeofaaSm4
import Derived.OpenShut
import Derived.Below
import Derived.Carry
import Derived.Lib.SmallJoins

namespace Go.Proofs.Ytpigjhagdpeofaa
open Go.RowKit
set_option linter.unusedVariables false

theorem areOut_any (n l h : Int) (B1 B2 : Nat) (w : World) (c1 : w.cell? ⟨B1, 0, none⟩ = some (.int .i64 l)) (c2 : w.cell? ⟨B2, 0, none⟩ = some (.int .i64 h)) :
    Calls Sq.prog 71 #[.int .i64 n, .pointer (some ⟨B1, 0, none⟩), .pointer (some ⟨B2, 0, none⟩)] w fun e w' => e = .returned (.bool (!win n l h)) ∧ w = w' := by
  go_enter Sq.func71, Sq.ntmps71
  go_wp2_with (first | (go_at_call 52; refine (impl_within_any _ _ _ _).mono ?_; rintro e w' ⟨rfl, rfl⟩))
  go_ret
  exact ⟨rfl, rfl⟩

/-- An index, or -1. -/
def IdxOut (b : Bool) (w : World) (e : Ending) (w' : World) : Prop := ∃ r : Int, e = .returned (.int .i64 r) ∧ decide (0 ≤ r) = !b ∧ w = w'

set_option maxHeartbeats 800000 in
theorem indexOut_any (n g off c B1 B2 : Nat) (f : Nat → Int) (l h : Int) (w : World) (hn : n < 1000000000) (hI : Ints w g off n f) (c1 : w.cell? ⟨B1, 0, none⟩ = some (.int .i64 l)) (c2 : w.cell? ⟨B2, 0, none⟩ = some (.int .i64 h)) :
    Calls Sq.prog 77 #[.slice (some ⟨g, off, none⟩) n c, .func (.func 71) #[] #[.pointer (some ⟨B1, 0, none⟩), .pointer (some ⟨B2, 0, none⟩)]] w (IdxOut (allW f l h n) w) := by
  go_enter Sq.func77, Sq.ntmps77
  go_wp2
  go_loop [8] (fun i => ∃ k : Nat, k ≤ n ∧ i = .int .i64 k ∧ Hid (allW f l h k = true)) (fun i => n - (intOf i).toNat)
  case atStart => exact ⟨0, Nat.zero_le _, rfl, rfl⟩
  case round =>
    obtain ⟨k, hk, rfl, ha⟩ := hrel
    by_cases hlt : k < n
    · have hc := hI.at k hlt
      cases hw : win (f k) l h
      · have HF := Lib.hid (allW_false k hlt hw)
        go_wp2_with (go_at_call 71; refine (areOut_any _ l h B1 B2 _ c1 c2).mono ?_; rintro e w' ⟨rfl, rfl⟩)
        go_ret
        exact ⟨k, rfl, by rw [HF.out]; simp, rfl⟩
      · have HF := Lib.hid (allW_succ ha.out hw)
        go_wp2_with (go_at_call 71; refine (areOut_any _ l h B1 B2 _ c1 c2).mono ?_; rintro e w' ⟨rfl, rfl⟩)
        go_round
        case rel => exact ⟨k + 1, by omega, by go_num, HF⟩
        case measure => simp [intOf]; omega
    · obtain rfl : k = n := by omega
      go_wp2
      go_ret
      exact ⟨-1, rfl, by rw [ha.out]; rfl, rfl⟩

theorem containsOut_any (n g off c B1 B2 : Nat) (f : Nat → Int) (l h : Int) (w : World) (hn : n < 1000000000) (hI : Ints w g off n f) (c1 : w.cell? ⟨B1, 0, none⟩ = some (.int .i64 l)) (c2 : w.cell? ⟨B2, 0, none⟩ = some (.int .i64 h)) :
    Calls Sq.prog 70 #[.slice (some ⟨g, off, none⟩) n c, .func (.func 71) #[] #[.pointer (some ⟨B1, 0, none⟩), .pointer (some ⟨B2, 0, none⟩)]] w fun e w' => e = .returned (.bool (!allW f l h n)) ∧ w = w' := by
  go_enter Sq.func70, Sq.ntmps70
  go_wp2_with (go_at_call 77; refine (indexOut_any n g off c B1 B2 f l h _ hn hI c1 c2).mono ?_; rintro e w' ⟨r, rfl, hr, rfl⟩)
  go_ret
  first
    | exact ⟨rfl, rfl⟩
    | exact ⟨ret_bool hr, rfl⟩

theorem areWithin_any (n g off c : Nat) (f : Nat → Int) (l h : Int) (w : World) (hn : n < 1000000000) (hI : Ints w g off n f) :
    Calls Sq.prog 53 #[.slice (some ⟨g, off, none⟩) n c, .int .i64 l, .int .i64 h] w (RetV w (.bool (allW f l h n))) := by
  have hb : Below w.heap.size w ((w.alloc (.cells #[.int .i64 l] 2)).alloc (.cells #[.int .i64 h] 2)) := by go_grown
  have hI2 := hI.below hb
  have k1 : ((w.alloc (.cells #[.int .i64 l] 2)).alloc (.cells #[.int .i64 h] 2)).cell? ⟨w.heap.size, 0, none⟩ = some (.int .i64 l) := by simp [go_sem]
  have k2 : ((w.alloc (.cells #[.int .i64 l] 2)).alloc (.cells #[.int .i64 h] 2)).cell? ⟨w.heap.size + 1, 0, none⟩ = some (.int .i64 h) := by simp [go_sem]
  go_enter Sq.func53, Sq.ntmps53
  go_wp2_with (go_at_call 70; refine (containsOut_any n g off c _ _ f l h _ hn hI2 k1 k2).mono ?_; rintro e w' ⟨rfl, rfl⟩)
  go_ret
  exact ⟨ret_bool (by simp), hb⟩

theorem hasCount_any (n g off c : Nat) (f : Nat → Int) (a b : Int) (l h : Int) (w : World) (hn : n < 1000000000) (hI : Ints w g off n f) :
    Calls Sq.prog 31 #[.slice (some ⟨g, off, none⟩) n c, .int .i64 a, .int .i64 b, .int .i64 l, .int .i64 h] w (RetV w (.bool (cntB f n a b l h))) := by
  by_cases h1 : a ≤ (n : Int)
  · by_cases h2 : (n : Int) ≤ b
    · go_enter Sq.func31, Sq.ntmps31
      go_wp2_with (go_at_call 53; refine (areWithin_any n g off c f l h _ hn hI).mono ?_; rintro e w' ⟨rfl, hb⟩)
      go_ret
      exact ⟨ret_bool (by simp [cntB, win, h1, h2]), hb⟩
    · go_enter Sq.func31, Sq.ntmps31
      go_wp2_with fail
      go_ret
      exact ⟨ret_bool (by first | (rw [cnt_no (by rw [win_not]; omega)]; done) | (rw [cnt_no (by rw [win_not]; omega)]; simp; done) | (rw [cnt_no (by rw [win_not]; omega)]; simp; omega)), Below.refl _ _⟩
  · go_enter Sq.func31, Sq.ntmps31
    go_wp2_with fail
    go_ret
    exact ⟨ret_bool (by first | (rw [cnt_no (by rw [win_not]; omega)]; done) | (rw [cnt_no (by rw [win_not]; omega)]; simp; done) | (rw [cnt_no (by rw [win_not]; omega)]; simp; omega)), Below.refl _ _⟩
end Go.Proofs.Ytpigjhagdpeofaa

namespace Go.Proofs.Ytpigjhagdpeofaa
open Go.RowKit
set_option linter.unusedVariables false

def plcOk (f : Nat → Int) (n : Nat) : Bool := cntB f n 1 12 0 1000000000 && decide (0 < sumTo f n)
theorem plc_no1 {f : Nat → Int} {n : Nat} (h : cntB f n 1 12 0 1000000000 = false) : plcOk f n = false := by simp only [plcOk, h, Bool.false_and]
theorem plc_out {f : Nat → Int} {n : Nat} (h : cntB f n 1 12 0 1000000000 = true) : plcOk f n = decide (0 < sumTo f n) := by simp only [plcOk, h, Bool.true_and]
theorem plc_mono {f : Nat → Int} {n : Nat} (h : ∀ i, i < n → 0 ≤ f i) : ∀ m k, k + m ≤ n → sumTo f k ≤ sumTo f (k + m) := by
  intro m
  induction m with
  | zero => intro k _; exact Int.le_refl _
  | succ m ih =>
    intro k hk
    have := ih k (by omega)
    have := h (k + m) (by omega)
    show sumTo f k ≤ sumTo f (k + m) + f (k + m)
    omega
theorem plc_is {f : Nat → Int} {n : Nat} (h : plcOk f n = true) : 1 ≤ n ∧ n ≤ 12 ∧ (∀ i, i < n → 0 ≤ f i ∧ f i ≤ 1000000000) ∧ (0 < sumTo f n ∧ sumTo f n ≤ 12000000000) ∧ ∀ k, k ≤ n → 0 ≤ sumTo f k ∧ sumTo f k ≤ sumTo f n := by
  obtain ⟨h1, h2⟩ := all_yes2 h
  obtain ⟨⟨a, b⟩, c⟩ := cntB_iff.1 h1
  have s : 0 < sumTo f n := of_decide_eq_true h2
  have t := (sumTo_bd c (Int.le_refl _) (by omega) n (Nat.le_refl _)).2
  refine ⟨by omega, by omega, c, ⟨s, by omega⟩, fun k hk => ⟨sumTo_nonneg (fun i hi => (c i hi).1) k hk, ?_⟩⟩
  have := plc_mono (fun i hi => (c i hi).1) (n - k) k (by omega)
  rwa [show k + (n - k) = n by omega] at this

set_option maxHeartbeats 800000 in
theorem places_impl (n g c : Nat) (f : Nat → Int) (w : World) (hn : n < 1000000000) (hI : Ints w g 0 n f) :
    Calls Sq.prog 46 #[.slice (some ⟨g, 0, none⟩) n c] w (RetV w (.bool (plcOk f n))) := by
  cases h1 : cntB f n 1 12 0 1000000000
  · rw [plc_no1 h1]
    go_enter Sq.func46, Sq.ntmps46
    go_wp2_with (first | (go_at_call 31; refine (hasCount_any n g 0 c f _ _ _ _ _ hn hI).mono ?_; rintro e w1 ⟨rfl, hb⟩))
    go_ret
    exact ⟨rfl, hb⟩
  · rw [plc_out h1]
    obtain ⟨⟨n1, n2⟩, hf⟩ := cntB_iff.1 h1
    have HS : Hid (∀ k, k ≤ n → -9000000000000000000 ≤ sumTo f k ∧ sumTo f k ≤ 9000000000000000000) := fun k hk => by
      have := sumTo_bd hf (Int.le_refl _) (by omega) k hk
      have := sumTo_nonneg (fun i hi => (hf i hi).1) k hk
      omega
    clear hf
    go_enter Sq.func46, Sq.ntmps46
    go_wp2_with (first | (go_at_call 31; refine (hasCount_any n g 0 c f _ _ _ _ _ hn hI).mono ?_; rintro e w1 ⟨rfl, hb⟩) | (go_at_call 65; refine (total_any n g 0 c f _ hn (hI.below hb) HS).mono ?_; rintro e w2 ⟨rfl, rfl⟩))
    go_ret
    exact ⟨rfl, hb⟩

/-- A sum, if it is one of weights, and whether it is. -/
def PlcOf (f : Nat → Int) (n : Nat) (w : World) (e : Ending) (w' : World) : Prop := ∃ s : Int, e = .returned (.tuple #[.int .i64 s, .bool (plcOk f n)]) ∧ (plcOk f n = true → s = sumTo f n) ∧ w = w'
set_option maxHeartbeats 800000 in
theorem places_spec (n g c : Nat) (f : Nat → Int) (w : World) (hn : n < 1000000000) (hI : Ints w g 0 n f) :
    Calls Sq.prog 44 #[.slice (some ⟨g, 0, none⟩) n c] w (PlcOf f n w) := by
  by_cases n2 : ¬ (n : Int) ≤ 12
  · have HF : Hid (plcOk f n = false) := plc_no1 (cnt_no (win_not.2 (by omega)))
    generalize hP : plcOk f n = P at *
    have HP := Lib.hid hP
    clear hP
    go_enter Sq.func44, Sq.ntmps44
    go_wp2
    go_rounds 1
    go_wp2
    go_ret2
    exact ⟨0, ret_ib2 rfl (by rw [HP.out, HF.out]), (fun h => by rw [HP.out, HF.out] at h; cases h), rfl⟩
  have n2 := Classical.not_not.1 n2
  have HN : Hid (∀ i, i < n → win (f i) 0 1000000000 = false → plcOk f n = false) := fun i hi h => plc_no1 (cnt_no2 (allW_false i hi h))
  have HY : Hid (allW f 0 1000000000 n = true → plcOk f n = decide (0 < sumTo f n)) := fun h => by
    by_cases h0 : n = 0
    · subst h0; rfl
    · have h1 : (1 : Int) ≤ n := by omega
      simp only [plcOk, cntB, h, Bool.and_true, win, decide_eq_true h1, decide_eq_true n2, Bool.true_and]
  have HS : Hid (∀ k, k ≤ n → allW f 0 1000000000 k = true → 0 ≤ sumTo f k ∧ sumTo f k ≤ 12000000000) := fun k hk h => by
    have hf := allW_iff.1 h
    have := (sumTo_bd hf (Int.le_refl _) (by omega) k (Nat.le_refl _)).2
    have := sumTo_nonneg (fun i hi => (hf i hi).1) k (Nat.le_refl _)
    omega
  generalize hP : plcOk f n = P at *
  have HP := Lib.hid hP
  clear hP
  go_enter Sq.func44, Sq.ntmps44
  go_wp2
  go_loop [5, 4] (fun i s => ∃ k : Nat, k ≤ n ∧ i = .int .i64 k ∧ s = .int .i64 (sumTo f k) ∧ Hid (allW f 0 1000000000 k = true)) (fun i _ => n - (intOf i).toNat)
  case atStart => exact ⟨0, Nat.zero_le _, rfl, rfl, rfl⟩
  case round =>
    obtain ⟨k, hk, rfl, rfl, ha⟩ := hrel
    have s1 := HS.out k hk ha.out
    by_cases hlt : k < n
    · have hc := hI.at0 k hlt
      cases hx : win (f k) 0 1000000000
      · have HF := Lib.hid (HN.out k hlt hx)
        go_wp2_with (first | (go_at_call 25; refine (spec_l00In_any _ _ _ _).mono ?_; rintro e w' ⟨rfl, rfl⟩))
        go_ret2
        exact ⟨0, ret_ib2 rfl (by rw [HP.out, HF.out]), (fun h => by rw [HP.out, HF.out] at h; cases h), rfl⟩
      · have f1 := win_iff.1 hx
        have HE : Hid (sumTo f (k + 1) = sumTo f k + f k) := rfl
        have HA := Lib.hid (allW_succ ha.out hx)
        go_wp2_with (first | (go_at_call 25; refine (spec_l00In_any _ _ _ _).mono ?_; rintro e w' ⟨rfl, rfl⟩))
        go_round
        case rel => exact ⟨k + 1, by omega, by go_num, by rw [HE.out], HA⟩
        case measure => simp [intOf]; omega
    · obtain rfl : k = n := by omega
      have HF := Lib.hid (HY.out ha.out)
      go_wp2
      go_ret2
      exact ⟨sumTo f k, ret_ib2 rfl (by rw [HP.out, HF.out]), (fun _ => rfl), rfl⟩
end Go.Proofs.Ytpigjhagdpeofaa

namespace Go.Proofs.Ytpigjhagdpeofaa
open Go.RowKit
set_option linter.unusedVariables false
set_option maxHeartbeats 1600000 in
set_option maxRecDepth 100000 in
theorem lit47_impl (n c g p : Nat) (f : Nat → Int) (d : Int) (w : World) (hp : w.cell? ⟨p, 0, none⟩ = some (.slice (some ⟨g, 0, none⟩) n c)) (hI : Ints w g 0 n f) (h : plcOk f n = true) (d0 : 0 ≤ d) (d1 : d ≤ 1000000000) :
    Calls Sq.prog 47 #[.int .i64 d, .pointer (some ⟨p, 0, none⟩)] w fun e w' => e = .returned (.int .i64 (ptO d f n 0)) ∧ Below w.heap.size w w' := by
  obtain ⟨n1, n12, hf, ⟨s0, s1⟩, _⟩ := plc_is h
  have HP : Hid (∀ w', Ints w' g 0 n f → _) := fun w' i => parted_any n g c d f w' n1 (by omega) d0 (by omega) hf s0 i (fun i hi => divC_small (Int.mul_nonneg d0 (hf i hi).1) (by have : d * f i ≤ 1000000000 * 1000000000 := Int.mul_le_mul d1 (hf i hi).2 (hf i hi).1 (by omega); omega) s0 (by omega))
  clear h hf
  go_enter Sq.func47, Sq.ntmps47
  go_wp2_with fail
  refine (HP.out _ hI).mono ?_
  rintro e w2 ⟨v, rfl, hv, hb⟩
  obtain ⟨a, cap, rfl, hs⟩ := hv.shape
  obtain ⟨g2, rfl, _⟩ := hs (by intro e; have := congrArg List.length e; rw [tab_length] at this; simp at this; omega)
  have HT := Lib.hid (tab_length (ptO d f n) n)
  rw [HT.out]
  rw [HT.out] at hv
  clear hs
  have hc := hv.cellAt 0 (by rw [tab_length]; omega)
  rw [tab_get _ _ _ (by omega)] at hc
  go_wp2
  go_ret
  exact ⟨rfl, hb⟩
end Go.Proofs.Ytpigjhagdpeofaa

namespace Go.Proofs.Ytpigjhagdpeofaa
open Go.RowKit Go.Proofs.Ytpigjhagdpeofaa.Sim
set_option linter.unusedVariables false
def ShaSh_r1 (nt : Nat) (a : Nat → Int) (nw : Nat) (f : Nat → Int) (k : Int) : Bool := cntB a nt 1 16 0 1000000000 && plcOk f nw && isWorkers k
def ShaSh_F (a : Nat → Int) (nw : Nat) (f : Nat → Int) (i : Nat) : Int := ptO (a i) f nw 0
def ShaSh_r0 (nt : Nat) (a : Nat → Int) (nw : Nat) (f : Nat → Int) (k : Int) : List Int := bif ShaSh_r1 nt a nw f k then tab (ShaSh_F a nw f) nt else []
theorem shaSh_no {nt nw : Nat} {a f : Nat → Int} {k : Int} (h : ShaSh_r1 nt a nw f k = false) : ShaSh_r0 nt a nw f k = [] := by simp only [ShaSh_r0, h, cond_false]
theorem shaSh_yes {nt nw : Nat} {a f : Nat → Int} {k : Int} (h : ShaSh_r1 nt a nw f k = true) : ShaSh_r0 nt a nw f k = tab (ShaSh_F a nw f) nt := by simp only [ShaSh_r0, h, cond_true]
/-- What the told call shows. -/
def PreS (N0 n : Nat) (F : Nat → Int) (w : World) (va vb vc : Value) : Prop :=
  ∃ (gl cl k m c g p : Nat) (f L : Nat → Int), va = .slice (some ⟨gl, 0, none⟩) n cl ∧ vb = .int .i64 (k : Nat) ∧ 0 < k ∧ k ≤ 8 ∧ vc = .func (.func 47) #[] #[.pointer (some ⟨p, 0, none⟩)] ∧ N0 ≤ gl ∧ N0 ≤ g ∧ N0 ≤ p ∧
    Ints w gl 0 n L ∧ w.cell? ⟨p, 0, none⟩ = some (.slice (some ⟨g, 0, none⟩) m c) ∧ Ints w g 0 m f ∧ plcOk f m = true ∧ (∀ i, i < n → F i = ptO (L i) f m 0 ∧ 0 ≤ L i ∧ L i ≤ 1000000000) ∧ n ≤ 1048576
set_option maxHeartbeats 1600000 in
theorem shaSh_core {w : World} {B gt ct gw cw nt nw : Nat} {a f : Nat → Int} {k : Int} (htB : B ≤ gt) (htw : gt < w.heap.size) (hIt : Ints w gt 0 nt a) (hnt : nt < 1000000000) (hwB : B ≤ gw) (hww : gw < w.heap.size) (hIw : Ints w gw 0 nw f) (hnw : nw < 1000000000) (hBw : B ≤ w.heap.size) (h4 : 3 < B) (hS : ShaSh_r1 nt a nw f k = true → Sat2 nt (ShaSh_F a nw f) w) :
    Calls Sq.prog 23 #[.slice (some ⟨gt, 0, none⟩) nt ct, .slice (some ⟨gw, 0, none⟩) nw cw, .int .i64 k] w fun e w' => RetL1 2 w (ShaSh_r0 nt a nw f k) (ShaSh_r1 nt a nw f k) e w' ∨ Told (PreS B nt (ShaSh_F a nw f)) e w' := by
  have hb0 : Below w.heap.size w (w.alloc (.cells #[.slice (some ⟨gw, 0, none⟩) nw cw] 23)) := by go_grown
  have hb0' := Below.refl (w.alloc (.cells #[.slice (some ⟨gw, 0, none⟩) nw cw] 23)).heap.size (w.alloc (.cells #[.slice (some ⟨gw, 0, none⟩) nw cw] 23))
  have HK0 : Hid ((w.alloc (.cells #[.slice (some ⟨gw, 0, none⟩) nw cw] 23)).cell? ⟨w.heap.size, 0, none⟩ = some (.slice (some ⟨gw, 0, none⟩) nw cw)) := by show (w.alloc (.cells #[.slice (some ⟨gw, 0, none⟩) nw cw] 23)).cell? _ = _; simp [go_sem]
  have hIt1 := hIt.below hb0
  have hIw1 := hIw.below hb0
  cases h : ShaSh_r1 nt a nw f k
  · rw [shaSh_no h]
    rcases first_no3 (show (cntB a nt 1 16 0 1000000000 && plcOk f nw && isWorkers k) = false from h) with h1 | ⟨h1, h2 | ⟨h2, h3⟩⟩
    all_goals clear h
    · go_enter Sq.func23, Sq.ntmps23
      go_wp2_with (first | (go_at_call 32; refine (impl_isWorkers_any _ _).mono ?_; rintro e w' ⟨rfl, rfl⟩) | (go_at_call 46; refine (places_impl nw gw cw f _ hnw (hIw1.below hb)).mono ?_; rintro e w2 ⟨rfl, hb2⟩; replace hb := hb.trans (hb2.mono hb.size)) | (go_at_call 31; refine (hasCount_any nt gt 0 ct a _ _ _ _ _ hnt (hIt1.below hb0')).mono ?_; rintro e w1 ⟨rfl, hb⟩; have kbox := Below.cellOf hb rfl HK0.out))
      go_ret2
      exact Or.inl (RetL1.no _ (bnext hb0 hb))
    · go_enter Sq.func23, Sq.ntmps23
      go_wp2_with (first | (go_at_call 32; refine (impl_isWorkers_any _ _).mono ?_; rintro e w' ⟨rfl, rfl⟩) | (go_at_call 46; refine (places_impl nw gw cw f _ hnw (hIw1.below hb)).mono ?_; rintro e w2 ⟨rfl, hb2⟩; replace hb := hb.trans (hb2.mono hb.size)) | (go_at_call 31; refine (hasCount_any nt gt 0 ct a _ _ _ _ _ hnt (hIt1.below hb0')).mono ?_; rintro e w1 ⟨rfl, hb⟩; have kbox := Below.cellOf hb rfl HK0.out))
      go_ret2
      exact Or.inl (RetL1.no _ (bnext hb0 hb))
    · go_enter Sq.func23, Sq.ntmps23
      go_wp2_with (first | (go_at_call 32; refine (impl_isWorkers_any _ _).mono ?_; rintro e w' ⟨rfl, rfl⟩; rw [h3]) | (go_at_call 46; refine (places_impl nw gw cw f _ hnw (hIw1.below hb)).mono ?_; rintro e w2 ⟨rfl, hb2⟩; replace hb := hb.trans (hb2.mono hb.size)) | (go_at_call 31; refine (hasCount_any nt gt 0 ct a _ _ _ _ _ hnt (hIt1.below hb0')).mono ?_; rintro e w1 ⟨rfl, hb⟩; have kbox := Below.cellOf hb rfl HK0.out))
      go_ret2
      exact Or.inl (RetL1.no _ (bnext hb0 hb))
  · rw [shaSh_yes h]
    have hSat := hS h
    clear hS
    obtain ⟨h1, h2, h3⟩ := all_yes3 (show (cntB a nt 1 16 0 1000000000 && plcOk f nw && isWorkers k) = true from h)
    obtain ⟨k1, k8⟩ := win_iff.1 h3
    have H2 := Lib.hid h2
    have HC := Lib.hid (cntB_iff.1 h1)
    clear h
    go_enter Sq.func23, Sq.ntmps23
    go_wp2_with (first | (go_at_call 32; refine (impl_isWorkers_any _ _).mono ?_; rintro e w' ⟨rfl, rfl⟩; rw [h3]) | (go_at_call 46; refine (places_impl nw gw cw f _ hnw (hIw1.below hb)).mono ?_; rintro e w2 ⟨rfl, hb2⟩; replace hb := hb.trans (hb2.mono hb.size)) | (go_at_call 31; refine (hasCount_any nt gt 0 ct a _ _ _ _ _ hnt (hIt1.below hb0')).mono ?_; rintro e w1 ⟨rfl, hb⟩; have kbox := Below.cellOf hb rfl HK0.out))
    have C := bnext hb0 hb
    obtain ⟨kk, rfl⟩ : ∃ kk : Nat, k = (kk : Int) := ⟨k.toNat, by omega⟩
    have hbox : w2.cell? ⟨w.heap.size, 0, none⟩ = some (.slice (some ⟨gw, 0, none⟩) nw cw) := Below.cellOf hb rfl HK0.out
    have hpt : w.heap.size < w2.heap.size := by have := hb.size; simp at this; omega
    have hIt2 := hIt1.below hb
    have hIw2 := hIw1.below hb
    refine (Sq.sh33 (Pre := PreS B nt (ShaSh_F a nw f)) (F := ShaSh_F a nw f) hnt (hSat.below C) ?_).mono ?_
    · intro w' hw'
      have cell : ∀ b i : Nat, 3 < b → b < w2.heap.size → w'.cell? ⟨b, i, none⟩ = w2.cell? ⟨b, i, none⟩ := fun b i h h' => by
        unfold World.cell?
        rw [hw' b (by omega) h']
      refine ⟨gt, ct, kk, nw, cw, gw, w.heap.size, f, a, rfl, rfl, by omega, by omega, rfl, htB, hwB, hBw, fun i hi => ?_, ?_, fun i hi => ?_, H2.out, fun i hi => ⟨rfl, HC.out.2 i hi⟩, by have := HC.out.1; omega⟩
      · rw [cell _ _ (by omega) (by omega)]; exact hIt2 i hi
      · rw [cell _ _ (by omega) hpt]; exact hbox
      · rw [cell _ _ (by omega) (by omega)]; exact hIw2 i hi
    · rintro e w3 (⟨v3, rfl, hv3, hb3⟩ | ⟨x, ch, va, vb, vc, e0, rfl, q1, q2, q3⟩)
      · go_wp2
        go_ret2
        exact Or.inl ⟨_, rfl, hv3.mono C.size, by rw [tab_length]; omega, bnext C hb3⟩
      · exact ⟨rfl, Or.inr ⟨x, ch, va, vb, vc, e0, rfl, q1, q2, q3⟩⟩
theorem ShaSh_impl {w : World} {B : Nat} {u v : Value} {ts ws : List Int} {k : Int} (hu : RowI 2 w B u ts) (hv : RowI 2 w B v ws) (h4 : 3 < B) (hS : ShaSh_r1 ts.length (fun i => ts.getD i 0) ws.length (fun i => ws.getD i 0) k = true → Sat2 ts.length (ShaSh_F (fun i => ts.getD i 0) ws.length fun i => ws.getD i 0) w) :
    Calls Sq.prog 23 #[u, v, .int .i64 k] w fun e w' => RetL1 2 w (ShaSh_r0 ts.length (fun i => ts.getD i 0) ws.length (fun i => ws.getD i 0) k) (ShaSh_r1 ts.length (fun i => ts.getD i 0) ws.length (fun i => ws.getD i 0) k) e w' ∨ Told (PreS B ts.length (ShaSh_F (fun i => ts.getD i 0) ws.length fun i => ws.getD i 0)) e w' := by
  obtain ⟨gt, ct, rfl, htB, htw, _, _, hIt, _, hnt⟩ := hu.form
  obtain ⟨gw, cw, rfl, hwB, hww, _, _, hIw, _, hnw⟩ := hv.form
  exact shaSh_core htB htw hIt hnt hwB hww hIw hnw (by omega) h4 hS
end Go.Proofs.Ytpigjhagdpeofaa

namespace Go.Proofs.Ytpigjhagdpeofaa
open Go.RowKit
set_option linter.unusedVariables false

theorem Own.formTs {E : TypeId} {w : World} {B n : Nat} {v : Value} {f : Nat → Int} (h : Own E w B v (tab f n)) (hn : 1 ≤ n) : ∃ g cap, v = .slice (some ⟨g, 0, none⟩) n cap ∧ B ≤ g ∧ g < w.heap.size := by
  rcases h.form with ⟨_, h0⟩ | ⟨g, cap, hv, h1, h2, _⟩
  · have := congrArg List.length h0
    rw [tab_length] at this
    simp at this
    omega
  · rw [tab_length] at hv
    exact ⟨g, cap, hv, h1, h2⟩

/-- The first of the greatest of the first k numbers that are not negative; -1 where there is none. -/
def sB (R : Nat → Int) : Nat → Int
  | 0 => -1
  | k + 1 => if 0 ≤ R k ∧ (sB R k < 0 ∨ R (sB R k).toNat < R k) then k else sB R k
theorem sB_is (R : Nat → Int) : ∀ k, (sB R k = -1 ∧ ∀ i, i < k → R i < 0) ∨ (∃ b : Nat, sB R k = b ∧ Best R k b ∧ 0 ≤ R b) := by
  intro k
  induction k with
  | zero => exact .inl ⟨rfl, fun i h => by omega⟩
  | succ k ih =>
    rcases ih with ⟨h1, h2⟩ | ⟨b, h1, h2, h3⟩
    · by_cases hk : 0 ≤ R k
      · right
        refine ⟨k, ?_, ⟨by omega, fun i hi hne => .inl (by have := h2 i (by omega); omega)⟩, hk⟩
        simp only [sB]
        rw [if_pos ⟨hk, .inl (by omega)⟩]
      · left
        refine ⟨?_, fun i hi => ?_⟩
        · simp only [sB]
          rw [if_neg (by omega)]
          exact h1
        · by_cases e : i = k
          · subst e; omega
          · exact h2 i (by omega)
    · right
      have eb : (sB R k).toNat = b := by omega
      have hb := h2.1
      by_cases hk : R b < R k
      · refine ⟨k, ?_, ⟨by omega, fun i hi hne => .inl ?_⟩, by omega⟩
        · simp only [sB]
          rw [if_pos ⟨by omega, .inr (by rw [eb]; exact hk)⟩]
        · by_cases e : i = b
          · subst e; exact hk
          · have := h2.2 i (by omega) e
            omega
      · refine ⟨b, ?_, ⟨by omega, fun i hi hne => ?_⟩, h3⟩
        · simp only [sB]
          rw [if_neg (by rw [eb]; omega)]
          exact h1
        · by_cases e : i = k
          · subst e; omega
          · exact h2.2 i (by omega) hne
theorem sB_gB {R : Nat → Int} {n : Nat} (h : ∃ i, i < n ∧ 0 ≤ R i) : sB R n = gB R n := by
  rcases sB_is R n with ⟨_, h2⟩ | ⟨b, h1, h2, _⟩
  · obtain ⟨i, h3, h4⟩ := h
    have := h2 i h3
    omega
  · rw [h1, best_gB h2]

end Go.Proofs.Ytpigjhagdpeofaa

namespace Go.Proofs.Ytpigjhagdpeofaa
open Go.RowKit
set_option linter.unusedVariables false

set_option maxHeartbeats 3200000 in
set_option maxRecDepth 100000 in
theorem shares_any (n g cp : Nat) (c s : Int) (f : Nat → Int) (w : World) (n1 : 1 ≤ n) (n12 : n ≤ 12) (c0 : 0 ≤ c) (c1 : c ≤ 1000000000) (hf : ∀ i, i < n → 0 ≤ f i ∧ f i ≤ 1000000000) (hs : 0 < sumTo f n) (hse : sumTo f n = s) (hI : Ints w g 0 n f) :
    Calls Sq.prog 45 #[.int .i64 c, .slice (some ⟨g, 0, none⟩) n cp, .int .i64 s] w (fun e w' => ∃ v, e = .returned v ∧ Own 2 w' w.heap.size v (tab (ptO c f n) n) ∧ Below w.heap.size w w') := by
  have hsb := sumTo_bd hf (Int.le_refl _) (by omega) n (Nat.le_refl _)
  have HL0 : Hid (∀ k, k ≤ n → 0 ≤ pL c f (sumTo f n) k ∧ pL c f (sumTo f n) k ≤ c) := pL_lo c0 (fun i hi => (hf i hi).1) hs
  have HQ0 : Hid (∀ k, k < n → 0 ≤ pQ c f (sumTo f n) k ∧ pQ c f (sumTo f n) k ≤ c) := fun k hk => pQ_bd hs c0 (hf k hk).1 (sumTo_ge n (fun i hi => (hf i hi).1) k hk)
  have HR0 : Hid (∀ k, 0 ≤ pR c f (sumTo f n) k ∧ pR c f (sumTo f n) k < sumTo f n) := fun k => pR_bd hs k
  have HLN : Hid (pL c f (sumTo f n) n < n) := (pL_bd (by omega) hs).2
  have HLS : Hid (∀ k, pL c f (sumTo f n) (k + 1) = pL c f (sumTo f n) k - pQ c f (sumTo f n) k) := fun k => pL_step k
  have HL00 : Hid (pL c f (sumTo f n) 0 = c) := by show c - 0 = c; omega
  have HQE : Hid (∀ k, c * f k / sumTo f n = pQ c f (sumTo f n) k ∧ c * f k % sumTo f n = pR c f (sumTo f n) k) := fun k => ⟨rfl, rfl⟩
  have HP : Hid (∀ k, k < n → 0 ≤ c * f k ∧ c * f k ≤ 1000000000000000000) := fun k hk => by
    have h := hf k hk
    have : c * f k ≤ 1000000000 * 1000000000 := Int.mul_le_mul c1 h.2 h.1 (by omega)
    exact ⟨Int.mul_nonneg c0 h.1, by omega⟩
  have HPT : Hid (∀ j : Nat, (j : Int) = pL c f (sumTo f n) n → gO (pQ c f (sumTo f n)) (pR c f (sumTo f n)) n j = ptO c f n) := fun j hj => by unfold ptO; rw [show (pL c f (sumTo f n) n).toNat = j by omega]
  have HSOME : Hid (∀ j, j < n → sB (gR (pR c f (sumTo f n)) n j) n = gB (gR (pR c f (sumTo f n)) n j) n) := fun j hj => sB_gB (gR_some (fun i _ => (pR_bd hs i).1) hj)
  have HOB : Hid (∀ j i, i < n → 0 ≤ gO (pQ c f (sumTo f n)) (pR c f (sumTo f n)) n j i ∧ gO (pQ c f (sumTo f n)) (pR c f (sumTo f n)) n j i ≤ c + j) := fun j i hi => gO_bd (fun i hi => HQ0.out i hi) j i hi
  have HCK : Hid (∀ k, k < n → ∀ w', Below w.heap.size w w' → w'.cell? ⟨g, k, none⟩ = some (.int .i64 (f k))) := fun k hk w' hb => (hI.below hb).at0 k hk
  rw [hse] at hs hsb HL0 HQ0 HR0 HLN HLS HL00 HQE HPT HSOME HOB
  obtain ⟨q, hq⟩ : ∃ q, pQ c f s = q := ⟨_, rfl⟩
  obtain ⟨r, hr⟩ : ∃ r, pR c f s = r := ⟨_, rfl⟩
  rw [hq] at HQ0 HLS HQE HPT HOB
  rw [hr] at HR0 HQE HPT HSOME HOB
  clear hf hse hq hr
  go_enter Sq.func45, Sq.ntmps45
  go_wp2_with fail
  go_loopw [10, 7, 8, 9] (fun i v u l wr => ∃ k : Nat, k ≤ n ∧ i = .int .i64 k ∧ l = .int .i64 (pL c f s k) ∧ Own 2 wr w.heap.size v (tab q k) ∧ Own 2 wr w.heap.size u (tab r k) ∧ Hid (Apart v u) ∧ Below w.heap.size w wr) (fun i _ _ _ _ => n - (intOf i).toNat)
  case atStart =>
    have q1 : Below w.heap.size w (w.alloc (.cells #[] 2)) := by go_grown
    have q2 : Below (w.alloc (.cells #[] 2)).heap.size (w.alloc (.cells #[] 2)) ((w.alloc (.cells #[] 2)).alloc (.cells #[] 2)) := by go_grown
    have hz1 : (w.alloc (.cells #[] 2)).heap.size = w.heap.size + 1 := by simp
    have A2 := Own.made 2 (w.alloc (.cells #[] 2)) (B := w.heap.size) (by omega)
    rw [hz1] at A2
    exact ⟨0, Nat.zero_le _, rfl, by rw [HL00.out], (Own.made 2 w (Nat.le_refl _)).below q2, A2, Apart.two (by omega), bnext q1 q2⟩
  case round =>
    obtain ⟨k, hk, rfl, rfl, hv, hu, hd, hbr⟩ := hrel
    have hL := HL0.out k hk
    by_cases hlt : k < n
    · have hc := HCK.out k hlt _ hbr
      have hp := HP.out k hlt
      have hq := HQ0.out k hlt
      have hr := HR0.out k
      obtain ⟨he1, he2⟩ := HQE.out k
      have hL2 := HL0.out (k + 1) (by omega)
      rw [HLS.out] at hL2
      obtain ⟨L, hLe⟩ : ∃ L, pL c f s k = L := ⟨_, rfl⟩
      have HLe := Lib.hid hLe
      rw [hLe] at hL hL2
      obtain ⟨Q, hQe⟩ : ∃ Q, q k = Q := ⟨_, rfl⟩
      obtain ⟨R, hRe⟩ : ∃ R, r k = R := ⟨_, rfl⟩
      rw [hQe] at hq he1 hL2
      rw [hRe] at hr he2
      have HQe := Lib.hid hQe
      have HRe := Lib.hid hRe
      have e1 : IntKind.i64.wrap (c * f k) = c * f k := IntWalk.i64_in _ (by omega)
      have e2 : (c * f k).tdiv s = Q := by rw [Int.tdiv_eq_ediv_of_nonneg hp.1]; exact he1
      have e3 : (c * f k).tmod s = R := by rw [Int.tmod_eq_emod_of_nonneg hp.1]; exact he2
      have s1 : ¬ s = 0 := by omega
      have HT1 := Lib.hid (tab_len8s (f := q) (k := k) (by omega))
      have HT2 := Lib.hid (tab_len8s (f := r) (k := k) (by omega))
      rw [hLe]
      clear hLe hQe hRe
      go_wp2_with (first | (at_builtin; refine wpList_app2 _ rfl _ _ 23 rfl w.heap.size 2 Sq.infoI Sq.underlying23 _ _ rfl hv _ rfl (by have := HT1.out; omega) hbr.size ?_; intro v' w4 hv4 hb4 hs4; have hc4 := HCK.out k hlt _ (hbr.trans hb4); have hu4 := (hs4 _ _ _ hu hd.out).1; have hd4 := (hs4 _ _ _ hu hd.out).2; have hbr4 := hbr.trans hb4) | (at_builtin; refine wpList_app2 _ rfl _ _ 23 rfl w.heap.size 2 Sq.infoI Sq.underlying23 _ _ rfl hu4 _ rfl (by have := HT2.out; omega) hbr4.size ?_; intro u' w5 hu5 hb5 hs5))
      have hv5 := hs5 _ _ _ hv4 hd4.symm
      rw [← HQe.out] at hv5
      rw [← HRe.out] at hu5
      go_roundw
      case rel => exact ⟨k + 1, by omega, by go_num, by rw [HLS.out, HLe.out, HQe.out], by rw [tab]; exact hv5.1, by rw [tab]; exact hu5, hv5.2.symm, hbr4.trans hb5⟩
      case measure => simp [intOf]; omega
    · obtain rfl : k = n := by omega
      obtain ⟨gv, cv, rfl, v1, v2⟩ := hv.formTs n1
      obtain ⟨gu, cu, rfl, u1, u2⟩ := hu.formTs n1
      have hne : gv ≠ gu := fun e => hd.out gv rfl (by rw [e]; rfl)
      obtain ⟨L, hL0⟩ := Int.eq_ofNat_of_zero_le hL.1
      have HLe := Lib.hid hL0
      have hLk : L < k := by have := HLN.out; omega
      have hLc : (L : Int) ≤ c := by omega
      rw [hL0]
      clear hL hL0
      go_wp2_with fail
      go_loopw [9] (fun l wr => ∃ j : Nat, j ≤ L ∧ l = .int .i64 ((L - j : Nat) : Int) ∧ Own 2 wr w.heap.size (.slice (some ⟨gv, 0, none⟩) k cv) (tab (gO q r k j) k) ∧ Own 2 wr w.heap.size (.slice (some ⟨gu, 0, none⟩) k cu) (tab (gR r k j) k) ∧ Below w.heap.size w wr) (fun l _ => (intOf l).toNat)
      case atStart => exact ⟨0, Nat.zero_le _, by rw [Nat.sub_zero], hv, hu, hbr⟩
      case round =>
        obtain ⟨j, hj, rfl, hv, hu, hbr⟩ := hrel
        by_cases hlt2 : j < L
        · obtain ⟨li, hli⟩ : ∃ li : Int, ((L - j : Nat) : Int) = li := ⟨_, rfl⟩
          have li0 : 0 < li ∧ li ≤ 100 := by omega
          rw [hli]
          have HLI := Lib.hid hli
          clear hli
          have HS := Lib.hid (HSOME.out j (by omega))
          have HCU : Hid (∀ i, i < k → wr.cell? ⟨gu, i, none⟩ = some (.int .i64 (gR r k j i))) := fun i hi => hu.cellTab i hi
          have HBI := Lib.hid (sB_is (gR r k j))
          have HSS : Hid (∀ i, sB (gR r k j) (i + 1) = if 0 ≤ gR r k j i ∧ (sB (gR r k j) i < 0 ∨ gR r k j (sB (gR r k j) i).toNat < gR r k j i) then (i : Int) else sB (gR r k j) i) := fun i => rfl
          have HB0 : Hid (sB (gR r k j) 0 = -1) := rfl
          have HGB := Lib.hid (gB_lt (gR r k j) k (by omega))
          have HNO : Hid (gO q r k (j + 1) = upd (gO q r k j) (gB (gR r k j) k) (gO q r k j (gB (gR r k j) k) + 1)) := rfl
          have HNR : Hid (gR r k (j + 1) = upd (gR r k j) (gB (gR r k j) k) (-1)) := rfl
          have HCV : Hid (∀ i, i < k → wr.cell? ⟨gv, i, none⟩ = some (.int .i64 (gO q r k j i)) ∧ 0 ≤ gO q r k j i ∧ gO q r k j i ≤ 2000000000) := fun i hi => ⟨hv.cellTab i hi, by have := HOB.out j i hi; omega⟩
          have HV := Lib.hid hv
          have HU := Lib.hid hu
          clear hv hu
          obtain ⟨RR, hRR⟩ : ∃ RR, gR r k j = RR := ⟨_, rfl⟩
          rw [hRR] at HS HCU HBI HSS HB0 HGB HNO HNR HU
          obtain ⟨OO, hOO⟩ : ∃ OO, gO q r k j = OO := ⟨_, rfl⟩
          rw [hOO] at HNO HCV HV
          clear hRR hOO
          generalize hwA : wr = wA at *
          clear hwA
          go_wp2_with fail
          go_loopw [13, 12] (fun x y wq => ∃ p : Nat, p ≤ k ∧ x = .int .i64 p ∧ y = .int .i64 (sB RR p) ∧ ∃ m, wq = wA.drewN m) (fun x _ _ => k - (intOf x).toNat)
          case atStart => exact ⟨0, Nat.zero_le _, rfl, by rw [HB0.out], 0, rfl⟩
          case round =>
            obtain ⟨p, hp, rfl, rfl, m, rfl⟩ := hrel
            by_cases hlt3 : p < k
            · have d1 := HCU.out p hlt3
              have l1 : (p : Int) < k := by omega
              rcases HBI.out p with ⟨b1, _⟩ | ⟨b, b1, b2, _⟩
              · by_cases hn : 0 ≤ RR p
                · have HN : Hid (sB RR (p + 1) = p) := by show _ = _; rw [HSS.out, if_pos ⟨hn, .inl (by omega)⟩]
                  rw [b1]
                  clear b1
                  go_wp2_with fail
                  go_quiet (fail)
                  go_wp2
                  go_roundw
                  case rel => exact ⟨p + 1, by omega, by go_num, by rw [HN.out], _, rfl⟩
                  case measure => simp [intOf]; omega
                · have HN : Hid (sB RR (p + 1) = -1) := by show _ = _; rw [HSS.out, if_neg (by omega)]; exact b1
                  have hn2 : decide (RR p ≥ 0) = false := decide_eq_false hn
                  have hn3 : decide (0 ≤ RR p) = false := decide_eq_false hn
                  rw [b1]
                  clear b1
                  go_wp2_with fail
                  go_quiet (fail)
                  go_wp2
                  go_roundw
                  case rel => exact ⟨p + 1, by omega, by go_num, by rw [HN.out], _, rfl⟩
                  case measure => simp [intOf]; omega
              · have bp := b2.1
                have d2 := HCU.out b (by omega)
                have l2 : (b : Int) < k := by omega
                have eb : (sB RR p).toNat = b := by omega
                have l3 : ¬ ((b : Int) < 0) := by omega
                by_cases hn : 0 ≤ RR p
                · by_cases hc : RR b < RR p
                  · have HN : Hid (sB RR (p + 1) = p) := by show _ = _; rw [HSS.out, if_pos ⟨hn, .inr (by rw [eb]; exact hc)⟩]
                    rw [b1]
                    clear b1 eb b2
                    go_wp2_with fail
                    go_quiet (fail)
                    go_wp2
                    go_roundw
                    case rel => exact ⟨p + 1, by omega, by go_num, by rw [HN.out], _, rfl⟩
                    case measure => simp [intOf]; omega
                  · have HN : Hid (sB RR (p + 1) = b) := by show _ = _; rw [HSS.out, if_neg (by rw [eb]; omega)]; exact b1
                    have hc2 : decide (RR b < RR p) = false := decide_eq_false hc
                    rw [b1]
                    clear b1 eb b2
                    go_wp2_with fail
                    go_quiet (fail)
                    go_wp2
                    go_roundw
                    case rel => exact ⟨p + 1, by omega, by go_num, by rw [HN.out], _, rfl⟩
                    case measure => simp [intOf]; omega
                · have HN : Hid (sB RR (p + 1) = b) := by show _ = _; rw [HSS.out, if_neg (by omega)]; exact b1
                  have hn2 : decide (RR p ≥ 0) = false := decide_eq_false hn
                  have hn3 : decide (0 ≤ RR p) = false := decide_eq_false hn
                  rw [b1]
                  clear b1 eb b2
                  go_wp2_with fail
                  go_quiet (fail)
                  go_wp2
                  go_roundw
                  case rel => exact ⟨p + 1, by omega, by go_num, by rw [HN.out], _, rfl⟩
                  case measure => simp [intOf]; omega
            · obtain rfl : p = k := by omega
              rw [HS.out]
              obtain ⟨b, hb⟩ : ∃ b, gB RR p = b := ⟨_, rfl⟩
              rw [hb] at HGB HNO HNR ⊢
              have hbp := HGB.out
              have l2 : (b : Int) < p := by omega
              obtain ⟨d1, d2⟩ := HCV.out b hbp
              have d3 := HCU.out b hbp
              have f1 := HV.out.freeAt b
              have f2 := HU.out.freeAt b
              have D1 : (⟨gv, b, none⟩ : Addr) ≠ ⟨gu, b, none⟩ := by intro h; cases h; exact hne rfl
              have hV1 := (HV.out.drewN m).tabSet (upd OO b (OO b + 1)) b hbp (OO b + 1) (upd_at _ _ _) (fun i _ hi => (upd_ne _ _ hi).symm)
              have hU1 := (HU.out.drewN m).keep ⟨gv, b, none⟩ hne (.int .i64 (OO b + 1))
              have hU2 := hU1.tabSet (upd RR b (-1)) b hbp (-1) (upd_at _ _ _) (fun i _ hi => (upd_ne _ _ hi).symm)
              have hV2 := hV1.keep ⟨gu, b, none⟩ (Ne.symm hne) (.int .i64 (-1))
              rw [← HNO.out] at hV2
              rw [← HNR.out] at hU2
              have HV2 := Lib.hid hV2
              have HU2 := Lib.hid hU2
              have HBB := Lib.hid (((Go.Proofs.Ytpigjhagdpeofaa.Below.drewN' hbr m).setCell (p := ⟨gv, b, none⟩) v1 (.int .i64 (OO b + 1))).setCell (p := ⟨gu, b, none⟩) u1 (.int .i64 (-1)))
              clear hV1 hU1 hU2 hV2 hb
              go_wp2_with fail
              go_roundw
              case rel => exact ⟨j + 1, by omega, by rw [show ((L - (j + 1) : Nat) : Int) = li - 1 by have := HLI.out; omega], HV2.out, HU2.out, HBB.out⟩
              case measure => simp [intOf]; omega
        · obtain rfl : j = L := by omega
          rw [HPT.out j HLe.out.symm] at hv
          rw [Nat.sub_self]
          go_wp2_with fail
          go_ret
          exact ⟨_, rfl, hv, hbr⟩
end Go.Proofs.Ytpigjhagdpeofaa

namespace Go.Proofs.Ytpigjhagdpeofaa
open Go.RowKit Go.Proofs.Ytpigjhagdpeofaa.Sim
set_option linter.unusedVariables false
set_option maxHeartbeats 3200000 in
set_option maxRecDepth 100000 in
theorem shaSh_spec_core {w : World} {gt ct gw cw nt nw : Nat} {a f : Nat → Int} {k : Int} (hIt : Ints w gt 0 nt a) (hnt : nt < 1000000000) (hIw : Ints w gw 0 nw f) (hnw : nw < 1000000000) :
    Calls Sq.prog 22 #[.slice (some ⟨gt, 0, none⟩) nt ct, .slice (some ⟨gw, 0, none⟩) nw cw, .int .i64 k] w (RetL1 2 w (ShaSh_r0 nt a nw f k) (ShaSh_r1 nt a nw f k)) := by
  have er : ShaSh_r1 nt a nw f k = (cntB a nt 1 16 0 1000000000 && plcOk f nw && isWorkers k) := rfl
  rcases Bool.eq_false_or_eq_true (plcOk f nw) |>.symm with h1 | h1
  · have h : ShaSh_r1 nt a nw f k = false := by rw [er, h1, Bool.and_false, Bool.false_and]
    rw [shaSh_no h, h]
    clear h er
    go_enter Sq.func22, Sq.ntmps22
    go_wp2_with (first | (go_at_call 44; refine (places_spec nw gw cw f _ hnw hIw).mono ?_; rintro e w1 ⟨s, rfl, hsm, rfl⟩))
    go_ret2
    exact RetL1.no _ (Below.refl _ _)
  rcases Nat.lt_or_ge nt 1 with h0 | h0
  · have h : ShaSh_r1 nt a nw f k = false := by
      rw [er]
      cases hc : cntB a nt 1 16 0 1000000000
      · rfl
      · have := (cntB_iff.1 hc).1.1; omega
    rw [shaSh_no h, h]
    clear h er
    go_enter Sq.func22, Sq.ntmps22
    go_wp2_with (first | (go_at_call 44; refine (places_spec nw gw cw f _ hnw hIw).mono ?_; rintro e w1 ⟨s, rfl, hsm, rfl⟩))
    go_ret2
    exact RetL1.no _ (Below.refl _ _)
  rcases Nat.lt_or_ge 16 nt with h2 | h2
  · have h : ShaSh_r1 nt a nw f k = false := by
      rw [er]
      cases hc : cntB a nt 1 16 0 1000000000
      · rfl
      · have := (cntB_iff.1 hc).1.2; omega
    rw [shaSh_no h, h]
    clear h er
    go_enter Sq.func22, Sq.ntmps22
    go_wp2_with (first | (go_at_call 44; refine (places_spec nw gw cw f _ hnw hIw).mono ?_; rintro e w1 ⟨s, rfl, hsm, rfl⟩))
    go_ret2
    exact RetL1.no _ (Below.refl _ _)
  rcases Bool.eq_false_or_eq_true (isWorkers k) |>.symm with h3 | h3
  · have h : ShaSh_r1 nt a nw f k = false := by rw [er, h3, Bool.and_false]
    rw [shaSh_no h, h]
    clear h er
    go_enter Sq.func22, Sq.ntmps22
    go_wp2_with (first | (go_at_call 25; refine (spec_l00In_any _ _ _ _).mono ?_; rintro e w' ⟨rfl, rfl⟩) | (go_at_call 44; refine (places_spec nw gw cw f _ hnw hIw).mono ?_; rintro e w1 ⟨s, rfl, hsm, rfl⟩))
    go_ret2
    exact RetL1.no _ (Below.refl _ _)
  have H1 := Lib.hid h1
  have H3 := Lib.hid h3
  have HR := Lib.hid er
  obtain ⟨n1, n12, hf, ⟨s0, s1⟩, _⟩ := plc_is h1
  have HP : Hid (∀ (t s : Int) (w' : World), 0 ≤ t → t ≤ 1000000000 → sumTo f nw = s → Ints w' gw 0 nw f → _) := fun t s w' c0 c1 hs i => shares_any nw gw cw t s f w' n1 n12 c0 c1 hf s0 hs i
  clear er hf
  go_enter Sq.func22, Sq.ntmps22
  go_wp2_with (first | (go_at_call 25; refine (spec_l00In_any _ _ _ _).mono ?_; rintro e w' ⟨rfl, rfl⟩) | (go_at_call 44; refine (places_spec nw gw cw f _ hnw hIw).mono ?_; rintro e w1 ⟨s, rfl, hsm, rfl⟩))
  have HSM := Lib.hid (hsm h1)
  clear hsm
  go_loopw [11, 10] (fun i v wr => ∃ q : Nat, q ≤ nt ∧ i = .int .i64 q ∧ (∀ j, j < q → 0 ≤ a j ∧ a j ≤ 1000000000) ∧ Own 2 wr w.heap.size v (tab (ShaSh_F a nw f) q) ∧ Below w.heap.size w wr) (fun i _ _ => nt - (intOf i).toNat)
  case atStart => exact ⟨0, Nat.zero_le _, rfl, fun j hj => absurd hj (Nat.not_lt_zero _), Own.made _ _ (Nat.le_refl _), Below.refl _ _ |>.alloc (Nat.le_refl _) _⟩
  case round =>
    obtain ⟨q, hq, rfl, hdays, hown, hbr⟩ := hrel
    by_cases hlt : q < nt
    · have hc := Below.cellOf hbr rfl (hIt.at0 q hlt)
      cases hday : win (a q) 0 1000000000
      · have h : ShaSh_r1 nt a nw f k = false := by
          rw [HR.out]
          cases hc : cntB a nt 1 16 0 1000000000
          · simp
          · have := win_iff.2 ((cntB_iff.1 hc).2 q hlt)
            rw [hday] at this
            cases this
        have H := Lib.hid h
        clear h
        go_wp2_with (first | (go_at_call 25; refine (spec_l00In_any _ _ _ _).mono ?_; rintro e w' ⟨rfl, rfl⟩))
        go_ret2
        rw [shaSh_no H.out, H.out]
        exact RetL1.no _ hbr
      · have hd2 := win_iff.1 hday
        have HD := Lib.hid hd2
        go_wp2_with (first | (go_at_call 25; refine (spec_l00In_any _ _ _ _).mono ?_; rintro e w' ⟨rfl, rfl⟩))
        refine (HP.out (a q) _ _ hd2.1 hd2.2 rfl (hIw.below hbr)).mono ?_
        clear hd2
        rintro e w2 ⟨v2, rfl, hv2, hb2⟩
        obtain ⟨a2, cap2, rfl, hs2⟩ := hv2.shape
        obtain ⟨g2, rfl, _⟩ := hs2 (by intro e; have := congrArg List.length e; rw [tab_length] at this; simp at this; omega)
        have HT := Lib.hid (tab_length (ptO (a q) f nw) nw)
        rw [HT.out]
        rw [HT.out] at hv2
        clear hs2
        have hown2 := hown.below hb2
        have hbr2 := hbr.trans (hb2.mono hbr.size)
        have HL := Lib.hid (tab_length (ShaSh_F a nw f) q)
        have hcj := hv2.cellAt 0 (by rw [tab_length]; omega)
        rw [tab_get _ _ _ (by omega)] at hcj
        go_wp2_with (first | (at_builtin; refine wpList_app1 _ rfl _ _ 23 rfl w.heap.size 2 Sq.infoI Sq.underlying23 _ _ rfl hown2 _ rfl (by have := HL.out; omega) hbr2.size ?_; intro v' w3 hown3 hb3))
        go_roundw
        case rel => exact ⟨q + 1, by omega, by go_num, fun j hj => by rcases Nat.lt_succ_iff_lt_or_eq.1 hj with h | rfl; exact hdays j h; exact HD.out, hown3, hbr2.trans hb3⟩
        case measure => simp [intOf]; omega
    · obtain rfl : q = nt := by omega
      have h : ShaSh_r1 q a nw f k = true := by
        rw [HR.out, H1.out, H3.out, Bool.and_true, Bool.and_true]
        exact cntB_iff.2 ⟨⟨by omega, by omega⟩, fun i hi => hdays i hi⟩
      have H := Lib.hid h
      clear h
      go_wp2
      go_ret2
      rw [shaSh_yes H.out, H.out]
      exact ⟨_, rfl, hown, by rw [tab_length]; exact hnt, hbr⟩
theorem ShaSh_spec {w : World} {B B' : Nat} {u v : Value} {ts ws : List Int} {k : Int} (hu : RowI 2 w B u ts) (hv : RowI 2 w B' v ws) :
    Calls Sq.prog 22 #[u, v, .int .i64 k] w (RetL1 2 w (ShaSh_r0 ts.length (fun i => ts.getD i 0) ws.length (fun i => ws.getD i 0) k) (ShaSh_r1 ts.length (fun i => ts.getD i 0) ws.length (fun i => ws.getD i 0) k)) := by
  obtain ⟨gt, ct, rfl, _, _, _, _, hIt, _, hnt⟩ := hu.form
  obtain ⟨gw, cw, rfl, _, _, _, _, hIw, _, hnw⟩ := hv.form
  exact shaSh_spec_core hIt hnt hIw hnw
end Go.Proofs.Ytpigjhagdpeofaa

namespace Go.Proofs.Ytpigjhagdpeofaa
open Go.RowKit
set_option linter.unusedVariables false

theorem copy_set (xs : List Int) (k : Nat) (h : k < xs.length) : (xs.take k ++ List.replicate (xs.length - k) 0).set k (xs.getD k 0) = xs.take (k + 1) ++ List.replicate (xs.length - (k + 1)) 0 := by
  rw [List.set_append]
  have hl : (xs.take k).length = k := by simp; omega
  have hr : xs.length - k = (xs.length - (k + 1)) + 1 := by omega
  rw [hl, if_neg (by omega), Nat.sub_self, hr, List.replicate_succ, List.set_cons_zero, List.take_succ_eq_append_getElem h, List.append_assoc, List.singleton_append]
  simp [List.getD, h]

set_option maxHeartbeats 400000 in
theorem to_core (a : Option Addr) (cap : Nat) (xs : List Int) (w : World) (hn : xs.length < 1000000000) (ha : xs ≠ [] → ∃ g off, a = some ⟨g, off, none⟩ ∧ Ints w g off xs.length (fun i => xs.getD i 0)) :
    Calls Sq.prog 9 #[.slice a xs.length cap] w fun e w' =>
      e = .returned (.slice (some ⟨w.heap.size, 0, none⟩) xs.length xs.length) ∧ Own 2 w' w.heap.size (.slice (some ⟨w.heap.size, 0, none⟩) xs.length xs.length) xs ∧ Below w.heap.size w w' := by
  obtain ⟨n, hN⟩ : ∃ n, n = xs.length := ⟨_, rfl⟩
  have HN := Lib.hid hN
  have H0 : n = 0 ∨ ∃ g off, a = some ⟨g, off, none⟩ ∧ Ints w g off n (fun i => xs.getD i 0) := by
    by_cases hx : xs = []
    · left; rw [hN, hx]; rfl
    · right; rw [hN]; exact ha hx
  rw [← hN] at hn ⊢
  clear hN ha
  rcases H0 with h0 | ⟨g, off, rfl, hI⟩
  · subst h0
    have hx : xs = [] := List.eq_nil_of_length_eq_zero HN.out.symm
    have HX := Lib.hid hx
    clear hx
    go_enter Sq.func9, Sq.ntmps9
    go_wp2_with (at_make; refine wpList_mk _ rfl _ _ 23 rfl w.heap.size 2 Sq.infoI Sq.underlying23 _ _ _ _ 0 rfl rfl rfl rfl (by omega) (Nat.le_refl _) ?_; intro w1 hown hb)
    go_rounds 1
    go_ret
    exact ⟨rfl, by rw [HX.out]; exact hown, hb⟩
  · go_enter Sq.func9, Sq.ntmps9
    go_wp2_with (at_make; refine wpList_mk _ rfl _ _ 23 rfl w.heap.size 2 Sq.infoI Sq.underlying23 _ _ _ _ n rfl rfl rfl rfl hn (Nat.le_refl _) ?_; intro w1 hown hb)
    go_loopw [4] (fun i wr => ∃ k : Nat, k ≤ n ∧ i = .int .i64 k ∧ Own 2 wr w.heap.size (.slice (some ⟨w.heap.size, 0, none⟩) n n) (xs.take k ++ List.replicate (n - k) 0) ∧ Below w.heap.size w wr) (fun i _ => n - (intOf i).toNat)
    case atStart => exact ⟨0, Nat.zero_le _, rfl, by simpa using hown, hb⟩
    case round =>
      obtain ⟨k, hk, rfl, ho, hbr⟩ := hrel
      have hl : (xs.take k ++ List.replicate (n - k) 0).length = n := by have := HN.out; simp; omega
      by_cases hlt : k < n
      · have hc := Below.cellOf hbr rfl (hI.at k hlt)
        obtain ⟨x, hx⟩ : ∃ x, wr.cell? ⟨w.heap.size, k, none⟩ = some x := ⟨_, ho.cellAt k (by omega)⟩
        have hf := ho.freeAt k
        have hd : (xs.getD k 0) = xs.getD k 0 := rfl
        have R := ho.set hl.symm k (xs.getD k 0)
        rw [HN.out, copy_set xs k (by rw [← HN.out]; exact hlt), ← HN.out] at R
        have HR := Lib.hid R
        have HL := Lib.hid hl
        generalize xs.getD k 0 = y at hc HR
        clear R hl ho hd
        go_wp2
        go_roundw
        case rel => exact ⟨k + 1, by omega, by go_num, HR.out, hbr.setCell (Nat.le_refl _) _⟩
        case measure => simp [intOf]; omega
      · obtain rfl : k = n := by omega
        have R : Own 2 wr w.heap.size (.slice (some ⟨w.heap.size, 0, none⟩) k k) xs := by
          have := ho
          rwa [List.take_of_length_le (by rw [HN.out]; exact Nat.le_refl _), Nat.sub_self, List.replicate_zero, List.append_nil] at this
        have HR := Lib.hid R
        have HL := Lib.hid hl
        clear R hl ho
        go_wp2
        go_ret
        exact ⟨rfl, HR.out, hbr⟩

/-- What toInt64S gives. -/
def CopyI (E : TypeId) (w : World) (xs : List Int) (e : Ending) (w' : World) : Prop := ∃ v, e = .returned v ∧ RowI E w' w.heap.size v xs ∧ Below w.heap.size w w'

theorem to_i {w : World} {v : Value} {xs : List Int} (h : InI w v xs) (hn : xs.length < 1000000000) :
    Calls Sq.prog 9 #[v] w (CopyI 2 w xs) := by
  obtain ⟨a, cap, rfl, ha⟩ := h
  exact (to_core a cap xs w hn ha).mono fun e w' ⟨he, ho, hb⟩ => ⟨_, he, ⟨ho, ⟨_, _, rfl⟩, hn⟩, hb⟩
end Go.Proofs.Ytpigjhagdpeofaa

namespace Go.Proofs.Ytpigjhagdpeofaa
open Go.RowKit
set_option linter.unusedVariables false

/-- k, k + 1, .. -/
def marks (k : Int) : Nat → List Int
  | 0 => []
  | n + 1 => marks k n ++ [k + n]
theorem marks_length (k : Int) (n : Nat) : (marks k n).length = n := by
  induction n with
  | zero => rfl
  | succ n ih => simp [marks, ih]
theorem marks_get (k : Int) (n i : Nat) (h : i < n) : (marks k n).getD i 0 = k + i := by
  induction n with
  | zero => omega
  | succ n ih =>
    have hl := marks_length k n
    by_cases hi : i < n
    · have := ih hi
      simp only [marks, List.getD, List.getElem?_append, hl, hi, if_true] at this ⊢
      exact this
    · obtain rfl : i = n := by omega
      simp [marks, List.getD, hl]

set_option maxHeartbeats 400000 in
theorem eq_core (n g1 g2 c1 c2 : Nat) (f : Nat → Int) (w : World) (hn : n < 1000000000) (H1 : Ints w g1 0 n f) (H2 : Ints w g2 0 n f) :
    Calls Sq.prog 11 #[.slice (some ⟨g1, 0, none⟩) n c1, .slice (some ⟨g2, 0, none⟩) n c2] w fun e w' => e = .returned (.bool true) ∧ Below w.heap.size w w' := by
  go_enter Sq.func11, Sq.ntmps11
  go_wp2
  go_loopw [5] (fun i wr => ∃ k : Nat, k ≤ n ∧ i = .int .i64 k ∧ Below w.heap.size w wr) (fun i _ => n - (intOf i).toNat)
  case atStart => exact ⟨0, Nat.zero_le _, rfl, Below.refl _ _⟩
  case round =>
    obtain ⟨k, hk, rfl, hb⟩ := hrel
    by_cases hlt : k < n
    · have c1 := Below.cellOf hb rfl (H1.at0 k hlt)
      have c2 := Below.cellOf hb rfl (H2.at0 k hlt)
      go_wp2
      go_quiet (fail)
      go_wp2
      go_roundw
      case rel => exact ⟨k + 1, by omega, by go_num, Below.drewN' hb _⟩
      case measure => simp [intOf]; omega
    · go_wp2
      go_ret
      exact ⟨rfl, hb⟩

theorem eq_none (a1 a2 : Option Addr) (c1 c2 : Nat) (w : World) :
    Calls Sq.prog 11 #[.slice a1 0 c1, .slice a2 0 c2] w fun e w' => e = .returned (.bool true) ∧ Below w.heap.size w w' := by
  go_enter Sq.func11, Sq.ntmps11
  go_wp2
  go_rounds 1
  go_ret
  exact ⟨rfl, Below.refl _ _⟩

theorem eq_i {E : TypeId} {w : World} {B1 B2 : Nat} {v1 v2 : Value} {xs : List Int} (h1 : Own E w B1 v1 xs) (h2 : Own E w B2 v2 xs) (hn : xs.length < 1000000000) :
    Calls Sq.prog 11 #[v1, v2] w fun e w' => e = .returned (.bool true) ∧ Below w.heap.size w w' := by
  obtain ⟨a1, c1, rfl, k1⟩ := h1.shape
  obtain ⟨a2, c2, rfl, k2⟩ := h2.shape
  by_cases hx : xs = []
  · subst hx
    exact eq_none a1 a2 c1 c2 w
  · obtain ⟨g1, rfl, _, _, _, _, i1, _⟩ := k1 hx
    obtain ⟨g2, rfl, _, _, _, _, i2, _⟩ := k2 hx
    exact eq_core xs.length g1 g2 c1 c2 _ w hn i1 i2
theorem marks_set (k : Int) (xs : List Int) (j : Nat) (h : j < xs.length) : (marks k j ++ xs.drop j).set j (k + j) = marks k (j + 1) ++ xs.drop (j + 1) := by
  have hl := marks_length k j
  rw [List.set_append]
  simp only [hl, Nat.lt_irrefl, if_false, Nat.sub_self]
  rw [List.drop_eq_getElem_cons h]
  simp only [List.set_cons_zero, marks, List.append_assoc, List.singleton_append]

set_option maxHeartbeats 400000 in
theorem mark_core {E : TypeId} (g c B : Nat) (xs : List Int) (k0 : Int) (w : World) (hn : xs.length < 1000000000) (hk0 : 0 ≤ k0) (hk1 : k0 < 100000000000) (h : Own E w B (.slice (some ⟨g, 0, none⟩) xs.length c) xs) :
    Calls Sq.prog 14 #[.slice (some ⟨g, 0, none⟩) xs.length c, .int .i64 k0] w fun e w' =>
      e = .returned (.int .i64 (k0 + xs.length)) ∧ Own E w' B (.slice (some ⟨g, 0, none⟩) xs.length c) (marks k0 xs.length) ∧ Only g (g + 1) w w' := by
  obtain ⟨n, hN⟩ : ∃ n, n = xs.length := ⟨_, rfl⟩
  have HN := Lib.hid hN
  rw [← hN] at h hn ⊢
  clear hN
  go_enter Sq.func14, Sq.ntmps14
  go_wp2
  go_loopw [1, 5] (fun kv i wr => ∃ j : Nat, j ≤ n ∧ i = .int .i64 j ∧ kv = .int .i64 (k0 + j) ∧ Own E wr B (.slice (some ⟨g, 0, none⟩) n c) (marks k0 j ++ xs.drop j) ∧ Only g (g + 1) w wr) (fun _ i _ => n - (intOf i).toNat)
  case atStart => exact ⟨0, Nat.zero_le _, rfl, by go_num, by simpa [marks] using h, Only.refl _ _ _⟩
  case round =>
    obtain ⟨j, hj, rfl, rfl, ho, hb⟩ := hrel
    have hl : (marks k0 j ++ xs.drop j).length = n := by rw [HN.out, List.length_append, marks_length, List.length_drop]; rw [HN.out] at hj; omega
    by_cases hlt : j < n
    · obtain ⟨x, hx⟩ : ∃ x, wr.cell? ⟨g, j, none⟩ = some x := by
        rcases ho.form with ⟨h0, _⟩ | ⟨g', c', hv, _, _, _, _, hi, _⟩
        · cases h0
        · simp only [Value.slice.injEq, Option.some.injEq, Addr.mk.injEq, and_true] at hv
          obtain ⟨rfl, _, rfl⟩ := hv
          exact ⟨_, hi.at0 j (by omega)⟩
      have hf : wr.frozen? ⟨g, j, none⟩ = false := by
        rcases ho.form with ⟨h0, _⟩ | ⟨g', c', hv, _, _, _, _, _, hfz⟩
        · cases h0
        · simp only [Value.slice.injEq, Option.some.injEq, Addr.mk.injEq, and_true] at hv
          obtain ⟨rfl, _, rfl⟩ := hv
          exact hfz j
      have R := ho.set hl.symm j (k0 + j)
      rw [marks_set k0 xs j (by rw [← HN.out]; exact hlt)] at R
      have HR := Lib.hid R
      have HL := Lib.hid hl
      clear R hl ho
      go_wp2
      go_roundw
      case rel => exact ⟨j + 1, by omega, by go_num, by go_num, HR.out, hb.setCell (Nat.le_refl _) (Nat.lt_succ_self _) _⟩
      case measure => simp [intOf]; omega
    · obtain rfl : j = n := by omega
      have R : Own E wr B (.slice (some ⟨g, 0, none⟩) j c) (marks k0 j) := by
        have := ho
        rwa [List.drop_of_length_le (by rw [HN.out]; exact Nat.le_refl _), List.append_nil] at this
      have HR := Lib.hid R
      have HL := Lib.hid hl
      clear R hl ho
      go_wp2
      go_ret
      exact ⟨rfl, HR.out, hb⟩

theorem mark_none (a : Option Addr) (c : Nat) (k0 : Int) (w : World) :
    Calls Sq.prog 14 #[.slice a 0 c, .int .i64 k0] w fun e w' => e = .returned (.int .i64 k0) ∧ w = w' := by
  go_enter Sq.func14, Sq.ntmps14
  go_wp2
  go_rounds 1
  go_ret
  exact ⟨rfl, rfl⟩

/-- What marking leaves. -/
def Marked (E : TypeId) (w : World) (B : Nat) (v : Value) (n : Nat) (k0 : Int) (e : Ending) (w' : World) : Prop :=
  e = .returned (.int .i64 (k0 + n)) ∧ Own E w' B v (marks k0 n) ∧ ∀ lo hi, (∀ b, v.ownBlock = some b → lo ≤ b ∧ b < hi) → Only lo hi w w'

theorem mark_i {E : TypeId} {w : World} {B : Nat} {v : Value} {xs : List Int} (k0 : Int) (h : Own E w B v xs) (hn : xs.length < 1000000000) (hk0 : 0 ≤ k0) (hk1 : k0 < 100000000000) :
    Calls Sq.prog 14 #[v, .int .i64 k0] w (Marked E w B v xs.length k0) := by
  have h0 := h
  obtain ⟨a, c, rfl, k⟩ := h.shape
  by_cases hx : xs = []
  · subst hx
    refine (mark_none a c k0 w).mono fun e w' ⟨he, hw⟩ => ?_
    subst hw
    exact ⟨by rw [he]; simp, h0, fun _ _ _ => Only.refl _ _ _⟩
  · obtain ⟨g, rfl, _⟩ := k hx
    refine (mark_core g c B xs k0 w hn hk0 hk1 h0).mono fun e w' ⟨he, ho, hb⟩ => ⟨he, ho, fun lo hi hr => ?_⟩
    obtain ⟨h1, h2⟩ := hr g rfl
    exact ⟨hb.os, hb.tape, hb.output, hb.size, fun k hk hd => hb.block k hk (by omega)⟩

set_option maxHeartbeats 400000 in
theorem held_core (n g c : Nat) (k0 : Int) (w : World) (hn : n < 1000000000) (hk0 : 0 ≤ k0) (hk1 : k0 < 100000000000) (H : Ints w g 0 n (fun i => k0 + i)) :
    Calls Sq.prog 15 #[.slice (some ⟨g, 0, none⟩) n c, .int .i64 k0] w fun e w' => e = .returned (.int .i64 (k0 + n)) ∧ Below w.heap.size w w' := by
  go_enter Sq.func15, Sq.ntmps15
  go_wp2
  go_loopw [1, 5] (fun kv i wr => ∃ j : Nat, j ≤ n ∧ i = .int .i64 j ∧ kv = .int .i64 (k0 + j) ∧ Below w.heap.size w wr) (fun _ i _ => n - (intOf i).toNat)
  case atStart => exact ⟨0, Nat.zero_le _, rfl, by go_num, Below.refl _ _⟩
  case round =>
    obtain ⟨j, hj, rfl, rfl, hb⟩ := hrel
    by_cases hlt : j < n
    · have c1 := Below.cellOf hb rfl (H.at0 j hlt)
      go_wp2
      go_roundw
      case rel => exact ⟨j + 1, by omega, by go_num, by go_num, hb⟩
      case measure => simp [intOf]; omega
    · obtain rfl : j = n := by omega
      go_wp2
      go_ret
      exact ⟨rfl, hb⟩

theorem held_none (a : Option Addr) (c : Nat) (k0 : Int) (w : World) :
    Calls Sq.prog 15 #[.slice a 0 c, .int .i64 k0] w fun e w' => e = .returned (.int .i64 k0) ∧ w = w' := by
  go_enter Sq.func15, Sq.ntmps15
  go_wp2
  go_rounds 1
  go_ret
  exact ⟨rfl, rfl⟩

theorem held_i {E : TypeId} {w : World} {B : Nat} {v : Value} {n : Nat} (k0 : Int) (h : Own E w B v (marks k0 n)) (hn : n < 1000000000) (hk0 : 0 ≤ k0) (hk1 : k0 < 100000000000) :
    Calls Sq.prog 15 #[v, .int .i64 k0] w fun e w' => e = .returned (.int .i64 (k0 + n)) ∧ Below w.heap.size w w' := by
  obtain ⟨a, c, rfl, k⟩ := h.shape
  have hl := marks_length k0 n
  by_cases hx : n = 0
  · subst hx
    refine (held_none a c k0 w).mono fun e w' ⟨he, hw⟩ => ?_
    subst hw
    exact ⟨by rw [he]; simp, Below.refl _ _⟩
  · obtain ⟨g, rfl, _, _, _, _, hi, _⟩ := k (fun e => by rw [e] at hl; simp at hl; omega)
    rw [hl] at hi ⊢
    refine held_core n g c k0 w hn hk0 hk1 fun i h => ?_
    rw [hi i h]
    exact congrArg (fun x => some (Value.int .i64 x)) (marks_get k0 n i h)
end Go.Proofs.Ytpigjhagdpeofaa

namespace Go.Proofs.Ytpigjhagdpeofaa
open Go.ChangeShapes Go.WideShapes Go.RowKit

theorem openI {H : Type} {enc : TypeId × Value → H} {P : Program} {w : World} {fuel : Nat} {t e : TypeId} {v : Value} {x : DataW H × List MemPlace} (ht : P.underlying t = some (.slice e)) (he : P.underlying e = some (.int .i64)) (hc : P.cellsOf e = 1)
    (h : DataW.trod enc P w 0 (fun _ => true) true fuel t [v] = some x) : ∃ (xs : List Int) (ad : Option Addr) (cap : Nat), v = .slice ad xs.length cap ∧ InI w (.slice ad xs.length cap) xs := by
  rcases open_ints ht he hc h with ⟨hcs, _⟩ | ⟨a, len, cap, zs, hcs, _, hl, hm, hz, hx, hcell, hwz⟩
  · simp at hcs
    subst hcs
    exact ⟨[], none, 0, rfl, none, 0, rfl, fun h => absurd rfl h⟩
  · simp at hcs
    subst hcs
    have hz' : zs.length = cap := by simpa using hz
    have hlen : (zs.take len).length = len := by rw [List.length_take]; omega
    refine ⟨zs.take len, some a, cap, by rw [hlen], some a, cap, by rw [hlen], fun hne => ?_⟩
    have h0 : 0 < zs.length := by
      rcases Nat.eq_zero_or_pos zs.length with h0 | h0
      · exfalso; apply hne; rw [List.eq_nil_of_length_eq_zero h0, List.take_nil]
      · exact h0
    obtain ⟨b, off, spot⟩ := a
    have hspot : spot = none := by simpa [Addr.add] using World.cell?_spot (hcell 0 h0)
    subst hspot
    refine ⟨b, off, rfl, fun i hi => ?_⟩
    have hi' : i < len := by omega
    have := hcell i (by omega)
    have e1 : (⟨b, off, none⟩ : Addr).add i = ⟨b, off + i, none⟩ := by unfold Addr.add; split <;> simp_all
    rw [e1] at this
    rw [this]
    simp [List.getD, hi']
theorem openI' {H : Type} {enc : TypeId × Value → H} {P : Program} {w : World} {t e : TypeId} {v : Value} {d : DataW H} {p : List MemPlace} (ht : P.underlying t = some (.slice e)) (he : P.underlying e = some (.int .i64)) (hc : P.cellsOf e = 1)
    {r : Reach} {b0 : Nat} (hv : Value.okWide P w r b0 t v) (h : DataW.Trod enc P w 0 (fun _ => true) true t v d p) : ∃ (xs : List Int) (ad : Option Addr) (cap : Nat), v = .slice ad xs.length cap ∧ InI w (.slice ad xs.length cap) xs := by
  obtain ⟨a, len, cap, rfl⟩ := okWide_slice ht hv
  obtain ⟨fuel, hf⟩ := h
  exact openI ht he hc (by simpa [Value.cells] using hf)
theorem lt_of_trod {H : Type} {enc : TypeId × Value → H} {P : Program} {w : World} {b : Nat} {s : Nat → Bool} {hd : Bool} {t : TypeId} {v : Value} {d : DataW H} {p : List MemPlace} (h : DataW.Trod enc P w b s hd t v d p) : ∀ x ∈ p, x.block < w.heap.size := by
  obtain ⟨m, hm⟩ := h
  exact DataW.trod_lt m _ _ _ hm
end Go.Proofs.Ytpigjhagdpeofaa

namespace Go.Proofs.Ytpigjhagdpeofaa
open Go.RowKit Go.Proofs.Ytpigjhagdpeofaa.Sim
set_option linter.unusedVariables false
section
variable {n : Nat} {F : Nat → Int} {W : World}
theorem lone_cellA {a : Addr} (h : 4 ≤ a.block) : (lone0 n F W).cell? a = W.cell? ⟨a.block - 2, a.off, a.spot⟩ := by
  show (match (Sq.h (loneL n F W))[a.block]? with | some (.cells c _ _) => if a.spot.isSome then none else c[a.off]? | _ => none) = W.cell? ⟨a.block - 2, a.off, a.spot⟩
  rw [lone_at h]
  unfold World.cell?
  cases W.heap[a.block - 2]? with
  | none => rfl
  | some o => cases o <;> rfl
theorem lone_cell {b i : Nat} (h : 2 ≤ b) : (lone0 n F W).cell? ⟨b + 2, i, none⟩ = W.cell? ⟨b, i, none⟩ := lone_cellA (a := ⟨b + 2, i, none⟩) (by show 4 ≤ b + 2; omega)
/-- Two blocks up. -/
def up2 (a : Option Addr) : Option Addr := a.map fun a => ⟨a.block + 2, a.off, a.spot⟩
theorem InR.lone {k c : Nat} {ad : Option Addr} {X : Rec} (h : InR k W (.slice ad X.length c) X) (h2 : ∀ a, ad = some a → 2 ≤ a.block) : InR k (lone0 n F W) (.slice (up2 ad) X.length c) X := by
  obtain ⟨a, cap, hv, hm, ha⟩ := h
  cases hv
  refine ⟨_, _, rfl, hm, fun hx => ?_⟩
  obtain ⟨g, off, rfl, hI⟩ := ha hx
  have hg : 2 ≤ g := h2 _ rfl
  exact ⟨g + 2, off, rfl, fun i hi j hj => by rw [lone_cell hg]; exact hI i hi j hj⟩
theorem InI.lone {c : Nat} {ad : Option Addr} {xs : List Int} (h : InI W (.slice ad xs.length c) xs) (h2 : ∀ a, ad = some a → 2 ≤ a.block) : InI (lone0 n F W) (.slice (up2 ad) xs.length c) xs := by
  obtain ⟨a, cap, hv, ha⟩ := h
  cases hv
  refine ⟨_, _, rfl, fun hx => ?_⟩
  obtain ⟨g, off, rfl, hI⟩ := ha hx
  have hg : 2 ≤ g := h2 _ rfl
  exact ⟨g + 2, off, rfl, fun i hi => by rw [lone_cell hg]; exact hI i hi⟩
theorem lone_sat (h2 : 2 ≤ W.heap.size) : Sat2 n F (lone0 n F W) := by
  refine ⟨⟨#[.int .i64 0, .nilFunc], 58, rfl, rfl⟩, fun p hp => ?_, ?_⟩
  · show (Sq.rowF n F)[p]? = _
    exact Sq.rowF_at hp
  · have : (lone0 n F W).heap.size = W.heap.size + 2 := lone_size h2
    omega
theorem Sat2.tp {w : World} (h : Sat2 n F w) (U : Nat → Question → Nat) (K : Nat) : Sat2 n F (Sim.tp w U K) := ⟨h.box, h.orc, h.low⟩
end
end Go.Proofs.Ytpigjhagdpeofaa
