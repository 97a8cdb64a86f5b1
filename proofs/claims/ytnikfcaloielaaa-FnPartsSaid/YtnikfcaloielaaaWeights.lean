/-
  impl.areWeights and spec.l03Weights tell whether a list has weights. Condition: fewer than 1000000000 integers.
-/
import Derived.Test.YtnikfcaloielaaaWithin
import Derived.Test.YtnikfcaloielaaaTotal
namespace Go.Proofs.Ytnikfcaloielaaa
open Go.RowKit
set_option linter.unusedVariables false

def wgtOk (f : Nat → Int) (n : Nat) : Bool := cntB f n 1 24 0 1000000000 && decide (0 < sumTo f n)
theorem wgt_no1 {f : Nat → Int} {n : Nat} (h : cntB f n 1 24 0 1000000000 = false) : wgtOk f n = false := by simp only [wgtOk, h, Bool.false_and]
theorem wgt_out {f : Nat → Int} {n : Nat} (h : cntB f n 1 24 0 1000000000 = true) : wgtOk f n = decide (0 < sumTo f n) := by simp only [wgtOk, h, Bool.true_and]
theorem sum_mono {f : Nat → Int} {n : Nat} (h : ∀ i, i < n → 0 ≤ f i) : ∀ m k, k + m ≤ n → sumTo f k ≤ sumTo f (k + m) := by
  intro m
  induction m with
  | zero => intro k _; exact Int.le_refl _
  | succ m ih =>
    intro k hk
    have := ih k (by omega)
    have := h (k + m) (by omega)
    show sumTo f k ≤ sumTo f (k + m) + f (k + m)
    omega
theorem wgt_is {f : Nat → Int} {n : Nat} (h : wgtOk f n = true) : 1 ≤ n ∧ n ≤ 24 ∧ (∀ i, i < n → 0 ≤ f i ∧ f i ≤ 1000000000) ∧ (0 < sumTo f n ∧ sumTo f n ≤ 24000000000) ∧ ∀ k, k ≤ n → 0 ≤ sumTo f k ∧ sumTo f k ≤ sumTo f n := by
  obtain ⟨h1, h2⟩ := all_yes2 h
  obtain ⟨⟨a, b⟩, c⟩ := cntB_iff.1 h1
  have s : 0 < sumTo f n := of_decide_eq_true h2
  have t := (sumTo_bd c (Int.le_refl _) (by omega) n (Nat.le_refl _)).2
  refine ⟨by omega, by omega, c, ⟨s, by omega⟩, fun k hk => ⟨sumTo_nonneg (fun i hi => (c i hi).1) k hk, ?_⟩⟩
  have := sum_mono (fun i hi => (c i hi).1) (n - k) k (by omega)
  rwa [show k + (n - k) = n by omega] at this

set_option maxHeartbeats 800000 in
theorem weights_impl (n g c : Nat) (f : Nat → Int) (w : World) (hn : n < 1000000000) (hI : Ints w g 0 n f) :
    Calls Try.prog 37 #[.slice (some ⟨g, 0, none⟩) n c] w (RetV w (.bool (wgtOk f n))) := by
  cases h1 : cntB f n 1 24 0 1000000000
  · rw [wgt_no1 h1]
    go_enter Try.func37, Try.ntmps37
    go_wp2_with (first | (go_at_call 65; refine (hasCount_any n g 0 c f _ _ _ _ _ hn hI).mono ?_; rintro e w1 ⟨rfl, hb⟩))
    go_ret
    exact ⟨rfl, hb⟩
  · rw [wgt_out h1]
    obtain ⟨⟨n1, n2⟩, hf⟩ := cntB_iff.1 h1
    have HS : Hid (∀ k, k ≤ n → -9000000000000000000 ≤ sumTo f k ∧ sumTo f k ≤ 9000000000000000000) := fun k hk => by
      have := sumTo_bd hf (Int.le_refl _) (by omega) k hk
      have := sumTo_nonneg (fun i hi => (hf i hi).1) k hk
      omega
    clear hf
    go_enter Try.func37, Try.ntmps37
    go_wp2_with (first | (go_at_call 65; refine (hasCount_any n g 0 c f _ _ _ _ _ hn hI).mono ?_; rintro e w1 ⟨rfl, hb⟩) | (go_at_call 38; refine (total_any n g 0 c f _ hn (hI.below hb) HS).mono ?_; rintro e w2 ⟨rfl, rfl⟩))
    go_ret
    exact ⟨rfl, hb⟩

/-- A sum, if it is one of weights, and whether it is. -/
def SumOf (f : Nat → Int) (n : Nat) (w : World) (e : Ending) (w' : World) : Prop := ∃ s : Int, e = .returned (.tuple #[.int .i64 s, .bool (wgtOk f n)]) ∧ (wgtOk f n = true → s = sumTo f n) ∧ w = w'
set_option maxHeartbeats 800000 in
theorem weights_spec (n g c : Nat) (f : Nat → Int) (w : World) (hn : n < 1000000000) (hI : Ints w g 0 n f) :
    Calls Try.prog 33 #[.slice (some ⟨g, 0, none⟩) n c] w (SumOf f n w) := by
  have HN : Hid (∀ i, i < n → win (f i) 0 1000000000 = false → wgtOk f n = false) := fun i hi h => wgt_no1 (cnt_no2 (allW_false i hi h))
  have HY : Hid (allW f 0 1000000000 n = true → wgtOk f n = (decide ((n : Int) ≤ 24) && decide (0 < sumTo f n))) := fun h => by
    by_cases h0 : n = 0
    · subst h0; rfl
    · have h1 : (1 : Int) ≤ n := by omega
      simp only [wgtOk, cntB, h, Bool.and_true, win, decide_eq_true h1, Bool.true_and]
  have HS : Hid (∀ k, k ≤ n → allW f 0 1000000000 k = true → 0 ≤ sumTo f k ∧ sumTo f k ≤ 1000000000000000000) := fun k hk h => by
    have hf := allW_iff.1 h
    have := (sumTo_bd hf (Int.le_refl _) (by omega) k (Nat.le_refl _)).2
    have := sumTo_nonneg (fun i hi => (hf i hi).1) k (Nat.le_refl _)
    omega
  generalize hP : wgtOk f n = P at *
  have HP := Lib.hid hP
  clear hP
  go_enter Try.func33, Try.ntmps33
  go_wp2
  go_loop [8, 4] (fun i s => ∃ k : Nat, k ≤ n ∧ i = .int .i64 k ∧ s = .int .i64 (sumTo f k) ∧ Hid (allW f 0 1000000000 k = true)) (fun i _ => n - (intOf i).toNat)
  case atStart => exact ⟨0, Nat.zero_le _, rfl, rfl, rfl⟩
  case round =>
    obtain ⟨k, hk, rfl, rfl, ha⟩ := hrel
    have s1 := HS.out k hk ha.out
    by_cases hlt : k < n
    · have hc := hI.at0 k hlt
      cases hx : win (f k) 0 1000000000
      · have HF := Lib.hid (HN.out k hlt hx)
        go_wp2_with (first | (go_at_call 34; refine (spec_l00In_any _ _ _ _).mono ?_; rintro e w' ⟨rfl, rfl⟩))
        go_ret2
        exact ⟨0, ret_ib2 rfl (by rw [HP.out, HF.out]), (fun h => by rw [HP.out, HF.out] at h; cases h), rfl⟩
      · have f1 := win_iff.1 hx
        have HE : Hid (sumTo f (k + 1) = sumTo f k + f k) := rfl
        have HA := Lib.hid (allW_succ ha.out hx)
        go_wp2_with (first | (go_at_call 34; refine (spec_l00In_any _ _ _ _).mono ?_; rintro e w' ⟨rfl, rfl⟩))
        go_round
        case rel => exact ⟨k + 1, by omega, by go_num, by rw [HE.out], HA⟩
        case measure => simp [intOf]; omega
    · obtain rfl : k = n := by omega
      have HF := Lib.hid (HY.out ha.out)
      by_cases h1 : (k : Int) ≤ 24
      · have HD : Hid (decide ((k : Int) ≤ 24) = true) := decide_eq_true h1
        go_wp2
        go_ret2
        exact ⟨sumTo f k, ret_ib2 rfl (by rw [HP.out, HF.out, HD.out]; rfl), (fun _ => rfl), rfl⟩
      · have HD : Hid (decide ((k : Int) ≤ 24) = false) := decide_eq_false h1
        go_wp2
        go_ret2
        exact ⟨sumTo f k, ret_ib2 rfl (by rw [HP.out, HF.out, HD.out]; rfl), (fun _ => rfl), rfl⟩
end Go.Proofs.Ytnikfcaloielaaa
