/-
  impl.arePlaces and spec.l04Weights tell whether a list has weights of places. Condition: fewer than 1000000000 integers.
-/
import Derived.Test.YtmkijibfgdeidaaWithin
import Derived.Test.YtmkijibfgdeidaaTotal
namespace Go.Proofs.Ytmkijibfgdeidaa
open Go.RowKit
set_option linter.unusedVariables false

def plcOk (f : Nat → Int) (n : Nat) : Bool := cntB f n 1 12 0 1000000000 && decide (0 < sumTo f n)
theorem plc_no1 {f : Nat → Int} {n : Nat} (h : cntB f n 1 12 0 1000000000 = false) : plcOk f n = false := by simp only [plcOk, h, Bool.false_and]
theorem plc_out {f : Nat → Int} {n : Nat} (h : cntB f n 1 12 0 1000000000 = true) : plcOk f n = decide (0 < sumTo f n) := by simp only [plcOk, h, Bool.true_and]
theorem plc_mono {f : Nat → Int} {n : Nat} (h : ∀ i, i < n → 0 ≤ f i) : ∀ m k, k + m ≤ n → sumTo f k ≤ sumTo f (k + m) := by
  intro m
  induction m with
  | zero => intro k _; exact Int.le_refl _
  | succ m ih =>
    intro k hk
    have := ih k (by omega)
    have := h (k + m) (by omega)
    show sumTo f k ≤ sumTo f (k + m) + f (k + m)
    omega
theorem plc_is {f : Nat → Int} {n : Nat} (h : plcOk f n = true) : 1 ≤ n ∧ n ≤ 12 ∧ (∀ i, i < n → 0 ≤ f i ∧ f i ≤ 1000000000) ∧ (0 < sumTo f n ∧ sumTo f n ≤ 12000000000) ∧ ∀ k, k ≤ n → 0 ≤ sumTo f k ∧ sumTo f k ≤ sumTo f n := by
  obtain ⟨h1, h2⟩ := all_yes2 h
  obtain ⟨⟨a, b⟩, c⟩ := cntB_iff.1 h1
  have s : 0 < sumTo f n := of_decide_eq_true h2
  have t := (sumTo_bd c (Int.le_refl _) (by omega) n (Nat.le_refl _)).2
  refine ⟨by omega, by omega, c, ⟨s, by omega⟩, fun k hk => ⟨sumTo_nonneg (fun i hi => (c i hi).1) k hk, ?_⟩⟩
  have := plc_mono (fun i hi => (c i hi).1) (n - k) k (by omega)
  rwa [show k + (n - k) = n by omega] at this

set_option maxHeartbeats 800000 in
theorem places_impl (n g c : Nat) (f : Nat → Int) (w : World) (hn : n < 1000000000) (hI : Ints w g 0 n f) :
    Calls Try.prog 19 #[.slice (some ⟨g, 0, none⟩) n c] w (RetV w (.bool (plcOk f n))) := by
  cases h1 : cntB f n 1 12 0 1000000000
  · rw [plc_no1 h1]
    go_enter Try.func19, Try.ntmps19
    go_wp2_with (first | (go_at_call 23; refine (hasCount_any n g 0 c f _ _ _ _ _ hn hI).mono ?_; rintro e w1 ⟨rfl, hb⟩))
    go_ret
    exact ⟨rfl, hb⟩
  · rw [plc_out h1]
    obtain ⟨⟨n1, n2⟩, hf⟩ := cntB_iff.1 h1
    have HS : Hid (∀ k, k ≤ n → -9000000000000000000 ≤ sumTo f k ∧ sumTo f k ≤ 9000000000000000000) := fun k hk => by
      have := sumTo_bd hf (Int.le_refl _) (by omega) k hk
      have := sumTo_nonneg (fun i hi => (hf i hi).1) k hk
      omega
    clear hf
    go_enter Try.func19, Try.ntmps19
    go_wp2_with (first | (go_at_call 23; refine (hasCount_any n g 0 c f _ _ _ _ _ hn hI).mono ?_; rintro e w1 ⟨rfl, hb⟩) | (go_at_call 18; refine (total_any n g 0 c f _ hn (hI.below hb) HS).mono ?_; rintro e w2 ⟨rfl, rfl⟩))
    go_ret
    exact ⟨rfl, hb⟩

/-- A sum, if it is one of weights, and whether it is. -/
def PlcOf (f : Nat → Int) (n : Nat) (w : World) (e : Ending) (w' : World) : Prop := ∃ s : Int, e = .returned (.tuple #[.int .i64 s, .bool (plcOk f n)]) ∧ (plcOk f n = true → s = sumTo f n) ∧ w = w'
set_option maxHeartbeats 800000 in
theorem places_spec (n g c : Nat) (f : Nat → Int) (w : World) (hn : n < 1000000000) (hI : Ints w g 0 n f) :
    Calls Try.prog 15 #[.slice (some ⟨g, 0, none⟩) n c] w (PlcOf f n w) := by
  by_cases n2 : ¬ (n : Int) ≤ 12
  · have HF : Hid (plcOk f n = false) := plc_no1 (cnt_no (win_not.2 (by omega)))
    generalize hP : plcOk f n = P at *
    have HP := Lib.hid hP
    clear hP
    go_enter Try.func15, Try.ntmps15
    go_wp2
    go_rounds 1
    go_wp2
    go_ret2
    exact ⟨0, ret_ib2 rfl (by rw [HP.out, HF.out]), (fun h => by rw [HP.out, HF.out] at h; cases h), rfl⟩
  have n2 := Classical.not_not.1 n2
  have HN : Hid (∀ i, i < n → win (f i) 0 1000000000 = false → plcOk f n = false) := fun i hi h => plc_no1 (cnt_no2 (allW_false i hi h))
  have HY : Hid (allW f 0 1000000000 n = true → plcOk f n = decide (0 < sumTo f n)) := fun h => by
    by_cases h0 : n = 0
    · subst h0; rfl
    · have h1 : (1 : Int) ≤ n := by omega
      simp only [plcOk, cntB, h, Bool.and_true, win, decide_eq_true h1, decide_eq_true n2, Bool.true_and]
  have HS : Hid (∀ k, k ≤ n → allW f 0 1000000000 k = true → 0 ≤ sumTo f k ∧ sumTo f k ≤ 12000000000) := fun k hk h => by
    have hf := allW_iff.1 h
    have := (sumTo_bd hf (Int.le_refl _) (by omega) k (Nat.le_refl _)).2
    have := sumTo_nonneg (fun i hi => (hf i hi).1) k (Nat.le_refl _)
    omega
  generalize hP : plcOk f n = P at *
  have HP := Lib.hid hP
  clear hP
  go_enter Try.func15, Try.ntmps15
  go_wp2
  go_loop [5, 4] (fun i s => ∃ k : Nat, k ≤ n ∧ i = .int .i64 k ∧ s = .int .i64 (sumTo f k) ∧ Hid (allW f 0 1000000000 k = true)) (fun i _ => n - (intOf i).toNat)
  case atStart => exact ⟨0, Nat.zero_le _, rfl, rfl, rfl⟩
  case round =>
    obtain ⟨k, hk, rfl, rfl, ha⟩ := hrel
    have s1 := HS.out k hk ha.out
    by_cases hlt : k < n
    · have hc := hI.at0 k hlt
      cases hx : win (f k) 0 1000000000
      · have HF := Lib.hid (HN.out k hlt hx)
        go_wp2_with (first | (go_at_call 16; refine (spec_l00In_any _ _ _ _).mono ?_; rintro e w' ⟨rfl, rfl⟩))
        go_ret2
        exact ⟨0, ret_ib2 rfl (by rw [HP.out, HF.out]), (fun h => by rw [HP.out, HF.out] at h; cases h), rfl⟩
      · have f1 := win_iff.1 hx
        have HE : Hid (sumTo f (k + 1) = sumTo f k + f k) := rfl
        have HA := Lib.hid (allW_succ ha.out hx)
        go_wp2_with (first | (go_at_call 16; refine (spec_l00In_any _ _ _ _).mono ?_; rintro e w' ⟨rfl, rfl⟩))
        go_round
        case rel => exact ⟨k + 1, by omega, by go_num, by rw [HE.out], HA⟩
        case measure => simp [intOf]; omega
    · obtain rfl : k = n := by omega
      have HF := Lib.hid (HY.out ha.out)
      go_wp2
      go_ret2
      exact ⟨sumTo f k, ret_ib2 rfl (by rw [HP.out, HF.out]), (fun _ => rfl), rfl⟩
end Go.Proofs.Ytmkijibfgdeidaa
