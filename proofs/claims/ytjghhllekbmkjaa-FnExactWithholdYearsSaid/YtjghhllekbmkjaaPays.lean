/-
  impl.arePays and spec.l02Pays tell whether a list has pays. Condition: fewer than 1000000000 integers.
-/
import Derived.Test.YtjghhllekbmkjaaWithin
import Derived.Test.YtjghhllekbmkjaaTotal
namespace Go.Proofs.Ytjghhllekbmkjaa
open Go.RowKit
set_option linter.unusedVariables false

def paysOk (f : Nat → Int) (n : Nat) : Bool := cntB f n 1 60 0 1000000000000 && isAmount (sumTo f n)
theorem pays_no1 {f : Nat → Int} {n : Nat} (h : cntB f n 1 60 0 1000000000000 = false) : paysOk f n = false := by simp only [paysOk, h, Bool.false_and]
theorem pays_no2 {f : Nat → Int} {n : Nat} (h : isAmount (sumTo f n) = false) : paysOk f n = false := by simp only [paysOk, h, Bool.and_false]
theorem pays_out {f : Nat → Int} {n : Nat} (h : cntB f n 1 60 0 1000000000000 = true) : paysOk f n = isAmount (sumTo f n) := by simp only [paysOk, h, Bool.true_and]
theorem sum_mono {f : Nat → Int} {n : Nat} (h : ∀ i, i < n → 0 ≤ f i) : ∀ m k, k + m ≤ n → sumTo f k ≤ sumTo f (k + m) := by
  intro m
  induction m with
  | zero => intro k _; exact Int.le_refl _
  | succ m ih =>
    intro k hk
    have := ih k (by omega)
    have := h (k + m) (by omega)
    show sumTo f k ≤ sumTo f (k + m) + f (k + m)
    omega
theorem pays_is {f : Nat → Int} {n : Nat} (h : paysOk f n = true) : 1 ≤ n ∧ n ≤ 60 ∧ (∀ i, i < n → 0 ≤ f i ∧ f i ≤ 1000000000000) ∧ ∀ k, k ≤ n → 0 ≤ sumTo f k ∧ sumTo f k ≤ 1000000000000 := by
  obtain ⟨h1, h2⟩ := all_yes2 h
  obtain ⟨⟨a, b⟩, c⟩ := cntB_iff.1 h1
  have s := win_iff.1 h2
  refine ⟨by omega, by omega, c, fun k hk => ⟨sumTo_nonneg (fun i hi => (c i hi).1) k hk, ?_⟩⟩
  have := sum_mono (fun i hi => (c i hi).1) (n - k) k (by omega)
  rw [show k + (n - k) = n by omega] at this
  omega
theorem pays_sum {f : Nat → Int} {n : Nat} (h1 : cntB f n 1 60 0 1000000000000 = true) : ∀ k, k ≤ n → 0 ≤ sumTo f k ∧ sumTo f k ≤ 60000000000000 := by
  obtain ⟨⟨a, b⟩, c⟩ := cntB_iff.1 h1
  intro k hk
  have := sumTo_bd c (Int.le_refl _) (by omega) k hk
  have := sumTo_nonneg (fun i hi => (c i hi).1) k hk
  omega

set_option maxHeartbeats 800000 in
theorem pays_impl (n g c : Nat) (f : Nat → Int) (w : World) (hn : n < 1000000000) (hI : Ints w g 0 n f) :
    Calls Try.prog 80 #[.slice (some ⟨g, 0, none⟩) n c] w (RetV w (.bool (paysOk f n))) := by
  cases h1 : cntB f n 1 60 0 1000000000000
  · rw [pays_no1 h1]
    go_enter Try.func80, Try.ntmps80
    go_wp2_with (first | (go_at_call 76; refine (hasCount_any n g 0 c f _ _ _ _ _ hn hI).mono ?_; rintro e w1 ⟨rfl, hb⟩))
    go_ret
    exact ⟨rfl, hb⟩
  · rw [pays_out h1]
    have HS : Hid (∀ k, k ≤ n → -9000000000000000000 ≤ sumTo f k ∧ sumTo f k ≤ 9000000000000000000) := fun k hk => by have := pays_sum h1 k hk; omega
    go_enter Try.func80, Try.ntmps80
    go_wp2_with (first | (go_at_call 54; refine (impl_isAmount_any _ _).mono ?_; rintro e w' ⟨rfl, rfl⟩) | (go_at_call 76; refine (hasCount_any n g 0 c f _ _ _ _ _ hn hI).mono ?_; rintro e w1 ⟨rfl, hb⟩) | (go_at_call 81; refine (total_any n g 0 c f _ hn (hI.below hb) HS).mono ?_; rintro e w2 ⟨rfl, rfl⟩))
    go_ret
    exact ⟨rfl, hb⟩

set_option maxHeartbeats 800000 in
theorem pays_spec (n g c : Nat) (f : Nat → Int) (w : World) (hn : n < 1000000000) (hI : Ints w g 0 n f) :
    Calls Try.prog 79 #[.slice (some ⟨g, 0, none⟩) n c] w (RetV w (.bool (paysOk f n))) := by
  by_cases n2 : ¬ (n : Int) ≤ 60
  · have HF : Hid (paysOk f n = false) := pays_no1 (cnt_no (win_not.2 (by omega)))
    have n0 : ¬ (n : Int) < 1 := by omega
    go_enter Try.func79, Try.ntmps79
    go_wp2
    go_rounds 1
    go_wp2
    go_ret
    exact ⟨ret_bool HF.out.symm, Below.refl _ _⟩
  have n2 := Classical.not_not.1 n2
  have HN : Hid (∀ i, i < n → isAmount (f i) = false → paysOk f n = false) := fun i hi h => pays_no1 (cnt_no2 (allW_false i hi h))
  have HY : Hid (allW f 0 1000000000000 n = true → paysOk f n = (decide ((1 : Int) ≤ n) && isAmount (sumTo f n))) := fun h => by
    simp only [paysOk, cntB, h, Bool.and_true, win, decide_eq_true n2]
  have HS : Hid (∀ k, k ≤ n → allW f 0 1000000000000 k = true → 0 ≤ sumTo f k ∧ sumTo f k ≤ 60000000000000) := fun k hk h => by
    have hf := allW_iff.1 h
    have := sumTo_bd hf (Int.le_refl _) (by omega) k (Nat.le_refl _)
    have := sumTo_nonneg (fun i hi => (hf i hi).1) k (Nat.le_refl _)
    omega
  generalize hP : paysOk f n = P at *
  clear hP
  go_enter Try.func79, Try.ntmps79
  go_wp2
  go_loop [3, 4] (fun s i => ∃ k : Nat, k ≤ n ∧ i = .int .i64 k ∧ s = .int .i64 (sumTo f k) ∧ Hid (allW f 0 1000000000000 k = true)) (fun _ i => n - (intOf i).toNat)
  case atStart => exact ⟨0, Nat.zero_le _, rfl, rfl, rfl⟩
  case round =>
    obtain ⟨k, hk, rfl, rfl, ha⟩ := hrel
    by_cases hlt : k < n
    · have hc := hI.at0 k hlt
      cases hx : isAmount (f k)
      · have HF := Lib.hid (HN.out k hlt hx)
        go_wp2_with (first | (go_at_call 57; refine (spec_l02Cents_any _ _).mono ?_; rintro e w' ⟨rfl, rfl⟩))
        go_ret
        exact ⟨ret_bool HF.out.symm, Below.refl _ _⟩
      · have s1 := HS.out k hk ha.out
        have f1 := win_iff.1 hx
        have HE : Hid (sumTo f (k + 1) = sumTo f k + f k) := rfl
        have HA := Lib.hid (allW_succ ha.out hx)
        go_wp2_with (first | (go_at_call 57; refine (spec_l02Cents_any _ _).mono ?_; rintro e w' ⟨rfl, rfl⟩))
        go_round
        case rel => exact ⟨k + 1, by omega, by go_num, by rw [HE.out], HA⟩
        case measure => simp [intOf]; omega
    · obtain rfl : k = n := by omega
      have HF := Lib.hid (HY.out ha.out)
      by_cases h1 : (1 : Int) ≤ k
      · have HD : Hid (decide ((1 : Int) ≤ k) = true) := decide_eq_true h1
        go_wp2_with (first | (go_at_call 57; refine (spec_l02Cents_any _ _).mono ?_; rintro e w' ⟨rfl, rfl⟩))
        go_ret
        exact ⟨ret_bool (by rw [HF.out, HD.out]; rfl), Below.refl _ _⟩
      · have HD : Hid (decide ((1 : Int) ≤ k) = false) := decide_eq_false h1
        go_wp2_with (first | (go_at_call 57; refine (spec_l02Cents_any _ _).mono ?_; rintro e w' ⟨rfl, rfl⟩))
        go_ret
        exact ⟨ret_bool (by rw [HF.out, HD.out]; rfl), Below.refl _ _⟩
end Go.Proofs.Ytjghhllekbmkjaa
