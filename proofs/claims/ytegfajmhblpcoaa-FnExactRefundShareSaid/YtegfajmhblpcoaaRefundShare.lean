/-
  impl.RefundShare and spec.RefundShare answer alike: every list of fewer than 1000000000 dues. No other condition.
-/
import Derived.Test.YtegfajmhblpcoaaWithin
import Derived.Test.YtegfajmhblpcoaaTotal
import Derived.Test.YtegfajmhblpcoaaAmount
import Derived.Test.YtegfajmhblpcoaaAmountsS
namespace Go.Proofs.Ytegfajmhblpcoaa
open Go.RowKit
set_option linter.unusedVariables false

def refOk (f : Nat → Int) (n : Nat) (a b : Int) : Bool := cntB f n 1 32 0 1000000000000 && win b 1 10000 && win a 0 b
def ref1 (f : Nat → Int) (n : Nat) (a b : Int) : Bool := refOk f n a b && isAmount (sumTo f n * a / b)
def ref0 (f : Nat → Int) (n : Nat) (a b : Int) : Int := if ref1 f n a b then sumTo f n * a / b else 0
theorem ref_no {f : Nat → Int} {n : Nat} {a b : Int} (h : refOk f n a b = false) : ref0 f n a b = 0 ∧ ref1 f n a b = false := by simp [ref0, ref1, h]
theorem ref_no2 {f : Nat → Int} {n : Nat} {a b : Int} (h : isAmount (sumTo f n * a / b) = false) : ref0 f n a b = 0 ∧ ref1 f n a b = false := by
  have : ref1 f n a b = false := by simp only [ref1, h, Bool.and_false]
  simp [ref0, this]
theorem ref_yes {f : Nat → Int} {n : Nat} {a b : Int} (h : refOk f n a b = true) (h2 : isAmount (sumTo f n * a / b) = true) : ref0 f n a b = sumTo f n * a / b ∧ ref1 f n a b = true := by
  have : ref1 f n a b = true := by simp only [ref1, h, h2, Bool.and_true]
  simp [ref0, this]
def RefundShare_r1 (xs : List Int) (a b : Int) : Bool := ref1 (fun i => xs.getD i 0) xs.length a b
def RefundShare_r0 (xs : List Int) (a b : Int) : Int := ref0 (fun i => xs.getD i 0) xs.length a b
theorem ref_bd {f : Nat → Int} {n : Nat} {a b : Int} (h : refOk f n a b = true) : (∀ i, i < n → 0 ≤ f i ∧ f i ≤ 1000000000000) ∧ (1 ≤ b ∧ b ≤ 10000) ∧ (0 ≤ a ∧ a ≤ b) ∧ (n : Int) ≤ 32 ∧
    (∀ k, k ≤ n → 0 ≤ sumTo f k ∧ sumTo f k ≤ 32000000000000) ∧ 0 ≤ sumTo f n * a ∧ sumTo f n * a ≤ 320000000000000000 := by
  obtain ⟨h1, h2, h3⟩ := all_yes3 h
  obtain ⟨⟨n1, n2⟩, hf⟩ := cntB_iff.1 h1
  obtain ⟨b0, b1⟩ := win_iff.1 h2
  obtain ⟨a0, a1⟩ := win_iff.1 h3
  have hs : ∀ k, k ≤ n → 0 ≤ sumTo f k ∧ sumTo f k ≤ 32000000000000 := fun k hk => by
    have := sumTo_bd hf (Int.le_refl _) (by omega) k hk
    have := sumTo_nonneg (fun i hi => (hf i hi).1) k hk
    omega
  have hn := hs n (Nat.le_refl _)
  refine ⟨hf, ⟨b0, b1⟩, ⟨a0, a1⟩, n2, hs, Int.mul_nonneg hn.1 a0, ?_⟩
  have : sumTo f n * a ≤ 32000000000000 * 10000 := Int.mul_le_mul hn.2 (by omega) a0 (by omega)
  omega

theorem ref_impl_core (n g c : Nat) (f : Nat → Int) (a b : Int) (w : World) (hn : n < 1000000000) (hI : Ints w g 0 n f) :
    Calls Try.prog 17 #[.slice (some ⟨g, 0, none⟩) n c, .int .i64 a, .int .i64 b] w (RetV w (.tuple #[.int .i64 (ref0 f n a b), .bool (ref1 f n a b)])) := by
  cases h : refOk f n a b
  · rw [(ref_no h).1, (ref_no h).2]
    rcases first_no3 h with h1 | ⟨h1, h2 | ⟨h2, h3⟩⟩
    all_goals
      clear h
      go_enter Try.func17, Try.ntmps17
      go_wp2_with (first | (go_at_call 55; refine (impl_within_any _ _ _ _).mono ?_; rintro e w' ⟨rfl, rfl⟩) | (go_at_call 54; refine (hasCount_any n g 0 c f _ _ _ _ _ hn hI).mono ?_; rintro e w1 ⟨rfl, hb⟩))
      go_ret2
      exact ⟨rfl, hb⟩
  · obtain ⟨hf, ⟨b0, b1⟩, ⟨a0, a1⟩, n2, hs, p0, p1⟩ := ref_bd h
    obtain ⟨h1, h2, h3⟩ := all_yes3 h
    have HS : Hid (∀ k, k ≤ n → -9000000000000000000 ≤ sumTo f k ∧ sumTo f k ≤ 9000000000000000000) := fun k hk => by have := hs k hk; omega
    have hs0 := hs n (Nat.le_refl _)
    have q0 : 0 ≤ sumTo f n * a / b := Int.ediv_nonneg p0 (by omega)
    have q1 : sumTo f n * a / b ≤ sumTo f n * a := Int.ediv_le_self _ p0
    have E : (isAmount (sumTo f n * a / b) = false ∧ amt (sumTo f n * a / b) = 0 ∧ ref0 f n a b = 0 ∧ ref1 f n a b = false) ∨ (isAmount (sumTo f n * a / b) = true ∧ amt (sumTo f n * a / b) = sumTo f n * a / b ∧ ref0 f n a b = sumTo f n * a / b ∧ ref1 f n a b = true) := by
      cases hx : isAmount (sumTo f n * a / b)
      · exact .inl ⟨rfl, by simp [amt, hx], ref_no2 hx⟩
      · exact .inr ⟨rfl, by simp [amt, hx], ref_yes h hx⟩
    clear h hf hs hs0
    rcases E with ⟨hx, ha, e0, e1⟩ | ⟨hx, ha, e0, e1⟩
    all_goals
     rw [e0, e1]
     clear e0 e1
     go_enter Try.func17, Try.ntmps17
     go_wp2_with (first | (go_at_call 55; refine (impl_within_any _ _ _ _).mono ?_; rintro e w' ⟨rfl, rfl⟩) | (go_at_call 54; refine (hasCount_any n g 0 c f _ _ _ _ _ hn hI).mono ?_; rintro e w1 ⟨rfl, hb⟩) | (go_at_call 57; refine (total_any n g 0 c f _ hn (hI.below hb) HS).mono ?_; rintro e w2 ⟨rfl, rfl⟩) | (go_at_call 56; refine (amount_any _ _).mono ?_; rintro e w2 ⟨rfl, rfl⟩))
     go_ret2
     exact ⟨rfl, hb⟩

theorem RefundShare_impl {w : World} {B : Nat} {v : Value} {xs : List Int} (hv : RowI 2 w B v xs) (a b : Int) :
    Calls Try.prog 17 #[v, .int .i64 a, .int .i64 b] w (RetV w (.tuple #[.int .i64 (RefundShare_r0 xs a b), .bool (RefundShare_r1 xs a b)])) := by
  obtain ⟨g, c, rfl, _, _, _, _, hI, _, hn⟩ := hv.form
  exact ref_impl_core xs.length g c _ a b w hn hI

set_option maxHeartbeats 800000 in
theorem ref_spec_core (n g c : Nat) (f : Nat → Int) (a b : Int) (w : World) (hn : n < 1000000000) (hI : Ints w g 0 n f) :
    Calls Try.prog 15 #[.slice (some ⟨g, 0, none⟩) n c, .int .i64 a, .int .i64 b] w (RetV w (.tuple #[.int .i64 (ref0 f n a b), .bool (ref1 f n a b)])) := by
  cases h : refOk f n a b
  · rw [(ref_no h).1, (ref_no h).2]
    rcases first_no3 h with h1 | ⟨h1, h2 | ⟨h2, h3⟩⟩
    all_goals
      clear h
      go_enter Try.func15, Try.ntmps15
      go_wp2_with (first | (go_at_call 52; refine (spec_l00In_any _ _ _ _).mono ?_; rintro e w' ⟨rfl, rfl⟩) | (go_at_call 51; refine (l04Amounts_any n g c f _ _ hn hI).mono ?_; rintro e w1 ⟨rfl, hb⟩))
      go_ret2
      exact ⟨rfl, hb⟩
  · obtain ⟨hf, ⟨b0, b1⟩, ⟨a0, a1⟩, n2, hs, p0, p1⟩ := ref_bd h
    obtain ⟨h1, h2, h3⟩ := all_yes3 h
    have HS : Hid (∀ k, k ≤ n → 0 ≤ sumTo f k ∧ sumTo f k ≤ 32000000000000) := hs
    have q0 : 0 ≤ sumTo f n * a / b := Int.ediv_nonneg p0 (by omega)
    have q1 : sumTo f n * a / b ≤ sumTo f n * a := Int.ediv_le_self _ p0
    have E : Hid ((isAmount (sumTo f n * a / b) = false ∧ ref0 f n a b = 0 ∧ ref1 f n a b = false) ∨ (isAmount (sumTo f n * a / b) = true ∧ ref0 f n a b = sumTo f n * a / b ∧ ref1 f n a b = true)) := by
      cases hx : isAmount (sumTo f n * a / b)
      · exact .inl ⟨rfl, ref_no2 hx⟩
      · exact .inr ⟨rfl, ref_yes h hx⟩
    clear h hf hs
    go_enter Try.func15, Try.ntmps15
    go_wp2_with (first | (go_at_call 52; refine (spec_l00In_any _ _ _ _).mono ?_; rintro e w' ⟨rfl, rfl⟩) | (go_at_call 51; refine (l04Amounts_any n g c f _ _ hn hI).mono ?_; rintro e w1 ⟨rfl, hb⟩))
    have hI1 := hI.below hb
    go_loop [8, 9] (fun s i => ∃ k : Nat, k ≤ n ∧ i = .int .i64 k ∧ s = .int .i64 (sumTo f k)) (fun _ i => n - (intOf i).toNat)
    case atStart => exact ⟨0, Nat.zero_le _, rfl, rfl⟩
    case round =>
      obtain ⟨k, hk, rfl, rfl⟩ := hrel
      by_cases hlt : k < n
      · have hc := hI1.at0 k hlt
        have s1 := HS.out k hk
        have s2 := HS.out (k + 1) (by omega)
        have e2 : sumTo f (k + 1) = sumTo f k + f k := rfl
        rw [e2] at s2
        have HE := Lib.hid e2
        clear e2
        go_wp2
        go_round
        case rel => exact ⟨k + 1, by omega, by go_num, by rw [HE.out]⟩
        case measure => simp [intOf]; omega
      · obtain rfl : k = n := by omega
        rcases E.out with ⟨hx, e0, e1⟩ | ⟨hx, e0, e1⟩
        all_goals
          have E0 := Lib.hid e0
          have E1 := Lib.hid e1
          clear e0 e1
          go_wp2_with (first | (go_at_call 53; refine (spec_l02Cents_any _ _).mono ?_; rintro e w' ⟨rfl, rfl⟩))
          go_ret2
          exact ⟨ret_ib2 E0.out.symm E1.out.symm, hb⟩

theorem RefundShare_spec {w : World} {B : Nat} {v : Value} {xs : List Int} (hv : RowI 2 w B v xs) (a b : Int) :
    Calls Try.prog 15 #[v, .int .i64 a, .int .i64 b] w (RetV w (.tuple #[.int .i64 (RefundShare_r0 xs a b), .bool (RefundShare_r1 xs a b)])) := by
  obtain ⟨g, c, rfl, _, _, _, _, hI, _, hn⟩ := hv.form
  exact ref_spec_core xs.length g c _ a b w hn hI
end Go.Proofs.Ytegfajmhblpcoaa
