/-
  impl.EvenParts gives the list told: every count and cents. No condition.
-/
import Derived.Test.YtnikfcaloielaaaProg
import Derived.Test.YtnikfcaloielaaaBase
import Derived.Test.YtnikfcaloielaaaSmall
namespace Go.Proofs.Ytnikfcaloielaaa
open Go.RowKit
set_option linter.unusedVariables false

def evenTo (c n : Int) : Nat → List Int
  | 0 => []
  | k + 1 => evenTo c n k ++ [c / n + if (k : Int) < c % n then 1 else 0]
theorem evenTo_length (c n : Int) (k : Nat) : (evenTo c n k).length = k := by
  induction k with
  | zero => rfl
  | succ k ih => simp [evenTo, ih]
theorem evenTo_yes (c n : Int) (k : Nat) (h : (k : Int) < c % n) : evenTo c n (k + 1) = evenTo c n k ++ [c / n + 1] := by simp [evenTo, h]
theorem evenTo_no (c n : Int) (k : Nat) (h : ¬ (k : Int) < c % n) : evenTo c n (k + 1) = evenTo c n k ++ [c / n] := by simp [evenTo, h]

def EvenParts_r1 (c n : Int) : Bool := isSum c && win n 1 120
def EvenParts_r0 (c n : Int) : List Int := if EvenParts_r1 c n then evenTo c n n.toNat else []

set_option maxHeartbeats 800000 in
theorem even_yes_impl (c : Int) (m : Nat) (w : World) (h1 : isSum c = true) (h2 : win m 1 120 = true) :
    Calls Try.prog 25 #[.int .i64 c, .int .i64 m] w (RetL1 2 w (evenTo c m m) true) := by
  obtain ⟨b0, b1⟩ := win_iff.1 h1
  obtain ⟨b2, b3⟩ := win_iff.1 h2
  have hq0 : 0 ≤ c / (m : Int) := Int.ediv_nonneg b0 (by omega)
  have hq1 : c / (m : Int) ≤ c := Int.ediv_le_self _ b0
  go_enter Try.func25, Try.ntmps25
  go_wp2_with (first | (go_at_call 36; refine (impl_isSum_any _ _).mono ?_; rintro e w' ⟨rfl, rfl⟩) | (go_at_call 52; refine (impl_within_any _ _ _ _).mono ?_; rintro e w' ⟨rfl, rfl⟩))
  go_loopw [6, 19] (fun v i wr => ∃ k : Nat, k ≤ m ∧ i = .int .i64 k ∧ Own 2 wr w.heap.size v (evenTo c m k) ∧ Below w.heap.size w wr) (fun _ i _ => m - (intOf i).toNat)
  case atStart => exact ⟨0, Nat.zero_le _, rfl, Own.made _ _ (Nat.le_refl _), (Below.refl _ _).alloc (Nat.le_refl _) _⟩
  case round =>
    obtain ⟨k, hk, rfl, hown, hb⟩ := hrel
    by_cases hlt : k < m
    · have HL := Lib.hid (evenTo_length c m k)
      by_cases hr : (k : Int) < c % m
      · have HE := Lib.hid (evenTo_yes c m k hr)
        go_wp2_with (at_builtin; refine wpList_app1 _ rfl _ _ 22 rfl w.heap.size 2 Try.infoI Try.underlying22 _ _ rfl hown _ rfl (by rw [HL.out]; omega) hb.size ?_; intro v' w1 hown1 hb1)
        go_roundw
        case rel => exact ⟨k + 1, by omega, by go_num, by rw [HE.out]; exact hown1, hb.trans hb1⟩
        case measure => simp [intOf]; omega
      · have HE := Lib.hid (evenTo_no c m k hr)
        go_wp2_with (at_builtin; refine wpList_app1 _ rfl _ _ 22 rfl w.heap.size 2 Try.infoI Try.underlying22 _ _ rfl hown _ rfl (by rw [HL.out]; omega) hb.size ?_; intro v' w1 hown1 hb1)
        go_roundw
        case rel => exact ⟨k + 1, by omega, by go_num, by rw [HE.out]; exact hown1, hb.trans hb1⟩
        case measure => simp [intOf]; omega
    · obtain rfl : k = m := by omega
      go_wp2
      go_ret2
      exact ⟨_, rfl, hown, by rw [evenTo_length]; omega, hb⟩

theorem EvenParts_impl (c n : Int) (w : World) : Calls Try.prog 25 #[.int .i64 c, .int .i64 n] w (RetL1 2 w (EvenParts_r0 c n) (EvenParts_r1 c n)) := by
  cases h1 : isSum c
  · have e1 : EvenParts_r1 c n = false := by simp [EvenParts_r1, h1]
    have e0 : EvenParts_r0 c n = [] := by simp [EvenParts_r0, e1]
    rw [e0, e1]
    clear e0 e1
    go_enter Try.func25, Try.ntmps25
    go_wp2_with (first | (go_at_call 36; refine (impl_isSum_any _ _).mono ?_; rintro e w' ⟨rfl, rfl⟩) | (go_at_call 52; refine (impl_within_any _ _ _ _).mono ?_; rintro e w' ⟨rfl, rfl⟩))
    go_ret2
    exact RetL1.no _ (Below.refl _ _)
  cases h2 : win n 1 120
  · have e1 : EvenParts_r1 c n = false := by simp [EvenParts_r1, h2]
    have e0 : EvenParts_r0 c n = [] := by simp [EvenParts_r0, e1]
    rw [e0, e1]
    clear e0 e1
    go_enter Try.func25, Try.ntmps25
    go_wp2_with (first | (go_at_call 36; refine (impl_isSum_any _ _).mono ?_; rintro e w' ⟨rfl, rfl⟩) | (go_at_call 52; refine (impl_within_any _ _ _ _).mono ?_; rintro e w' ⟨rfl, rfl⟩))
    go_ret2
    exact RetL1.no _ (Below.refl _ _)
  obtain ⟨b2, b3⟩ := win_iff.1 h2
  have e1 : EvenParts_r1 c n = true := by simp [EvenParts_r1, h1, h2]
  obtain ⟨m, rfl⟩ := Int.eq_ofNat_of_zero_le (show 0 ≤ n by omega)
  have := even_yes_impl c m w h1 h2
  simp only [EvenParts_r0, e1, if_true, Int.toNat_natCast]
  exact this

end Go.Proofs.Ytnikfcaloielaaa
