/-
  impl.areWithin and impl.hasCount answer whether all integers of a row lie in a range, and whether their count does. Condition: fewer than 1000000000 integers.
-/
import Derived.Test.YtdaijapdfleohaaSmall
import Derived.Test.YtdaijapdfleohaaAllW
namespace Go.Proofs.Ytdaijapdfleohaa
open Go.RowKit
set_option linter.unusedVariables false

theorem areOut_any (n l h : Int) (B1 B2 : Nat) (w : World) (c1 : w.cell? ⟨B1, 0, none⟩ = some (.int .i64 l)) (c2 : w.cell? ⟨B2, 0, none⟩ = some (.int .i64 h)) :
    Calls Try.prog 65 #[.int .i64 n, .pointer (some ⟨B1, 0, none⟩), .pointer (some ⟨B2, 0, none⟩)] w fun e w' => e = .returned (.bool (!win n l h)) ∧ w = w' := by
  go_enter Try.func65, Try.ntmps65
  go_wp2_with (first | (go_at_call 37; refine (impl_within_any _ _ _ _).mono ?_; rintro e w' ⟨rfl, rfl⟩))
  go_ret
  exact ⟨rfl, rfl⟩

/-- An index, or -1. -/
def IdxOut (b : Bool) (w : World) (e : Ending) (w' : World) : Prop := ∃ r : Int, e = .returned (.int .i64 r) ∧ decide (0 ≤ r) = !b ∧ w = w'

set_option maxHeartbeats 800000 in
theorem indexOut_any (n g off c B1 B2 : Nat) (f : Nat → Int) (l h : Int) (w : World) (hn : n < 1000000000) (hI : Ints w g off n f) (c1 : w.cell? ⟨B1, 0, none⟩ = some (.int .i64 l)) (c2 : w.cell? ⟨B2, 0, none⟩ = some (.int .i64 h)) :
    Calls Try.prog 80 #[.slice (some ⟨g, off, none⟩) n c, .func (.func 65) #[] #[.pointer (some ⟨B1, 0, none⟩), .pointer (some ⟨B2, 0, none⟩)]] w (IdxOut (allW f l h n) w) := by
  go_enter Try.func80, Try.ntmps80
  go_wp2
  go_loop [8] (fun i => ∃ k : Nat, k ≤ n ∧ i = .int .i64 k ∧ Hid (allW f l h k = true)) (fun i => n - (intOf i).toNat)
  case atStart => exact ⟨0, Nat.zero_le _, rfl, rfl⟩
  case round =>
    obtain ⟨k, hk, rfl, ha⟩ := hrel
    by_cases hlt : k < n
    · have hc := hI.at k hlt
      cases hw : win (f k) l h
      · have HF := Lib.hid (allW_false k hlt hw)
        go_wp2_with (go_at_call 65; refine (areOut_any _ l h B1 B2 _ c1 c2).mono ?_; rintro e w' ⟨rfl, rfl⟩)
        go_ret
        exact ⟨k, rfl, by rw [HF.out]; simp, rfl⟩
      · have HF := Lib.hid (allW_succ ha.out hw)
        go_wp2_with (go_at_call 65; refine (areOut_any _ l h B1 B2 _ c1 c2).mono ?_; rintro e w' ⟨rfl, rfl⟩)
        go_round
        case rel => exact ⟨k + 1, by omega, by go_num, HF⟩
        case measure => simp [intOf]; omega
    · obtain rfl : k = n := by omega
      go_wp2
      go_ret
      exact ⟨-1, rfl, by rw [ha.out]; rfl, rfl⟩

theorem containsOut_any (n g off c B1 B2 : Nat) (f : Nat → Int) (l h : Int) (w : World) (hn : n < 1000000000) (hI : Ints w g off n f) (c1 : w.cell? ⟨B1, 0, none⟩ = some (.int .i64 l)) (c2 : w.cell? ⟨B2, 0, none⟩ = some (.int .i64 h)) :
    Calls Try.prog 64 #[.slice (some ⟨g, off, none⟩) n c, .func (.func 65) #[] #[.pointer (some ⟨B1, 0, none⟩), .pointer (some ⟨B2, 0, none⟩)]] w fun e w' => e = .returned (.bool (!allW f l h n)) ∧ w = w' := by
  go_enter Try.func64, Try.ntmps64
  go_wp2_with (go_at_call 80; refine (indexOut_any n g off c B1 B2 f l h _ hn hI c1 c2).mono ?_; rintro e w' ⟨r, rfl, hr, rfl⟩)
  go_ret
  first
    | exact ⟨rfl, rfl⟩
    | exact ⟨ret_bool hr, rfl⟩

theorem areWithin_any (n g off c : Nat) (f : Nat → Int) (l h : Int) (w : World) (hn : n < 1000000000) (hI : Ints w g off n f) :
    Calls Try.prog 51 #[.slice (some ⟨g, off, none⟩) n c, .int .i64 l, .int .i64 h] w (RetV w (.bool (allW f l h n))) := by
  have hb : Below w.heap.size w ((w.alloc (.cells #[.int .i64 l] 2)).alloc (.cells #[.int .i64 h] 2)) := by go_grown
  have hI2 := hI.below hb
  have k1 : ((w.alloc (.cells #[.int .i64 l] 2)).alloc (.cells #[.int .i64 h] 2)).cell? ⟨w.heap.size, 0, none⟩ = some (.int .i64 l) := by simp [go_sem]
  have k2 : ((w.alloc (.cells #[.int .i64 l] 2)).alloc (.cells #[.int .i64 h] 2)).cell? ⟨w.heap.size + 1, 0, none⟩ = some (.int .i64 h) := by simp [go_sem]
  go_enter Try.func51, Try.ntmps51
  go_wp2_with (go_at_call 64; refine (containsOut_any n g off c _ _ f l h _ hn hI2 k1 k2).mono ?_; rintro e w' ⟨rfl, rfl⟩)
  go_ret
  exact ⟨ret_bool (by simp), hb⟩

theorem hasCount_any (n g off c : Nat) (f : Nat → Int) (a b : Int) (l h : Int) (w : World) (hn : n < 1000000000) (hI : Ints w g off n f) :
    Calls Try.prog 29 #[.slice (some ⟨g, off, none⟩) n c, .int .i64 a, .int .i64 b, .int .i64 l, .int .i64 h] w (RetV w (.bool (cntB f n a b l h))) := by
  by_cases h1 : a ≤ (n : Int)
  · by_cases h2 : (n : Int) ≤ b
    · go_enter Try.func29, Try.ntmps29
      go_wp2_with (go_at_call 51; refine (areWithin_any n g off c f l h _ hn hI).mono ?_; rintro e w' ⟨rfl, hb⟩)
      go_ret
      exact ⟨ret_bool (by simp [cntB, win, h1, h2]), hb⟩
    · go_enter Try.func29, Try.ntmps29
      go_wp2_with fail
      go_ret
      exact ⟨ret_bool (by first | (rw [cnt_no (by rw [win_not]; omega)]; done) | (rw [cnt_no (by rw [win_not]; omega)]; simp; done) | (rw [cnt_no (by rw [win_not]; omega)]; simp; omega)), Below.refl _ _⟩
  · go_enter Try.func29, Try.ntmps29
    go_wp2_with fail
    go_ret
    exact ⟨ret_bool (by first | (rw [cnt_no (by rw [win_not]; omega)]; done) | (rw [cnt_no (by rw [win_not]; omega)]; simp; done) | (rw [cnt_no (by rw [win_not]; omega)]; simp; omega)), Below.refl _ _⟩
end Go.Proofs.Ytdaijapdfleohaa
