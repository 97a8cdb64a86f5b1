/-
  Scales that a law hands on, as copies in memory of the call's own: toScale, eqScale, szScale, markScale, heldScale by their contracts. Condition: fewer than 1000000000 integers in each list.
-/
import Derived.Test.YtdaijapdfleohaaProg
import Derived.Test.YtdaijapdfleohaaInt64S
import Derived.Test.YtdaijapdfleohaaScaleO
namespace Go.Proofs.Ytdaijapdfleohaa
open Go.RowKit
set_option linter.unusedVariables false

set_option maxHeartbeats 400000 in
theorem eq_s {w : World} {B1 B2 : Nat} {v1 v2 : Value} {b r : List Int} (h1 : OwnS 2 w B1 v1 b r) (h2 : OwnS 2 w B2 v2 b r) (hn : b.length < 1000000000 ∧ r.length < 1000000000) :
    Calls Try.prog 12 #[v1, v2] w (RetV w (.bool true)) := by
  obtain ⟨a1, d1, rfl, x1, y1, _⟩ := h1
  obtain ⟨a2, d2, rfl, x2, y2, _⟩ := h2
  obtain ⟨mb, mr⟩ := hn
  have bA : Below w.heap.size w ((w.alloc (.cells #[a1, d1] 29)).alloc (.cells #[a2, d2] 29)) := by go_grown
  have K0 : ((w.alloc (.cells #[a1, d1] 29)).alloc (.cells #[a2, d2] 29)).cell? ⟨w.heap.size, 1, none⟩ = some d1 := by simp [go_sem]
  have K1 : ((w.alloc (.cells #[a1, d1] 29)).alloc (.cells #[a2, d2] 29)).cell? ⟨w.heap.size + 1, 1, none⟩ = some d2 := by simp [go_sem]
  have HK0 := Lib.hid K0
  have HK1 := Lib.hid K1
  clear K0 K1
  go_enter Try.func12, Try.ntmps12
  go_wp2_with fail
  refine (eq_i (x1.below bA) (x2.below bA) mb).mono ?_
  rintro e w1 ⟨rfl, hb⟩
  have k0 := Below.cellOf hb rfl HK0.out
  have k1 := Below.cellOf hb rfl HK1.out
  have C1 := bnext bA hb
  go_wp2_with fail
  refine (eq_i (y1.below C1) (y2.below C1) mr).mono ?_
  rintro e w2 ⟨rfl, hb2⟩
  go_wp2_with fail
  go_ret
  exact ⟨rfl, bnext C1 hb2⟩

theorem sz_i_yes (a : Option Addr) (n cap : Nat) (L : Int) (w : World) (hm : n ≤ maxLen) (hL : 0 ≤ L ∧ L ≤ 1048576) (hs : (n : Int) ≤ L) : Calls Try.prog 24 #[.slice a n cap, .int .i64 L] w fun e w' => e = .returned (.int .i64 (L - n)) ∧ w = w' := by
  unfold maxLen at hm
  go_enter Try.func24, Try.ntmps24
  go_wp2
  go_ret
  exact ⟨rfl, rfl⟩
theorem sz_i_no (a : Option Addr) (n cap : Nat) (L : Int) (w : World) (hm : n ≤ maxLen) (hL : 0 ≤ L ∧ L ≤ 1048576) (hs : L < (n : Int)) : Calls Try.prog 24 #[.slice a n cap, .int .i64 L] w fun e w' => e = .returned (.int .i64 (-1)) ∧ w = w' := by
  unfold maxLen at hm
  go_enter Try.func24, Try.ntmps24
  go_wp2
  go_ret
  exact ⟨rfl, rfl⟩
theorem sz_s_no {w : World} {v : Value} {b r : List Int} (h : InS w v b r) {L : Int} (hs : L < (b.length : Int) + r.length) (hL : 0 ≤ L ∧ L ≤ 1048576) : Calls Try.prog 6 #[v, .int .i64 L] w (RetV w (.int .i64 (-1))) := by
  obtain ⟨ab, cb, ar, cr, rfl, mb, mr, _, _⟩ := h
  generalize b.length = nb at *
  generalize r.length = nr at *
  rcases Int.lt_or_le L nb with h1 | h1
  · go_enter Try.func6, Try.ntmps6
    go_wp2_with fail
    refine (sz_i_no ab nb cb L _ mb hL h1).mono ?_
    rintro e w1 ⟨rfl, rfl⟩
    go_wp2_with fail
    go_ret
    exact ⟨rfl, by go_grown⟩
  · go_enter Try.func6, Try.ntmps6
    go_wp2_with fail
    refine (sz_i_yes ab nb cb L _ mb hL h1).mono ?_
    rintro e w1 ⟨rfl, rfl⟩
    go_wp2_with fail
    refine (sz_i_no ar nr cr _ _ mr (by omega) (by omega)).mono ?_
    rintro e w1 ⟨rfl, rfl⟩
    go_wp2_with fail
    go_ret
    exact ⟨rfl, by go_grown⟩
theorem sz_s_yes {w : World} {v : Value} {b r : List Int} (h : InS w v b r) {L : Int} (hs : (b.length : Int) + r.length ≤ L) (hL : 0 ≤ L ∧ L ≤ 1048576) : Calls Try.prog 6 #[v, .int .i64 L] w (RetV w (.int .i64 (L - ((b.length : Int) + r.length)))) := by
  obtain ⟨ab, cb, ar, cr, rfl, mb, mr, _, _⟩ := h
  generalize b.length = nb at *
  generalize r.length = nr at *
  go_enter Try.func6, Try.ntmps6
  go_wp2_with fail
  refine (sz_i_yes ab nb cb L _ mb hL (by omega)).mono ?_
  rintro e w1 ⟨rfl, rfl⟩
  go_wp2_with fail
  refine (sz_i_yes ar nr cr _ _ mr (by omega) (by omega)).mono ?_
  rintro e w1 ⟨rfl, rfl⟩
  go_wp2_with fail
  go_ret
  exact ⟨ret_int (by omega), by go_grown⟩
end Go.Proofs.Ytdaijapdfleohaa
