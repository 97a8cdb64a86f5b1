/-
  spec.l02Taper gives what a taper leaves. Conditions: amounts, and a rate from 0 to 10000.
-/
import Derived.Test.YtjghhllekbmkjaaRoundS
import Derived.Test.YtjghhllekbmkjaaTaperP
namespace Go.Proofs.Ytjghhllekbmkjaa
open Go.RowKit
set_option linter.unusedVariables false

theorem spec_l02Taper (a b r c : Int) (w : World) (a0 : 0 ≤ a) (a1 : a ≤ 1000000000000) (b0 : 0 ≤ b) (b1 : b ≤ 1000000000000) (r0 : 0 ≤ r) (r1 : r ≤ 10000) (c0 : 0 ≤ c) (c1 : c ≤ 1000000000000) :
    Calls Try.prog 65 #[.int .i64 a, .int .i64 b, .int .i64 r, .int .i64 c] w (RetV w (.int .i64 (taperF a b r c))) := by
  by_cases h : c ≤ b
  · have HE : Hid (taperF a b r c = a) := if_pos h
    go_enter Try.func65, Try.ntmps65
    go_wp2_with fail
    go_ret
    exact ⟨ret_int HE.out.symm, Below.refl _ _⟩
  · have HE : Hid (taperF a b r c = max (a - rnd ((c - b) * r) 10000 3) 0) := if_neg h
    obtain ⟨p0, p1⟩ := due_prod (c - b) r (by omega) (by omega) r0 r1
    obtain ⟨d0, d1⟩ := due_bd (c - b) r 3 (by omega) r0 r1
    go_enter Try.func65, Try.ntmps65
    go_wp2_with (first | (go_at_call 51; refine (spec_l02Round _ _ _ _ (by omega) (by omega) (by omega) (by omega)).mono ?_; rintro e w' ⟨rfl, m, rfl⟩) | go_in)
    all_goals (go_ret; exact ⟨ret_int (by rw [HE.out]; omega), Below.drewN' (Below.refl _ _) _⟩)
end Go.Proofs.Ytjghhllekbmkjaa
