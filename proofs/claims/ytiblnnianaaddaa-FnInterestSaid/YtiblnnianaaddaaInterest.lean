/-
  impl.interest and spec.l03Interest give the interest of a time. Conditions: the sum is from 0 to 1000000000, the rate from 0 to 100000, the kind from 0 to 2, the days are days in their order.
-/
import Derived.Test.YtiblnnianaaddaaRounded
import Derived.Test.YtiblnnianaaddaaNearest
import Derived.Test.YtiblnnianaaddaaBetween
namespace Go.Proofs.Ytiblnnianaaddaa
open Go.RowKit
set_option linter.unusedVariables false

def inter (c r k a b : Int) : Int := nrst (c * r * btw0 k a b) (10000 * btw1 k)
theorem int_prod {c r n : Int} (c0 : 0 ≤ c) (c1 : c ≤ 1000000000) (r0 : 0 ≤ r) (r1 : r ≤ 100000) (n0 : 0 ≤ n) (n1 : n ≤ 36524) :
    (0 ≤ c * r ∧ c * r ≤ 100000000000000) ∧ (0 ≤ c * r * n ∧ c * r * n ≤ 3652400000000000000) ∧ (0 ≤ r * n ∧ r * n ≤ 3652400000) ∧ c * (r * n) = c * r * n := by
  have h1 : c * r ≤ 1000000000 * 100000 := Int.mul_le_mul c1 r1 r0 (by omega)
  have h2 : 0 ≤ c * r := Int.mul_nonneg c0 r0
  have h3 : c * r * n ≤ 100000000000000 * 36524 := Int.mul_le_mul (by omega) n1 n0 (by omega)
  have h4 : r * n ≤ 100000 * 36524 := Int.mul_le_mul r1 n1 n0 (by omega)
  exact ⟨⟨h2, by omega⟩, ⟨Int.mul_nonneg h2 n0, by omega⟩, ⟨Int.mul_nonneg r0 n0, by omega⟩, (Int.mul_assoc c r n).symm⟩
theorem nrst_pos {X m : Int} (h : 0 ≤ X) : nrst X m = rnd X m 1 := if_neg (by omega)
theorem quo_bd {X m : Int} (h : X ≤ 4000000000000000000) (m0 : 10000 ≤ m) : X / m ≤ 400000000000000 := Int.ediv_le_of_le_mul (by omega) (by omega)
theorem quo_bd2 {X m : Int} (h : X ≤ 4000000000000000000) (m0 : 3600000 ≤ m) : X / m ≤ 1200000000000 := Int.ediv_le_of_le_mul (by omega) (by omega)
theorem inter_bd {c r k a b : Int} (c0 : 0 ≤ c) (c1 : c ≤ 1000000000) (r0 : 0 ≤ r) (r1 : r ≤ 100000) (h0 : 0 ≤ a) (h : a ≤ b) (h1 : b ≤ 36524) : 0 ≤ inter c r k a b ∧ inter c r k a b ≤ 1200000000001 := by
  obtain ⟨n0, n1⟩ := btw0_bd k a b h0 h h1
  have m0 := btw1_bd k
  obtain ⟨_, ⟨x0, x1⟩, _, _⟩ := int_prod c0 c1 r0 r1 n0 n1
  have hq := quo_bd2 (m := 10000 * btw1 k) (show c * r * btw0 k a b ≤ 4000000000000000000 by omega) (by omega)
  have := rnd_bd (c * r * btw0 k a b) (10000 * btw1 k) 1 x0 (by omega)
  unfold inter
  rw [nrst_pos x0]
  omega

set_option maxHeartbeats 800000 in
theorem interest_impl (c r k a b : Int) (w : World) (c0 : 0 ≤ c) (c1 : c ≤ 1000000000) (r0 : 0 ≤ r) (r1 : r ≤ 100000) (k0 : 0 ≤ k) (k1 : k ≤ 2) (h0 : 0 ≤ a) (h : a ≤ b) (h1 : b ≤ 36524) :
    Calls Try.prog 41 #[.int .i64 c, .int .i64 r, .int .i64 k, .int .i64 a, .int .i64 b] w fun e w' => e = .returned (.int .i64 (inter c r k a b)) ∧ ∃ m, w' = w.drewN m := by
  obtain ⟨n0, n1⟩ := btw0_bd k a b h0 h h1
  have m0 := btw1_bd k
  obtain ⟨⟨p0, p1⟩, ⟨x0, x1⟩, _, _⟩ := int_prod c0 c1 r0 r1 n0 n1
  go_enter Try.func41, Try.ntmps41
  go_wp2_with (first | (go_at_call 69; refine (impl_between _ _ _ _ k0 k1 h0 h h1).mono ?_; rintro e w' ⟨rfl, rfl⟩) | (go_at_call 53; refine (impl_nearest _ _ _ (by omega) (by omega) (by omega) (by omega)).mono ?_; rintro e w' ⟨rfl, m, rfl⟩))
  go_ret
  exact ⟨rfl, _, rfl⟩
set_option maxHeartbeats 800000 in
theorem interest_spec (c r k a b : Int) (w : World) (c0 : 0 ≤ c) (c1 : c ≤ 1000000000) (r0 : 0 ≤ r) (r1 : r ≤ 100000) (k0 : 0 ≤ k) (k1 : k ≤ 2) (h0 : 0 ≤ a) (h : a ≤ b) (h1 : b ≤ 36524) :
    Calls Try.prog 45 #[.int .i64 c, .int .i64 r, .int .i64 k, .int .i64 a, .int .i64 b] w fun e w' => e = .returned (.int .i64 (inter c r k a b)) ∧ w = w' := by
  obtain ⟨n0, n1⟩ := btw0_bd k a b h0 h h1
  have m0 := btw1_bd k
  obtain ⟨⟨p0, p1⟩, ⟨x0, x1⟩, ⟨y0, y1⟩, he⟩ := int_prod c0 c1 r0 r1 n0 n1
  have HE : Hid (rnd (c * (r * btw0 k a b)) (10000 * btw1 k) 1 = inter c r k a b) := by show _ = _; rw [he]; exact (nrst_pos x0).symm
  have hq := quo_bd (m := 10000 * btw1 k) (show c * (r * btw0 k a b) ≤ 4000000000000000000 by omega) (by omega)
  have hq' : c * (r * btw0 k a b) / (10000 * btw1 k) ≤ 1000000000000000000 := by omega
  clear he
  go_enter Try.func45, Try.ntmps45
  go_wp2_with (first | (go_at_call 68; refine (spec_between _ _ _ _ k0 k1 h0 h h1).mono ?_; rintro e w' ⟨rfl, rfl⟩) | (go_at_call 55; refine (rounded_any _ _ _ _ c0 c1 (by omega) (by omega) (by omega) (by omega) hq').mono ?_; rintro e w' ⟨rfl, rfl⟩))
  go_ret
  exact ⟨ret_int HE.out, rfl⟩
end Go.Proofs.Ytiblnnianaaddaa
