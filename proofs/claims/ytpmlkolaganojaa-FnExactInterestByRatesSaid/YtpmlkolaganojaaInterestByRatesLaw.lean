/-
  FnExactInterestByRates returns true for every input: the program's InterestByRates and the reference's give the same results, leave their arguments as they were, and share no memory. No condition.
-/
import Derived.Test.YtpmlkolaganojaaRows
import Derived.Test.YtpmlkolaganojaaInterestByRates
import Derived.Test.YtpmlkolaganojaaToInt64S
import Derived.Test.YtpmlkolaganojaaEqInt64S
import Derived.Test.YtpmlkolaganojaaOpen
import Derived.WalkKit
import Derived.ProofKit
import Derived.OpenShut
import Derived.Carry
import Derived.Deep.RegionHeld3
namespace Go.Proofs.Ytpmlkolaganojaa.fnExactInterestByRates
open Go.ChangeShapes Go.WideShapes Go.ChangeAt Go.RowKit
set_option linter.unusedVariables false

theorem own : ownKnob Try.prog.godebug = none := by kernel_rfl
theorem laidOut : laidOutB Try.prog = true := by kernel_rfl

set_option maxHeartbeats 4000000 in
theorem walk (x0 : Int) (x1 : List Int) (ad1 : Option Addr) (c1 : Nat) (x2 : List Int) (ad2 : Option Addr) (c2 : Nat) (x3 : Int) (x4 : Int) (x5 : Int) (w : World) (i1 : InI w (.slice ad1 x1.length c1) x1) (i2 : InI w (.slice ad2 x2.length c2) x2) :
    Calls Try.prog 7 #[.int .i64 x0, .slice ad1 x1.length c1, .slice ad2 x2.length c2, .int .i64 x3, .int .i64 x4, .int .i64 x5] w fun e w' => e = .returned (.bool true) ∧ Below w.heap.size w w' := by
  rcases Int.lt_or_le 1048576 (x1.length : Int) with hl1 | hl1
  · go_enter Try.func7, Try.ntmps7
    go_wp2_with fail
    go_ret
    exact ⟨rfl, Below.refl _ _⟩
  rcases Int.lt_or_le 1048576 (x2.length : Int) with hl2 | hl2
  · go_enter Try.func7, Try.ntmps7
    go_wp2_with fail
    go_ret
    exact ⟨rfl, Below.refl _ _⟩
  go_enter Try.func7, Try.ntmps7
  go_wp2_with fail
  refine (to_i i1 (by omega)).mono ?_
  rintro e w1 ⟨v_t1, rfl, o_t1, b1⟩
  have C1 := b1
  have lt_t1 := Lib.hid o_t1.lt
  go_wp2_with fail
  refine (to_i (i2.below C1) (by omega)).mono ?_
  rintro e w2 ⟨v_t2, rfl, o_t2, b2⟩
  have C2 := bnext C1 b2
  replace o_t1 := o_t1.below b2
  have lt_t2 := Lib.hid o_t2.lt
  go_wp2_with fail
  refine (InterestByRates_spec x0 o_t1 o_t2 x3 x4 x5).mono ?_
  rintro e w3 ⟨rfl, b3⟩
  have C3 := bnext C2 b3
  replace o_t1 := o_t1.below b3
  replace o_t2 := o_t2.below b3
  go_wp2_with fail
  refine (to_i (i1.below C3) (by omega)).mono ?_
  rintro e w4 ⟨v_t3, rfl, o_t3, b4⟩
  have C4 := bnext C3 b4
  have lt_t3 := Lib.hid o_t3.lt
  go_wp2_with fail
  refine (to_i (i2.below C4) (by omega)).mono ?_
  rintro e w5 ⟨v_t4, rfl, o_t4, b5⟩
  have C5 := bnext C4 b5
  replace o_t3 := o_t3.below b5
  have lt_t4 := Lib.hid o_t4.lt
  go_wp2_with fail
  refine (InterestByRates_impl x0 o_t3 o_t4 x3 x4 x5).mono ?_
  rintro e w6 ⟨rfl, b6⟩
  have C6 := bnext C5 b6
  replace o_t3 := o_t3.below b6
  replace o_t4 := o_t4.below b6
  go_wp2_with fail
  refine (to_i (i1.below C6) (by omega)).mono ?_
  rintro e w7 ⟨v_t5, rfl, o_t5, b7⟩
  have C7 := bnext C6 b7
  replace o_t3 := o_t3.below b7
  replace o_t4 := o_t4.below b7
  have lt_t5 := Lib.hid o_t5.lt
  go_wp2_with fail
  refine (eq_i o_t3.own o_t5.own (by omega)).mono ?_
  rintro e w8 ⟨rfl, b8⟩
  have C8 := bnext C7 b8
  replace o_t3 := o_t3.below b8
  replace o_t4 := o_t4.below b8
  replace o_t5 := o_t5.below b8
  go_wp2_with fail
  refine (to_i (i2.below C8) (by omega)).mono ?_
  rintro e w9 ⟨v_t6, rfl, o_t6, b9⟩
  have C9 := bnext C8 b9
  replace o_t3 := o_t3.below b9
  replace o_t4 := o_t4.below b9
  have lt_t6 := Lib.hid o_t6.lt
  go_wp2_with fail
  refine (eq_i o_t4.own o_t6.own (by omega)).mono ?_
  rintro e w10 ⟨rfl, b10⟩
  have C10 := bnext C9 b10
  replace o_t3 := o_t3.below b10
  replace o_t4 := o_t4.below b10
  replace o_t6 := o_t6.below b10
  go_wp2_with fail
  go_ret
  exact ⟨rfl, C10⟩

set_option maxRecDepth 100000 in
theorem lifted (os : Os) (started : os.Started) (H : Type) (enc : TypeId × Value → H) :
    ReturnsInHanded {} Try.checked os 7 .any (Rows.fnExactInterestByRatesSpec.pre6 enc Try.prog Try.f7 Rows.fnExactInterestByRatesRow.domain false) (Rows.fnExactInterestByRatesSpec.post enc Try.prog Try.f7 false true false false) := by
  refine returnsInHanded_of_change (C := Try.checked) own started (by kernel_rfl) Try.func7
    (ChangeSpec.witness6 (enc := enc) (C := Try.checked) false ⟨#[], #[.int .i64 0, .slice none 0 0, .slice none 0 0, .int .i64 0, .int .i64 0, .int .i64 0], []⟩ 8 (by kernel_rfl) (by kernel_rfl) (by kernel_rfl) (by kernel_rfl)) ?_
  intro W base args ds gs before hval0 hW hcnd _
  have hval : ∀ (j : Nat) t v, Try.f7.params[j]? = some t → args[j]? = some v → Value.okWide Try.prog W .any base t v := hval0
  have hW' := hW
  obtain ⟨p, q, hA0, hV, rfl, hfz, hnd⟩ := hW
  have hA : DataW.TrodAll enc Try.prog W 0 (fun _ => true) true Try.f7.params.toList args.toList ds p := hA0
  rw [Try.params7] at hA hval
  obtain ⟨v0, vs0, d0, ds0, p0, q0, hargs, rfl, rfl, h0, r0⟩ := trodAll_cons hA
  obtain ⟨v1, vs1, d1, ds1, p1, q1, rfl, rfl, rfl, h1, r1⟩ := trodAll_cons r0
  obtain ⟨v2, vs2, d2, ds2, p2, q2, rfl, rfl, rfl, h2, r2⟩ := trodAll_cons r1
  obtain ⟨v3, vs3, d3, ds3, p3, q3, rfl, rfl, rfl, h3, r3⟩ := trodAll_cons r2
  obtain ⟨v4, vs4, d4, ds4, p4, q4, rfl, rfl, rfl, h4, r4⟩ := trodAll_cons r3
  obtain ⟨v5, vs5, d5, ds5, p5, q5, rfl, rfl, rfl, h5, r5⟩ := trodAll_cons r4
  obtain ⟨rfl, rfl, rfl⟩ := trodAll_nil r5
  obtain rfl : args = #[v0, v1, v2, v3, v4, v5] := by cases args; simp_all
  obtain ⟨rfl, rfl⟩ := trodVars_none hV
  obtain ⟨x0, rfl, rfl, rfl, wf0⟩ := open_int Try.underlying2 (hval 0 2 v0 rfl rfl) h0
  have k1 := h1
  have lt1 := lt_of_trod h1
  obtain ⟨x1, ad1, c1, rfl, i1⟩ := openI' Try.underlying28 Try.underlying2 (by kernel_rfl) (hval 1 28 v1 rfl rfl) h1
  have k2 := h2
  have lt2 := lt_of_trod h2
  obtain ⟨x2, ad2, c2, rfl, i2⟩ := openI' Try.underlying28 Try.underlying2 (by kernel_rfl) (hval 2 28 v2 rfl rfl) h2
  obtain ⟨x3, rfl, rfl, rfl, wf3⟩ := open_int Try.underlying2 (hval 3 2 v3 rfl rfl) h3
  obtain ⟨x4, rfl, rfl, rfl, wf4⟩ := open_int Try.underlying2 (hval 4 2 v4 rfl rfl) h4
  obtain ⟨x5, rfl, rfl, rfl, wf5⟩ := open_int Try.underlying2 (hval 5 2 v5 rfl rfl) h5
  clear hA0 hval0
  refine (walk x0 x1 ad1 c1 x2 ad2 c2 x3 x4 x5 W i1 i2).mono fun e W' ⟨he, bel⟩ => ?_
  subst he
  exact ⟨_, rfl, _, _, _, [], _, [], hW', trodAll_mk1 (shut_bool Try.underlying4 _), (trodAll_cons_mk (shut_int Try.underlying2 wf0) (trodAll_cons_mk (Below.trod laidOut (by kernel_rfl) (of_decide_eq_true (by kernel_rfl)) k1 bel lt1) (trodAll_cons_mk (Below.trod laidOut (by kernel_rfl) (of_decide_eq_true (by kernel_rfl)) k2 bel lt2) (trodAll_cons_mk (shut_int Try.underlying2 wf3) (trodAll_cons_mk (shut_int Try.underlying2 wf4) (trodAll_cons_mk (shut_int Try.underlying2 wf5) trodAll_mk0)))))), rfl, bel.frame _, fun h => by cases h⟩

theorem over : Rows.fnExactInterestByRatesRow.holds Try.pinned (OpenSpec.ofChange Rows.fnExactInterestByRatesSpec) :=
  OpenClaim.holds_of_wide 7 Try.f7 rfl rfl rfl rfl rfl rfl rfl ⟨rfl, rfl, rfl, rfl, rfl⟩ rfl rfl rfl rfl rfl (by kernel_rfl) Try.func7 (by kernel_rfl)
    (of_decide_eq_true (by kernel_rfl)) (by unfold Func.isWrapper; first | (rw [if_pos (by decide +kernel)]; kernel_rfl) | (rw [if_neg (by decide +kernel)]; exact ⟨rfl, rfl⟩))
    (fun os started H enc _ => lifted os started H enc)

/-- The statement. -/
theorem proved : Rows.FnExactInterestByRatesSaid := over
#print axioms proved
end Go.Proofs.Ytpmlkolaganojaa.fnExactInterestByRates
