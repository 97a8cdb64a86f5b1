/-
  FnExactEvenParts returns true for every input: the program's EvenParts and the reference's give the same results, leave their arguments as they were, and share no memory. No condition.
-/
import Derived.Test.YtmlblgkpeogdgaaRows
import Derived.Test.YtmlblgkpeogdgaaEvenParts
import Derived.Test.YtmlblgkpeogdgaaInt64S
import Derived.Test.YtmlblgkpeogdgaaOpen
import Derived.WalkKit
import Derived.ProofKit
import Derived.OpenShut
import Derived.Carry
namespace Go.Proofs.Ytmlblgkpeogdgaa.fnExactEvenParts
open Go.ChangeShapes Go.WideShapes Go.ChangeAt Go.RowKit
set_option linter.unusedVariables false

theorem own : ownKnob Try.prog.godebug = none := by kernel_rfl
theorem laidOut : laidOutB Try.prog = true := by kernel_rfl

set_option maxHeartbeats 4000000 in
theorem walk (x0 : Int) (x1 : Int) (w : World) :
    Calls Try.prog 7 #[.int .i64 x0, .int .i64 x1] w fun e w' => e = .returned (.bool true) ∧ Below w.heap.size w w' := by
  go_enter Try.func7, Try.ntmps7
  go_wp2_with fail
  refine (EvenParts_spec x0 x1 _).mono ?_
  rintro e w1 ⟨v_w0, rfl, o_w0, ln_w0, b1⟩
  have C1 := b1
  have lt_w0 := Lib.hid o_w0.lt
  go_wp2_with fail
  refine (EvenParts_impl x0 x1 _).mono ?_
  rintro e w2 ⟨v_g0, rfl, o_g0, ln_g0, b2⟩
  have C2 := bnext C1 b2
  replace o_w0 := o_w0.below b2
  have lt_g0 := Lib.hid o_g0.lt
  go_wp2_with fail
  refine (eq_i o_g0 o_w0 (by omega)).mono ?_
  rintro e w3 ⟨rfl, b3⟩
  have C3 := bnext C2 b3
  replace o_w0 := o_w0.below b3
  replace o_g0 := o_g0.below b3
  go_wp2_with fail
  refine (mark_i _ o_g0 (by omega) (by omega) (by omega)).mono ?_
  rintro e w4 ⟨rfl, q_g0, n4⟩
  have m4 := n4 w1.heap.size w2.heap.size lt_g0.out
  have C4 := C3.trans (m4.toBelow C1.size C3.size)
  replace o_w0 := o_w0.only m4 (fun k hk => .inl (by have := (lt_w0.out k hk).2; omega))
  clear o_g0
  go_wp2_with fail
  refine (held_i _ q_g0 (by omega) (by omega) (by omega)).mono ?_
  rintro e w5 ⟨rfl, b5⟩
  have C5 := bnext C4 b5
  replace o_w0 := o_w0.below b5
  replace q_g0 := q_g0.below b5
  go_wp2_with fail
  refine (EvenParts_impl x0 x1 _).mono ?_
  rintro e w6 ⟨v_h0, rfl, o_h0, ln_h0, b6⟩
  have C6 := bnext C5 b6
  replace o_w0 := o_w0.below b6
  replace q_g0 := q_g0.below b6
  have lt_h0 := Lib.hid o_h0.lt
  go_wp2_with fail
  refine (eq_i o_h0 o_w0 (by omega)).mono ?_
  rintro e w7 ⟨rfl, b7⟩
  have C7 := bnext C6 b7
  replace o_w0 := o_w0.below b7
  replace q_g0 := q_g0.below b7
  replace o_h0 := o_h0.below b7
  go_wp2_with fail
  refine (held_i _ q_g0 (by omega) (by omega) (by omega)).mono ?_
  rintro e w8 ⟨rfl, b8⟩
  have C8 := bnext C7 b8
  replace o_w0 := o_w0.below b8
  replace q_g0 := q_g0.below b8
  replace o_h0 := o_h0.below b8
  go_wp2_with fail
  go_ret
  exact ⟨rfl, C8⟩

set_option maxRecDepth 100000 in
theorem lifted (os : Os) (started : os.Started) (H : Type) (enc : TypeId × Value → H) :
    ReturnsInHanded {} Try.checked os 7 .any (Rows.fnExactEvenPartsSpec.pre6 enc Try.prog Try.f7 Rows.fnExactEvenPartsRow.domain false) (Rows.fnExactEvenPartsSpec.post enc Try.prog Try.f7 false true false false) := by
  refine returnsInHanded_of_change (C := Try.checked) own started (by kernel_rfl) Try.func7
    (ChangeSpec.witness6 (enc := enc) (C := Try.checked) false ⟨#[], #[.int .i64 0, .int .i64 0], []⟩ 8 (by kernel_rfl) (by kernel_rfl) (by kernel_rfl) (by kernel_rfl)) ?_
  intro W base args ds gs before hval0 hW hcnd _
  have hval : ∀ (j : Nat) t v, Try.f7.params[j]? = some t → args[j]? = some v → Value.okWide Try.prog W .any base t v := hval0
  have hW' := hW
  obtain ⟨p, q, hA0, hV, rfl, hfz, hnd⟩ := hW
  have hA : DataW.TrodAll enc Try.prog W 0 (fun _ => true) true Try.f7.params.toList args.toList ds p := hA0
  rw [Try.params7] at hA hval
  obtain ⟨v0, vs0, d0, ds0, p0, q0, hargs, rfl, rfl, h0, r0⟩ := trodAll_cons hA
  obtain ⟨v1, vs1, d1, ds1, p1, q1, rfl, rfl, rfl, h1, r1⟩ := trodAll_cons r0
  obtain ⟨rfl, rfl, rfl⟩ := trodAll_nil r1
  obtain rfl : args = #[v0, v1] := by cases args; simp_all
  obtain ⟨rfl, rfl⟩ := trodVars_none hV
  obtain ⟨x0, rfl, rfl, rfl, wf0⟩ := open_int Try.underlying2 (hval 0 2 v0 rfl rfl) h0
  obtain ⟨x1, rfl, rfl, rfl, wf1⟩ := open_int Try.underlying2 (hval 1 2 v1 rfl rfl) h1
  clear hA0 hval0
  refine (walk x0 x1 W).mono fun e W' ⟨he, bel⟩ => ?_
  subst he
  exact ⟨_, rfl, _, _, _, [], _, [], hW', trodAll_mk1 (shut_bool Try.underlying4 _), (trodAll_cons_mk (shut_int Try.underlying2 wf0) (trodAll_cons_mk (shut_int Try.underlying2 wf1) trodAll_mk0)), rfl, bel.frame _, fun h => by cases h⟩

theorem over : Rows.fnExactEvenPartsRow.holds Try.pinned (OpenSpec.ofChange Rows.fnExactEvenPartsSpec) :=
  OpenClaim.holds_of_wide 7 Try.f7 rfl rfl rfl rfl rfl rfl rfl ⟨rfl, rfl, rfl, rfl, rfl⟩ rfl rfl rfl rfl rfl (by kernel_rfl) Try.func7 (by kernel_rfl)
    (of_decide_eq_true (by kernel_rfl)) (by unfold Func.isWrapper; first | (rw [if_pos (by decide +kernel)]; kernel_rfl) | (rw [if_neg (by decide +kernel)]; exact ⟨rfl, rfl⟩))
    (fun os started H enc _ => lifted os started H enc)

/-- The statement. -/
theorem proved : Rows.FnExactEvenPartsSaid := over
#print axioms proved
end Go.Proofs.Ytmlblgkpeogdgaa.fnExactEvenParts
