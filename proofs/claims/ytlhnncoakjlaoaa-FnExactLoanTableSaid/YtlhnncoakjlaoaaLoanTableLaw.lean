/-
  FnExactLoanTable returns true for every input: the program's LoanTable and the reference's give the same results, leave their arguments as they were, and share no memory. No condition.
-/
import Derived.Test.YtlhnncoakjlaoaaRows
import Derived.Test.YtlhnncoakjlaoaaLoanTable
import Derived.Test.YtlhnncoakjlaoaaInt64S
import Derived.Test.YtlhnncoakjlaoaaOpen
import Derived.WalkKit
import Derived.ProofKit
import Derived.OpenShut
import Derived.Carry
namespace Go.Proofs.Ytlhnncoakjlaoaa.fnExactLoanTable
open Go.ChangeShapes Go.WideShapes Go.ChangeAt Go.RowKit
set_option linter.unusedVariables false

theorem own : ownKnob Try.prog.godebug = none := by kernel_rfl
theorem laidOut : laidOutB Try.prog = true := by kernel_rfl

set_option maxHeartbeats 4000000 in
theorem walk (x0 : Int) (x1 : Int) (x2 : Int) (x3 : Int) (w : World) :
    Calls Try.prog 7 #[.int .i64 x0, .int .i64 x1, .int .i64 x2, .int .i64 x3] w fun e w' => e = .returned (.bool true) ∧ Below w.heap.size w w' := by
  go_enter Try.func7, Try.ntmps7
  go_wp2_with fail
  refine (LoanTable_spec x0 x1 x2 x3 _).mono ?_
  rintro e w1 ⟨v_w0, v_w1, rfl, o_w0, ln_w0, o_w1, ln_w1, dj_w0, b1⟩
  have C1 := b1
  have lt_w0 := Lib.hid o_w0.lt
  have lt_w1 := Lib.hid o_w1.lt
  go_wp2_with fail
  refine (LoanTable_impl x0 x1 x2 x3 _).mono ?_
  rintro e w2 ⟨v_g0, v_g1, rfl, o_g0, ln_g0, o_g1, ln_g1, dj_g0, b2⟩
  have C2 := bnext C1 b2
  replace o_w0 := o_w0.below b2
  replace o_w1 := o_w1.below b2
  have lt_g0 := Lib.hid o_g0.lt
  have lt_g1 := Lib.hid o_g1.lt
  go_wp2_with fail
  refine (eq_i o_g0 o_w0 (by omega)).mono ?_
  rintro e w3 ⟨rfl, b3⟩
  have C3 := bnext C2 b3
  replace o_w0 := o_w0.below b3
  replace o_w1 := o_w1.below b3
  replace o_g0 := o_g0.below b3
  replace o_g1 := o_g1.below b3
  go_wp2_with fail
  refine (eq_i o_g1 o_w1 (by omega)).mono ?_
  rintro e w4 ⟨rfl, b4⟩
  have C4 := bnext C3 b4
  replace o_w0 := o_w0.below b4
  replace o_w1 := o_w1.below b4
  replace o_g0 := o_g0.below b4
  replace o_g1 := o_g1.below b4
  go_wp2_with fail
  refine (mark_i _ o_g0 (by omega) (by omega) (by omega)).mono ?_
  rintro e w5 ⟨rfl, q_g0, n5⟩
  have m5 := n5 w1.heap.size w2.heap.size lt_g0.out
  have C5 := C4.trans (m5.toBelow C1.size C4.size)
  replace o_w0 := o_w0.only m5 (fun k hk => .inl (by have := (lt_w0.out k hk).2; omega))
  replace o_w1 := o_w1.only m5 (fun k hk => .inl (by have := (lt_w1.out k hk).2; omega))
  replace o_g1 := o_g1.onlyOf n5 (fun k hk hk' => dj_g0.out k hk' hk)
  clear o_g0
  go_wp2_with fail
  refine (mark_i _ o_g1 (by omega) (by omega) (by omega)).mono ?_
  rintro e w6 ⟨rfl, q_g1, n6⟩
  have m6 := n6 w1.heap.size w2.heap.size lt_g1.out
  have C6 := C5.trans (m6.toBelow C1.size C5.size)
  replace o_w0 := o_w0.only m6 (fun k hk => .inl (by have := (lt_w0.out k hk).2; omega))
  replace o_w1 := o_w1.only m6 (fun k hk => .inl (by have := (lt_w1.out k hk).2; omega))
  replace q_g0 := q_g0.onlyOf n6 (fun k hk hk' => dj_g0.out k hk hk')
  clear o_g1
  go_wp2_with fail
  refine (held_i _ q_g0 (by omega) (by omega) (by omega)).mono ?_
  rintro e w7 ⟨rfl, b7⟩
  have C7 := bnext C6 b7
  replace o_w0 := o_w0.below b7
  replace o_w1 := o_w1.below b7
  replace q_g0 := q_g0.below b7
  replace q_g1 := q_g1.below b7
  go_wp2_with fail
  refine (held_i _ q_g1 (by omega) (by omega) (by omega)).mono ?_
  rintro e w8 ⟨rfl, b8⟩
  have C8 := bnext C7 b8
  replace o_w0 := o_w0.below b8
  replace o_w1 := o_w1.below b8
  replace q_g0 := q_g0.below b8
  replace q_g1 := q_g1.below b8
  go_wp2_with fail
  refine (LoanTable_impl x0 x1 x2 x3 _).mono ?_
  rintro e w9 ⟨v_h0, v_h1, rfl, o_h0, ln_h0, o_h1, ln_h1, dj_h0, b9⟩
  have C9 := bnext C8 b9
  replace o_w0 := o_w0.below b9
  replace o_w1 := o_w1.below b9
  replace q_g0 := q_g0.below b9
  replace q_g1 := q_g1.below b9
  have lt_h0 := Lib.hid o_h0.lt
  have lt_h1 := Lib.hid o_h1.lt
  go_wp2_with fail
  refine (eq_i o_h0 o_w0 (by omega)).mono ?_
  rintro e w10 ⟨rfl, b10⟩
  have C10 := bnext C9 b10
  replace o_w0 := o_w0.below b10
  replace o_w1 := o_w1.below b10
  replace q_g0 := q_g0.below b10
  replace q_g1 := q_g1.below b10
  replace o_h0 := o_h0.below b10
  replace o_h1 := o_h1.below b10
  go_wp2_with fail
  refine (eq_i o_h1 o_w1 (by omega)).mono ?_
  rintro e w11 ⟨rfl, b11⟩
  have C11 := bnext C10 b11
  replace o_w0 := o_w0.below b11
  replace o_w1 := o_w1.below b11
  replace q_g0 := q_g0.below b11
  replace q_g1 := q_g1.below b11
  replace o_h0 := o_h0.below b11
  replace o_h1 := o_h1.below b11
  go_wp2_with fail
  refine (held_i _ q_g0 (by omega) (by omega) (by omega)).mono ?_
  rintro e w12 ⟨rfl, b12⟩
  have C12 := bnext C11 b12
  replace o_w0 := o_w0.below b12
  replace o_w1 := o_w1.below b12
  replace q_g0 := q_g0.below b12
  replace q_g1 := q_g1.below b12
  replace o_h0 := o_h0.below b12
  replace o_h1 := o_h1.below b12
  go_wp2_with fail
  refine (held_i _ q_g1 (by omega) (by omega) (by omega)).mono ?_
  rintro e w13 ⟨rfl, b13⟩
  have C13 := bnext C12 b13
  replace o_w0 := o_w0.below b13
  replace o_w1 := o_w1.below b13
  replace q_g0 := q_g0.below b13
  replace q_g1 := q_g1.below b13
  replace o_h0 := o_h0.below b13
  replace o_h1 := o_h1.below b13
  go_wp2_with fail
  go_ret
  exact ⟨rfl, C13⟩

set_option maxRecDepth 100000 in
theorem lifted (os : Os) (started : os.Started) (H : Type) (enc : TypeId × Value → H) :
    ReturnsInHanded {} Try.checked os 7 .any (Rows.fnExactLoanTableSpec.pre6 enc Try.prog Try.f7 Rows.fnExactLoanTableRow.domain false) (Rows.fnExactLoanTableSpec.post enc Try.prog Try.f7 false true false false) := by
  refine returnsInHanded_of_change (C := Try.checked) own started (by kernel_rfl) Try.func7
    (ChangeSpec.witness6 (enc := enc) (C := Try.checked) false ⟨#[], #[.int .i64 0, .int .i64 0, .int .i64 0, .int .i64 0], []⟩ 8 (by kernel_rfl) (by kernel_rfl) (by kernel_rfl) (by kernel_rfl)) ?_
  intro W base args ds gs before hval0 hW hcnd _
  have hval : ∀ (j : Nat) t v, Try.f7.params[j]? = some t → args[j]? = some v → Value.okWide Try.prog W .any base t v := hval0
  have hW' := hW
  obtain ⟨p, q, hA0, hV, rfl, hfz, hnd⟩ := hW
  have hA : DataW.TrodAll enc Try.prog W 0 (fun _ => true) true Try.f7.params.toList args.toList ds p := hA0
  rw [Try.params7] at hA hval
  obtain ⟨v0, vs0, d0, ds0, p0, q0, hargs, rfl, rfl, h0, r0⟩ := trodAll_cons hA
  obtain ⟨v1, vs1, d1, ds1, p1, q1, rfl, rfl, rfl, h1, r1⟩ := trodAll_cons r0
  obtain ⟨v2, vs2, d2, ds2, p2, q2, rfl, rfl, rfl, h2, r2⟩ := trodAll_cons r1
  obtain ⟨v3, vs3, d3, ds3, p3, q3, rfl, rfl, rfl, h3, r3⟩ := trodAll_cons r2
  obtain ⟨rfl, rfl, rfl⟩ := trodAll_nil r3
  obtain rfl : args = #[v0, v1, v2, v3] := by cases args; simp_all
  obtain ⟨rfl, rfl⟩ := trodVars_none hV
  obtain ⟨x0, rfl, rfl, rfl, wf0⟩ := open_int Try.underlying2 (hval 0 2 v0 rfl rfl) h0
  obtain ⟨x1, rfl, rfl, rfl, wf1⟩ := open_int Try.underlying2 (hval 1 2 v1 rfl rfl) h1
  obtain ⟨x2, rfl, rfl, rfl, wf2⟩ := open_int Try.underlying2 (hval 2 2 v2 rfl rfl) h2
  obtain ⟨x3, rfl, rfl, rfl, wf3⟩ := open_int Try.underlying2 (hval 3 2 v3 rfl rfl) h3
  clear hA0 hval0
  refine (walk x0 x1 x2 x3 W).mono fun e W' ⟨he, bel⟩ => ?_
  subst he
  exact ⟨_, rfl, _, _, _, [], _, [], hW', trodAll_mk1 (shut_bool Try.underlying4 _), (trodAll_cons_mk (shut_int Try.underlying2 wf0) (trodAll_cons_mk (shut_int Try.underlying2 wf1) (trodAll_cons_mk (shut_int Try.underlying2 wf2) (trodAll_cons_mk (shut_int Try.underlying2 wf3) trodAll_mk0)))), rfl, bel.frame _, fun h => by cases h⟩

theorem over : Rows.fnExactLoanTableRow.holds Try.pinned (OpenSpec.ofChange Rows.fnExactLoanTableSpec) :=
  OpenClaim.holds_of_wide 7 Try.f7 rfl rfl rfl rfl rfl rfl rfl ⟨rfl, rfl, rfl, rfl, rfl⟩ rfl rfl rfl rfl rfl (by kernel_rfl) Try.func7 (by kernel_rfl)
    (of_decide_eq_true (by kernel_rfl)) (by unfold Func.isWrapper; first | (rw [if_pos (by decide +kernel)]; kernel_rfl) | (rw [if_neg (by decide +kernel)]; exact ⟨rfl, rfl⟩))
    (fun os started H enc _ => lifted os started H enc)

/-- The statement. -/
theorem proved : Rows.FnExactLoanTableSaid := over
#print axioms proved
end Go.Proofs.Ytlhnncoakjlaoaa.fnExactLoanTable
