/-
  FnExactPayDebts returns true for every input: the program's PayDebts and the reference's give the same results, leave their arguments as they were, and share no memory. No condition.
-/
import Derived.Test.YtcpjbnfmkhaadaaRows
import Derived.Test.YtcpjbnfmkhaadaaPayS
import Derived.Test.YtcpjbnfmkhaadaaToDebtS
import Derived.Test.YtcpjbnfmkhaadaaInt64S
import Derived.Test.YtcpjbnfmkhaadaaDebtS
import Derived.Test.YtcpjbnfmkhaadaaDebtM
import Derived.Test.YtcpjbnfmkhaadaaOpen
import Derived.WalkKit
import Derived.ProofKit
import Derived.OpenShut
import Derived.Carry
import Derived.Deep.RegionHeld3
namespace Go.Proofs.Ytcpjbnfmkhaadaa.fnExactPayDebts
open Go.ChangeShapes Go.WideShapes Go.ChangeAt Go.RowKit
set_option linter.unusedVariables false

theorem own : ownKnob Try.prog.godebug = none := by kernel_rfl
theorem laidOut : laidOutB Try.prog = true := by kernel_rfl

set_option maxHeartbeats 4000000 in
theorem walk (x0 : Rec) (ad0 : Option Addr) (c0 : Nat) (x1 : Int) (x2 : Int) (w : World) (i0 : InR 3 w (.slice ad0 x0.length c0) x0) :
    Calls Try.prog 4 #[.slice ad0 x0.length c0, .int .i64 x1, .int .i64 x2] w fun e w' => e = .returned (.bool true) ∧ Below w.heap.size w w' := by
  go_enter Try.func4, Try.ntmps4
  rcases Int.lt_or_le (1048576) (x0.length : Int) with hs0 | hs0
  · go_wp2_with fail
    refine (sz_d_no i0 hs0 (by omega)).mono ?_
    rintro e wz ⟨rfl, bz⟩
    go_wp2_with fail
    go_ret
    exact ⟨rfl, bz⟩
  go_wp2_with fail
  refine (sz_d_yes i0 hs0 (by omega)).mono ?_
  rintro e w1 ⟨rfl, b1⟩
  have C1 := b1
  go_wp2_with fail
  refine (to_d (i0.below C1) (by omega)).mono ?_
  rintro e w2 ⟨v_t1, rfl, o_t1, b2⟩
  have C2 := bnext C1 b2
  have lt_t1 := Lib.hid o_t1.lt
  go_wp2_with fail
  refine (PayDebts_spec o_t1 x1 x2).mono ?_
  rintro e w3 ⟨v_w0, rfl, o_w0, ln_w0, b3⟩
  have C3 := bnext C2 b3
  replace o_t1 := o_t1.below b3
  have lt_w0 := Lib.hid o_w0.lt
  go_wp2_with fail
  refine (to_d (i0.below C3) (by omega)).mono ?_
  rintro e w4 ⟨v_t2, rfl, o_t2, b4⟩
  have C4 := bnext C3 b4
  replace o_w0 := o_w0.below b4
  have lt_t2 := Lib.hid o_t2.lt
  go_wp2_with fail
  refine (PayDebts_impl o_t2 x1 x2).mono ?_
  rintro e w5 ⟨v_g0, rfl, o_g0, ln_g0, b5⟩
  have C5 := bnext C4 b5
  replace o_w0 := o_w0.below b5
  replace o_t2 := o_t2.below b5
  have lt_g0 := Lib.hid o_g0.lt
  go_wp2_with fail
  refine (eq_i o_g0 o_w0 (by omega)).mono ?_
  rintro e w6 ⟨rfl, b6⟩
  have C6 := bnext C5 b6
  replace o_w0 := o_w0.below b6
  replace o_t2 := o_t2.below b6
  replace o_g0 := o_g0.below b6
  go_wp2_with fail
  refine (to_d (i0.below C6) (by omega)).mono ?_
  rintro e w7 ⟨v_t3, rfl, o_t3, b7⟩
  have C7 := bnext C6 b7
  replace o_w0 := o_w0.below b7
  replace o_t2 := o_t2.below b7
  replace o_g0 := o_g0.below b7
  have lt_t3 := Lib.hid o_t3.lt
  go_wp2_with fail
  refine (eq_d o_t2 o_t3 (by omega)).mono ?_
  rintro e w8 ⟨rfl, b8⟩
  have C8 := bnext C7 b8
  replace o_w0 := o_w0.below b8
  replace o_t2 := o_t2.below b8
  replace o_g0 := o_g0.below b8
  replace o_t3 := o_t3.below b8
  go_wp2_with fail
  refine (mark_d _ o_t2 (by omega) (by omega) (by omega)).mono ?_
  rintro e w9 ⟨rfl, q_x0, n9⟩
  have m9 := n9 w3.heap.size w4.heap.size lt_t2.out
  have C9 := C8.trans (m9.toBelow C3.size C8.size)
  replace o_w0 := o_w0.only m9 (fun k hk => .inl (by have := (lt_w0.out k hk).2; omega))
  replace o_g0 := o_g0.only m9 (fun k hk => .inr (by have := (lt_g0.out k hk).1; omega))
  clear o_t2
  go_wp2_with fail
  refine (eq_i o_g0 o_w0 (by omega)).mono ?_
  rintro e w10 ⟨rfl, b10⟩
  have C10 := bnext C9 b10
  replace o_w0 := o_w0.below b10
  replace q_x0 := q_x0.below b10
  replace o_g0 := o_g0.below b10
  go_wp2_with fail
  refine (mark_i _ o_g0 (by omega) (by omega) (by omega)).mono ?_
  rintro e w11 ⟨rfl, q_g0, n11⟩
  have m11 := n11 w4.heap.size w5.heap.size lt_g0.out
  have C11 := C10.trans (m11.toBelow C4.size C10.size)
  replace o_w0 := o_w0.only m11 (fun k hk => .inl (by have := (lt_w0.out k hk).2; have := b4.size; omega))
  replace q_x0 := q_x0.only m11 (fun k hk => .inl (by have := (lt_t2.out k hk).2; omega))
  clear o_g0
  go_wp2_with fail
  refine (held_i _ q_g0 (by omega) (by omega) (by omega)).mono ?_
  rintro e w12 ⟨rfl, b12⟩
  have C12 := bnext C11 b12
  replace o_w0 := o_w0.below b12
  replace q_x0 := q_x0.below b12
  replace q_g0 := q_g0.below b12
  go_wp2_with fail
  refine (to_d (i0.below C12) (by omega)).mono ?_
  rintro e w13 ⟨v_t4, rfl, o_t4, b13⟩
  have C13 := bnext C12 b13
  replace o_w0 := o_w0.below b13
  replace q_x0 := q_x0.below b13
  replace q_g0 := q_g0.below b13
  have lt_t4 := Lib.hid o_t4.lt
  go_wp2_with fail
  refine (PayDebts_impl o_t4 x1 x2).mono ?_
  rintro e w14 ⟨v_h0, rfl, o_h0, ln_h0, b14⟩
  have C14 := bnext C13 b14
  replace o_w0 := o_w0.below b14
  replace q_x0 := q_x0.below b14
  replace q_g0 := q_g0.below b14
  replace o_t4 := o_t4.below b14
  have lt_h0 := Lib.hid o_h0.lt
  go_wp2_with fail
  refine (eq_i o_h0 o_w0 (by omega)).mono ?_
  rintro e w15 ⟨rfl, b15⟩
  have C15 := bnext C14 b15
  replace o_w0 := o_w0.below b15
  replace q_x0 := q_x0.below b15
  replace q_g0 := q_g0.below b15
  replace o_h0 := o_h0.below b15
  go_wp2_with fail
  refine (held_i _ q_g0 (by omega) (by omega) (by omega)).mono ?_
  rintro e w16 ⟨rfl, b16⟩
  have C16 := bnext C15 b16
  replace o_w0 := o_w0.below b16
  replace q_x0 := q_x0.below b16
  replace q_g0 := q_g0.below b16
  replace o_h0 := o_h0.below b16
  go_wp2_with fail
  go_ret
  exact ⟨rfl, C16⟩

set_option maxRecDepth 100000 in
theorem lifted (os : Os) (started : os.Started) (H : Type) (enc : TypeId × Value → H) :
    ReturnsInHanded {} Try.checked os 4 .any (Rows.fnExactPayDebtsSpec.pre6 enc Try.prog Try.f4 Rows.fnExactPayDebtsRow.domain false) (Rows.fnExactPayDebtsSpec.post enc Try.prog Try.f4 false true false false) := by
  refine returnsInHanded_of_change (C := Try.checked) own started (by kernel_rfl) Try.func4
    (ChangeSpec.witness6 (enc := enc) (C := Try.checked) false ⟨#[], #[.slice none 0 0, .int .i64 0, .int .i64 0], []⟩ 8 (by kernel_rfl) (by kernel_rfl) (by kernel_rfl) (by kernel_rfl)) ?_
  intro W base args ds gs before hval0 hW hcnd _
  have hval : ∀ (j : Nat) t v, Try.f4.params[j]? = some t → args[j]? = some v → Value.okWide Try.prog W .any base t v := hval0
  have hW' := hW
  obtain ⟨p, q, hA0, hV, rfl, hfz, hnd⟩ := hW
  have hA : DataW.TrodAll enc Try.prog W 0 (fun _ => true) true Try.f4.params.toList args.toList ds p := hA0
  rw [Try.params4] at hA hval
  obtain ⟨v0, vs0, d0, ds0, p0, q0, hargs, rfl, rfl, h0, r0⟩ := trodAll_cons hA
  obtain ⟨v1, vs1, d1, ds1, p1, q1, rfl, rfl, rfl, h1, r1⟩ := trodAll_cons r0
  obtain ⟨v2, vs2, d2, ds2, p2, q2, rfl, rfl, rfl, h2, r2⟩ := trodAll_cons r1
  obtain ⟨rfl, rfl, rfl⟩ := trodAll_nil r2
  obtain rfl : args = #[v0, v1, v2] := by cases args; simp_all
  obtain ⟨rfl, rfl⟩ := trodVars_none hV
  have k0 := h0
  have lt0 := lt_of_trod h0
  obtain ⟨x0, ad0, c0, rfl, i0⟩ := Try.openDebtS (hval 0 29 v0 rfl rfl) h0
  obtain ⟨x1, rfl, rfl, rfl, wf1⟩ := open_int Try.underlying2 (hval 1 2 v1 rfl rfl) h1
  obtain ⟨x2, rfl, rfl, rfl, wf2⟩ := open_int Try.underlying2 (hval 2 2 v2 rfl rfl) h2
  clear hA0 hval0
  refine (walk x0 ad0 c0 x1 x2 W i0).mono fun e W' ⟨he, bel⟩ => ?_
  subst he
  exact ⟨_, rfl, _, _, _, [], _, [], hW', trodAll_mk1 (shut_bool Try.underlying4 _), (trodAll_cons_mk (Below.trod laidOut (by kernel_rfl) (of_decide_eq_true (by kernel_rfl)) k0 bel lt0) (trodAll_cons_mk (shut_int Try.underlying2 wf1) (trodAll_cons_mk (shut_int Try.underlying2 wf2) trodAll_mk0))), rfl, bel.frame _, fun h => by cases h⟩

theorem over : Rows.fnExactPayDebtsRow.holds Try.pinned (OpenSpec.ofChange Rows.fnExactPayDebtsSpec) :=
  OpenClaim.holds_of_wide 4 Try.f4 rfl rfl rfl rfl rfl rfl rfl ⟨rfl, rfl, rfl, rfl, rfl⟩ rfl rfl rfl rfl rfl (by kernel_rfl) Try.func4 (by kernel_rfl)
    (of_decide_eq_true (by kernel_rfl)) (by unfold Func.isWrapper; first | (rw [if_pos (by decide +kernel)]; kernel_rfl) | (rw [if_neg (by decide +kernel)]; exact ⟨rfl, rfl⟩))
    (fun os started H enc _ => lifted os started H enc)

/-- The statement. -/
theorem proved : Rows.FnExactPayDebtsSaid := over
#print axioms proved
end Go.Proofs.Ytcpjbnfmkhaadaa.fnExactPayDebts
