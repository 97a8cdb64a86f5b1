/-
  FnExactCarryLosses returns true for every input: the program's CarryLosses and the reference's give the same results, leave their arguments as they were, and share no memory. No condition.
-/
import Derived.Test.YtjopeidmfgkhnaaRows
import Derived.Test.YtjopeidmfgkhnaaCarryLosses
import Derived.Test.YtjopeidmfgkhnaaToInt64S
import Derived.Test.YtjopeidmfgkhnaaInt64S
import Derived.Test.YtjopeidmfgkhnaaOpen
import Derived.WalkKit
import Derived.ProofKit
import Derived.OpenShut
import Derived.Carry
import Derived.Deep.RegionHeld3
namespace Go.Proofs.Ytjopeidmfgkhnaa.fnExactCarryLosses
open Go.ChangeShapes Go.WideShapes Go.ChangeAt Go.RowKit
set_option linter.unusedVariables false

theorem own : ownKnob Try.prog.godebug = none := by kernel_rfl
theorem laidOut : laidOutB Try.prog = true := by kernel_rfl

set_option maxHeartbeats 4000000 in
theorem walk (x0 : List Int) (ad0 : Option Addr) (c0 : Nat) (x1 : Int) (x2 : Int) (w : World) (i0 : InI w (.slice ad0 x0.length c0) x0) :
    Calls Try.prog 5 #[.slice ad0 x0.length c0, .int .i64 x1, .int .i64 x2] w fun e w' => e = .returned (.bool true) ∧ Below w.heap.size w w' := by
  rcases Int.lt_or_le 1048576 (x0.length : Int) with hl0 | hl0
  · go_enter Try.func5, Try.ntmps5
    go_wp2_with fail
    go_ret
    exact ⟨rfl, by first | exact Below.refl _ _ | go_grown⟩
  go_enter Try.func5, Try.ntmps5
  go_wp2_with fail
  refine (to_i i0 (by omega)).mono ?_
  rintro e w1 ⟨v_t1, rfl, o_t1, b1⟩
  have C1 := b1
  have lt_t1 := Lib.hid o_t1.lt
  go_wp2_with fail
  refine (CarryLosses_spec o_t1 x1 x2).mono ?_
  rintro e w2 ⟨v_w0, v_w1, rfl, o_w0, ln_w0, o_w1, ln_w1, dj_w0, b2⟩
  have C2 := bnext C1 b2
  replace o_t1 := o_t1.below b2
  have lt_w0 := Lib.hid o_w0.lt
  have lt_w1 := Lib.hid o_w1.lt
  go_wp2_with fail
  refine (to_i (i0.below C2) (by omega)).mono ?_
  rintro e w3 ⟨v_t2, rfl, o_t2, b3⟩
  have C3 := bnext C2 b3
  replace o_w0 := o_w0.below b3
  replace o_w1 := o_w1.below b3
  have lt_t2 := Lib.hid o_t2.lt
  go_wp2_with fail
  refine (CarryLosses_impl o_t2 x1 x2).mono ?_
  rintro e w4 ⟨v_g0, v_g1, rfl, o_g0, ln_g0, o_g1, ln_g1, dj_g0, b4⟩
  have C4 := bnext C3 b4
  replace o_w0 := o_w0.below b4
  replace o_w1 := o_w1.below b4
  replace o_t2 := o_t2.below b4
  have lt_g0 := Lib.hid o_g0.lt
  have lt_g1 := Lib.hid o_g1.lt
  go_wp2_with fail
  refine (eq_i o_g0 o_w0 (by omega)).mono ?_
  rintro e w5 ⟨rfl, b5⟩
  have C5 := bnext C4 b5
  replace o_w0 := o_w0.below b5
  replace o_w1 := o_w1.below b5
  replace o_t2 := o_t2.below b5
  replace o_g0 := o_g0.below b5
  replace o_g1 := o_g1.below b5
  go_wp2_with fail
  refine (eq_i o_g1 o_w1 (by omega)).mono ?_
  rintro e w6 ⟨rfl, b6⟩
  have C6 := bnext C5 b6
  replace o_w0 := o_w0.below b6
  replace o_w1 := o_w1.below b6
  replace o_t2 := o_t2.below b6
  replace o_g0 := o_g0.below b6
  replace o_g1 := o_g1.below b6
  go_wp2_with fail
  refine (to_i (i0.below C6) (by omega)).mono ?_
  rintro e w7 ⟨v_t3, rfl, o_t3, b7⟩
  have C7 := bnext C6 b7
  replace o_w0 := o_w0.below b7
  replace o_w1 := o_w1.below b7
  replace o_t2 := o_t2.below b7
  replace o_g0 := o_g0.below b7
  replace o_g1 := o_g1.below b7
  have lt_t3 := Lib.hid o_t3.lt
  go_wp2_with fail
  refine (eq_i o_t2.own o_t3.own (by omega)).mono ?_
  rintro e w8 ⟨rfl, b8⟩
  have C8 := bnext C7 b8
  replace o_w0 := o_w0.below b8
  replace o_w1 := o_w1.below b8
  replace o_t2 := o_t2.below b8
  replace o_g0 := o_g0.below b8
  replace o_g1 := o_g1.below b8
  replace o_t3 := o_t3.below b8
  go_wp2_with fail
  refine (mark_i _ o_t2.own (by omega) (by omega) (by omega)).mono ?_
  rintro e w9 ⟨rfl, q_x0, n9⟩
  have m9 := n9 w2.heap.size w3.heap.size lt_t2.out
  have C9 := C8.trans (m9.toBelow C2.size C8.size)
  replace o_w0 := o_w0.only m9 (fun k hk => .inl (by have := (lt_w0.out k hk).2; omega))
  replace o_w1 := o_w1.only m9 (fun k hk => .inl (by have := (lt_w1.out k hk).2; omega))
  replace o_g0 := o_g0.only m9 (fun k hk => .inr (by have := (lt_g0.out k hk).1; omega))
  replace o_g1 := o_g1.only m9 (fun k hk => .inr (by have := (lt_g1.out k hk).1; omega))
  clear o_t2
  go_wp2_with fail
  refine (eq_i o_g0 o_w0 (by omega)).mono ?_
  rintro e w10 ⟨rfl, b10⟩
  have C10 := bnext C9 b10
  replace o_w0 := o_w0.below b10
  replace o_w1 := o_w1.below b10
  replace q_x0 := q_x0.below b10
  replace o_g0 := o_g0.below b10
  replace o_g1 := o_g1.below b10
  go_wp2_with fail
  refine (eq_i o_g1 o_w1 (by omega)).mono ?_
  rintro e w11 ⟨rfl, b11⟩
  have C11 := bnext C10 b11
  replace o_w0 := o_w0.below b11
  replace o_w1 := o_w1.below b11
  replace q_x0 := q_x0.below b11
  replace o_g0 := o_g0.below b11
  replace o_g1 := o_g1.below b11
  go_wp2_with fail
  refine (mark_i _ o_g0 (by omega) (by omega) (by omega)).mono ?_
  rintro e w12 ⟨rfl, q_g0, n12⟩
  have m12 := n12 w3.heap.size w4.heap.size lt_g0.out
  have C12 := C11.trans (m12.toBelow C3.size C11.size)
  replace o_w0 := o_w0.only m12 (fun k hk => .inl (by have := (lt_w0.out k hk).2; have := b3.size; omega))
  replace o_w1 := o_w1.only m12 (fun k hk => .inl (by have := (lt_w1.out k hk).2; have := b3.size; omega))
  replace q_x0 := q_x0.only m12 (fun k hk => .inl (by have := (lt_t2.out k hk).2; omega))
  replace o_g1 := o_g1.onlyOf n12 (fun k hk hk' => dj_g0.out k hk' hk)
  clear o_g0
  go_wp2_with fail
  refine (mark_i _ o_g1 (by omega) (by omega) (by omega)).mono ?_
  rintro e w13 ⟨rfl, q_g1, n13⟩
  have m13 := n13 w3.heap.size w4.heap.size lt_g1.out
  have C13 := C12.trans (m13.toBelow C3.size C12.size)
  replace o_w0 := o_w0.only m13 (fun k hk => .inl (by have := (lt_w0.out k hk).2; have := b3.size; omega))
  replace o_w1 := o_w1.only m13 (fun k hk => .inl (by have := (lt_w1.out k hk).2; have := b3.size; omega))
  replace q_x0 := q_x0.only m13 (fun k hk => .inl (by have := (lt_t2.out k hk).2; omega))
  replace q_g0 := q_g0.onlyOf n13 (fun k hk hk' => dj_g0.out k hk hk')
  clear o_g1
  go_wp2_with fail
  refine (held_i _ q_g0 (by omega) (by omega) (by omega)).mono ?_
  rintro e w14 ⟨rfl, b14⟩
  have C14 := bnext C13 b14
  replace o_w0 := o_w0.below b14
  replace o_w1 := o_w1.below b14
  replace q_x0 := q_x0.below b14
  replace q_g0 := q_g0.below b14
  replace q_g1 := q_g1.below b14
  go_wp2_with fail
  refine (held_i _ q_g1 (by omega) (by omega) (by omega)).mono ?_
  rintro e w15 ⟨rfl, b15⟩
  have C15 := bnext C14 b15
  replace o_w0 := o_w0.below b15
  replace o_w1 := o_w1.below b15
  replace q_x0 := q_x0.below b15
  replace q_g0 := q_g0.below b15
  replace q_g1 := q_g1.below b15
  go_wp2_with fail
  refine (to_i (i0.below C15) (by omega)).mono ?_
  rintro e w16 ⟨v_t4, rfl, o_t4, b16⟩
  have C16 := bnext C15 b16
  replace o_w0 := o_w0.below b16
  replace o_w1 := o_w1.below b16
  replace q_x0 := q_x0.below b16
  replace q_g0 := q_g0.below b16
  replace q_g1 := q_g1.below b16
  have lt_t4 := Lib.hid o_t4.lt
  go_wp2_with fail
  refine (CarryLosses_impl o_t4 x1 x2).mono ?_
  rintro e w17 ⟨v_h0, v_h1, rfl, o_h0, ln_h0, o_h1, ln_h1, dj_h0, b17⟩
  have C17 := bnext C16 b17
  replace o_w0 := o_w0.below b17
  replace o_w1 := o_w1.below b17
  replace q_x0 := q_x0.below b17
  replace q_g0 := q_g0.below b17
  replace q_g1 := q_g1.below b17
  replace o_t4 := o_t4.below b17
  have lt_h0 := Lib.hid o_h0.lt
  have lt_h1 := Lib.hid o_h1.lt
  go_wp2_with fail
  refine (eq_i o_h0 o_w0 (by omega)).mono ?_
  rintro e w18 ⟨rfl, b18⟩
  have C18 := bnext C17 b18
  replace o_w0 := o_w0.below b18
  replace o_w1 := o_w1.below b18
  replace q_x0 := q_x0.below b18
  replace q_g0 := q_g0.below b18
  replace q_g1 := q_g1.below b18
  replace o_h0 := o_h0.below b18
  replace o_h1 := o_h1.below b18
  go_wp2_with fail
  refine (eq_i o_h1 o_w1 (by omega)).mono ?_
  rintro e w19 ⟨rfl, b19⟩
  have C19 := bnext C18 b19
  replace o_w0 := o_w0.below b19
  replace o_w1 := o_w1.below b19
  replace q_x0 := q_x0.below b19
  replace q_g0 := q_g0.below b19
  replace q_g1 := q_g1.below b19
  replace o_h0 := o_h0.below b19
  replace o_h1 := o_h1.below b19
  go_wp2_with fail
  refine (held_i _ q_g0 (by omega) (by omega) (by omega)).mono ?_
  rintro e w20 ⟨rfl, b20⟩
  have C20 := bnext C19 b20
  replace o_w0 := o_w0.below b20
  replace o_w1 := o_w1.below b20
  replace q_x0 := q_x0.below b20
  replace q_g0 := q_g0.below b20
  replace q_g1 := q_g1.below b20
  replace o_h0 := o_h0.below b20
  replace o_h1 := o_h1.below b20
  go_wp2_with fail
  refine (held_i _ q_g1 (by omega) (by omega) (by omega)).mono ?_
  rintro e w21 ⟨rfl, b21⟩
  have C21 := bnext C20 b21
  replace o_w0 := o_w0.below b21
  replace o_w1 := o_w1.below b21
  replace q_x0 := q_x0.below b21
  replace q_g0 := q_g0.below b21
  replace q_g1 := q_g1.below b21
  replace o_h0 := o_h0.below b21
  replace o_h1 := o_h1.below b21
  go_wp2_with fail
  go_ret
  exact ⟨rfl, C21⟩

set_option maxRecDepth 100000 in
theorem lifted (os : Os) (started : os.Started) (H : Type) (enc : TypeId × Value → H) :
    ReturnsInHanded {} Try.checked os 5 .any (Rows.fnExactCarryLossesSpec.pre6 enc Try.prog Try.f5 Rows.fnExactCarryLossesRow.domain false) (Rows.fnExactCarryLossesSpec.post enc Try.prog Try.f5 false true false false) := by
  refine returnsInHanded_of_change (C := Try.checked) own started (by kernel_rfl) Try.func5
    (ChangeSpec.witness6 (enc := enc) (C := Try.checked) false ⟨#[], #[.slice none 0 0, .int .i64 0, .int .i64 0], []⟩ 8 (by kernel_rfl) (by kernel_rfl) (by kernel_rfl) (by kernel_rfl)) ?_
  intro W base args ds gs before hval0 hW hcnd _
  have hval : ∀ (j : Nat) t v, Try.f5.params[j]? = some t → args[j]? = some v → Value.okWide Try.prog W .any base t v := hval0
  have hW' := hW
  obtain ⟨p, q, hA0, hV, rfl, hfz, hnd⟩ := hW
  have hA : DataW.TrodAll enc Try.prog W 0 (fun _ => true) true Try.f5.params.toList args.toList ds p := hA0
  rw [Try.params5] at hA hval
  obtain ⟨v0, vs0, d0, ds0, p0, q0, hargs, rfl, rfl, h0, r0⟩ := trodAll_cons hA
  obtain ⟨v1, vs1, d1, ds1, p1, q1, rfl, rfl, rfl, h1, r1⟩ := trodAll_cons r0
  obtain ⟨v2, vs2, d2, ds2, p2, q2, rfl, rfl, rfl, h2, r2⟩ := trodAll_cons r1
  obtain ⟨rfl, rfl, rfl⟩ := trodAll_nil r2
  obtain rfl : args = #[v0, v1, v2] := by cases args; simp_all
  obtain ⟨rfl, rfl⟩ := trodVars_none hV
  have k0 := h0
  have lt0 := lt_of_trod h0
  obtain ⟨x0, ad0, c0, rfl, i0⟩ := openI' Try.underlying29 Try.underlying2 (by kernel_rfl) (hval 0 29 v0 rfl rfl) h0
  obtain ⟨x1, rfl, rfl, rfl, wf1⟩ := open_int Try.underlying2 (hval 1 2 v1 rfl rfl) h1
  obtain ⟨x2, rfl, rfl, rfl, wf2⟩ := open_int Try.underlying2 (hval 2 2 v2 rfl rfl) h2
  clear hA0 hval0
  refine (walk x0 ad0 c0 x1 x2 W i0).mono fun e W' ⟨he, bel⟩ => ?_
  subst he
  exact ⟨_, rfl, _, _, _, [], _, [], hW', trodAll_mk1 (shut_bool Try.underlying4 _), (trodAll_cons_mk (Below.trod laidOut (by kernel_rfl) (of_decide_eq_true (by kernel_rfl)) k0 bel lt0) (trodAll_cons_mk (shut_int Try.underlying2 wf1) (trodAll_cons_mk (shut_int Try.underlying2 wf2) trodAll_mk0))), rfl, bel.frame _, fun h => by cases h⟩

theorem over : Rows.fnExactCarryLossesRow.holds Try.pinned (OpenSpec.ofChange Rows.fnExactCarryLossesSpec) :=
  OpenClaim.holds_of_wide 5 Try.f5 rfl rfl rfl rfl rfl rfl rfl ⟨rfl, rfl, rfl, rfl, rfl⟩ rfl rfl rfl rfl rfl (by kernel_rfl) Try.func5 (by kernel_rfl)
    (of_decide_eq_true (by kernel_rfl)) (by unfold Func.isWrapper; first | (rw [if_pos (by decide +kernel)]; kernel_rfl) | (rw [if_neg (by decide +kernel)]; exact ⟨rfl, rfl⟩))
    (fun os started H enc _ => lifted os started H enc)

/-- The statement. -/
theorem proved : Rows.FnExactCarryLossesSaid := over
#print axioms proved
end Go.Proofs.Ytjopeidmfgkhnaa.fnExactCarryLosses
