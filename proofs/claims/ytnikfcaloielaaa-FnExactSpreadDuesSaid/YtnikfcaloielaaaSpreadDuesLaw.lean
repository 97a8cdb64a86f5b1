/-
  FnExactSpreadDues returns true for every input: the program's SpreadDues and the reference's give the same results, leave their arguments as they were, and share no memory. No condition.
-/
import Derived.Test.YtnikfcaloielaaaRows
import Derived.Test.YtnikfcaloielaaaSpreadDues
import Derived.Test.YtnikfcaloielaaaToInt64S
import Derived.Test.YtnikfcaloielaaaInt64S
import Derived.Test.YtnikfcaloielaaaOpen
import Derived.WalkKit
import Derived.ProofKit
import Derived.OpenShut
import Derived.Carry
import Derived.Deep.RegionHeld3
namespace Go.Proofs.Ytnikfcaloielaaa.fnExactSpreadDues
open Go.ChangeShapes Go.WideShapes Go.ChangeAt Go.RowKit
set_option linter.unusedVariables false

theorem own : ownKnob Try.prog.godebug = none := by kernel_rfl
theorem laidOut : laidOutB Try.prog = true := by kernel_rfl

set_option maxHeartbeats 4000000 in
theorem walk (x0 : List Int) (ad0 : Option Addr) (c0 : Nat) (x1 : List Int) (ad1 : Option Addr) (c1 : Nat) (x2 : List Int) (ad2 : Option Addr) (c2 : Nat) (x3 : Int) (w : World) (i0 : InI w (.slice ad0 x0.length c0) x0) (i1 : InI w (.slice ad1 x1.length c1) x1) (i2 : InI w (.slice ad2 x2.length c2) x2) :
    Calls Try.prog 4 #[.slice ad0 x0.length c0, .slice ad1 x1.length c1, .slice ad2 x2.length c2, .int .i64 x3] w fun e w' => e = .returned (.bool true) ∧ Below w.heap.size w w' := by
  rcases Int.lt_or_le 1048576 (x0.length : Int) with hl0 | hl0
  · go_enter Try.func4, Try.ntmps4
    go_wp2_with fail
    go_ret
    exact ⟨rfl, by first | exact Below.refl _ _ | go_grown⟩
  rcases Int.lt_or_le 1048576 (x1.length : Int) with hl1 | hl1
  · go_enter Try.func4, Try.ntmps4
    go_wp2_with fail
    go_ret
    exact ⟨rfl, by first | exact Below.refl _ _ | go_grown⟩
  rcases Int.lt_or_le 1048576 (x2.length : Int) with hl2 | hl2
  · go_enter Try.func4, Try.ntmps4
    go_wp2_with fail
    go_ret
    exact ⟨rfl, by first | exact Below.refl _ _ | go_grown⟩
  go_enter Try.func4, Try.ntmps4
  go_wp2_with fail
  refine (to_i i0 (by omega)).mono ?_
  rintro e w1 ⟨v_t1, rfl, o_t1, b1⟩
  have C1 := b1
  have lt_t1 := Lib.hid o_t1.lt
  go_wp2_with fail
  refine (to_i (i1.below C1) (by omega)).mono ?_
  rintro e w2 ⟨v_t2, rfl, o_t2, b2⟩
  have C2 := bnext C1 b2
  replace o_t1 := o_t1.below b2
  have lt_t2 := Lib.hid o_t2.lt
  go_wp2_with fail
  refine (to_i (i2.below C2) (by omega)).mono ?_
  rintro e w3 ⟨v_t3, rfl, o_t3, b3⟩
  have C3 := bnext C2 b3
  replace o_t1 := o_t1.below b3
  replace o_t2 := o_t2.below b3
  have lt_t3 := Lib.hid o_t3.lt
  go_wp2_with fail
  refine (SpreadDues_spec o_t1 o_t2 o_t3 x3).mono ?_
  rintro e w4 ⟨v_w0, rfl, o_w0, ln_w0, b4⟩
  have C4 := bnext C3 b4
  replace o_t1 := o_t1.below b4
  replace o_t2 := o_t2.below b4
  replace o_t3 := o_t3.below b4
  have lt_w0 := Lib.hid o_w0.lt
  go_wp2_with fail
  refine (to_i (i0.below C4) (by omega)).mono ?_
  rintro e w5 ⟨v_t4, rfl, o_t4, b5⟩
  have C5 := bnext C4 b5
  replace o_w0 := o_w0.below b5
  have lt_t4 := Lib.hid o_t4.lt
  go_wp2_with fail
  refine (to_i (i1.below C5) (by omega)).mono ?_
  rintro e w6 ⟨v_t5, rfl, o_t5, b6⟩
  have C6 := bnext C5 b6
  replace o_w0 := o_w0.below b6
  replace o_t4 := o_t4.below b6
  have lt_t5 := Lib.hid o_t5.lt
  go_wp2_with fail
  refine (to_i (i2.below C6) (by omega)).mono ?_
  rintro e w7 ⟨v_t6, rfl, o_t6, b7⟩
  have C7 := bnext C6 b7
  replace o_w0 := o_w0.below b7
  replace o_t4 := o_t4.below b7
  replace o_t5 := o_t5.below b7
  have lt_t6 := Lib.hid o_t6.lt
  go_wp2_with fail
  refine (SpreadDues_impl o_t4 o_t5 o_t6 x3).mono ?_
  rintro e w8 ⟨v_g0, rfl, o_g0, ln_g0, b8⟩
  have C8 := bnext C7 b8
  replace o_w0 := o_w0.below b8
  replace o_t4 := o_t4.below b8
  replace o_t5 := o_t5.below b8
  replace o_t6 := o_t6.below b8
  have lt_g0 := Lib.hid o_g0.lt
  go_wp2_with fail
  refine (eq_i o_g0 o_w0 (by omega)).mono ?_
  rintro e w9 ⟨rfl, b9⟩
  have C9 := bnext C8 b9
  replace o_w0 := o_w0.below b9
  replace o_t4 := o_t4.below b9
  replace o_t5 := o_t5.below b9
  replace o_t6 := o_t6.below b9
  replace o_g0 := o_g0.below b9
  go_wp2_with fail
  refine (to_i (i0.below C9) (by omega)).mono ?_
  rintro e w10 ⟨v_t7, rfl, o_t7, b10⟩
  have C10 := bnext C9 b10
  replace o_w0 := o_w0.below b10
  replace o_t4 := o_t4.below b10
  replace o_t5 := o_t5.below b10
  replace o_t6 := o_t6.below b10
  replace o_g0 := o_g0.below b10
  have lt_t7 := Lib.hid o_t7.lt
  go_wp2_with fail
  refine (eq_i o_t4.own o_t7.own (by omega)).mono ?_
  rintro e w11 ⟨rfl, b11⟩
  have C11 := bnext C10 b11
  replace o_w0 := o_w0.below b11
  replace o_t4 := o_t4.below b11
  replace o_t5 := o_t5.below b11
  replace o_t6 := o_t6.below b11
  replace o_g0 := o_g0.below b11
  replace o_t7 := o_t7.below b11
  go_wp2_with fail
  refine (to_i (i1.below C11) (by omega)).mono ?_
  rintro e w12 ⟨v_t8, rfl, o_t8, b12⟩
  have C12 := bnext C11 b12
  replace o_w0 := o_w0.below b12
  replace o_t4 := o_t4.below b12
  replace o_t5 := o_t5.below b12
  replace o_t6 := o_t6.below b12
  replace o_g0 := o_g0.below b12
  have lt_t8 := Lib.hid o_t8.lt
  go_wp2_with fail
  refine (eq_i o_t5.own o_t8.own (by omega)).mono ?_
  rintro e w13 ⟨rfl, b13⟩
  have C13 := bnext C12 b13
  replace o_w0 := o_w0.below b13
  replace o_t4 := o_t4.below b13
  replace o_t5 := o_t5.below b13
  replace o_t6 := o_t6.below b13
  replace o_g0 := o_g0.below b13
  replace o_t8 := o_t8.below b13
  go_wp2_with fail
  refine (to_i (i2.below C13) (by omega)).mono ?_
  rintro e w14 ⟨v_t9, rfl, o_t9, b14⟩
  have C14 := bnext C13 b14
  replace o_w0 := o_w0.below b14
  replace o_t4 := o_t4.below b14
  replace o_t5 := o_t5.below b14
  replace o_t6 := o_t6.below b14
  replace o_g0 := o_g0.below b14
  have lt_t9 := Lib.hid o_t9.lt
  go_wp2_with fail
  refine (eq_i o_t6.own o_t9.own (by omega)).mono ?_
  rintro e w15 ⟨rfl, b15⟩
  have C15 := bnext C14 b15
  replace o_w0 := o_w0.below b15
  replace o_t4 := o_t4.below b15
  replace o_t5 := o_t5.below b15
  replace o_t6 := o_t6.below b15
  replace o_g0 := o_g0.below b15
  replace o_t9 := o_t9.below b15
  go_wp2_with fail
  refine (mark_i _ o_t4.own (by omega) (by omega) (by omega)).mono ?_
  rintro e w16 ⟨rfl, q_x0, n16⟩
  have m16 := n16 w4.heap.size w5.heap.size lt_t4.out
  have C16 := C15.trans (m16.toBelow C4.size C15.size)
  replace o_w0 := o_w0.only m16 (fun k hk => .inl (by have := (lt_w0.out k hk).2; omega))
  replace o_t5 := o_t5.only m16 (fun k hk => .inr (by have := (lt_t5.out k hk).1; omega))
  replace o_t6 := o_t6.only m16 (fun k hk => .inr (by have := (lt_t6.out k hk).1; have := b6.size; omega))
  replace o_g0 := o_g0.only m16 (fun k hk => .inr (by have := (lt_g0.out k hk).1; have := b6.size; have := b7.size; omega))
  clear o_t4
  go_wp2_with fail
  refine (mark_i _ o_t5.own (by omega) (by omega) (by omega)).mono ?_
  rintro e w17 ⟨rfl, q_x1, n17⟩
  have m17 := n17 w5.heap.size w6.heap.size lt_t5.out
  have C17 := C16.trans (m17.toBelow C5.size C16.size)
  replace o_w0 := o_w0.only m17 (fun k hk => .inl (by have := (lt_w0.out k hk).2; have := b5.size; omega))
  replace q_x0 := q_x0.only m17 (fun k hk => .inl (by have := (lt_t4.out k hk).2; omega))
  replace o_t6 := o_t6.only m17 (fun k hk => .inr (by have := (lt_t6.out k hk).1; omega))
  replace o_g0 := o_g0.only m17 (fun k hk => .inr (by have := (lt_g0.out k hk).1; have := b7.size; omega))
  clear o_t5
  go_wp2_with fail
  refine (mark_i _ o_t6.own (by omega) (by omega) (by omega)).mono ?_
  rintro e w18 ⟨rfl, q_x2, n18⟩
  have m18 := n18 w6.heap.size w7.heap.size lt_t6.out
  have C18 := C17.trans (m18.toBelow C6.size C17.size)
  replace o_w0 := o_w0.only m18 (fun k hk => .inl (by have := (lt_w0.out k hk).2; have := b5.size; have := b6.size; omega))
  replace q_x0 := q_x0.only m18 (fun k hk => .inl (by have := (lt_t4.out k hk).2; have := b6.size; omega))
  replace q_x1 := q_x1.only m18 (fun k hk => .inl (by have := (lt_t5.out k hk).2; omega))
  replace o_g0 := o_g0.only m18 (fun k hk => .inr (by have := (lt_g0.out k hk).1; omega))
  clear o_t6
  go_wp2_with fail
  refine (eq_i o_g0 o_w0 (by omega)).mono ?_
  rintro e w19 ⟨rfl, b19⟩
  have C19 := bnext C18 b19
  replace o_w0 := o_w0.below b19
  replace q_x0 := q_x0.below b19
  replace q_x1 := q_x1.below b19
  replace q_x2 := q_x2.below b19
  replace o_g0 := o_g0.below b19
  go_wp2_with fail
  refine (mark_i _ o_g0 (by omega) (by omega) (by omega)).mono ?_
  rintro e w20 ⟨rfl, q_g0, n20⟩
  have m20 := n20 w7.heap.size w8.heap.size lt_g0.out
  have C20 := C19.trans (m20.toBelow C7.size C19.size)
  replace o_w0 := o_w0.only m20 (fun k hk => .inl (by have := (lt_w0.out k hk).2; have := b5.size; have := b6.size; have := b7.size; omega))
  replace q_x0 := q_x0.only m20 (fun k hk => .inl (by have := (lt_t4.out k hk).2; have := b6.size; have := b7.size; omega))
  replace q_x1 := q_x1.only m20 (fun k hk => .inl (by have := (lt_t5.out k hk).2; have := b7.size; omega))
  replace q_x2 := q_x2.only m20 (fun k hk => .inl (by have := (lt_t6.out k hk).2; omega))
  clear o_g0
  go_wp2_with fail
  refine (held_i _ q_g0 (by omega) (by omega) (by omega)).mono ?_
  rintro e w21 ⟨rfl, b21⟩
  have C21 := bnext C20 b21
  replace o_w0 := o_w0.below b21
  replace q_x0 := q_x0.below b21
  replace q_x1 := q_x1.below b21
  replace q_x2 := q_x2.below b21
  replace q_g0 := q_g0.below b21
  go_wp2_with fail
  refine (to_i (i0.below C21) (by omega)).mono ?_
  rintro e w22 ⟨v_t10, rfl, o_t10, b22⟩
  have C22 := bnext C21 b22
  replace o_w0 := o_w0.below b22
  replace q_x0 := q_x0.below b22
  replace q_x1 := q_x1.below b22
  replace q_x2 := q_x2.below b22
  replace q_g0 := q_g0.below b22
  have lt_t10 := Lib.hid o_t10.lt
  go_wp2_with fail
  refine (to_i (i1.below C22) (by omega)).mono ?_
  rintro e w23 ⟨v_t11, rfl, o_t11, b23⟩
  have C23 := bnext C22 b23
  replace o_w0 := o_w0.below b23
  replace q_x0 := q_x0.below b23
  replace q_x1 := q_x1.below b23
  replace q_x2 := q_x2.below b23
  replace q_g0 := q_g0.below b23
  replace o_t10 := o_t10.below b23
  have lt_t11 := Lib.hid o_t11.lt
  go_wp2_with fail
  refine (to_i (i2.below C23) (by omega)).mono ?_
  rintro e w24 ⟨v_t12, rfl, o_t12, b24⟩
  have C24 := bnext C23 b24
  replace o_w0 := o_w0.below b24
  replace q_x0 := q_x0.below b24
  replace q_x1 := q_x1.below b24
  replace q_x2 := q_x2.below b24
  replace q_g0 := q_g0.below b24
  replace o_t10 := o_t10.below b24
  replace o_t11 := o_t11.below b24
  have lt_t12 := Lib.hid o_t12.lt
  go_wp2_with fail
  refine (SpreadDues_impl o_t10 o_t11 o_t12 x3).mono ?_
  rintro e w25 ⟨v_h0, rfl, o_h0, ln_h0, b25⟩
  have C25 := bnext C24 b25
  replace o_w0 := o_w0.below b25
  replace q_x0 := q_x0.below b25
  replace q_x1 := q_x1.below b25
  replace q_x2 := q_x2.below b25
  replace q_g0 := q_g0.below b25
  replace o_t10 := o_t10.below b25
  replace o_t11 := o_t11.below b25
  replace o_t12 := o_t12.below b25
  have lt_h0 := Lib.hid o_h0.lt
  go_wp2_with fail
  refine (eq_i o_h0 o_w0 (by omega)).mono ?_
  rintro e w26 ⟨rfl, b26⟩
  have C26 := bnext C25 b26
  replace o_w0 := o_w0.below b26
  replace q_x0 := q_x0.below b26
  replace q_x1 := q_x1.below b26
  replace q_x2 := q_x2.below b26
  replace q_g0 := q_g0.below b26
  replace o_h0 := o_h0.below b26
  go_wp2_with fail
  refine (held_i _ q_g0 (by omega) (by omega) (by omega)).mono ?_
  rintro e w27 ⟨rfl, b27⟩
  have C27 := bnext C26 b27
  replace o_w0 := o_w0.below b27
  replace q_x0 := q_x0.below b27
  replace q_x1 := q_x1.below b27
  replace q_x2 := q_x2.below b27
  replace q_g0 := q_g0.below b27
  replace o_h0 := o_h0.below b27
  go_wp2_with fail
  go_ret
  exact ⟨rfl, C27⟩

set_option maxRecDepth 100000 in
theorem lifted (os : Os) (started : os.Started) (H : Type) (enc : TypeId × Value → H) :
    ReturnsInHanded {} Try.checked os 4 .any (Rows.fnExactSpreadDuesSpec.pre6 enc Try.prog Try.f4 Rows.fnExactSpreadDuesRow.domain false) (Rows.fnExactSpreadDuesSpec.post enc Try.prog Try.f4 false true false false) := by
  refine returnsInHanded_of_change (C := Try.checked) own started (by kernel_rfl) Try.func4
    (ChangeSpec.witness6 (enc := enc) (C := Try.checked) false ⟨#[], #[.slice none 0 0, .slice none 0 0, .slice none 0 0, .int .i64 0], []⟩ 8 (by kernel_rfl) (by kernel_rfl) (by kernel_rfl) (by kernel_rfl)) ?_
  intro W base args ds gs before hval0 hW hcnd _
  have hval : ∀ (j : Nat) t v, Try.f4.params[j]? = some t → args[j]? = some v → Value.okWide Try.prog W .any base t v := hval0
  have hW' := hW
  obtain ⟨p, q, hA0, hV, rfl, hfz, hnd⟩ := hW
  have hA : DataW.TrodAll enc Try.prog W 0 (fun _ => true) true Try.f4.params.toList args.toList ds p := hA0
  rw [Try.params4] at hA hval
  obtain ⟨v0, vs0, d0, ds0, p0, q0, hargs, rfl, rfl, h0, r0⟩ := trodAll_cons hA
  obtain ⟨v1, vs1, d1, ds1, p1, q1, rfl, rfl, rfl, h1, r1⟩ := trodAll_cons r0
  obtain ⟨v2, vs2, d2, ds2, p2, q2, rfl, rfl, rfl, h2, r2⟩ := trodAll_cons r1
  obtain ⟨v3, vs3, d3, ds3, p3, q3, rfl, rfl, rfl, h3, r3⟩ := trodAll_cons r2
  obtain ⟨rfl, rfl, rfl⟩ := trodAll_nil r3
  obtain rfl : args = #[v0, v1, v2, v3] := by cases args; simp_all
  obtain ⟨rfl, rfl⟩ := trodVars_none hV
  have k0 := h0
  have lt0 := lt_of_trod h0
  obtain ⟨x0, ad0, c0, rfl, i0⟩ := openI' Try.underlying22 Try.underlying2 (by kernel_rfl) (hval 0 22 v0 rfl rfl) h0
  have k1 := h1
  have lt1 := lt_of_trod h1
  obtain ⟨x1, ad1, c1, rfl, i1⟩ := openI' Try.underlying22 Try.underlying2 (by kernel_rfl) (hval 1 22 v1 rfl rfl) h1
  have k2 := h2
  have lt2 := lt_of_trod h2
  obtain ⟨x2, ad2, c2, rfl, i2⟩ := openI' Try.underlying22 Try.underlying2 (by kernel_rfl) (hval 2 22 v2 rfl rfl) h2
  obtain ⟨x3, rfl, rfl, rfl, wf3⟩ := open_int Try.underlying2 (hval 3 2 v3 rfl rfl) h3
  clear hA0 hval0
  refine (walk x0 ad0 c0 x1 ad1 c1 x2 ad2 c2 x3 W i0 i1 i2).mono fun e W' ⟨he, bel⟩ => ?_
  subst he
  exact ⟨_, rfl, _, _, _, [], _, [], hW', trodAll_mk1 (shut_bool Try.underlying4 _), (trodAll_cons_mk (Below.trod laidOut (by kernel_rfl) (of_decide_eq_true (by kernel_rfl)) k0 bel lt0) (trodAll_cons_mk (Below.trod laidOut (by kernel_rfl) (of_decide_eq_true (by kernel_rfl)) k1 bel lt1) (trodAll_cons_mk (Below.trod laidOut (by kernel_rfl) (of_decide_eq_true (by kernel_rfl)) k2 bel lt2) (trodAll_cons_mk (shut_int Try.underlying2 wf3) trodAll_mk0)))), rfl, bel.frame _, fun h => by cases h⟩

theorem over : Rows.fnExactSpreadDuesRow.holds Try.pinned (OpenSpec.ofChange Rows.fnExactSpreadDuesSpec) :=
  OpenClaim.holds_of_wide 4 Try.f4 rfl rfl rfl rfl rfl rfl rfl ⟨rfl, rfl, rfl, rfl, rfl⟩ rfl rfl rfl rfl rfl (by kernel_rfl) Try.func4 (by kernel_rfl)
    (of_decide_eq_true (by kernel_rfl)) (by unfold Func.isWrapper; first | (rw [if_pos (by decide +kernel)]; kernel_rfl) | (rw [if_neg (by decide +kernel)]; exact ⟨rfl, rfl⟩))
    (fun os started H enc _ => lifted os started H enc)

/-- The statement. -/
theorem proved : Rows.FnExactSpreadDuesSaid := over
#print axioms proved
end Go.Proofs.Ytnikfcaloielaaa.fnExactSpreadDues
