/-
  FnExactFactorWeights returns true for every input: the program's FactorWeights and the reference's give the same results, leave their arguments as they were, and share no memory. No condition.
-/
import Derived.Test.YtmkijibfgdeidaaRows
import Derived.Test.YtmkijibfgdeidaaFactorS
import Derived.Test.YtmkijibfgdeidaaToInt64SS
import Derived.Test.YtmkijibfgdeidaaToInt64S
import Derived.Test.YtmkijibfgdeidaaInt64S
import Derived.Test.YtmkijibfgdeidaaInt64SS
import Derived.Test.YtmkijibfgdeidaaOpen
import Derived.WalkKit
import Derived.ProofKit
import Derived.OpenShut
import Derived.Carry
import Derived.Deep.RegionHeld3
namespace Go.Proofs.Ytmkijibfgdeidaa.fnExactFactorWeights
open Go.ChangeShapes Go.WideShapes Go.ChangeAt Go.RowKit
set_option linter.unusedVariables false

theorem own : ownKnob Try.prog.godebug = none := by kernel_rfl
theorem laidOut : laidOutB Try.prog = true := by kernel_rfl

set_option maxHeartbeats 4000000 in
theorem walk (x0 : RecL) (ad0 : Option Addr) (c0 : Nat) (x1 : List Int) (ad1 : Option Addr) (c1 : Nat) (w : World) (i0 : InII w (.slice ad0 x0.length c0) x0) (i1 : InI w (.slice ad1 x1.length c1) x1) :
    Calls Try.prog 3 #[.slice ad0 x0.length c0, .slice ad1 x1.length c1] w fun e w' => e = .returned (.bool true) ∧ Below w.heap.size w w' := by
  rcases Int.lt_or_le 1048576 (x1.length : Int) with hl1 | hl1
  · go_enter Try.func3, Try.ntmps3
    go_wp2_with fail
    go_ret
    exact ⟨rfl, by first | exact Below.refl _ _ | go_grown⟩
  go_enter Try.func3, Try.ntmps3
  rcases Int.lt_or_le (1048576) ((x0.length : Int) + tot x0) with hs0 | hs0
  · go_wp2_with fail
    refine (sz_ii_no i0 hs0 (by omega)).mono ?_
    rintro e wz ⟨rfl, bz⟩
    go_wp2_with fail
    go_ret
    exact ⟨rfl, bz⟩
  go_wp2_with fail
  refine (sz_ii_yes i0 hs0 (by omega)).mono ?_
  rintro e w1 ⟨rfl, b1⟩
  have C1 := b1
  go_wp2_with fail
  refine (to_ii (i0.below C1) (by omega)).mono ?_
  rintro e w2 ⟨v_t1, rfl, o_t1, b2⟩
  have C2 := bnext C1 b2
  have lt_t1 := Lib.hid o_t1.lt
  go_wp2_with fail
  refine (to_i (i1.below C2) (by omega)).mono ?_
  rintro e w3 ⟨v_t2, rfl, o_t2, b3⟩
  have C3 := bnext C2 b3
  replace o_t1 := o_t1.below b3
  have lt_t2 := Lib.hid o_t2.lt
  go_wp2_with fail
  refine (FactorWeights_spec o_t1 o_t2).mono ?_
  rintro e w4 ⟨v_w0, rfl, o_w0, ln_w0, b4⟩
  have C4 := bnext C3 b4
  replace o_t1 := o_t1.below b4
  replace o_t2 := o_t2.below b4
  have lt_w0 := Lib.hid o_w0.lt
  go_wp2_with fail
  refine (to_ii (i0.below C4) (by omega)).mono ?_
  rintro e w5 ⟨v_t3, rfl, o_t3, b5⟩
  have C5 := bnext C4 b5
  replace o_w0 := o_w0.below b5
  have lt_t3 := Lib.hid o_t3.lt
  go_wp2_with fail
  refine (to_i (i1.below C5) (by omega)).mono ?_
  rintro e w6 ⟨v_t4, rfl, o_t4, b6⟩
  have C6 := bnext C5 b6
  replace o_w0 := o_w0.below b6
  replace o_t3 := o_t3.below b6
  have lt_t4 := Lib.hid o_t4.lt
  go_wp2_with fail
  refine (FactorWeights_impl o_t3 o_t4).mono ?_
  rintro e w7 ⟨v_g0, rfl, o_g0, ln_g0, b7⟩
  have C7 := bnext C6 b7
  replace o_w0 := o_w0.below b7
  replace o_t3 := o_t3.below b7
  replace o_t4 := o_t4.below b7
  have lt_g0 := Lib.hid o_g0.lt
  go_wp2_with fail
  refine (eq_i o_g0 o_w0 (by omega)).mono ?_
  rintro e w8 ⟨rfl, b8⟩
  have C8 := bnext C7 b8
  replace o_w0 := o_w0.below b8
  replace o_t3 := o_t3.below b8
  replace o_t4 := o_t4.below b8
  replace o_g0 := o_g0.below b8
  go_wp2_with fail
  refine (to_ii (i0.below C8) (by omega)).mono ?_
  rintro e w9 ⟨v_t5, rfl, o_t5, b9⟩
  have C9 := bnext C8 b9
  replace o_w0 := o_w0.below b9
  replace o_t3 := o_t3.below b9
  replace o_t4 := o_t4.below b9
  replace o_g0 := o_g0.below b9
  have lt_t5 := Lib.hid o_t5.lt
  go_wp2_with fail
  refine (eq_ii o_t3 o_t5 (by omega)).mono ?_
  rintro e w10 ⟨rfl, b10⟩
  have C10 := bnext C9 b10
  replace o_w0 := o_w0.below b10
  replace o_t3 := o_t3.below b10
  replace o_t4 := o_t4.below b10
  replace o_g0 := o_g0.below b10
  replace o_t5 := o_t5.below b10
  go_wp2_with fail
  refine (to_i (i1.below C10) (by omega)).mono ?_
  rintro e w11 ⟨v_t6, rfl, o_t6, b11⟩
  have C11 := bnext C10 b11
  replace o_w0 := o_w0.below b11
  replace o_t3 := o_t3.below b11
  replace o_t4 := o_t4.below b11
  replace o_g0 := o_g0.below b11
  have lt_t6 := Lib.hid o_t6.lt
  go_wp2_with fail
  refine (eq_i o_t4.own o_t6.own (by omega)).mono ?_
  rintro e w12 ⟨rfl, b12⟩
  have C12 := bnext C11 b12
  replace o_w0 := o_w0.below b12
  replace o_t3 := o_t3.below b12
  replace o_t4 := o_t4.below b12
  replace o_g0 := o_g0.below b12
  replace o_t6 := o_t6.below b12
  go_wp2_with fail
  refine (mark_ii _ o_t3 (by omega) (by omega) (by omega)).mono ?_
  rintro e w13 ⟨rfl, q_x0, n13⟩
  have m13 := n13 w4.heap.size w5.heap.size lt_t3.out
  have C13 := C12.trans (m13.toBelow C4.size C12.size)
  replace o_w0 := o_w0.only m13 (fun k hk => .inl (by have := (lt_w0.out k hk).2; omega))
  replace o_t4 := o_t4.only m13 (fun k hk => .inr (by have := (lt_t4.out k hk).1; omega))
  replace o_g0 := o_g0.only m13 (fun k hk => .inr (by have := (lt_g0.out k hk).1; have := b6.size; omega))
  clear o_t3
  go_wp2_with fail
  refine (mark_i _ o_t4.own (by omega) (by omega) (by omega)).mono ?_
  rintro e w14 ⟨rfl, q_x1, n14⟩
  have m14 := n14 w5.heap.size w6.heap.size lt_t4.out
  have C14 := C13.trans (m14.toBelow C5.size C13.size)
  replace o_w0 := o_w0.only m14 (fun k hk => .inl (by have := (lt_w0.out k hk).2; have := b5.size; omega))
  replace q_x0 := q_x0.only m14 (fun k hk => .inl (by have := (lt_t3.out k hk).2; omega))
  replace o_g0 := o_g0.only m14 (fun k hk => .inr (by have := (lt_g0.out k hk).1; omega))
  clear o_t4
  go_wp2_with fail
  refine (eq_i o_g0 o_w0 (by omega)).mono ?_
  rintro e w15 ⟨rfl, b15⟩
  have C15 := bnext C14 b15
  replace o_w0 := o_w0.below b15
  replace q_x0 := q_x0.below b15
  replace q_x1 := q_x1.below b15
  replace o_g0 := o_g0.below b15
  go_wp2_with fail
  refine (mark_i _ o_g0 (by omega) (by omega) (by omega)).mono ?_
  rintro e w16 ⟨rfl, q_g0, n16⟩
  have m16 := n16 w6.heap.size w7.heap.size lt_g0.out
  have C16 := C15.trans (m16.toBelow C6.size C15.size)
  replace o_w0 := o_w0.only m16 (fun k hk => .inl (by have := (lt_w0.out k hk).2; have := b5.size; have := b6.size; omega))
  replace q_x0 := q_x0.only m16 (fun k hk => .inl (by have := (lt_t3.out k hk).2; have := b6.size; omega))
  replace q_x1 := q_x1.only m16 (fun k hk => .inl (by have := (lt_t4.out k hk).2; omega))
  clear o_g0
  go_wp2_with fail
  refine (held_i _ q_g0 (by omega) (by omega) (by omega)).mono ?_
  rintro e w17 ⟨rfl, b17⟩
  have C17 := bnext C16 b17
  replace o_w0 := o_w0.below b17
  replace q_x0 := q_x0.below b17
  replace q_x1 := q_x1.below b17
  replace q_g0 := q_g0.below b17
  go_wp2_with fail
  refine (to_ii (i0.below C17) (by omega)).mono ?_
  rintro e w18 ⟨v_t7, rfl, o_t7, b18⟩
  have C18 := bnext C17 b18
  replace o_w0 := o_w0.below b18
  replace q_x0 := q_x0.below b18
  replace q_x1 := q_x1.below b18
  replace q_g0 := q_g0.below b18
  have lt_t7 := Lib.hid o_t7.lt
  go_wp2_with fail
  refine (to_i (i1.below C18) (by omega)).mono ?_
  rintro e w19 ⟨v_t8, rfl, o_t8, b19⟩
  have C19 := bnext C18 b19
  replace o_w0 := o_w0.below b19
  replace q_x0 := q_x0.below b19
  replace q_x1 := q_x1.below b19
  replace q_g0 := q_g0.below b19
  replace o_t7 := o_t7.below b19
  have lt_t8 := Lib.hid o_t8.lt
  go_wp2_with fail
  refine (FactorWeights_impl o_t7 o_t8).mono ?_
  rintro e w20 ⟨v_h0, rfl, o_h0, ln_h0, b20⟩
  have C20 := bnext C19 b20
  replace o_w0 := o_w0.below b20
  replace q_x0 := q_x0.below b20
  replace q_x1 := q_x1.below b20
  replace q_g0 := q_g0.below b20
  replace o_t7 := o_t7.below b20
  replace o_t8 := o_t8.below b20
  have lt_h0 := Lib.hid o_h0.lt
  go_wp2_with fail
  refine (eq_i o_h0 o_w0 (by omega)).mono ?_
  rintro e w21 ⟨rfl, b21⟩
  have C21 := bnext C20 b21
  replace o_w0 := o_w0.below b21
  replace q_x0 := q_x0.below b21
  replace q_x1 := q_x1.below b21
  replace q_g0 := q_g0.below b21
  replace o_h0 := o_h0.below b21
  go_wp2_with fail
  refine (held_i _ q_g0 (by omega) (by omega) (by omega)).mono ?_
  rintro e w22 ⟨rfl, b22⟩
  have C22 := bnext C21 b22
  replace o_w0 := o_w0.below b22
  replace q_x0 := q_x0.below b22
  replace q_x1 := q_x1.below b22
  replace q_g0 := q_g0.below b22
  replace o_h0 := o_h0.below b22
  go_wp2_with fail
  go_ret
  exact ⟨rfl, C22⟩

set_option maxRecDepth 100000 in
theorem lifted (os : Os) (started : os.Started) (H : Type) (enc : TypeId × Value → H) :
    ReturnsInHanded {} Try.checked os 3 .any (Rows.fnExactFactorWeightsSpec.pre6 enc Try.prog Try.f3 Rows.fnExactFactorWeightsRow.domain false) (Rows.fnExactFactorWeightsSpec.post enc Try.prog Try.f3 false true false false) := by
  refine returnsInHanded_of_change (C := Try.checked) own started (by kernel_rfl) Try.func3
    (ChangeSpec.witness6 (enc := enc) (C := Try.checked) false ⟨#[], #[.slice none 0 0, .slice none 0 0], []⟩ 8 (by kernel_rfl) (by kernel_rfl) (by kernel_rfl) (by kernel_rfl)) ?_
  intro W base args ds gs before hval0 hW hcnd _
  have hval : ∀ (j : Nat) t v, Try.f3.params[j]? = some t → args[j]? = some v → Value.okWide Try.prog W .any base t v := hval0
  have hW' := hW
  obtain ⟨p, q, hA0, hV, rfl, hfz, hnd⟩ := hW
  have hA : DataW.TrodAll enc Try.prog W 0 (fun _ => true) true Try.f3.params.toList args.toList ds p := hA0
  rw [Try.params3] at hA hval
  obtain ⟨v0, vs0, d0, ds0, p0, q0, hargs, rfl, rfl, h0, r0⟩ := trodAll_cons hA
  obtain ⟨v1, vs1, d1, ds1, p1, q1, rfl, rfl, rfl, h1, r1⟩ := trodAll_cons r0
  obtain ⟨rfl, rfl, rfl⟩ := trodAll_nil r1
  obtain rfl : args = #[v0, v1] := by cases args; simp_all
  obtain ⟨rfl, rfl⟩ := trodVars_none hV
  have k0 := h0
  have lt0 := lt_of_trod h0
  obtain ⟨x0, ad0, c0, rfl, i0⟩ := Try.openInt64SS (hval 0 22 v0 rfl rfl) h0
  have k1 := h1
  have lt1 := lt_of_trod h1
  obtain ⟨x1, ad1, c1, rfl, i1⟩ := openI' Try.underlying23 Try.underlying2 (by kernel_rfl) (hval 1 23 v1 rfl rfl) h1
  clear hA0 hval0
  refine (walk x0 ad0 c0 x1 ad1 c1 W i0 i1).mono fun e W' ⟨he, bel⟩ => ?_
  subst he
  exact ⟨_, rfl, _, _, _, [], _, [], hW', trodAll_mk1 (shut_bool Try.underlying4 _), (trodAll_cons_mk (Below.trod laidOut (by kernel_rfl) (of_decide_eq_true (by kernel_rfl)) k0 bel lt0) (trodAll_cons_mk (Below.trod laidOut (by kernel_rfl) (of_decide_eq_true (by kernel_rfl)) k1 bel lt1) trodAll_mk0)), rfl, bel.frame _, fun h => by cases h⟩

theorem over : Rows.fnExactFactorWeightsRow.holds Try.pinned (OpenSpec.ofChange Rows.fnExactFactorWeightsSpec) :=
  OpenClaim.holds_of_wide 3 Try.f3 rfl rfl rfl rfl rfl rfl rfl ⟨rfl, rfl, rfl, rfl, rfl⟩ rfl rfl rfl rfl rfl (by kernel_rfl) Try.func3 (by kernel_rfl)
    (of_decide_eq_true (by kernel_rfl)) (by unfold Func.isWrapper; first | (rw [if_pos (by decide +kernel)]; kernel_rfl) | (rw [if_neg (by decide +kernel)]; exact ⟨rfl, rfl⟩))
    (fun os started H enc _ => lifted os started H enc)

/-- The statement. -/
theorem proved : Rows.FnExactFactorWeightsSaid := over
#print axioms proved
end Go.Proofs.Ytmkijibfgdeidaa.fnExactFactorWeights
