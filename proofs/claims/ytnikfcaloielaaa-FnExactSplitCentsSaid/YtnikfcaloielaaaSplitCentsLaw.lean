/-
  FnExactSplitCents returns true for every input: the program's SplitCents and the reference's give the same results, leave their arguments as they were, and share no memory. No condition.
-/
import Derived.Test.YtnikfcaloielaaaRows
import Derived.Test.YtnikfcaloielaaaSplitCents
import Derived.Test.YtnikfcaloielaaaToInt64S
import Derived.Test.YtnikfcaloielaaaInt64S
import Derived.Test.YtnikfcaloielaaaOpen
import Derived.WalkKit
import Derived.ProofKit
import Derived.OpenShut
import Derived.Carry
import Derived.Deep.RegionHeld3
namespace Go.Proofs.Ytnikfcaloielaaa.fnExactSplitCents
open Go.ChangeShapes Go.WideShapes Go.ChangeAt Go.RowKit
set_option linter.unusedVariables false

theorem own : ownKnob Try.prog.godebug = none := by kernel_rfl
theorem laidOut : laidOutB Try.prog = true := by kernel_rfl

set_option maxHeartbeats 4000000 in
theorem walk (x0 : Int) (x1 : List Int) (ad1 : Option Addr) (c1 : Nat) (w : World) (i1 : InI w (.slice ad1 x1.length c1) x1) :
    Calls Try.prog 6 #[.int .i64 x0, .slice ad1 x1.length c1] w fun e w' => e = .returned (.bool true) ∧ Below w.heap.size w w' := by
  rcases Int.lt_or_le 1048576 (x1.length : Int) with hl1 | hl1
  · go_enter Try.func6, Try.ntmps6
    go_wp2_with fail
    go_ret
    exact ⟨rfl, by first | exact Below.refl _ _ | go_grown⟩
  go_enter Try.func6, Try.ntmps6
  go_wp2_with fail
  refine (to_i i1 (by omega)).mono ?_
  rintro e w1 ⟨v_t1, rfl, o_t1, b1⟩
  have C1 := b1
  have lt_t1 := Lib.hid o_t1.lt
  go_wp2_with fail
  refine (SplitCents_spec x0 o_t1).mono ?_
  rintro e w2 ⟨v_w0, rfl, o_w0, ln_w0, b2⟩
  have C2 := bnext C1 b2
  replace o_t1 := o_t1.below b2
  have lt_w0 := Lib.hid o_w0.lt
  go_wp2_with fail
  refine (to_i (i1.below C2) (by omega)).mono ?_
  rintro e w3 ⟨v_t2, rfl, o_t2, b3⟩
  have C3 := bnext C2 b3
  replace o_w0 := o_w0.below b3
  have lt_t2 := Lib.hid o_t2.lt
  go_wp2_with fail
  refine (SplitCents_impl x0 o_t2).mono ?_
  rintro e w4 ⟨v_g0, rfl, o_g0, ln_g0, b4⟩
  have C4 := bnext C3 b4
  replace o_w0 := o_w0.below b4
  replace o_t2 := o_t2.below b4
  have lt_g0 := Lib.hid o_g0.lt
  go_wp2_with fail
  refine (eq_i o_g0 o_w0 (by omega)).mono ?_
  rintro e w5 ⟨rfl, b5⟩
  have C5 := bnext C4 b5
  replace o_w0 := o_w0.below b5
  replace o_t2 := o_t2.below b5
  replace o_g0 := o_g0.below b5
  go_wp2_with fail
  refine (to_i (i1.below C5) (by omega)).mono ?_
  rintro e w6 ⟨v_t3, rfl, o_t3, b6⟩
  have C6 := bnext C5 b6
  replace o_w0 := o_w0.below b6
  replace o_t2 := o_t2.below b6
  replace o_g0 := o_g0.below b6
  have lt_t3 := Lib.hid o_t3.lt
  go_wp2_with fail
  refine (eq_i o_t2.own o_t3.own (by omega)).mono ?_
  rintro e w7 ⟨rfl, b7⟩
  have C7 := bnext C6 b7
  replace o_w0 := o_w0.below b7
  replace o_t2 := o_t2.below b7
  replace o_g0 := o_g0.below b7
  replace o_t3 := o_t3.below b7
  go_wp2_with fail
  refine (mark_i _ o_t2.own (by omega) (by omega) (by omega)).mono ?_
  rintro e w8 ⟨rfl, q_x1, n8⟩
  have m8 := n8 w2.heap.size w3.heap.size lt_t2.out
  have C8 := C7.trans (m8.toBelow C2.size C7.size)
  replace o_w0 := o_w0.only m8 (fun k hk => .inl (by have := (lt_w0.out k hk).2; omega))
  replace o_g0 := o_g0.only m8 (fun k hk => .inr (by have := (lt_g0.out k hk).1; omega))
  clear o_t2
  go_wp2_with fail
  refine (eq_i o_g0 o_w0 (by omega)).mono ?_
  rintro e w9 ⟨rfl, b9⟩
  have C9 := bnext C8 b9
  replace o_w0 := o_w0.below b9
  replace q_x1 := q_x1.below b9
  replace o_g0 := o_g0.below b9
  go_wp2_with fail
  refine (mark_i _ o_g0 (by omega) (by omega) (by omega)).mono ?_
  rintro e w10 ⟨rfl, q_g0, n10⟩
  have m10 := n10 w3.heap.size w4.heap.size lt_g0.out
  have C10 := C9.trans (m10.toBelow C3.size C9.size)
  replace o_w0 := o_w0.only m10 (fun k hk => .inl (by have := (lt_w0.out k hk).2; have := b3.size; omega))
  replace q_x1 := q_x1.only m10 (fun k hk => .inl (by have := (lt_t2.out k hk).2; omega))
  clear o_g0
  go_wp2_with fail
  refine (held_i _ q_g0 (by omega) (by omega) (by omega)).mono ?_
  rintro e w11 ⟨rfl, b11⟩
  have C11 := bnext C10 b11
  replace o_w0 := o_w0.below b11
  replace q_x1 := q_x1.below b11
  replace q_g0 := q_g0.below b11
  go_wp2_with fail
  refine (to_i (i1.below C11) (by omega)).mono ?_
  rintro e w12 ⟨v_t4, rfl, o_t4, b12⟩
  have C12 := bnext C11 b12
  replace o_w0 := o_w0.below b12
  replace q_x1 := q_x1.below b12
  replace q_g0 := q_g0.below b12
  have lt_t4 := Lib.hid o_t4.lt
  go_wp2_with fail
  refine (SplitCents_impl x0 o_t4).mono ?_
  rintro e w13 ⟨v_h0, rfl, o_h0, ln_h0, b13⟩
  have C13 := bnext C12 b13
  replace o_w0 := o_w0.below b13
  replace q_x1 := q_x1.below b13
  replace q_g0 := q_g0.below b13
  replace o_t4 := o_t4.below b13
  have lt_h0 := Lib.hid o_h0.lt
  go_wp2_with fail
  refine (eq_i o_h0 o_w0 (by omega)).mono ?_
  rintro e w14 ⟨rfl, b14⟩
  have C14 := bnext C13 b14
  replace o_w0 := o_w0.below b14
  replace q_x1 := q_x1.below b14
  replace q_g0 := q_g0.below b14
  replace o_h0 := o_h0.below b14
  go_wp2_with fail
  refine (held_i _ q_g0 (by omega) (by omega) (by omega)).mono ?_
  rintro e w15 ⟨rfl, b15⟩
  have C15 := bnext C14 b15
  replace o_w0 := o_w0.below b15
  replace q_x1 := q_x1.below b15
  replace q_g0 := q_g0.below b15
  replace o_h0 := o_h0.below b15
  go_wp2_with fail
  go_ret
  exact ⟨rfl, C15⟩

set_option maxRecDepth 100000 in
theorem lifted (os : Os) (started : os.Started) (H : Type) (enc : TypeId × Value → H) :
    ReturnsInHanded {} Try.checked os 6 .any (Rows.fnExactSplitCentsSpec.pre6 enc Try.prog Try.f6 Rows.fnExactSplitCentsRow.domain false) (Rows.fnExactSplitCentsSpec.post enc Try.prog Try.f6 false true false false) := by
  refine returnsInHanded_of_change (C := Try.checked) own started (by kernel_rfl) Try.func6
    (ChangeSpec.witness6 (enc := enc) (C := Try.checked) false ⟨#[], #[.int .i64 0, .slice none 0 0], []⟩ 8 (by kernel_rfl) (by kernel_rfl) (by kernel_rfl) (by kernel_rfl)) ?_
  intro W base args ds gs before hval0 hW hcnd _
  have hval : ∀ (j : Nat) t v, Try.f6.params[j]? = some t → args[j]? = some v → Value.okWide Try.prog W .any base t v := hval0
  have hW' := hW
  obtain ⟨p, q, hA0, hV, rfl, hfz, hnd⟩ := hW
  have hA : DataW.TrodAll enc Try.prog W 0 (fun _ => true) true Try.f6.params.toList args.toList ds p := hA0
  rw [Try.params6] at hA hval
  obtain ⟨v0, vs0, d0, ds0, p0, q0, hargs, rfl, rfl, h0, r0⟩ := trodAll_cons hA
  obtain ⟨v1, vs1, d1, ds1, p1, q1, rfl, rfl, rfl, h1, r1⟩ := trodAll_cons r0
  obtain ⟨rfl, rfl, rfl⟩ := trodAll_nil r1
  obtain rfl : args = #[v0, v1] := by cases args; simp_all
  obtain ⟨rfl, rfl⟩ := trodVars_none hV
  obtain ⟨x0, rfl, rfl, rfl, wf0⟩ := open_int Try.underlying2 (hval 0 2 v0 rfl rfl) h0
  have k1 := h1
  have lt1 := lt_of_trod h1
  obtain ⟨x1, ad1, c1, rfl, i1⟩ := openI' Try.underlying22 Try.underlying2 (by kernel_rfl) (hval 1 22 v1 rfl rfl) h1
  clear hA0 hval0
  refine (walk x0 x1 ad1 c1 W i1).mono fun e W' ⟨he, bel⟩ => ?_
  subst he
  exact ⟨_, rfl, _, _, _, [], _, [], hW', trodAll_mk1 (shut_bool Try.underlying4 _), (trodAll_cons_mk (shut_int Try.underlying2 wf0) (trodAll_cons_mk (Below.trod laidOut (by kernel_rfl) (of_decide_eq_true (by kernel_rfl)) k1 bel lt1) trodAll_mk0)), rfl, bel.frame _, fun h => by cases h⟩

theorem over : Rows.fnExactSplitCentsRow.holds Try.pinned (OpenSpec.ofChange Rows.fnExactSplitCentsSpec) :=
  OpenClaim.holds_of_wide 6 Try.f6 rfl rfl rfl rfl rfl rfl rfl ⟨rfl, rfl, rfl, rfl, rfl⟩ rfl rfl rfl rfl rfl (by kernel_rfl) Try.func6 (by kernel_rfl)
    (of_decide_eq_true (by kernel_rfl)) (by unfold Func.isWrapper; first | (rw [if_pos (by decide +kernel)]; kernel_rfl) | (rw [if_neg (by decide +kernel)]; exact ⟨rfl, rfl⟩))
    (fun os started H enc _ => lifted os started H enc)

/-- The statement. -/
theorem proved : Rows.FnExactSplitCentsSaid := over
#print axioms proved
end Go.Proofs.Ytnikfcaloielaaa.fnExactSplitCents
