/-
  FnExactAreRows returns true for every input: the program's AreRows and the reference's give the same results, leave their arguments as they were, and share no memory. No condition.
-/
import Derived.Test.YtjpjcdkepconjaaRows
import Derived.Test.YtjpjcdkepconjaaAreRows
import Derived.Test.YtjpjcdkepconjaaToRowS
import Derived.Test.YtjpjcdkepconjaaRowS
import Derived.Test.YtjpjcdkepconjaaOpen
import Derived.WalkKit
import Derived.ProofKit
import Derived.OpenShut
import Derived.Carry
import Derived.Deep.RegionHeld3
namespace Go.Proofs.Ytjpjcdkepconjaa.fnExactAreRows
open Go.ChangeShapes Go.WideShapes Go.ChangeAt Go.RowKit
set_option linter.unusedVariables false

theorem own : ownKnob Try.prog.godebug = none := by kernel_rfl
theorem laidOut : laidOutB Try.prog = true := by kernel_rfl

set_option maxHeartbeats 4000000 in
theorem walk (x0 : Int) (x1 : Rec) (ad1 : Option Addr) (c1 : Nat) (w : World) (i1 : InR 3 w (.slice ad1 x1.length c1) x1) :
    Calls Try.prog 3 #[.int .i64 x0, .slice ad1 x1.length c1] w fun e w' => e = .returned (.bool true) ∧ Below w.heap.size w w' := by
  go_enter Try.func3, Try.ntmps3
  rcases Int.lt_or_le (1048576) (x1.length : Int) with hs1 | hs1
  · go_wp2_with fail
    refine (sz_r_no i1 hs1 (by omega)).mono ?_
    rintro e wz ⟨rfl, bz⟩
    go_wp2_with fail
    go_ret
    exact ⟨rfl, bz⟩
  go_wp2_with fail
  refine (sz_r_yes i1 hs1 (by omega)).mono ?_
  rintro e w1 ⟨rfl, b1⟩
  have C1 := b1
  go_wp2_with fail
  refine (to_r (i1.below C1) (by omega)).mono ?_
  rintro e w2 ⟨v_t1, rfl, o_t1, b2⟩
  have C2 := bnext C1 b2
  have lt_t1 := Lib.hid o_t1.lt
  go_wp2_with fail
  refine (AreRows_spec x0 o_t1).mono ?_
  rintro e w3 ⟨rfl, b3⟩
  have C3 := bnext C2 b3
  replace o_t1 := o_t1.below b3
  go_wp2_with fail
  refine (to_r (i1.below C3) (by omega)).mono ?_
  rintro e w4 ⟨v_t2, rfl, o_t2, b4⟩
  have C4 := bnext C3 b4
  have lt_t2 := Lib.hid o_t2.lt
  go_wp2_with fail
  refine (AreRows_impl x0 o_t2).mono ?_
  rintro e w5 ⟨rfl, b5⟩
  have C5 := bnext C4 b5
  replace o_t2 := o_t2.below b5
  go_wp2_with fail
  refine (to_r (i1.below C5) (by omega)).mono ?_
  rintro e w6 ⟨v_t3, rfl, o_t3, b6⟩
  have C6 := bnext C5 b6
  replace o_t2 := o_t2.below b6
  have lt_t3 := Lib.hid o_t3.lt
  go_wp2_with fail
  refine (eq_r o_t2 o_t3 (by omega)).mono ?_
  rintro e w7 ⟨rfl, b7⟩
  have C7 := bnext C6 b7
  replace o_t2 := o_t2.below b7
  replace o_t3 := o_t3.below b7
  go_wp2_with fail
  go_ret
  exact ⟨rfl, C7⟩

set_option maxRecDepth 100000 in
theorem lifted (os : Os) (started : os.Started) (H : Type) (enc : TypeId × Value → H) :
    ReturnsInHanded {} Try.checked os 3 .any (Rows.fnExactAreRowsSpec.pre6 enc Try.prog Try.f3 Rows.fnExactAreRowsRow.domain false) (Rows.fnExactAreRowsSpec.post enc Try.prog Try.f3 false true false false) := by
  refine returnsInHanded_of_change (C := Try.checked) own started (by kernel_rfl) Try.func3
    (ChangeSpec.witness6 (enc := enc) (C := Try.checked) false ⟨#[], #[.int .i64 0, .slice none 0 0], []⟩ 8 (by kernel_rfl) (by kernel_rfl) (by kernel_rfl) (by kernel_rfl)) ?_
  intro W base args ds gs before hval0 hW hcnd _
  have hval : ∀ (j : Nat) t v, Try.f3.params[j]? = some t → args[j]? = some v → Value.okWide Try.prog W .any base t v := hval0
  have hW' := hW
  obtain ⟨p, q, hA0, hV, rfl, hfz, hnd⟩ := hW
  have hA : DataW.TrodAll enc Try.prog W 0 (fun _ => true) true Try.f3.params.toList args.toList ds p := hA0
  rw [Try.params3] at hA hval
  obtain ⟨v0, vs0, d0, ds0, p0, q0, hargs, rfl, rfl, h0, r0⟩ := trodAll_cons hA
  obtain ⟨v1, vs1, d1, ds1, p1, q1, rfl, rfl, rfl, h1, r1⟩ := trodAll_cons r0
  obtain ⟨rfl, rfl, rfl⟩ := trodAll_nil r1
  obtain rfl : args = #[v0, v1] := by cases args; simp_all
  obtain ⟨rfl, rfl⟩ := trodVars_none hV
  obtain ⟨x0, rfl, rfl, rfl, wf0⟩ := open_int Try.underlying2 (hval 0 2 v0 rfl rfl) h0
  have k1 := h1
  have lt1 := lt_of_trod h1
  obtain ⟨x1, ad1, c1, rfl, i1⟩ := Try.openRowS (hval 1 22 v1 rfl rfl) h1
  clear hA0 hval0
  refine (walk x0 x1 ad1 c1 W i1).mono fun e W' ⟨he, bel⟩ => ?_
  subst he
  exact ⟨_, rfl, _, _, _, [], _, [], hW', trodAll_mk1 (shut_bool Try.underlying4 _), (trodAll_cons_mk (shut_int Try.underlying2 wf0) (trodAll_cons_mk (Below.trod laidOut (by kernel_rfl) (of_decide_eq_true (by kernel_rfl)) k1 bel lt1) trodAll_mk0)), rfl, bel.frame _, fun h => by cases h⟩

theorem over : Rows.fnExactAreRowsRow.holds Try.pinned (OpenSpec.ofChange Rows.fnExactAreRowsSpec) :=
  OpenClaim.holds_of_wide 3 Try.f3 rfl rfl rfl rfl rfl rfl rfl ⟨rfl, rfl, rfl, rfl, rfl⟩ rfl rfl rfl rfl rfl (by kernel_rfl) Try.func3 (by kernel_rfl)
    (of_decide_eq_true (by kernel_rfl)) (by unfold Func.isWrapper; first | (rw [if_pos (by decide +kernel)]; kernel_rfl) | (rw [if_neg (by decide +kernel)]; exact ⟨rfl, rfl⟩))
    (fun os started H enc _ => lifted os started H enc)

/-- The statement. -/
theorem proved : Rows.FnExactAreRowsSaid := over
#print axioms proved
end Go.Proofs.Ytjpjcdkepconjaa.fnExactAreRows
