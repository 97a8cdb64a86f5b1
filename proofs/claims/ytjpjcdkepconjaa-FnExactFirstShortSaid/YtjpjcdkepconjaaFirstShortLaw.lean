/-
  FnExactFirstShort returns true for every input: the program's FirstShort and the reference's give the same results, leave their arguments as they were, and share no memory. No condition.
-/
import Derived.Test.YtjpjcdkepconjaaRows
import Derived.Test.YtjpjcdkepconjaaFirstShort
import Derived.Test.YtjpjcdkepconjaaToEntryS
import Derived.Test.YtjpjcdkepconjaaEntryS
import Derived.Test.YtjpjcdkepconjaaOpen
import Derived.WalkKit
import Derived.ProofKit
import Derived.OpenShut
import Derived.Carry
import Derived.Deep.RegionHeld3
namespace Go.Proofs.Ytjpjcdkepconjaa.fnExactFirstShort
open Go.ChangeShapes Go.WideShapes Go.ChangeAt Go.RowKit
set_option linter.unusedVariables false

theorem own : ownKnob Try.prog.godebug = none := by kernel_rfl
theorem laidOut : laidOutB Try.prog = true := by kernel_rfl

set_option maxHeartbeats 4000000 in
theorem walk (x0 : Rec) (ad0 : Option Addr) (c0 : Nat) (x1 : Int) (w : World) (i0 : InR 4 w (.slice ad0 x0.length c0) x0) :
    Calls Try.prog 5 #[.slice ad0 x0.length c0, .int .i64 x1] w fun e w' => e = .returned (.bool true) ∧ Below w.heap.size w w' := by
  go_enter Try.func5, Try.ntmps5
  rcases Int.lt_or_le (1048576) (x0.length : Int) with hs0 | hs0
  · go_wp2_with fail
    refine (sz_e_no i0 hs0 (by omega)).mono ?_
    rintro e wz ⟨rfl, bz⟩
    go_wp2_with fail
    go_ret
    exact ⟨rfl, bz⟩
  go_wp2_with fail
  refine (sz_e_yes i0 hs0 (by omega)).mono ?_
  rintro e w1 ⟨rfl, b1⟩
  have C1 := b1
  go_wp2_with fail
  refine (to_e (i0.below C1) (by omega)).mono ?_
  rintro e w2 ⟨v_t1, rfl, o_t1, b2⟩
  have C2 := bnext C1 b2
  have lt_t1 := Lib.hid o_t1.lt
  go_wp2_with fail
  refine (FirstShort_spec o_t1 x1).mono ?_
  rintro e w3 ⟨rfl, b3⟩
  have C3 := bnext C2 b3
  replace o_t1 := o_t1.below b3
  go_wp2_with fail
  refine (to_e (i0.below C3) (by omega)).mono ?_
  rintro e w4 ⟨v_t2, rfl, o_t2, b4⟩
  have C4 := bnext C3 b4
  have lt_t2 := Lib.hid o_t2.lt
  go_wp2_with fail
  refine (FirstShort_impl o_t2 x1).mono ?_
  rintro e w5 ⟨rfl, b5⟩
  have C5 := bnext C4 b5
  replace o_t2 := o_t2.below b5
  go_wp2_with fail
  refine (to_e (i0.below C5) (by omega)).mono ?_
  rintro e w6 ⟨v_t3, rfl, o_t3, b6⟩
  have C6 := bnext C5 b6
  replace o_t2 := o_t2.below b6
  have lt_t3 := Lib.hid o_t3.lt
  go_wp2_with fail
  refine (eq_e o_t2 o_t3 (by omega)).mono ?_
  rintro e w7 ⟨rfl, b7⟩
  have C7 := bnext C6 b7
  replace o_t2 := o_t2.below b7
  replace o_t3 := o_t3.below b7
  go_wp2_with fail
  go_ret
  exact ⟨rfl, C7⟩

set_option maxRecDepth 100000 in
theorem lifted (os : Os) (started : os.Started) (H : Type) (enc : TypeId × Value → H) :
    ReturnsInHanded {} Try.checked os 5 .any (Rows.fnExactFirstShortSpec.pre6 enc Try.prog Try.f5 Rows.fnExactFirstShortRow.domain false) (Rows.fnExactFirstShortSpec.post enc Try.prog Try.f5 false true false false) := by
  refine returnsInHanded_of_change (C := Try.checked) own started (by kernel_rfl) Try.func5
    (ChangeSpec.witness6 (enc := enc) (C := Try.checked) false ⟨#[], #[.slice none 0 0, .int .i64 0], []⟩ 8 (by kernel_rfl) (by kernel_rfl) (by kernel_rfl) (by kernel_rfl)) ?_
  intro W base args ds gs before hval0 hW hcnd _
  have hval : ∀ (j : Nat) t v, Try.f5.params[j]? = some t → args[j]? = some v → Value.okWide Try.prog W .any base t v := hval0
  have hW' := hW
  obtain ⟨p, q, hA0, hV, rfl, hfz, hnd⟩ := hW
  have hA : DataW.TrodAll enc Try.prog W 0 (fun _ => true) true Try.f5.params.toList args.toList ds p := hA0
  rw [Try.params5] at hA hval
  obtain ⟨v0, vs0, d0, ds0, p0, q0, hargs, rfl, rfl, h0, r0⟩ := trodAll_cons hA
  obtain ⟨v1, vs1, d1, ds1, p1, q1, rfl, rfl, rfl, h1, r1⟩ := trodAll_cons r0
  obtain ⟨rfl, rfl, rfl⟩ := trodAll_nil r1
  obtain rfl : args = #[v0, v1] := by cases args; simp_all
  obtain ⟨rfl, rfl⟩ := trodVars_none hV
  have k0 := h0
  have lt0 := lt_of_trod h0
  obtain ⟨x0, ad0, c0, rfl, i0⟩ := Try.openEntryS (hval 0 38 v0 rfl rfl) h0
  obtain ⟨x1, rfl, rfl, rfl, wf1⟩ := open_int Try.underlying2 (hval 1 2 v1 rfl rfl) h1
  clear hA0 hval0
  refine (walk x0 ad0 c0 x1 W i0).mono fun e W' ⟨he, bel⟩ => ?_
  subst he
  exact ⟨_, rfl, _, _, _, [], _, [], hW', trodAll_mk1 (shut_bool Try.underlying4 _), (trodAll_cons_mk (Below.trod laidOut (by kernel_rfl) (of_decide_eq_true (by kernel_rfl)) k0 bel lt0) (trodAll_cons_mk (shut_int Try.underlying2 wf1) trodAll_mk0)), rfl, bel.frame _, fun h => by cases h⟩

theorem over : Rows.fnExactFirstShortRow.holds Try.pinned (OpenSpec.ofChange Rows.fnExactFirstShortSpec) :=
  OpenClaim.holds_of_wide 5 Try.f5 rfl rfl rfl rfl rfl rfl rfl ⟨rfl, rfl, rfl, rfl, rfl⟩ rfl rfl rfl rfl rfl (by kernel_rfl) Try.func5 (by kernel_rfl)
    (of_decide_eq_true (by kernel_rfl)) (by unfold Func.isWrapper; first | (rw [if_pos (by decide +kernel)]; kernel_rfl) | (rw [if_neg (by decide +kernel)]; exact ⟨rfl, rfl⟩))
    (fun os started H enc _ => lifted os started H enc)

/-- The statement. -/
theorem proved : Rows.FnExactFirstShortSaid := over
#print axioms proved
end Go.Proofs.Ytjpjcdkepconjaa.fnExactFirstShort
