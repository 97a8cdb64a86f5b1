/-
  FnExactSameEntries returns true for every input: the program's SameEntries and the reference's give the same results, leave their arguments as they were, and share no memory. No condition.
-/
import Derived.Test.YtmifnjcpnaaocaaRows
import Derived.Test.YtmifnjcpnaaocaaSameEntries
import Derived.Test.YtmifnjcpnaaocaaToEntryS
import Derived.Test.YtmifnjcpnaaocaaEntryS
import Derived.Test.YtmifnjcpnaaocaaOpen
import Derived.WalkKit
import Derived.ProofKit
import Derived.OpenShut
import Derived.Carry
namespace Go.Proofs.Ytmifnjcpnaaocaa.fnExactSameEntries
open Go.ChangeShapes Go.WideShapes Go.ChangeAt Go.RowKit
set_option linter.unusedVariables false

theorem own : ownKnob Try.prog.godebug = none := by kernel_rfl
theorem laidOut : laidOutB Try.prog = true := by kernel_rfl

set_option maxHeartbeats 4000000 in
theorem walk (x0 : Rec) (ad0 : Option Addr) (c0 : Nat) (x1 : Rec) (ad1 : Option Addr) (c1 : Nat) (w : World) (i0 : InR 4 w (.slice ad0 x0.length c0) x0) (i1 : InR 4 w (.slice ad1 x1.length c1) x1) :
    Calls Try.prog 4 #[.slice ad0 x0.length c0, .slice ad1 x1.length c1] w fun e w' => e = .returned (.bool true) ∧ Below w.heap.size w w' := by
  go_enter Try.func4, Try.ntmps4
  rcases Int.lt_or_le (1048576) (x0.length : Int) with hs0 | hs0
  · go_wp2_with fail
    refine (sz_e_no i0 hs0 (by omega)).mono ?_
    rintro e wz ⟨rfl, bz⟩
    go_wp2_with fail
    go_ret
    exact ⟨rfl, bz⟩
  go_wp2_with fail
  refine (sz_e_yes i0 hs0 (by omega)).mono ?_
  rintro e w1 ⟨rfl, b1⟩
  have C1 := b1
  rcases Int.lt_or_le (1048576 - (x0.length : Int)) (x1.length : Int) with hs1 | hs1
  · go_wp2_with fail
    refine (sz_e_no (i1.below C1) hs1 (by omega)).mono ?_
    rintro e wz ⟨rfl, bz⟩
    go_wp2_with fail
    go_ret
    exact ⟨rfl, bnext C1 bz⟩
  go_wp2_with fail
  refine (sz_e_yes (i1.below C1) hs1 (by omega)).mono ?_
  rintro e w2 ⟨rfl, b2⟩
  have C2 := bnext C1 b2
  go_wp2_with fail
  refine (to_e (i0.below C2) (by omega)).mono ?_
  rintro e w3 ⟨v_t1, rfl, o_t1, b3⟩
  have C3 := bnext C2 b3
  have lt_t1 := Lib.hid o_t1.lt
  go_wp2_with fail
  refine (to_e (i1.below C3) (by omega)).mono ?_
  rintro e w4 ⟨v_t2, rfl, o_t2, b4⟩
  have C4 := bnext C3 b4
  replace o_t1 := o_t1.below b4
  have lt_t2 := Lib.hid o_t2.lt
  go_wp2_with fail
  refine (SameEntries_spec o_t1 o_t2).mono ?_
  rintro e w5 ⟨rfl, b5⟩
  have C5 := bnext C4 b5
  replace o_t1 := o_t1.below b5
  replace o_t2 := o_t2.below b5
  go_wp2_with fail
  refine (to_e (i0.below C5) (by omega)).mono ?_
  rintro e w6 ⟨v_t3, rfl, o_t3, b6⟩
  have C6 := bnext C5 b6
  have lt_t3 := Lib.hid o_t3.lt
  go_wp2_with fail
  refine (to_e (i1.below C6) (by omega)).mono ?_
  rintro e w7 ⟨v_t4, rfl, o_t4, b7⟩
  have C7 := bnext C6 b7
  replace o_t3 := o_t3.below b7
  have lt_t4 := Lib.hid o_t4.lt
  go_wp2_with fail
  refine (SameEntries_impl o_t3 o_t4).mono ?_
  rintro e w8 ⟨rfl, b8⟩
  have C8 := bnext C7 b8
  replace o_t3 := o_t3.below b8
  replace o_t4 := o_t4.below b8
  go_wp2_with fail
  refine (to_e (i0.below C8) (by omega)).mono ?_
  rintro e w9 ⟨v_t5, rfl, o_t5, b9⟩
  have C9 := bnext C8 b9
  replace o_t3 := o_t3.below b9
  replace o_t4 := o_t4.below b9
  have lt_t5 := Lib.hid o_t5.lt
  go_wp2_with fail
  refine (eq_e o_t3 o_t5 (by omega)).mono ?_
  rintro e w10 ⟨rfl, b10⟩
  have C10 := bnext C9 b10
  replace o_t3 := o_t3.below b10
  replace o_t4 := o_t4.below b10
  replace o_t5 := o_t5.below b10
  go_wp2_with fail
  refine (to_e (i1.below C10) (by omega)).mono ?_
  rintro e w11 ⟨v_t6, rfl, o_t6, b11⟩
  have C11 := bnext C10 b11
  replace o_t3 := o_t3.below b11
  replace o_t4 := o_t4.below b11
  have lt_t6 := Lib.hid o_t6.lt
  go_wp2_with fail
  refine (eq_e o_t4 o_t6 (by omega)).mono ?_
  rintro e w12 ⟨rfl, b12⟩
  have C12 := bnext C11 b12
  replace o_t3 := o_t3.below b12
  replace o_t4 := o_t4.below b12
  replace o_t6 := o_t6.below b12
  go_wp2_with fail
  go_ret
  exact ⟨rfl, C12⟩

set_option maxRecDepth 100000 in
theorem lifted (os : Os) (started : os.Started) (H : Type) (enc : TypeId × Value → H) :
    ReturnsInHanded {} Try.checked os 4 .any (Rows.fnExactSameEntriesSpec.pre6 enc Try.prog Try.f4 Rows.fnExactSameEntriesRow.domain false) (Rows.fnExactSameEntriesSpec.post enc Try.prog Try.f4 false true false false) := by
  refine returnsInHanded_of_change (C := Try.checked) own started (by kernel_rfl) Try.func4
    (ChangeSpec.witness6 (enc := enc) (C := Try.checked) false ⟨#[], #[.slice none 0 0, .slice none 0 0], []⟩ 8 (by kernel_rfl) (by kernel_rfl) (by kernel_rfl) (by kernel_rfl)) ?_
  intro W base args ds gs before hval0 hW hcnd _
  have hval : ∀ (j : Nat) t v, Try.f4.params[j]? = some t → args[j]? = some v → Value.okWide Try.prog W .any base t v := hval0
  have hW' := hW
  obtain ⟨p, q, hA0, hV, rfl, hfz, hnd⟩ := hW
  have hA : DataW.TrodAll enc Try.prog W 0 (fun _ => true) true Try.f4.params.toList args.toList ds p := hA0
  rw [Try.params4] at hA hval
  obtain ⟨v0, vs0, d0, ds0, p0, q0, hargs, rfl, rfl, h0, r0⟩ := trodAll_cons hA
  obtain ⟨v1, vs1, d1, ds1, p1, q1, rfl, rfl, rfl, h1, r1⟩ := trodAll_cons r0
  obtain ⟨rfl, rfl, rfl⟩ := trodAll_nil r1
  obtain rfl : args = #[v0, v1] := by cases args; simp_all
  obtain ⟨rfl, rfl⟩ := trodVars_none hV
  have k0 := h0
  have lt0 := lt_of_trod h0
  obtain ⟨x0, ad0, c0, rfl, i0⟩ := Try.openEntryS (hval 0 29 v0 rfl rfl) h0
  have k1 := h1
  have lt1 := lt_of_trod h1
  obtain ⟨x1, ad1, c1, rfl, i1⟩ := Try.openEntryS (hval 1 29 v1 rfl rfl) h1
  clear hA0 hval0
  refine (walk x0 ad0 c0 x1 ad1 c1 W i0 i1).mono fun e W' ⟨he, bel⟩ => ?_
  subst he
  exact ⟨_, rfl, _, _, _, [], _, [], hW', trodAll_mk1 (shut_bool Try.underlying4 _), (trodAll_cons_mk (Below.trod laidOut (by kernel_rfl) (of_decide_eq_true (by kernel_rfl)) k0 bel lt0) (trodAll_cons_mk (Below.trod laidOut (by kernel_rfl) (of_decide_eq_true (by kernel_rfl)) k1 bel lt1) trodAll_mk0)), rfl, bel.frame _, fun h => by cases h⟩

theorem over : Rows.fnExactSameEntriesRow.holds Try.pinned (OpenSpec.ofChange Rows.fnExactSameEntriesSpec) :=
  OpenClaim.holds_of_wide 4 Try.f4 rfl rfl rfl rfl rfl rfl rfl ⟨rfl, rfl, rfl, rfl, rfl⟩ rfl rfl rfl rfl rfl (by kernel_rfl) Try.func4 (by kernel_rfl)
    (of_decide_eq_true (by kernel_rfl)) (by unfold Func.isWrapper; first | (rw [if_pos (by decide +kernel)]; kernel_rfl) | (rw [if_neg (by decide +kernel)]; exact ⟨rfl, rfl⟩))
    (fun os started H enc _ => lifted os started H enc)

/-- The statement. -/
theorem proved : Rows.FnExactSameEntriesSaid := over
#print axioms proved
end Go.Proofs.Ytmifnjcpnaaocaa.fnExactSameEntries
