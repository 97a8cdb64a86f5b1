/-
  FnExactValidRule returns true for every input: the program's ValidRule and the reference's give the same results, leave their arguments as they were, and share no memory. No condition.
-/
import Derived.Test.YtjopeidmfgkhnaaRows
import Derived.Test.YtjopeidmfgkhnaaValidRule
import Derived.Test.YtjopeidmfgkhnaaRule
import Derived.Test.YtjopeidmfgkhnaaOpen
import Derived.WalkKit
import Derived.ProofKit
import Derived.OpenShut
import Derived.Carry
import Derived.Deep.RegionHeld3
namespace Go.Proofs.Ytjopeidmfgkhnaa.fnExactValidRule
open Go.ChangeShapes Go.WideShapes Go.ChangeAt Go.RowKit
set_option linter.unusedVariables false

theorem own : ownKnob Try.prog.godebug = none := by kernel_rfl
theorem laidOut : laidOutB Try.prog = true := by kernel_rfl

set_option maxHeartbeats 4000000 in
theorem walk (x0h : Int) (x0 : List Int) (x0f x0t x0k : Int) (ad0 : Option Addr) (c0 : Nat) (w : World) (i0 : InU w (.agg #[.int .i64 x0h, .slice ad0 x0.length c0, .int .i64 x0f, .int .i64 x0t, .int .i64 x0k]) x0h x0 x0f x0t x0k) :
    Calls Try.prog 4 #[.agg #[.int .i64 x0h, .slice ad0 x0.length c0, .int .i64 x0f, .int .i64 x0t, .int .i64 x0k]] w fun e w' => e = .returned (.bool true) ∧ Below w.heap.size w w' := by
  go_enter Try.func4, Try.ntmps4
  have bA : Below w.heap.size w (w.alloc (.cells #[.int .i64 x0h, .slice ad0 x0.length c0, .int .i64 x0f, .int .i64 x0t, .int .i64 x0k] 31)) := Below.alloc (Below.refl _ _) (Nat.le_refl _) _
  have KB0_0 : Hid ((w.alloc (.cells #[.int .i64 x0h, .slice ad0 x0.length c0, .int .i64 x0f, .int .i64 x0t, .int .i64 x0k] 31)).cell? ⟨w.heap.size, 0, none⟩ = some (.int .i64 x0h)) := by show (w.alloc (.cells #[.int .i64 x0h, .slice ad0 x0.length c0, .int .i64 x0f, .int .i64 x0t, .int .i64 x0k] 31)).cell? _ = _; simp [go_sem]
  have KB0_1 : Hid ((w.alloc (.cells #[.int .i64 x0h, .slice ad0 x0.length c0, .int .i64 x0f, .int .i64 x0t, .int .i64 x0k] 31)).cell? ⟨w.heap.size, 1, none⟩ = some (.slice ad0 x0.length c0)) := by show (w.alloc (.cells #[.int .i64 x0h, .slice ad0 x0.length c0, .int .i64 x0f, .int .i64 x0t, .int .i64 x0k] 31)).cell? _ = _; simp [go_sem]
  have KB0_2 : Hid ((w.alloc (.cells #[.int .i64 x0h, .slice ad0 x0.length c0, .int .i64 x0f, .int .i64 x0t, .int .i64 x0k] 31)).cell? ⟨w.heap.size, 2, none⟩ = some (.int .i64 x0f)) := by show (w.alloc (.cells #[.int .i64 x0h, .slice ad0 x0.length c0, .int .i64 x0f, .int .i64 x0t, .int .i64 x0k] 31)).cell? _ = _; simp [go_sem]
  have KB0_3 : Hid ((w.alloc (.cells #[.int .i64 x0h, .slice ad0 x0.length c0, .int .i64 x0f, .int .i64 x0t, .int .i64 x0k] 31)).cell? ⟨w.heap.size, 3, none⟩ = some (.int .i64 x0t)) := by show (w.alloc (.cells #[.int .i64 x0h, .slice ad0 x0.length c0, .int .i64 x0f, .int .i64 x0t, .int .i64 x0k] 31)).cell? _ = _; simp [go_sem]
  have KB0_4 : Hid ((w.alloc (.cells #[.int .i64 x0h, .slice ad0 x0.length c0, .int .i64 x0f, .int .i64 x0t, .int .i64 x0k] 31)).cell? ⟨w.heap.size, 4, none⟩ = some (.int .i64 x0k)) := by show (w.alloc (.cells #[.int .i64 x0h, .slice ad0 x0.length c0, .int .i64 x0f, .int .i64 x0t, .int .i64 x0k] 31)).cell? _ = _; simp [go_sem]
  have j0 := i0.below bA
  rcases Int.lt_or_le (1048576) (x0.length : Int) with hs0 | hs0
  · go_wp2_with fail
    refine (sz_u_no j0 hs0 (by omega)).mono ?_
    rintro e wz ⟨rfl, bz⟩
    go_wp2_with fail
    go_ret
    exact ⟨rfl, bnext bA (bz)⟩
  go_wp2_with fail
  refine (sz_u_yes j0 hs0 (by omega)).mono ?_
  rintro e w1 ⟨rfl, b1⟩
  have C1 := b1
  have kb0_0 := Below.cellOf C1 rfl KB0_0.out
  have kb0_1 := Below.cellOf C1 rfl KB0_1.out
  have kb0_2 := Below.cellOf C1 rfl KB0_2.out
  have kb0_3 := Below.cellOf C1 rfl KB0_3.out
  have kb0_4 := Below.cellOf C1 rfl KB0_4.out
  go_wp2_with fail
  refine (to_u (j0.below C1) (by omega)).mono ?_
  rintro e w2 ⟨v_t1, rfl, o_t1, b2⟩
  have C2 := bnext C1 b2
  have kb0_0 := Below.cellOf C2 rfl KB0_0.out
  have kb0_1 := Below.cellOf C2 rfl KB0_1.out
  have kb0_2 := Below.cellOf C2 rfl KB0_2.out
  have kb0_3 := Below.cellOf C2 rfl KB0_3.out
  have kb0_4 := Below.cellOf C2 rfl KB0_4.out
  have lt_t1 := Lib.hid o_t1.lt
  go_wp2_with fail
  refine (ValidRule_spec o_t1).mono ?_
  rintro e w3 ⟨rfl, b3⟩
  have C3 := bnext C2 b3
  replace o_t1 := o_t1.below b3
  have kb0_0 := Below.cellOf C3 rfl KB0_0.out
  have kb0_1 := Below.cellOf C3 rfl KB0_1.out
  have kb0_2 := Below.cellOf C3 rfl KB0_2.out
  have kb0_3 := Below.cellOf C3 rfl KB0_3.out
  have kb0_4 := Below.cellOf C3 rfl KB0_4.out
  go_wp2_with fail
  refine (to_u (j0.below C3) (by omega)).mono ?_
  rintro e w4 ⟨v_t2, rfl, o_t2, b4⟩
  have C4 := bnext C3 b4
  have kb0_0 := Below.cellOf C4 rfl KB0_0.out
  have kb0_1 := Below.cellOf C4 rfl KB0_1.out
  have kb0_2 := Below.cellOf C4 rfl KB0_2.out
  have kb0_3 := Below.cellOf C4 rfl KB0_3.out
  have kb0_4 := Below.cellOf C4 rfl KB0_4.out
  have lt_t2 := Lib.hid o_t2.lt
  obtain ⟨sb_x0, cb_x0, rfl⟩ := o_t2.shape
  have b5 : Below w4.heap.size w4 (w4.alloc (.cells #[.int .i64 x0h, .slice (some ⟨sb_x0, 0, none⟩) x0.length cb_x0, .int .i64 x0f, .int .i64 x0t, .int .i64 x0k] 34)) := by go_grown
  have C5 := bnext C4 b5
  replace o_t2 := o_t2.below b5
  have kb0_0 := Below.cellOf C5 rfl KB0_0.out
  have kb0_1 := Below.cellOf C5 rfl KB0_1.out
  have kb0_2 := Below.cellOf C5 rfl KB0_2.out
  have kb0_3 := Below.cellOf C5 rfl KB0_3.out
  have kb0_4 := Below.cellOf C5 rfl KB0_4.out
  have kx_x0_0 : (w4.alloc (.cells #[.int .i64 x0h, .slice (some ⟨sb_x0, 0, none⟩) x0.length cb_x0, .int .i64 x0f, .int .i64 x0t, .int .i64 x0k] 34)).cell? ⟨w4.heap.size, 0, none⟩ = some (.int .i64 x0h) := by simp [go_sem]
  have kx_x0_1 : (w4.alloc (.cells #[.int .i64 x0h, .slice (some ⟨sb_x0, 0, none⟩) x0.length cb_x0, .int .i64 x0f, .int .i64 x0t, .int .i64 x0k] 34)).cell? ⟨w4.heap.size, 1, none⟩ = some (.slice (some ⟨sb_x0, 0, none⟩) x0.length cb_x0) := by simp [go_sem]
  have kx_x0_2 : (w4.alloc (.cells #[.int .i64 x0h, .slice (some ⟨sb_x0, 0, none⟩) x0.length cb_x0, .int .i64 x0f, .int .i64 x0t, .int .i64 x0k] 34)).cell? ⟨w4.heap.size, 2, none⟩ = some (.int .i64 x0f) := by simp [go_sem]
  have kx_x0_3 : (w4.alloc (.cells #[.int .i64 x0h, .slice (some ⟨sb_x0, 0, none⟩) x0.length cb_x0, .int .i64 x0f, .int .i64 x0t, .int .i64 x0k] 34)).cell? ⟨w4.heap.size, 3, none⟩ = some (.int .i64 x0t) := by simp [go_sem]
  have kx_x0_4 : (w4.alloc (.cells #[.int .i64 x0h, .slice (some ⟨sb_x0, 0, none⟩) x0.length cb_x0, .int .i64 x0f, .int .i64 x0t, .int .i64 x0k] 34)).cell? ⟨w4.heap.size, 4, none⟩ = some (.int .i64 x0k) := by simp [go_sem]
  go_wp2_with fail
  refine (ValidRule_impl o_t2).mono ?_
  rintro e w6 ⟨rfl, b6⟩
  have C6 := bnext C5 b6
  replace o_t2 := o_t2.below b6
  have kb0_0 := Below.cellOf C6 rfl KB0_0.out
  have kb0_1 := Below.cellOf C6 rfl KB0_1.out
  have kb0_2 := Below.cellOf C6 rfl KB0_2.out
  have kb0_3 := Below.cellOf C6 rfl KB0_3.out
  have kb0_4 := Below.cellOf C6 rfl KB0_4.out
  replace kx_x0_0 := Below.cellOf b6 rfl kx_x0_0
  replace kx_x0_1 := Below.cellOf b6 rfl kx_x0_1
  replace kx_x0_2 := Below.cellOf b6 rfl kx_x0_2
  replace kx_x0_3 := Below.cellOf b6 rfl kx_x0_3
  replace kx_x0_4 := Below.cellOf b6 rfl kx_x0_4
  go_wp2_with fail
  have b7 : Below w6.heap.size w6 (w6.drew) := (Below.refl _ _).drew
  have C7 := bnext C6 b7
  replace o_t2 := o_t2.below b7
  have kb0_0 := Below.cellOf C7 rfl KB0_0.out
  have kb0_1 := Below.cellOf C7 rfl KB0_1.out
  have kb0_2 := Below.cellOf C7 rfl KB0_2.out
  have kb0_3 := Below.cellOf C7 rfl KB0_3.out
  have kb0_4 := Below.cellOf C7 rfl KB0_4.out
  replace kx_x0_0 := Below.cellOf b7 rfl kx_x0_0
  replace kx_x0_1 := Below.cellOf b7 rfl kx_x0_1
  replace kx_x0_2 := Below.cellOf b7 rfl kx_x0_2
  replace kx_x0_3 := Below.cellOf b7 rfl kx_x0_3
  replace kx_x0_4 := Below.cellOf b7 rfl kx_x0_4
  go_region_held3 (fun w' => w'.cell? ⟨w4.heap.size, 0, none⟩ = some (.int .i64 x0h) ∧ w'.cell? ⟨w4.heap.size, 1, none⟩ = some (.slice (some ⟨sb_x0, 0, none⟩) x0.length cb_x0) ∧ w'.cell? ⟨w4.heap.size, 2, none⟩ = some (.int .i64 x0f) ∧ w'.cell? ⟨w4.heap.size, 3, none⟩ = some (.int .i64 x0t) ∧ w'.cell? ⟨w4.heap.size, 4, none⟩ = some (.int .i64 x0k) ∧ w'.cell? ⟨w.heap.size, 0, none⟩ = some (.int .i64 x0h) ∧ w'.cell? ⟨w.heap.size, 1, none⟩ = some (.slice ad0 x0.length c0) ∧ w'.cell? ⟨w.heap.size, 2, none⟩ = some (.int .i64 x0f) ∧ w'.cell? ⟨w.heap.size, 3, none⟩ = some (.int .i64 x0t) ∧ w'.cell? ⟨w.heap.size, 4, none⟩ = some (.int .i64 x0k))
    (exact ⟨kx_x0_0, kx_x0_1, kx_x0_2, kx_x0_3, kx_x0_4, kb0_0, kb0_1, kb0_2, kb0_3, kb0_4⟩)
    ((first | (go_at_call 16; refine (to_u (j0.below C7) (by omega)).mono ?_; rintro e w8 ⟨v_t3, rfl, o_t3, b8⟩; have C8 := bnext C7 b8; replace o_t2 := o_t2.below b8; have kb0_0 := Below.cellOf C8 rfl KB0_0.out; have kb0_1 := Below.cellOf C8 rfl KB0_1.out; have kb0_2 := Below.cellOf C8 rfl KB0_2.out; have kb0_3 := Below.cellOf C8 rfl KB0_3.out; have kb0_4 := Below.cellOf C8 rfl KB0_4.out; replace kx_x0_0 := Below.cellOf b8 rfl kx_x0_0; replace kx_x0_1 := Below.cellOf b8 rfl kx_x0_1; replace kx_x0_2 := Below.cellOf b8 rfl kx_x0_2; replace kx_x0_3 := Below.cellOf b8 rfl kx_x0_3; replace kx_x0_4 := Below.cellOf b8 rfl kx_x0_4; have lt_t3 := Lib.hid o_t3.lt) | (go_at_call 18; refine (eq_u o_t2.own o_t3.own (by omega)).mono ?_; rintro e w9 ⟨rfl, b9⟩; have C9 := bnext C8 b9; replace o_t2 := o_t2.below b9; replace o_t3 := o_t3.below b9; have kb0_0 := Below.cellOf C9 rfl KB0_0.out; have kb0_1 := Below.cellOf C9 rfl KB0_1.out; have kb0_2 := Below.cellOf C9 rfl KB0_2.out; have kb0_3 := Below.cellOf C9 rfl KB0_3.out; have kb0_4 := Below.cellOf C9 rfl KB0_4.out; replace kx_x0_0 := Below.cellOf b9 rfl kx_x0_0; replace kx_x0_1 := Below.cellOf b9 rfl kx_x0_1; replace kx_x0_2 := Below.cellOf b9 rfl kx_x0_2; replace kx_x0_3 := Below.cellOf b9 rfl kx_x0_3; replace kx_x0_4 := Below.cellOf b9 rfl kx_x0_4)))
  go_wp2_with fail
  go_ret
  exact ⟨rfl, bnext bA (C9)⟩

set_option maxRecDepth 100000 in
theorem lifted (os : Os) (started : os.Started) (H : Type) (enc : TypeId × Value → H) :
    ReturnsInHanded {} Try.checked os 4 .any (Rows.fnExactValidRuleSpec.pre6 enc Try.prog Try.f4 Rows.fnExactValidRuleRow.domain false) (Rows.fnExactValidRuleSpec.post enc Try.prog Try.f4 false true false false) := by
  refine returnsInHanded_of_change (C := Try.checked) own started (by kernel_rfl) Try.func4
    (ChangeSpec.witness6 (enc := enc) (C := Try.checked) false ⟨#[], #[.agg #[.int .i64 0, .slice none 0 0, .int .i64 0, .int .i64 0, .int .i64 0]], []⟩ 8 (by kernel_rfl) (by kernel_rfl) (by kernel_rfl) (by kernel_rfl)) ?_
  intro W base args ds gs before hval0 hW hcnd _
  have hval : ∀ (j : Nat) t v, Try.f4.params[j]? = some t → args[j]? = some v → Value.okWide Try.prog W .any base t v := hval0
  have hW' := hW
  obtain ⟨p, q, hA0, hV, rfl, hfz, hnd⟩ := hW
  have hA : DataW.TrodAll enc Try.prog W 0 (fun _ => true) true Try.f4.params.toList args.toList ds p := hA0
  rw [Try.params4] at hA hval
  obtain ⟨v0, vs0, d0, ds0, p0, q0, hargs, rfl, rfl, h0, r0⟩ := trodAll_cons hA
  obtain ⟨rfl, rfl, rfl⟩ := trodAll_nil r0
  obtain rfl : args = #[v0] := by cases args; simp_all
  obtain ⟨rfl, rfl⟩ := trodVars_none hV
  have k0 := h0
  have lt0 := lt_of_trod h0
  obtain ⟨x0h, x0, x0f, x0t, x0k, ad0, c0, rfl, i0⟩ := openU Try.underlying31 (by kernel_rfl) (by kernel_rfl) Try.underlying2 Try.underlying29 Try.underlying2 Try.underlying2 Try.underlying2 Try.underlying2 (by kernel_rfl) (hval 0 31 v0 rfl rfl) h0
  clear hA0 hval0
  refine (walk x0h x0 x0f x0t x0k ad0 c0 W i0).mono fun e W' ⟨he, bel⟩ => ?_
  subst he
  exact ⟨_, rfl, _, _, _, [], _, [], hW', trodAll_mk1 (shut_bool Try.underlying4 _), (trodAll_cons_mk (Below.trod laidOut (by kernel_rfl) (of_decide_eq_true (by kernel_rfl)) k0 bel lt0) trodAll_mk0), rfl, bel.frame _, fun h => by cases h⟩

theorem over : Rows.fnExactValidRuleRow.holds Try.pinned (OpenSpec.ofChange Rows.fnExactValidRuleSpec) :=
  OpenClaim.holds_of_wide 4 Try.f4 rfl rfl rfl rfl rfl rfl rfl ⟨rfl, rfl, rfl, rfl, rfl⟩ rfl rfl rfl rfl rfl (by kernel_rfl) Try.func4 (by kernel_rfl)
    (of_decide_eq_true (by kernel_rfl)) (by unfold Func.isWrapper; first | (rw [if_pos (by decide +kernel)]; kernel_rfl) | (rw [if_neg (by decide +kernel)]; exact ⟨rfl, rfl⟩))
    (fun os started H enc _ => lifted os started H enc)

/-- The statement. -/
theorem proved : Rows.FnExactValidRuleSaid := over
#print axioms proved
end Go.Proofs.Ytjopeidmfgkhnaa.fnExactValidRule
