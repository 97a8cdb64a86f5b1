/-
  FnExactPartsDue returns true for every input: the program's PartsDue and the reference's give the same results, leave their arguments as they were, and share no memory. No condition.
-/
import Derived.Test.YtjghhllekbmkjaaRows
import Derived.Test.YtjghhllekbmkjaaPartsDue
import Derived.Test.YtjghhllekbmkjaaToScale
import Derived.Test.YtjghhllekbmkjaaScale
import Derived.Test.YtjghhllekbmkjaaOpen
import Derived.WalkKit
import Derived.ProofKit
import Derived.OpenShut
import Derived.Carry
import Derived.Deep.RegionHeld3
namespace Go.Proofs.Ytjghhllekbmkjaa.fnExactPartsDue
open Go.ChangeShapes Go.WideShapes Go.ChangeAt Go.RowKit
set_option linter.unusedVariables false

theorem own : ownKnob Try.prog.godebug = none := by kernel_rfl
theorem laidOut : laidOutB Try.prog = true := by kernel_rfl

set_option maxHeartbeats 4000000 in
theorem walk (x0b x0r : List Int) (adb0 adr0 : Option Addr) (cb0 cr0 : Nat) (x1 : Int) (x2 : Int) (x3 : Int) (x4 : Int) (w : World) (i0 : InS w (.agg #[.slice adb0 x0b.length cb0, .slice adr0 x0r.length cr0]) x0b x0r) :
    Calls Try.prog 5 #[.agg #[.slice adb0 x0b.length cb0, .slice adr0 x0r.length cr0], .int .i64 x1, .int .i64 x2, .int .i64 x3, .int .i64 x4] w fun e w' => e = .returned (.bool true) ∧ Below w.heap.size w w' := by
  go_enter Try.func5, Try.ntmps5
  have bA : Below w.heap.size w (w.alloc (.cells #[.slice adb0 x0b.length cb0, .slice adr0 x0r.length cr0] 24)) := Below.alloc (Below.refl _ _) (Nat.le_refl _) _
  have KB0_0 : Hid ((w.alloc (.cells #[.slice adb0 x0b.length cb0, .slice adr0 x0r.length cr0] 24)).cell? ⟨w.heap.size, 0, none⟩ = some (.slice adb0 x0b.length cb0)) := by show (w.alloc (.cells #[.slice adb0 x0b.length cb0, .slice adr0 x0r.length cr0] 24)).cell? _ = _; simp [go_sem]
  have KB0_1 : Hid ((w.alloc (.cells #[.slice adb0 x0b.length cb0, .slice adr0 x0r.length cr0] 24)).cell? ⟨w.heap.size, 1, none⟩ = some (.slice adr0 x0r.length cr0)) := by show (w.alloc (.cells #[.slice adb0 x0b.length cb0, .slice adr0 x0r.length cr0] 24)).cell? _ = _; simp [go_sem]
  have j0 := i0.below bA
  rcases Int.lt_or_le (1048576) ((x0b.length : Int) + x0r.length) with hs0 | hs0
  · go_wp2_with fail
    refine (sz_s_no j0 hs0 (by omega)).mono ?_
    rintro e wz ⟨rfl, bz⟩
    go_wp2_with fail
    go_ret
    exact ⟨rfl, bnext bA (bz)⟩
  go_wp2_with fail
  refine (sz_s_yes j0 hs0 (by omega)).mono ?_
  rintro e w1 ⟨rfl, b1⟩
  have C1 := b1
  have kb0_0 := Below.cellOf C1 rfl KB0_0.out
  have kb0_1 := Below.cellOf C1 rfl KB0_1.out
  go_wp2_with fail
  refine (to_s (j0.below C1) (by omega)).mono ?_
  rintro e w2 ⟨v_t1, rfl, o_t1, b2⟩
  have C2 := bnext C1 b2
  have kb0_0 := Below.cellOf C2 rfl KB0_0.out
  have kb0_1 := Below.cellOf C2 rfl KB0_1.out
  have lt_t1 := Lib.hid o_t1.lt
  go_wp2_with fail
  refine (PartsDue_spec o_t1 x1 x2 x3 x4).mono ?_
  rintro e w3 ⟨rfl, b3⟩
  have C3 := bnext C2 b3
  replace o_t1 := o_t1.below b3
  have kb0_0 := Below.cellOf C3 rfl KB0_0.out
  have kb0_1 := Below.cellOf C3 rfl KB0_1.out
  go_wp2_with fail
  refine (to_s (j0.below C3) (by omega)).mono ?_
  rintro e w4 ⟨v_t2, rfl, o_t2, b4⟩
  have C4 := bnext C3 b4
  have kb0_0 := Below.cellOf C4 rfl KB0_0.out
  have kb0_1 := Below.cellOf C4 rfl KB0_1.out
  have lt_t2 := Lib.hid o_t2.lt
  obtain ⟨sb_x0, cb_x0, sr_x0, cr_x0, rfl⟩ := o_t2.shape
  have b5 : Below w4.heap.size w4 (w4.alloc (.cells #[.slice (some ⟨sb_x0, 0, none⟩) x0b.length cb_x0, .slice (some ⟨sr_x0, 0, none⟩) x0r.length cr_x0] 28)) := by go_grown
  have C5 := bnext C4 b5
  replace o_t2 := o_t2.below b5
  have kb0_0 := Below.cellOf C5 rfl KB0_0.out
  have kb0_1 := Below.cellOf C5 rfl KB0_1.out
  have kx_x0_0 : (w4.alloc (.cells #[.slice (some ⟨sb_x0, 0, none⟩) x0b.length cb_x0, .slice (some ⟨sr_x0, 0, none⟩) x0r.length cr_x0] 28)).cell? ⟨w4.heap.size, 0, none⟩ = some (.slice (some ⟨sb_x0, 0, none⟩) x0b.length cb_x0) := by simp [go_sem]
  have kx_x0_1 : (w4.alloc (.cells #[.slice (some ⟨sb_x0, 0, none⟩) x0b.length cb_x0, .slice (some ⟨sr_x0, 0, none⟩) x0r.length cr_x0] 28)).cell? ⟨w4.heap.size, 1, none⟩ = some (.slice (some ⟨sr_x0, 0, none⟩) x0r.length cr_x0) := by simp [go_sem]
  go_wp2_with fail
  refine (PartsDue_impl o_t2 x1 x2 x3 x4).mono ?_
  rintro e w6 ⟨rfl, b6⟩
  have C6 := bnext C5 b6
  replace o_t2 := o_t2.below b6
  have kb0_0 := Below.cellOf C6 rfl KB0_0.out
  have kb0_1 := Below.cellOf C6 rfl KB0_1.out
  replace kx_x0_0 := Below.cellOf b6 rfl kx_x0_0
  replace kx_x0_1 := Below.cellOf b6 rfl kx_x0_1
  go_wp2_with fail
  have b7 : Below w6.heap.size w6 (w6.drew) := (Below.refl _ _).drew
  have C7 := bnext C6 b7
  replace o_t2 := o_t2.below b7
  have kb0_0 := Below.cellOf C7 rfl KB0_0.out
  have kb0_1 := Below.cellOf C7 rfl KB0_1.out
  replace kx_x0_0 := Below.cellOf b7 rfl kx_x0_0
  replace kx_x0_1 := Below.cellOf b7 rfl kx_x0_1
  go_region_held3 (fun w' => w'.cell? ⟨w4.heap.size, 0, none⟩ = some (.slice (some ⟨sb_x0, 0, none⟩) x0b.length cb_x0) ∧ w'.cell? ⟨w4.heap.size, 1, none⟩ = some (.slice (some ⟨sr_x0, 0, none⟩) x0r.length cr_x0) ∧ w'.cell? ⟨w.heap.size, 0, none⟩ = some (.slice adb0 x0b.length cb0) ∧ w'.cell? ⟨w.heap.size, 1, none⟩ = some (.slice adr0 x0r.length cr0))
    (exact ⟨kx_x0_0, kx_x0_1, kb0_0, kb0_1⟩)
    ((first | (go_at_call 16; refine (to_s (j0.below C7) (by omega)).mono ?_; rintro e w8 ⟨v_t3, rfl, o_t3, b8⟩; have C8 := bnext C7 b8; replace o_t2 := o_t2.below b8; have kb0_0 := Below.cellOf C8 rfl KB0_0.out; have kb0_1 := Below.cellOf C8 rfl KB0_1.out; replace kx_x0_0 := Below.cellOf b8 rfl kx_x0_0; replace kx_x0_1 := Below.cellOf b8 rfl kx_x0_1; have lt_t3 := Lib.hid o_t3.lt) | (go_at_call 18; refine (eq_s o_t2.own o_t3.own (by omega)).mono ?_; rintro e w9 ⟨rfl, b9⟩; have C9 := bnext C8 b9; replace o_t2 := o_t2.below b9; replace o_t3 := o_t3.below b9; have kb0_0 := Below.cellOf C9 rfl KB0_0.out; have kb0_1 := Below.cellOf C9 rfl KB0_1.out; replace kx_x0_0 := Below.cellOf b9 rfl kx_x0_0; replace kx_x0_1 := Below.cellOf b9 rfl kx_x0_1)))
  go_wp2_with fail
  go_ret
  exact ⟨rfl, bnext bA (C9)⟩

set_option maxRecDepth 100000 in
theorem lifted (os : Os) (started : os.Started) (H : Type) (enc : TypeId × Value → H) :
    ReturnsInHanded {} Try.checked os 5 .any (Rows.fnExactPartsDueSpec.pre6 enc Try.prog Try.f5 Rows.fnExactPartsDueRow.domain false) (Rows.fnExactPartsDueSpec.post enc Try.prog Try.f5 false true false false) := by
  refine returnsInHanded_of_change (C := Try.checked) own started (by kernel_rfl) Try.func5
    (ChangeSpec.witness6 (enc := enc) (C := Try.checked) false ⟨#[], #[.agg #[.slice none 0 0, .slice none 0 0], .int .i64 0, .int .i64 0, .int .i64 0, .int .i64 0], []⟩ 8 (by kernel_rfl) (by kernel_rfl) (by kernel_rfl) (by kernel_rfl)) ?_
  intro W base args ds gs before hval0 hW hcnd _
  have hval : ∀ (j : Nat) t v, Try.f5.params[j]? = some t → args[j]? = some v → Value.okWide Try.prog W .any base t v := hval0
  have hW' := hW
  obtain ⟨p, q, hA0, hV, rfl, hfz, hnd⟩ := hW
  have hA : DataW.TrodAll enc Try.prog W 0 (fun _ => true) true Try.f5.params.toList args.toList ds p := hA0
  rw [Try.params5] at hA hval
  obtain ⟨v0, vs0, d0, ds0, p0, q0, hargs, rfl, rfl, h0, r0⟩ := trodAll_cons hA
  obtain ⟨v1, vs1, d1, ds1, p1, q1, rfl, rfl, rfl, h1, r1⟩ := trodAll_cons r0
  obtain ⟨v2, vs2, d2, ds2, p2, q2, rfl, rfl, rfl, h2, r2⟩ := trodAll_cons r1
  obtain ⟨v3, vs3, d3, ds3, p3, q3, rfl, rfl, rfl, h3, r3⟩ := trodAll_cons r2
  obtain ⟨v4, vs4, d4, ds4, p4, q4, rfl, rfl, rfl, h4, r4⟩ := trodAll_cons r3
  obtain ⟨rfl, rfl, rfl⟩ := trodAll_nil r4
  obtain rfl : args = #[v0, v1, v2, v3, v4] := by cases args; simp_all
  obtain ⟨rfl, rfl⟩ := trodVars_none hV
  have k0 := h0
  have lt0 := lt_of_trod h0
  obtain ⟨x0b, x0r, adb0, adr0, cb0, cr0, rfl, i0⟩ := openS Try.underlying24 (by kernel_rfl) (by kernel_rfl) Try.underlying22 Try.underlying22 Try.underlying2 (by kernel_rfl) (hval 0 24 v0 rfl rfl) h0
  obtain ⟨x1, rfl, rfl, rfl, wf1⟩ := open_int Try.underlying2 (hval 1 2 v1 rfl rfl) h1
  obtain ⟨x2, rfl, rfl, rfl, wf2⟩ := open_int Try.underlying2 (hval 2 2 v2 rfl rfl) h2
  obtain ⟨x3, rfl, rfl, rfl, wf3⟩ := open_int Try.underlying2 (hval 3 2 v3 rfl rfl) h3
  obtain ⟨x4, rfl, rfl, rfl, wf4⟩ := open_int Try.underlying2 (hval 4 2 v4 rfl rfl) h4
  clear hA0 hval0
  refine (walk x0b x0r adb0 adr0 cb0 cr0 x1 x2 x3 x4 W i0).mono fun e W' ⟨he, bel⟩ => ?_
  subst he
  exact ⟨_, rfl, _, _, _, [], _, [], hW', trodAll_mk1 (shut_bool Try.underlying4 _), (trodAll_cons_mk (Below.trod laidOut (by kernel_rfl) (of_decide_eq_true (by kernel_rfl)) k0 bel lt0) (trodAll_cons_mk (shut_int Try.underlying2 wf1) (trodAll_cons_mk (shut_int Try.underlying2 wf2) (trodAll_cons_mk (shut_int Try.underlying2 wf3) (trodAll_cons_mk (shut_int Try.underlying2 wf4) trodAll_mk0))))), rfl, bel.frame _, fun h => by cases h⟩

theorem over : Rows.fnExactPartsDueRow.holds Try.pinned (OpenSpec.ofChange Rows.fnExactPartsDueSpec) :=
  OpenClaim.holds_of_wide 5 Try.f5 rfl rfl rfl rfl rfl rfl rfl ⟨rfl, rfl, rfl, rfl, rfl⟩ rfl rfl rfl rfl rfl (by kernel_rfl) Try.func5 (by kernel_rfl)
    (of_decide_eq_true (by kernel_rfl)) (by unfold Func.isWrapper; first | (rw [if_pos (by decide +kernel)]; kernel_rfl) | (rw [if_neg (by decide +kernel)]; exact ⟨rfl, rfl⟩))
    (fun os started H enc _ => lifted os started H enc)

/-- The statement. -/
theorem proved : Rows.FnExactPartsDueSaid := over
#print axioms proved
end Go.Proofs.Ytjghhllekbmkjaa.fnExactPartsDue
