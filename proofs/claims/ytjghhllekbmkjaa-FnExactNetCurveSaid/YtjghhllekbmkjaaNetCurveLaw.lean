/-
  FnExactNetCurve returns true for every input: the program's NetCurve and the reference's give the same results, leave their arguments as they were, and share no memory. No condition.
-/
import Derived.Test.YtjghhllekbmkjaaRows
import Derived.Test.YtjghhllekbmkjaaNetCurve
import Derived.Test.YtjghhllekbmkjaaToScale
import Derived.Test.YtjghhllekbmkjaaInt64S
import Derived.Test.YtjghhllekbmkjaaScale
import Derived.Test.YtjghhllekbmkjaaScaleM
import Derived.Test.YtjghhllekbmkjaaOpen
import Derived.WalkKit
import Derived.ProofKit
import Derived.OpenShut
import Derived.Carry
import Derived.Deep.RegionHeld3
namespace Go.Proofs.Ytjghhllekbmkjaa.fnExactNetCurve
open Go.ChangeShapes Go.WideShapes Go.ChangeAt Go.RowKit
set_option linter.unusedVariables false

theorem own : ownKnob Try.prog.godebug = none := by kernel_rfl
theorem laidOut : laidOutB Try.prog = true := by kernel_rfl

set_option maxHeartbeats 4000000 in
theorem walk (x0b x0r : List Int) (adb0 adr0 : Option Addr) (cb0 cr0 : Nat) (x1 : Int) (x2 : Int) (x3 : Int) (x4 : Int) (x5 : Int) (x6 : Int) (w : World) (i0 : InS w (.agg #[.slice adb0 x0b.length cb0, .slice adr0 x0r.length cr0]) x0b x0r) :
    Calls Try.prog 12 #[.agg #[.slice adb0 x0b.length cb0, .slice adr0 x0r.length cr0], .int .i64 x1, .int .i64 x2, .int .i64 x3, .int .i64 x4, .int .i64 x5, .int .i64 x6] w fun e w' => e = .returned (.bool true) ∧ Below w.heap.size w w' := by
  go_enter Try.func12, Try.ntmps12
  have bA : Below w.heap.size w (w.alloc (.cells #[.slice adb0 x0b.length cb0, .slice adr0 x0r.length cr0] 24)) := Below.alloc (Below.refl _ _) (Nat.le_refl _) _
  have KB0_0 : Hid ((w.alloc (.cells #[.slice adb0 x0b.length cb0, .slice adr0 x0r.length cr0] 24)).cell? ⟨w.heap.size, 0, none⟩ = some (.slice adb0 x0b.length cb0)) := by show (w.alloc (.cells #[.slice adb0 x0b.length cb0, .slice adr0 x0r.length cr0] 24)).cell? _ = _; simp [go_sem]
  have KB0_1 : Hid ((w.alloc (.cells #[.slice adb0 x0b.length cb0, .slice adr0 x0r.length cr0] 24)).cell? ⟨w.heap.size, 1, none⟩ = some (.slice adr0 x0r.length cr0)) := by show (w.alloc (.cells #[.slice adb0 x0b.length cb0, .slice adr0 x0r.length cr0] 24)).cell? _ = _; simp [go_sem]
  have j0 := i0.below bA
  rcases Int.lt_or_le (1048576) ((x0b.length : Int) + x0r.length) with hs0 | hs0
  · go_wp2_with fail
    refine (sz_s_no j0 hs0 (by omega)).mono ?_
    rintro e wz ⟨rfl, bz⟩
    go_wp2_with fail
    go_ret
    exact ⟨rfl, bnext bA (bz)⟩
  go_wp2_with fail
  refine (sz_s_yes j0 hs0 (by omega)).mono ?_
  rintro e w1 ⟨rfl, b1⟩
  have C1 := b1
  have kb0_0 := Below.cellOf C1 rfl KB0_0.out
  have kb0_1 := Below.cellOf C1 rfl KB0_1.out
  go_wp2_with fail
  refine (to_s (j0.below C1) (by omega)).mono ?_
  rintro e w2 ⟨v_t1, rfl, o_t1, b2⟩
  have C2 := bnext C1 b2
  have kb0_0 := Below.cellOf C2 rfl KB0_0.out
  have kb0_1 := Below.cellOf C2 rfl KB0_1.out
  have lt_t1 := Lib.hid o_t1.lt
  go_wp2_with fail
  refine (NetCurve_spec o_t1 x1 x2 x3 x4 x5 x6).mono ?_
  rintro e w3 ⟨v_w0, rfl, o_w0, ln_w0, b3⟩
  have C3 := bnext C2 b3
  replace o_t1 := o_t1.below b3
  have kb0_0 := Below.cellOf C3 rfl KB0_0.out
  have kb0_1 := Below.cellOf C3 rfl KB0_1.out
  have lt_w0 := Lib.hid o_w0.lt
  go_wp2_with fail
  refine (to_s (j0.below C3) (by omega)).mono ?_
  rintro e w4 ⟨v_t2, rfl, o_t2, b4⟩
  have C4 := bnext C3 b4
  replace o_w0 := o_w0.below b4
  have kb0_0 := Below.cellOf C4 rfl KB0_0.out
  have kb0_1 := Below.cellOf C4 rfl KB0_1.out
  have lt_t2 := Lib.hid o_t2.lt
  obtain ⟨sb_x0, cb_x0, sr_x0, cr_x0, rfl⟩ := o_t2.shape
  have b5 : Below w4.heap.size w4 (w4.alloc (.cells #[.slice (some ⟨sb_x0, 0, none⟩) x0b.length cb_x0, .slice (some ⟨sr_x0, 0, none⟩) x0r.length cr_x0] 28)) := by go_grown
  have C5 := bnext C4 b5
  replace o_w0 := o_w0.below b5
  replace o_t2 := o_t2.below b5
  have kb0_0 := Below.cellOf C5 rfl KB0_0.out
  have kb0_1 := Below.cellOf C5 rfl KB0_1.out
  have kx_x0_0 : (w4.alloc (.cells #[.slice (some ⟨sb_x0, 0, none⟩) x0b.length cb_x0, .slice (some ⟨sr_x0, 0, none⟩) x0r.length cr_x0] 28)).cell? ⟨w4.heap.size, 0, none⟩ = some (.slice (some ⟨sb_x0, 0, none⟩) x0b.length cb_x0) := by simp [go_sem]
  have kx_x0_1 : (w4.alloc (.cells #[.slice (some ⟨sb_x0, 0, none⟩) x0b.length cb_x0, .slice (some ⟨sr_x0, 0, none⟩) x0r.length cr_x0] 28)).cell? ⟨w4.heap.size, 1, none⟩ = some (.slice (some ⟨sr_x0, 0, none⟩) x0r.length cr_x0) := by simp [go_sem]
  go_wp2_with fail
  refine (NetCurve_impl o_t2 x1 x2 x3 x4 x5 x6).mono ?_
  rintro e w6 ⟨v_g0, rfl, o_g0, ln_g0, b6⟩
  have C6 := bnext C5 b6
  replace o_w0 := o_w0.below b6
  replace o_t2 := o_t2.below b6
  have kb0_0 := Below.cellOf C6 rfl KB0_0.out
  have kb0_1 := Below.cellOf C6 rfl KB0_1.out
  replace kx_x0_0 := Below.cellOf b6 rfl kx_x0_0
  replace kx_x0_1 := Below.cellOf b6 rfl kx_x0_1
  have lt_g0 := Lib.hid o_g0.lt
  go_wp2_with fail
  refine (eq_i o_g0 o_w0 (by omega)).mono ?_
  rintro e w7 ⟨rfl, b7⟩
  have C7 := bnext C6 b7
  replace o_w0 := o_w0.below b7
  replace o_t2 := o_t2.below b7
  replace o_g0 := o_g0.below b7
  have kb0_0 := Below.cellOf C7 rfl KB0_0.out
  have kb0_1 := Below.cellOf C7 rfl KB0_1.out
  replace kx_x0_0 := Below.cellOf b7 rfl kx_x0_0
  replace kx_x0_1 := Below.cellOf b7 rfl kx_x0_1
  go_wp2_with fail
  have b8 : Below w7.heap.size w7 (w7.drew) := (Below.refl _ _).drew
  have C8 := bnext C7 b8
  replace o_w0 := o_w0.below b8
  replace o_t2 := o_t2.below b8
  replace o_g0 := o_g0.below b8
  have kb0_0 := Below.cellOf C8 rfl KB0_0.out
  have kb0_1 := Below.cellOf C8 rfl KB0_1.out
  replace kx_x0_0 := Below.cellOf b8 rfl kx_x0_0
  replace kx_x0_1 := Below.cellOf b8 rfl kx_x0_1
  go_region_held3 (fun w' => w'.cell? ⟨w4.heap.size, 0, none⟩ = some (.slice (some ⟨sb_x0, 0, none⟩) x0b.length cb_x0) ∧ w'.cell? ⟨w4.heap.size, 1, none⟩ = some (.slice (some ⟨sr_x0, 0, none⟩) x0r.length cr_x0) ∧ w'.cell? ⟨w.heap.size, 0, none⟩ = some (.slice adb0 x0b.length cb0) ∧ w'.cell? ⟨w.heap.size, 1, none⟩ = some (.slice adr0 x0r.length cr0))
    (exact ⟨kx_x0_0, kx_x0_1, kb0_0, kb0_1⟩)
    ((first | (go_at_call 16; refine (to_s (j0.below C8) (by omega)).mono ?_; rintro e w9 ⟨v_t3, rfl, o_t3, b9⟩; have C9 := bnext C8 b9; replace o_w0 := o_w0.below b9; replace o_t2 := o_t2.below b9; replace o_g0 := o_g0.below b9; have kb0_0 := Below.cellOf C9 rfl KB0_0.out; have kb0_1 := Below.cellOf C9 rfl KB0_1.out; replace kx_x0_0 := Below.cellOf b9 rfl kx_x0_0; replace kx_x0_1 := Below.cellOf b9 rfl kx_x0_1; have lt_t3 := Lib.hid o_t3.lt) | (go_at_call 18; refine (eq_s o_t2.own o_t3.own (by omega)).mono ?_; rintro e w10 ⟨rfl, b10⟩; have C10 := bnext C9 b10; replace o_w0 := o_w0.below b10; replace o_t2 := o_t2.below b10; replace o_g0 := o_g0.below b10; replace o_t3 := o_t3.below b10; have kb0_0 := Below.cellOf C10 rfl KB0_0.out; have kb0_1 := Below.cellOf C10 rfl KB0_1.out; replace kx_x0_0 := Below.cellOf b10 rfl kx_x0_0; replace kx_x0_1 := Below.cellOf b10 rfl kx_x0_1)))
  go_wp2_with fail
  refine (mark_s _ o_t2.own (by omega) (by omega) (by omega)).mono ?_
  rintro e w11 ⟨rfl, q_x0, n11⟩
  have m11 := n11 w3.heap.size w4.heap.size lt_t2.out
  have C11 := C10.trans (m11.toBelow C3.size C10.size)
  replace o_w0 := o_w0.only m11 (fun k hk => .inl (by have := (lt_w0.out k hk).2; omega))
  replace o_g0 := o_g0.only m11 (fun k hk => .inr (by have := (lt_g0.out k hk).1; have := b5.size; omega))
  have kb0_0 := Below.cellOf C11 rfl KB0_0.out
  have kb0_1 := Below.cellOf C11 rfl KB0_1.out
  replace kx_x0_0 := Only.cellOf m11 (.inr (by omega)) kx_x0_0
  replace kx_x0_1 := Only.cellOf m11 (.inr (by omega)) kx_x0_1
  clear o_t2
  go_wp2_with fail
  refine (eq_i o_g0 o_w0 (by omega)).mono ?_
  rintro e w12 ⟨rfl, b12⟩
  have C12 := bnext C11 b12
  replace o_w0 := o_w0.below b12
  replace q_x0 := q_x0.below b12
  replace o_g0 := o_g0.below b12
  have kb0_0 := Below.cellOf C12 rfl KB0_0.out
  have kb0_1 := Below.cellOf C12 rfl KB0_1.out
  replace kx_x0_0 := Below.cellOf b12 rfl kx_x0_0
  replace kx_x0_1 := Below.cellOf b12 rfl kx_x0_1
  go_wp2_with fail
  refine (mark_i _ o_g0 (by omega) (by omega) (by omega)).mono ?_
  rintro e w13 ⟨rfl, q_g0, n13⟩
  have m13 := n13 (w4.alloc (.cells #[.slice (some ⟨sb_x0, 0, none⟩) x0b.length cb_x0, .slice (some ⟨sr_x0, 0, none⟩) x0r.length cr_x0] 28)).heap.size w6.heap.size lt_g0.out
  have C13 := C12.trans (m13.toBelow C5.size C12.size)
  replace o_w0 := o_w0.only m13 (fun k hk => .inl (by have := (lt_w0.out k hk).2; have := b4.size; have := b5.size; omega))
  replace q_x0 := q_x0.only m13 (fun k hk => .inl (by have := (lt_t2.out k hk).2; have := b5.size; omega))
  have kb0_0 := Below.cellOf C13 rfl KB0_0.out
  have kb0_1 := Below.cellOf C13 rfl KB0_1.out
  replace kx_x0_0 := Only.cellOf m13 (.inl (by have hz : (w4.alloc (.cells #[.slice (some ⟨sb_x0, 0, none⟩) x0b.length cb_x0, .slice (some ⟨sr_x0, 0, none⟩) x0r.length cr_x0] 28)).heap.size = w4.heap.size + 1 := (by simp); omega)) kx_x0_0
  replace kx_x0_1 := Only.cellOf m13 (.inl (by have hz : (w4.alloc (.cells #[.slice (some ⟨sb_x0, 0, none⟩) x0b.length cb_x0, .slice (some ⟨sr_x0, 0, none⟩) x0r.length cr_x0] 28)).heap.size = w4.heap.size + 1 := (by simp); omega)) kx_x0_1
  clear o_g0
  go_wp2_with fail
  refine (held_i _ q_g0 (by omega) (by omega) (by omega)).mono ?_
  rintro e w14 ⟨rfl, b14⟩
  have C14 := bnext C13 b14
  replace o_w0 := o_w0.below b14
  replace q_x0 := q_x0.below b14
  replace q_g0 := q_g0.below b14
  have kb0_0 := Below.cellOf C14 rfl KB0_0.out
  have kb0_1 := Below.cellOf C14 rfl KB0_1.out
  replace kx_x0_0 := Below.cellOf b14 rfl kx_x0_0
  replace kx_x0_1 := Below.cellOf b14 rfl kx_x0_1
  go_wp2_with fail
  refine (to_s (j0.below C14) (by omega)).mono ?_
  rintro e w15 ⟨v_t4, rfl, o_t4, b15⟩
  have C15 := bnext C14 b15
  replace o_w0 := o_w0.below b15
  replace q_x0 := q_x0.below b15
  replace q_g0 := q_g0.below b15
  have kb0_0 := Below.cellOf C15 rfl KB0_0.out
  have kb0_1 := Below.cellOf C15 rfl KB0_1.out
  replace kx_x0_0 := Below.cellOf b15 rfl kx_x0_0
  replace kx_x0_1 := Below.cellOf b15 rfl kx_x0_1
  have lt_t4 := Lib.hid o_t4.lt
  go_wp2_with fail
  refine (NetCurve_impl o_t4 x1 x2 x3 x4 x5 x6).mono ?_
  rintro e w16 ⟨v_h0, rfl, o_h0, ln_h0, b16⟩
  have C16 := bnext C15 b16
  replace o_w0 := o_w0.below b16
  replace q_x0 := q_x0.below b16
  replace q_g0 := q_g0.below b16
  replace o_t4 := o_t4.below b16
  have kb0_0 := Below.cellOf C16 rfl KB0_0.out
  have kb0_1 := Below.cellOf C16 rfl KB0_1.out
  replace kx_x0_0 := Below.cellOf b16 rfl kx_x0_0
  replace kx_x0_1 := Below.cellOf b16 rfl kx_x0_1
  have lt_h0 := Lib.hid o_h0.lt
  go_wp2_with fail
  refine (eq_i o_h0 o_w0 (by omega)).mono ?_
  rintro e w17 ⟨rfl, b17⟩
  have C17 := bnext C16 b17
  replace o_w0 := o_w0.below b17
  replace q_x0 := q_x0.below b17
  replace q_g0 := q_g0.below b17
  replace o_h0 := o_h0.below b17
  have kb0_0 := Below.cellOf C17 rfl KB0_0.out
  have kb0_1 := Below.cellOf C17 rfl KB0_1.out
  replace kx_x0_0 := Below.cellOf b17 rfl kx_x0_0
  replace kx_x0_1 := Below.cellOf b17 rfl kx_x0_1
  go_wp2_with fail
  refine (held_i _ q_g0 (by omega) (by omega) (by omega)).mono ?_
  rintro e w18 ⟨rfl, b18⟩
  have C18 := bnext C17 b18
  replace o_w0 := o_w0.below b18
  replace q_x0 := q_x0.below b18
  replace q_g0 := q_g0.below b18
  replace o_h0 := o_h0.below b18
  have kb0_0 := Below.cellOf C18 rfl KB0_0.out
  have kb0_1 := Below.cellOf C18 rfl KB0_1.out
  replace kx_x0_0 := Below.cellOf b18 rfl kx_x0_0
  replace kx_x0_1 := Below.cellOf b18 rfl kx_x0_1
  go_wp2_with fail
  go_ret
  exact ⟨rfl, bnext bA (C18)⟩

set_option maxRecDepth 100000 in
theorem lifted (os : Os) (started : os.Started) (H : Type) (enc : TypeId × Value → H) :
    ReturnsInHanded {} Try.checked os 12 .any (Rows.fnExactNetCurveSpec.pre6 enc Try.prog Try.f12 Rows.fnExactNetCurveRow.domain false) (Rows.fnExactNetCurveSpec.post enc Try.prog Try.f12 false true false false) := by
  refine returnsInHanded_of_change (C := Try.checked) own started (by kernel_rfl) Try.func12
    (ChangeSpec.witness6 (enc := enc) (C := Try.checked) false ⟨#[], #[.agg #[.slice none 0 0, .slice none 0 0], .int .i64 0, .int .i64 0, .int .i64 0, .int .i64 0, .int .i64 0, .int .i64 0], []⟩ 8 (by kernel_rfl) (by kernel_rfl) (by kernel_rfl) (by kernel_rfl)) ?_
  intro W base args ds gs before hval0 hW hcnd _
  have hval : ∀ (j : Nat) t v, Try.f12.params[j]? = some t → args[j]? = some v → Value.okWide Try.prog W .any base t v := hval0
  have hW' := hW
  obtain ⟨p, q, hA0, hV, rfl, hfz, hnd⟩ := hW
  have hA : DataW.TrodAll enc Try.prog W 0 (fun _ => true) true Try.f12.params.toList args.toList ds p := hA0
  rw [Try.params12] at hA hval
  obtain ⟨v0, vs0, d0, ds0, p0, q0, hargs, rfl, rfl, h0, r0⟩ := trodAll_cons hA
  obtain ⟨v1, vs1, d1, ds1, p1, q1, rfl, rfl, rfl, h1, r1⟩ := trodAll_cons r0
  obtain ⟨v2, vs2, d2, ds2, p2, q2, rfl, rfl, rfl, h2, r2⟩ := trodAll_cons r1
  obtain ⟨v3, vs3, d3, ds3, p3, q3, rfl, rfl, rfl, h3, r3⟩ := trodAll_cons r2
  obtain ⟨v4, vs4, d4, ds4, p4, q4, rfl, rfl, rfl, h4, r4⟩ := trodAll_cons r3
  obtain ⟨v5, vs5, d5, ds5, p5, q5, rfl, rfl, rfl, h5, r5⟩ := trodAll_cons r4
  obtain ⟨v6, vs6, d6, ds6, p6, q6, rfl, rfl, rfl, h6, r6⟩ := trodAll_cons r5
  obtain ⟨rfl, rfl, rfl⟩ := trodAll_nil r6
  obtain rfl : args = #[v0, v1, v2, v3, v4, v5, v6] := by cases args; simp_all
  obtain ⟨rfl, rfl⟩ := trodVars_none hV
  have k0 := h0
  have lt0 := lt_of_trod h0
  obtain ⟨x0b, x0r, adb0, adr0, cb0, cr0, rfl, i0⟩ := openS Try.underlying24 (by kernel_rfl) (by kernel_rfl) Try.underlying22 Try.underlying22 Try.underlying2 (by kernel_rfl) (hval 0 24 v0 rfl rfl) h0
  obtain ⟨x1, rfl, rfl, rfl, wf1⟩ := open_int Try.underlying2 (hval 1 2 v1 rfl rfl) h1
  obtain ⟨x2, rfl, rfl, rfl, wf2⟩ := open_int Try.underlying2 (hval 2 2 v2 rfl rfl) h2
  obtain ⟨x3, rfl, rfl, rfl, wf3⟩ := open_int Try.underlying2 (hval 3 2 v3 rfl rfl) h3
  obtain ⟨x4, rfl, rfl, rfl, wf4⟩ := open_int Try.underlying2 (hval 4 2 v4 rfl rfl) h4
  obtain ⟨x5, rfl, rfl, rfl, wf5⟩ := open_int Try.underlying2 (hval 5 2 v5 rfl rfl) h5
  obtain ⟨x6, rfl, rfl, rfl, wf6⟩ := open_int Try.underlying2 (hval 6 2 v6 rfl rfl) h6
  clear hA0 hval0
  refine (walk x0b x0r adb0 adr0 cb0 cr0 x1 x2 x3 x4 x5 x6 W i0).mono fun e W' ⟨he, bel⟩ => ?_
  subst he
  exact ⟨_, rfl, _, _, _, [], _, [], hW', trodAll_mk1 (shut_bool Try.underlying4 _), (trodAll_cons_mk (Below.trod laidOut (by kernel_rfl) (of_decide_eq_true (by kernel_rfl)) k0 bel lt0) (trodAll_cons_mk (shut_int Try.underlying2 wf1) (trodAll_cons_mk (shut_int Try.underlying2 wf2) (trodAll_cons_mk (shut_int Try.underlying2 wf3) (trodAll_cons_mk (shut_int Try.underlying2 wf4) (trodAll_cons_mk (shut_int Try.underlying2 wf5) (trodAll_cons_mk (shut_int Try.underlying2 wf6) trodAll_mk0))))))), rfl, bel.frame _, fun h => by cases h⟩

theorem over : Rows.fnExactNetCurveRow.holds Try.pinned (OpenSpec.ofChange Rows.fnExactNetCurveSpec) :=
  OpenClaim.holds_of_wide 12 Try.f12 rfl rfl rfl rfl rfl rfl rfl ⟨rfl, rfl, rfl, rfl, rfl⟩ rfl rfl rfl rfl rfl (by kernel_rfl) Try.func12 (by kernel_rfl)
    (of_decide_eq_true (by kernel_rfl)) (by unfold Func.isWrapper; first | (rw [if_pos (by decide +kernel)]; kernel_rfl) | (rw [if_neg (by decide +kernel)]; exact ⟨rfl, rfl⟩))
    (fun os started H enc _ => lifted os started H enc)

/-- The statement. -/
theorem proved : Rows.FnExactNetCurveSaid := over
#print axioms proved
end Go.Proofs.Ytjghhllekbmkjaa.fnExactNetCurve
