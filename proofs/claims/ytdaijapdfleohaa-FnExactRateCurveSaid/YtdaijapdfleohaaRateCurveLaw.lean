/-
  FnExactRateCurve returns true for every input: the program's RateCurve and the reference's give the same results, leave their arguments as they were, and share no memory. No condition.
-/
import Derived.Test.YtdaijapdfleohaaRows
import Derived.Test.YtdaijapdfleohaaRateCurve
import Derived.Test.YtdaijapdfleohaaToScale
import Derived.Test.YtdaijapdfleohaaToInt64S
import Derived.Test.YtdaijapdfleohaaInt64S
import Derived.Test.YtdaijapdfleohaaScale
import Derived.Test.YtdaijapdfleohaaFloat32S
import Derived.Test.YtdaijapdfleohaaScaleM
import Derived.Test.YtdaijapdfleohaaOpen
import Derived.WalkKit
import Derived.ProofKit
import Derived.OpenShut
import Derived.Carry
import Derived.Deep.RegionHeld3
namespace Go.Proofs.Ytdaijapdfleohaa.fnExactRateCurve
open Go.ChangeShapes Go.WideShapes Go.ChangeAt Go.RowKit
set_option linter.unusedVariables false

theorem own : ownKnob Try.prog.godebug = none := by kernel_rfl
theorem laidOut : laidOutB Try.prog = true := by kernel_rfl

set_option maxHeartbeats 4000000 in
theorem walk (x0b x0r : List Int) (adb0 adr0 : Option Addr) (cb0 cr0 : Nat) (x1 : List Int) (ad1 : Option Addr) (c1 : Nat) (w : World) (i0 : InS w (.agg #[.slice adb0 x0b.length cb0, .slice adr0 x0r.length cr0]) x0b x0r) (i1 : InI w (.slice ad1 x1.length c1) x1) :
    Calls Try.prog 3 #[.agg #[.slice adb0 x0b.length cb0, .slice adr0 x0r.length cr0], .slice ad1 x1.length c1] w fun e w' => e = .returned (.bool true) ∧ Below w.heap.size w w' := by
  rcases Int.lt_or_le 1048576 (x1.length : Int) with hl1 | hl1
  · go_enter Try.func3, Try.ntmps3
    go_wp2_with fail
    go_ret
    exact ⟨rfl, by first | exact Below.refl _ _ | go_grown⟩
  go_enter Try.func3, Try.ntmps3
  have bA : Below w.heap.size w (w.alloc (.cells #[.slice adb0 x0b.length cb0, .slice adr0 x0r.length cr0] 24)) := Below.alloc (Below.refl _ _) (Nat.le_refl _) _
  have KB0_0 : Hid ((w.alloc (.cells #[.slice adb0 x0b.length cb0, .slice adr0 x0r.length cr0] 24)).cell? ⟨w.heap.size, 0, none⟩ = some (.slice adb0 x0b.length cb0)) := by show (w.alloc (.cells #[.slice adb0 x0b.length cb0, .slice adr0 x0r.length cr0] 24)).cell? _ = _; simp [go_sem]
  have KB0_1 : Hid ((w.alloc (.cells #[.slice adb0 x0b.length cb0, .slice adr0 x0r.length cr0] 24)).cell? ⟨w.heap.size, 1, none⟩ = some (.slice adr0 x0r.length cr0)) := by show (w.alloc (.cells #[.slice adb0 x0b.length cb0, .slice adr0 x0r.length cr0] 24)).cell? _ = _; simp [go_sem]
  have j0 := i0.below bA
  have j1 := i1.below bA
  rcases Int.lt_or_le (1048576) ((x0b.length : Int) + x0r.length) with hs0 | hs0
  · go_wp2_with fail
    refine (sz_s_no j0 hs0 (by omega)).mono ?_
    rintro e wz ⟨rfl, bz⟩
    go_wp2_with fail
    go_ret
    exact ⟨rfl, bnext bA (bz)⟩
  go_wp2_with fail
  refine (sz_s_yes j0 hs0 (by omega)).mono ?_
  rintro e w1 ⟨rfl, b1⟩
  have C1 := b1
  have kb0_0 := Below.cellOf C1 rfl KB0_0.out
  have kb0_1 := Below.cellOf C1 rfl KB0_1.out
  go_wp2_with fail
  refine (to_s (j0.below C1) (by omega)).mono ?_
  rintro e w2 ⟨v_t1, rfl, o_t1, b2⟩
  have C2 := bnext C1 b2
  have kb0_0 := Below.cellOf C2 rfl KB0_0.out
  have kb0_1 := Below.cellOf C2 rfl KB0_1.out
  have lt_t1 := Lib.hid o_t1.lt
  go_wp2_with fail
  refine (to_i (j1.below C2) (by omega)).mono ?_
  rintro e w3 ⟨v_t2, rfl, o_t2, b3⟩
  have C3 := bnext C2 b3
  replace o_t1 := o_t1.below b3
  have kb0_0 := Below.cellOf C3 rfl KB0_0.out
  have kb0_1 := Below.cellOf C3 rfl KB0_1.out
  have lt_t2 := Lib.hid o_t2.lt
  go_wp2_with fail
  refine (RateCurve_spec o_t1 o_t2).mono ?_
  rintro e w4 ⟨v_w0, rfl, o_w0, ln_w0, b4⟩
  have C4 := bnext C3 b4
  replace o_t1 := o_t1.below b4
  replace o_t2 := o_t2.below b4
  have kb0_0 := Below.cellOf C4 rfl KB0_0.out
  have kb0_1 := Below.cellOf C4 rfl KB0_1.out
  have lt_w0 := Lib.hid o_w0.lt
  go_wp2_with fail
  refine (to_s (j0.below C4) (by omega)).mono ?_
  rintro e w5 ⟨v_t3, rfl, o_t3, b5⟩
  have C5 := bnext C4 b5
  replace o_w0 := o_w0.below b5
  have kb0_0 := Below.cellOf C5 rfl KB0_0.out
  have kb0_1 := Below.cellOf C5 rfl KB0_1.out
  have lt_t3 := Lib.hid o_t3.lt
  obtain ⟨sb_x0, cb_x0, sr_x0, cr_x0, rfl⟩ := o_t3.shape
  have b6 : Below w5.heap.size w5 (w5.alloc (.cells #[.slice (some ⟨sb_x0, 0, none⟩) x0b.length cb_x0, .slice (some ⟨sr_x0, 0, none⟩) x0r.length cr_x0] 29)) := by go_grown
  have C6 := bnext C5 b6
  replace o_w0 := o_w0.below b6
  replace o_t3 := o_t3.below b6
  have kb0_0 := Below.cellOf C6 rfl KB0_0.out
  have kb0_1 := Below.cellOf C6 rfl KB0_1.out
  have kx_x0_0 : (w5.alloc (.cells #[.slice (some ⟨sb_x0, 0, none⟩) x0b.length cb_x0, .slice (some ⟨sr_x0, 0, none⟩) x0r.length cr_x0] 29)).cell? ⟨w5.heap.size, 0, none⟩ = some (.slice (some ⟨sb_x0, 0, none⟩) x0b.length cb_x0) := by simp [go_sem]
  have kx_x0_1 : (w5.alloc (.cells #[.slice (some ⟨sb_x0, 0, none⟩) x0b.length cb_x0, .slice (some ⟨sr_x0, 0, none⟩) x0r.length cr_x0] 29)).cell? ⟨w5.heap.size, 1, none⟩ = some (.slice (some ⟨sr_x0, 0, none⟩) x0r.length cr_x0) := by simp [go_sem]
  go_wp2_with fail
  refine (to_i (j1.below C6) (by omega)).mono ?_
  rintro e w7 ⟨v_t4, rfl, o_t4, b7⟩
  have C7 := bnext C6 b7
  replace o_w0 := o_w0.below b7
  replace o_t3 := o_t3.below b7
  have kb0_0 := Below.cellOf C7 rfl KB0_0.out
  have kb0_1 := Below.cellOf C7 rfl KB0_1.out
  replace kx_x0_0 := Below.cellOf b7 rfl kx_x0_0
  replace kx_x0_1 := Below.cellOf b7 rfl kx_x0_1
  have lt_t4 := Lib.hid o_t4.lt
  go_wp2_with fail
  refine (RateCurve_impl o_t3 o_t4).mono ?_
  rintro e w8 ⟨v_g0, rfl, o_g0, ln_g0, b8⟩
  have C8 := bnext C7 b8
  replace o_w0 := o_w0.below b8
  replace o_t3 := o_t3.below b8
  replace o_t4 := o_t4.below b8
  have kb0_0 := Below.cellOf C8 rfl KB0_0.out
  have kb0_1 := Below.cellOf C8 rfl KB0_1.out
  replace kx_x0_0 := Below.cellOf b8 rfl kx_x0_0
  replace kx_x0_1 := Below.cellOf b8 rfl kx_x0_1
  have lt_g0 := Lib.hid o_g0.lt
  go_wp2_with fail
  refine (eq_f o_g0 o_w0 (by omega)).mono ?_
  rintro e w9 ⟨rfl, b9⟩
  have C9 := bnext C8 b9
  replace o_w0 := o_w0.below b9
  replace o_t3 := o_t3.below b9
  replace o_t4 := o_t4.below b9
  replace o_g0 := o_g0.below b9
  have kb0_0 := Below.cellOf C9 rfl KB0_0.out
  have kb0_1 := Below.cellOf C9 rfl KB0_1.out
  replace kx_x0_0 := Below.cellOf b9 rfl kx_x0_0
  replace kx_x0_1 := Below.cellOf b9 rfl kx_x0_1
  go_wp2_with fail
  have b10 : Below w9.heap.size w9 (w9.drew) := (Below.refl _ _).drew
  have C10 := bnext C9 b10
  replace o_w0 := o_w0.below b10
  replace o_t3 := o_t3.below b10
  replace o_t4 := o_t4.below b10
  replace o_g0 := o_g0.below b10
  have kb0_0 := Below.cellOf C10 rfl KB0_0.out
  have kb0_1 := Below.cellOf C10 rfl KB0_1.out
  replace kx_x0_0 := Below.cellOf b10 rfl kx_x0_0
  replace kx_x0_1 := Below.cellOf b10 rfl kx_x0_1
  go_region_held3 (fun w' => w'.cell? ⟨w5.heap.size, 0, none⟩ = some (.slice (some ⟨sb_x0, 0, none⟩) x0b.length cb_x0) ∧ w'.cell? ⟨w5.heap.size, 1, none⟩ = some (.slice (some ⟨sr_x0, 0, none⟩) x0r.length cr_x0) ∧ w'.cell? ⟨w.heap.size, 0, none⟩ = some (.slice adb0 x0b.length cb0) ∧ w'.cell? ⟨w.heap.size, 1, none⟩ = some (.slice adr0 x0r.length cr0))
    (exact ⟨kx_x0_0, kx_x0_1, kb0_0, kb0_1⟩)
    ((first | (go_at_call 8; refine (to_s (j0.below C10) (by omega)).mono ?_; rintro e w11 ⟨v_t5, rfl, o_t5, b11⟩; have C11 := bnext C10 b11; replace o_w0 := o_w0.below b11; replace o_t3 := o_t3.below b11; replace o_t4 := o_t4.below b11; replace o_g0 := o_g0.below b11; have kb0_0 := Below.cellOf C11 rfl KB0_0.out; have kb0_1 := Below.cellOf C11 rfl KB0_1.out; replace kx_x0_0 := Below.cellOf b11 rfl kx_x0_0; replace kx_x0_1 := Below.cellOf b11 rfl kx_x0_1; have lt_t5 := Lib.hid o_t5.lt) | (go_at_call 12; refine (eq_s o_t3.own o_t5.own (by omega)).mono ?_; rintro e w12 ⟨rfl, b12⟩; have C12 := bnext C11 b12; replace o_w0 := o_w0.below b12; replace o_t3 := o_t3.below b12; replace o_t4 := o_t4.below b12; replace o_g0 := o_g0.below b12; replace o_t5 := o_t5.below b12; have kb0_0 := Below.cellOf C12 rfl KB0_0.out; have kb0_1 := Below.cellOf C12 rfl KB0_1.out; replace kx_x0_0 := Below.cellOf b12 rfl kx_x0_0; replace kx_x0_1 := Below.cellOf b12 rfl kx_x0_1)))
  go_wp2_with fail
  refine (to_i (j1.below C12) (by omega)).mono ?_
  rintro e w13 ⟨v_t6, rfl, o_t6, b13⟩
  have C13 := bnext C12 b13
  replace o_w0 := o_w0.below b13
  replace o_t3 := o_t3.below b13
  replace o_t4 := o_t4.below b13
  replace o_g0 := o_g0.below b13
  have kb0_0 := Below.cellOf C13 rfl KB0_0.out
  have kb0_1 := Below.cellOf C13 rfl KB0_1.out
  replace kx_x0_0 := Below.cellOf b13 rfl kx_x0_0
  replace kx_x0_1 := Below.cellOf b13 rfl kx_x0_1
  have lt_t6 := Lib.hid o_t6.lt
  go_wp2_with fail
  refine (eq_i o_t4.own o_t6.own (by omega)).mono ?_
  rintro e w14 ⟨rfl, b14⟩
  have C14 := bnext C13 b14
  replace o_w0 := o_w0.below b14
  replace o_t3 := o_t3.below b14
  replace o_t4 := o_t4.below b14
  replace o_g0 := o_g0.below b14
  replace o_t6 := o_t6.below b14
  have kb0_0 := Below.cellOf C14 rfl KB0_0.out
  have kb0_1 := Below.cellOf C14 rfl KB0_1.out
  replace kx_x0_0 := Below.cellOf b14 rfl kx_x0_0
  replace kx_x0_1 := Below.cellOf b14 rfl kx_x0_1
  go_wp2_with fail
  refine (mark_s _ o_t3.own (by omega) (by omega) (by omega)).mono ?_
  rintro e w15 ⟨rfl, q_x0, n15⟩
  have m15 := n15 w4.heap.size w5.heap.size lt_t3.out
  have C15 := C14.trans (m15.toBelow C4.size C14.size)
  replace o_w0 := o_w0.only m15 (fun k hk => .inl (by have := (lt_w0.out k hk).2; omega))
  replace o_t4 := o_t4.only m15 (fun k hk => .inr (by have := (lt_t4.out k hk).1; have := b6.size; omega))
  replace o_g0 := o_g0.only m15 (fun k hk => .inr (by have := (lt_g0.out k hk).1; have := b6.size; have := b7.size; omega))
  have kb0_0 := Below.cellOf C15 rfl KB0_0.out
  have kb0_1 := Below.cellOf C15 rfl KB0_1.out
  replace kx_x0_0 := Only.cellOf m15 (.inr (by omega)) kx_x0_0
  replace kx_x0_1 := Only.cellOf m15 (.inr (by omega)) kx_x0_1
  clear o_t3
  go_wp2_with fail
  refine (mark_i _ o_t4.own (by omega) (by omega) (by omega)).mono ?_
  rintro e w16 ⟨rfl, q_x1, n16⟩
  have m16 := n16 (w5.alloc (.cells #[.slice (some ⟨sb_x0, 0, none⟩) x0b.length cb_x0, .slice (some ⟨sr_x0, 0, none⟩) x0r.length cr_x0] 29)).heap.size w7.heap.size lt_t4.out
  have C16 := C15.trans (m16.toBelow C6.size C15.size)
  replace o_w0 := o_w0.only m16 (fun k hk => .inl (by have := (lt_w0.out k hk).2; have := b5.size; have := b6.size; omega))
  replace q_x0 := q_x0.only m16 (fun k hk => .inl (by have := (lt_t3.out k hk).2; have := b6.size; omega))
  replace o_g0 := o_g0.only m16 (fun k hk => .inr (by have := (lt_g0.out k hk).1; omega))
  have kb0_0 := Below.cellOf C16 rfl KB0_0.out
  have kb0_1 := Below.cellOf C16 rfl KB0_1.out
  replace kx_x0_0 := Only.cellOf m16 (.inl (by have hz : (w5.alloc (.cells #[.slice (some ⟨sb_x0, 0, none⟩) x0b.length cb_x0, .slice (some ⟨sr_x0, 0, none⟩) x0r.length cr_x0] 29)).heap.size = w5.heap.size + 1 := (by simp); omega)) kx_x0_0
  replace kx_x0_1 := Only.cellOf m16 (.inl (by have hz : (w5.alloc (.cells #[.slice (some ⟨sb_x0, 0, none⟩) x0b.length cb_x0, .slice (some ⟨sr_x0, 0, none⟩) x0r.length cr_x0] 29)).heap.size = w5.heap.size + 1 := (by simp); omega)) kx_x0_1
  clear o_t4
  go_wp2_with fail
  refine (eq_f o_g0 o_w0 (by omega)).mono ?_
  rintro e w17 ⟨rfl, b17⟩
  have C17 := bnext C16 b17
  replace o_w0 := o_w0.below b17
  replace q_x0 := q_x0.below b17
  replace q_x1 := q_x1.below b17
  replace o_g0 := o_g0.below b17
  have kb0_0 := Below.cellOf C17 rfl KB0_0.out
  have kb0_1 := Below.cellOf C17 rfl KB0_1.out
  replace kx_x0_0 := Below.cellOf b17 rfl kx_x0_0
  replace kx_x0_1 := Below.cellOf b17 rfl kx_x0_1
  go_wp2_with fail
  refine (mark_f _ o_g0 (by omega) (by omega) (by omega)).mono ?_
  rintro e w18 ⟨rfl, q_g0, n18⟩
  have m18 := n18 w7.heap.size w8.heap.size lt_g0.out
  have C18 := C17.trans (m18.toBelow C7.size C17.size)
  replace o_w0 := o_w0.only m18 (fun k hk => .inl (by have := (lt_w0.out k hk).2; have := b5.size; have := b6.size; have := b7.size; omega))
  replace q_x0 := q_x0.only m18 (fun k hk => .inl (by have := (lt_t3.out k hk).2; have := b6.size; have := b7.size; omega))
  replace q_x1 := q_x1.only m18 (fun k hk => .inl (by have := (lt_t4.out k hk).2; omega))
  have kb0_0 := Below.cellOf C18 rfl KB0_0.out
  have kb0_1 := Below.cellOf C18 rfl KB0_1.out
  replace kx_x0_0 := Only.cellOf m18 (.inl (by have hz : (w5.alloc (.cells #[.slice (some ⟨sb_x0, 0, none⟩) x0b.length cb_x0, .slice (some ⟨sr_x0, 0, none⟩) x0r.length cr_x0] 29)).heap.size = w5.heap.size + 1 := (by simp); have := b7.size; omega)) kx_x0_0
  replace kx_x0_1 := Only.cellOf m18 (.inl (by have hz : (w5.alloc (.cells #[.slice (some ⟨sb_x0, 0, none⟩) x0b.length cb_x0, .slice (some ⟨sr_x0, 0, none⟩) x0r.length cr_x0] 29)).heap.size = w5.heap.size + 1 := (by simp); have := b7.size; omega)) kx_x0_1
  clear o_g0
  go_wp2_with fail
  refine (held_f _ q_g0 (by omega) (by omega) (by omega)).mono ?_
  rintro e w19 ⟨rfl, b19⟩
  have C19 := bnext C18 b19
  replace o_w0 := o_w0.below b19
  replace q_x0 := q_x0.below b19
  replace q_x1 := q_x1.below b19
  replace q_g0 := q_g0.below b19
  have kb0_0 := Below.cellOf C19 rfl KB0_0.out
  have kb0_1 := Below.cellOf C19 rfl KB0_1.out
  replace kx_x0_0 := Below.cellOf b19 rfl kx_x0_0
  replace kx_x0_1 := Below.cellOf b19 rfl kx_x0_1
  go_wp2_with fail
  refine (to_s (j0.below C19) (by omega)).mono ?_
  rintro e w20 ⟨v_t7, rfl, o_t7, b20⟩
  have C20 := bnext C19 b20
  replace o_w0 := o_w0.below b20
  replace q_x0 := q_x0.below b20
  replace q_x1 := q_x1.below b20
  replace q_g0 := q_g0.below b20
  have kb0_0 := Below.cellOf C20 rfl KB0_0.out
  have kb0_1 := Below.cellOf C20 rfl KB0_1.out
  replace kx_x0_0 := Below.cellOf b20 rfl kx_x0_0
  replace kx_x0_1 := Below.cellOf b20 rfl kx_x0_1
  have lt_t7 := Lib.hid o_t7.lt
  go_wp2_with fail
  refine (to_i (j1.below C20) (by omega)).mono ?_
  rintro e w21 ⟨v_t8, rfl, o_t8, b21⟩
  have C21 := bnext C20 b21
  replace o_w0 := o_w0.below b21
  replace q_x0 := q_x0.below b21
  replace q_x1 := q_x1.below b21
  replace q_g0 := q_g0.below b21
  replace o_t7 := o_t7.below b21
  have kb0_0 := Below.cellOf C21 rfl KB0_0.out
  have kb0_1 := Below.cellOf C21 rfl KB0_1.out
  replace kx_x0_0 := Below.cellOf b21 rfl kx_x0_0
  replace kx_x0_1 := Below.cellOf b21 rfl kx_x0_1
  have lt_t8 := Lib.hid o_t8.lt
  go_wp2_with fail
  refine (RateCurve_impl o_t7 o_t8).mono ?_
  rintro e w22 ⟨v_h0, rfl, o_h0, ln_h0, b22⟩
  have C22 := bnext C21 b22
  replace o_w0 := o_w0.below b22
  replace q_x0 := q_x0.below b22
  replace q_x1 := q_x1.below b22
  replace q_g0 := q_g0.below b22
  replace o_t7 := o_t7.below b22
  replace o_t8 := o_t8.below b22
  have kb0_0 := Below.cellOf C22 rfl KB0_0.out
  have kb0_1 := Below.cellOf C22 rfl KB0_1.out
  replace kx_x0_0 := Below.cellOf b22 rfl kx_x0_0
  replace kx_x0_1 := Below.cellOf b22 rfl kx_x0_1
  have lt_h0 := Lib.hid o_h0.lt
  go_wp2_with fail
  refine (eq_f o_h0 o_w0 (by omega)).mono ?_
  rintro e w23 ⟨rfl, b23⟩
  have C23 := bnext C22 b23
  replace o_w0 := o_w0.below b23
  replace q_x0 := q_x0.below b23
  replace q_x1 := q_x1.below b23
  replace q_g0 := q_g0.below b23
  replace o_h0 := o_h0.below b23
  have kb0_0 := Below.cellOf C23 rfl KB0_0.out
  have kb0_1 := Below.cellOf C23 rfl KB0_1.out
  replace kx_x0_0 := Below.cellOf b23 rfl kx_x0_0
  replace kx_x0_1 := Below.cellOf b23 rfl kx_x0_1
  go_wp2_with fail
  refine (held_f _ q_g0 (by omega) (by omega) (by omega)).mono ?_
  rintro e w24 ⟨rfl, b24⟩
  have C24 := bnext C23 b24
  replace o_w0 := o_w0.below b24
  replace q_x0 := q_x0.below b24
  replace q_x1 := q_x1.below b24
  replace q_g0 := q_g0.below b24
  replace o_h0 := o_h0.below b24
  have kb0_0 := Below.cellOf C24 rfl KB0_0.out
  have kb0_1 := Below.cellOf C24 rfl KB0_1.out
  replace kx_x0_0 := Below.cellOf b24 rfl kx_x0_0
  replace kx_x0_1 := Below.cellOf b24 rfl kx_x0_1
  go_wp2_with fail
  go_ret
  exact ⟨rfl, bnext bA (C24)⟩

set_option maxRecDepth 100000 in
theorem lifted (os : Os) (started : os.Started) (H : Type) (enc : TypeId × Value → H) :
    ReturnsInHanded {} Try.checked os 3 .any (Rows.fnExactRateCurveSpec.pre6 enc Try.prog Try.f3 Rows.fnExactRateCurveRow.domain false) (Rows.fnExactRateCurveSpec.post enc Try.prog Try.f3 false true false false) := by
  refine returnsInHanded_of_change (C := Try.checked) own started (by kernel_rfl) Try.func3
    (ChangeSpec.witness6 (enc := enc) (C := Try.checked) false ⟨#[], #[.agg #[.slice none 0 0, .slice none 0 0], .slice none 0 0], []⟩ 8 (by kernel_rfl) (by kernel_rfl) (by kernel_rfl) (by kernel_rfl)) ?_
  intro W base args ds gs before hval0 hW hcnd _
  have hval : ∀ (j : Nat) t v, Try.f3.params[j]? = some t → args[j]? = some v → Value.okWide Try.prog W .any base t v := hval0
  have hW' := hW
  obtain ⟨p, q, hA0, hV, rfl, hfz, hnd⟩ := hW
  have hA : DataW.TrodAll enc Try.prog W 0 (fun _ => true) true Try.f3.params.toList args.toList ds p := hA0
  rw [Try.params3] at hA hval
  obtain ⟨v0, vs0, d0, ds0, p0, q0, hargs, rfl, rfl, h0, r0⟩ := trodAll_cons hA
  obtain ⟨v1, vs1, d1, ds1, p1, q1, rfl, rfl, rfl, h1, r1⟩ := trodAll_cons r0
  obtain ⟨rfl, rfl, rfl⟩ := trodAll_nil r1
  obtain rfl : args = #[v0, v1] := by cases args; simp_all
  obtain ⟨rfl, rfl⟩ := trodVars_none hV
  have k0 := h0
  have lt0 := lt_of_trod h0
  obtain ⟨x0b, x0r, adb0, adr0, cb0, cr0, rfl, i0⟩ := openS Try.underlying24 (by kernel_rfl) (by kernel_rfl) Try.underlying22 Try.underlying22 Try.underlying2 (by kernel_rfl) (hval 0 24 v0 rfl rfl) h0
  have k1 := h1
  have lt1 := lt_of_trod h1
  obtain ⟨x1, ad1, c1, rfl, i1⟩ := openI' Try.underlying22 Try.underlying2 (by kernel_rfl) (hval 1 22 v1 rfl rfl) h1
  clear hA0 hval0
  refine (walk x0b x0r adb0 adr0 cb0 cr0 x1 ad1 c1 W i0 i1).mono fun e W' ⟨he, bel⟩ => ?_
  subst he
  exact ⟨_, rfl, _, _, _, [], _, [], hW', trodAll_mk1 (shut_bool Try.underlying4 _), (trodAll_cons_mk (Below.trod laidOut (by kernel_rfl) (of_decide_eq_true (by kernel_rfl)) k0 bel lt0) (trodAll_cons_mk (Below.trod laidOut (by kernel_rfl) (of_decide_eq_true (by kernel_rfl)) k1 bel lt1) trodAll_mk0)), rfl, bel.frame _, fun h => by cases h⟩

theorem over : Rows.fnExactRateCurveRow.holds Try.pinned (OpenSpec.ofChange Rows.fnExactRateCurveSpec) :=
  OpenClaim.holds_of_wide 3 Try.f3 rfl rfl rfl rfl rfl rfl rfl ⟨rfl, rfl, rfl, rfl, rfl⟩ rfl rfl rfl rfl rfl (by kernel_rfl) Try.func3 (by kernel_rfl)
    (of_decide_eq_true (by kernel_rfl)) (by unfold Func.isWrapper; first | (rw [if_pos (by decide +kernel)]; kernel_rfl) | (rw [if_neg (by decide +kernel)]; exact ⟨rfl, rfl⟩))
    (fun os started H enc _ => lifted os started H enc)

/-- The statement. -/
theorem proved : Rows.FnExactRateCurveSaid := over
#print axioms proved
end Go.Proofs.Ytdaijapdfleohaa.fnExactRateCurve
