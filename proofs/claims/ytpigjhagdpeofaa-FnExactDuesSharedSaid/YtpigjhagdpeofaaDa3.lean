/-
  The law of DuesShared over the second program: it returns true, or tells. No condition but the oracle.
  What DuesShared's told call gives of the company's memory. No condition.
-/
import Derived.Test.YtpigjhagdpeofaaSm5
import Derived.Test.YtpigjhagdpeofaaDa2
import Derived.Deep.RegionHeld3
import Derived.Test.YtpigjhagdpeofaaSm12

namespace Go.Proofs.Ytpigjhagdpeofaa
open Go.ChangeShapes Go.WideShapes Go.ChangeAt Go.RowKit Go.Proofs.Ytpigjhagdpeofaa.Sim
set_option linter.unusedVariables false
theorem RowI.mono {E : TypeId} {w : World} {B B' : Nat} {v : Value} {xs : List Int} (h : RowI E w B v xs) (hB : B' ≤ B) : RowI E w B' v xs := ⟨h.1.mono hB, h.2⟩
theorem RowS.mono {E : TypeId} {w : World} {B B' : Nat} {v : Value} {b r : List Int} (h : RowS E w B v b r) (hB : B' ≤ B) : RowS E w B' v b r := by
  obtain ⟨vb, vr, rfl, h1, h2, d⟩ := h
  exact ⟨vb, vr, rfl, h1.mono hB, h2.mono hB, d⟩
set_option maxHeartbeats 4000000 in
theorem walk_dueSh (x0b x0r : List Int) (adb0 adr0 : Option Addr) (cb0 cr0 : Nat) (x1 : List Int) (ad1 : Option Addr) (c1 : Nat) (x2 : Int) (x3 : Int) (w : World) (i0 : InS w (.agg #[.slice adb0 x0b.length cb0, .slice adr0 x0r.length cr0]) x0b x0r) (i1 : InI w (.slice ad1 x1.length c1) x1) (h4 : 3 < w.heap.size) (hS : DueSh_r1 x0b x0r x1.length (fun i => x1.getD i 0) x2 x3 = true → Sat2 x1.length (DueSh_F x0b x0r (fun i => x1.getD i 0) x2) w) :
    Calls Sq.prog 4 #[.agg #[.slice adb0 x0b.length cb0, .slice adr0 x0r.length cr0], .slice ad1 x1.length c1, .int .i64 x2, .int .i64 x3] w fun e w' => e = .returned (.bool true) ∨ Told (PreD w.heap.size x1.length (DueSh_F x0b x0r (fun i => x1.getD i 0) x2)) e w' := by
  rcases Int.lt_or_le 1048576 (x1.length : Int) with hl1 | hl1
  · go_enter Sq.func4, Sq.ntmps4
    go_wp2_with fail
    go_ret
    exact Or.inl rfl
  go_enter Sq.func4, Sq.ntmps4
  have bA : Below w.heap.size w (w.alloc (.cells #[.slice adb0 x0b.length cb0, .slice adr0 x0r.length cr0] 36)) := Below.alloc (Below.refl _ _) (Nat.le_refl _) _
  have KB0_0 : Hid ((w.alloc (.cells #[.slice adb0 x0b.length cb0, .slice adr0 x0r.length cr0] 36)).cell? ⟨w.heap.size, 0, none⟩ = some (.slice adb0 x0b.length cb0)) := by show (w.alloc (.cells #[.slice adb0 x0b.length cb0, .slice adr0 x0r.length cr0] 36)).cell? _ = _; simp [go_sem]
  have KB0_1 : Hid ((w.alloc (.cells #[.slice adb0 x0b.length cb0, .slice adr0 x0r.length cr0] 36)).cell? ⟨w.heap.size, 1, none⟩ = some (.slice adr0 x0r.length cr0)) := by show (w.alloc (.cells #[.slice adb0 x0b.length cb0, .slice adr0 x0r.length cr0] 36)).cell? _ = _; simp [go_sem]
  have j0 := i0.below bA
  have j1 := i1.below bA
  rcases Int.lt_or_le (1048576) ((x0b.length : Int) + x0r.length) with hs0 | hs0
  · go_wp2_with fail
    refine (sz_s_no j0 hs0 (by omega)).mono ?_
    rintro e wz ⟨rfl, bz⟩
    go_wp2_with fail
    go_ret
    exact Or.inl rfl
  go_wp2_with fail
  refine (sz_s_yes j0 hs0 (by omega)).mono ?_
  rintro e w1 ⟨rfl, b1⟩
  have C1 := b1
  have kb0_0 := Below.cellOf C1 rfl KB0_0.out
  have kb0_1 := Below.cellOf C1 rfl KB0_1.out
  go_wp2_with fail
  refine (to_s (j0.below C1) (by omega)).mono ?_
  rintro e w2 ⟨v_t1, rfl, o_t1, b2⟩
  have C2 := bnext C1 b2
  have kb0_0 := Below.cellOf C2 rfl KB0_0.out
  have kb0_1 := Below.cellOf C2 rfl KB0_1.out
  have lt_t1 := Lib.hid o_t1.lt
  go_wp2_with fail
  refine (to_i (j1.below C2) (by omega)).mono ?_
  rintro e w3 ⟨v_t2, rfl, o_t2, b3⟩
  have C3 := bnext C2 b3
  replace o_t1 := o_t1.below b3
  have kb0_0 := Below.cellOf C3 rfl KB0_0.out
  have kb0_1 := Below.cellOf C3 rfl KB0_1.out
  have lt_t2 := Lib.hid o_t2.lt
  go_wp2_with fail
  refine (DueSh_spec o_t1 o_t2 (rd := x2) (k := x3)).mono ?_
  rintro e w4 ⟨v_w0, rfl, o_w0, ln_w0, b4⟩
  have C4 := bnext C3 b4
  replace o_t1 := o_t1.below b4
  replace o_t2 := o_t2.below b4
  have kb0_0 := Below.cellOf C4 rfl KB0_0.out
  have kb0_1 := Below.cellOf C4 rfl KB0_1.out
  have lt_w0 := Lib.hid o_w0.lt
  go_wp2_with fail
  refine (to_s (j0.below C4) (by omega)).mono ?_
  rintro e w5 ⟨v_t3, rfl, o_t3, b5⟩
  have C5 := bnext C4 b5
  replace o_w0 := o_w0.below b5
  have kb0_0 := Below.cellOf C5 rfl KB0_0.out
  have kb0_1 := Below.cellOf C5 rfl KB0_1.out
  have lt_t3 := Lib.hid o_t3.lt
  obtain ⟨sb_x0, cb_x0, sr_x0, cr_x0, rfl⟩ := o_t3.shape
  have b6 : Below w5.heap.size w5 (w5.alloc (.cells #[.slice (some ⟨sb_x0, 0, none⟩) x0b.length cb_x0, .slice (some ⟨sr_x0, 0, none⟩) x0r.length cr_x0] 39)) := by go_grown
  have C6 := bnext C5 b6
  replace o_w0 := o_w0.below b6
  replace o_t3 := o_t3.below b6
  have kb0_0 := Below.cellOf C6 rfl KB0_0.out
  have kb0_1 := Below.cellOf C6 rfl KB0_1.out
  have kx_x0_0 : (w5.alloc (.cells #[.slice (some ⟨sb_x0, 0, none⟩) x0b.length cb_x0, .slice (some ⟨sr_x0, 0, none⟩) x0r.length cr_x0] 39)).cell? ⟨w5.heap.size, 0, none⟩ = some (.slice (some ⟨sb_x0, 0, none⟩) x0b.length cb_x0) := by simp [go_sem]
  have kx_x0_1 : (w5.alloc (.cells #[.slice (some ⟨sb_x0, 0, none⟩) x0b.length cb_x0, .slice (some ⟨sr_x0, 0, none⟩) x0r.length cr_x0] 39)).cell? ⟨w5.heap.size, 1, none⟩ = some (.slice (some ⟨sr_x0, 0, none⟩) x0r.length cr_x0) := by simp [go_sem]
  go_wp2_with fail
  refine (to_i (j1.below C6) (by omega)).mono ?_
  rintro e w7 ⟨v_t4, rfl, o_t4, b7⟩
  have C7 := bnext C6 b7
  replace o_w0 := o_w0.below b7
  replace o_t3 := o_t3.below b7
  have kb0_0 := Below.cellOf C7 rfl KB0_0.out
  have kb0_1 := Below.cellOf C7 rfl KB0_1.out
  replace kx_x0_0 := Below.cellOf b7 rfl kx_x0_0
  replace kx_x0_1 := Below.cellOf b7 rfl kx_x0_1
  have lt_t4 := Lib.hid o_t4.lt
  go_wp2_with fail
  refine (DueSh_impl (B := w.heap.size) (rd := x2) (k := x3) (o_t3.mono (bnext bA C4).size) (o_t4.mono (bnext bA C6).size) h4 (fun h => (hS h).below (bnext bA C7))).mono ?_
  intro e w8 hh
  rcases hh.symm with ht | ⟨v_g0, rfl, o_g0, ln_g0, b8⟩
  · obtain ⟨x, ch, va, vb, vc, e0, rfl, q1, q2, q3⟩ := ht
    exact ⟨rfl, Or.inr ⟨x, ch, va, vb, vc, e0, rfl, q1, q2, q3⟩⟩
  have C8 := bnext C7 b8
  replace o_w0 := o_w0.below b8
  replace o_t3 := o_t3.below b8
  replace o_t4 := o_t4.below b8
  have kb0_0 := Below.cellOf C8 rfl KB0_0.out
  have kb0_1 := Below.cellOf C8 rfl KB0_1.out
  replace kx_x0_0 := Below.cellOf b8 rfl kx_x0_0
  replace kx_x0_1 := Below.cellOf b8 rfl kx_x0_1
  have lt_g0 := Lib.hid o_g0.lt
  go_wp2_with fail
  refine (eq_i o_g0 o_w0 (by omega)).mono ?_
  rintro e w9 ⟨rfl, b9⟩
  have C9 := bnext C8 b9
  replace o_w0 := o_w0.below b9
  replace o_t3 := o_t3.below b9
  replace o_t4 := o_t4.below b9
  replace o_g0 := o_g0.below b9
  have kb0_0 := Below.cellOf C9 rfl KB0_0.out
  have kb0_1 := Below.cellOf C9 rfl KB0_1.out
  replace kx_x0_0 := Below.cellOf b9 rfl kx_x0_0
  replace kx_x0_1 := Below.cellOf b9 rfl kx_x0_1
  go_wp2_with fail
  have b10 : Below w9.heap.size w9 (w9.drew) := (Below.refl _ _).drew
  have C10 := bnext C9 b10
  replace o_w0 := o_w0.below b10
  replace o_t3 := o_t3.below b10
  replace o_t4 := o_t4.below b10
  replace o_g0 := o_g0.below b10
  have kb0_0 := Below.cellOf C10 rfl KB0_0.out
  have kb0_1 := Below.cellOf C10 rfl KB0_1.out
  replace kx_x0_0 := Below.cellOf b10 rfl kx_x0_0
  replace kx_x0_1 := Below.cellOf b10 rfl kx_x0_1
  go_region_held3 (fun w' => w'.cell? ⟨w5.heap.size, 0, none⟩ = some (.slice (some ⟨sb_x0, 0, none⟩) x0b.length cb_x0) ∧ w'.cell? ⟨w5.heap.size, 1, none⟩ = some (.slice (some ⟨sr_x0, 0, none⟩) x0r.length cr_x0) ∧ w'.cell? ⟨w.heap.size, 0, none⟩ = some (.slice adb0 x0b.length cb0) ∧ w'.cell? ⟨w.heap.size, 1, none⟩ = some (.slice adr0 x0r.length cr0))
    (exact ⟨kx_x0_0, kx_x0_1, kb0_0, kb0_1⟩)
    ((first | (go_at_call 18; refine (to_s (j0.below C10) (by omega)).mono ?_; rintro e w11 ⟨v_t5, rfl, o_t5, b11⟩; have C11 := bnext C10 b11; replace o_w0 := o_w0.below b11; replace o_t3 := o_t3.below b11; replace o_t4 := o_t4.below b11; replace o_g0 := o_g0.below b11; have kb0_0 := Below.cellOf C11 rfl KB0_0.out; have kb0_1 := Below.cellOf C11 rfl KB0_1.out; replace kx_x0_0 := Below.cellOf b11 rfl kx_x0_0; replace kx_x0_1 := Below.cellOf b11 rfl kx_x0_1; have lt_t5 := Lib.hid o_t5.lt) | (go_at_call 20; refine (eq_s o_t3.own o_t5.own (by omega)).mono ?_; rintro e w12 ⟨rfl, b12⟩; have C12 := bnext C11 b12; replace o_w0 := o_w0.below b12; replace o_t3 := o_t3.below b12; replace o_t4 := o_t4.below b12; replace o_g0 := o_g0.below b12; replace o_t5 := o_t5.below b12; have kb0_0 := Below.cellOf C12 rfl KB0_0.out; have kb0_1 := Below.cellOf C12 rfl KB0_1.out; replace kx_x0_0 := Below.cellOf b12 rfl kx_x0_0; replace kx_x0_1 := Below.cellOf b12 rfl kx_x0_1)))
  go_wp2_with fail
  refine (to_i (j1.below C12) (by omega)).mono ?_
  rintro e w13 ⟨v_t6, rfl, o_t6, b13⟩
  have C13 := bnext C12 b13
  replace o_w0 := o_w0.below b13
  replace o_t3 := o_t3.below b13
  replace o_t4 := o_t4.below b13
  replace o_g0 := o_g0.below b13
  have kb0_0 := Below.cellOf C13 rfl KB0_0.out
  have kb0_1 := Below.cellOf C13 rfl KB0_1.out
  replace kx_x0_0 := Below.cellOf b13 rfl kx_x0_0
  replace kx_x0_1 := Below.cellOf b13 rfl kx_x0_1
  have lt_t6 := Lib.hid o_t6.lt
  go_wp2_with fail
  refine (eq_i o_t4.own o_t6.own (by omega)).mono ?_
  rintro e w14 ⟨rfl, b14⟩
  have C14 := bnext C13 b14
  replace o_w0 := o_w0.below b14
  replace o_t3 := o_t3.below b14
  replace o_t4 := o_t4.below b14
  replace o_g0 := o_g0.below b14
  replace o_t6 := o_t6.below b14
  have kb0_0 := Below.cellOf C14 rfl KB0_0.out
  have kb0_1 := Below.cellOf C14 rfl KB0_1.out
  replace kx_x0_0 := Below.cellOf b14 rfl kx_x0_0
  replace kx_x0_1 := Below.cellOf b14 rfl kx_x0_1
  go_wp2_with fail
  refine (mark_s _ o_t3.own (by omega) (by omega) (by omega)).mono ?_
  rintro e w15 ⟨rfl, q_x0, n15⟩
  have m15 := n15 w4.heap.size w5.heap.size lt_t3.out
  have C15 := C14.trans (m15.toBelow C4.size C14.size)
  replace o_w0 := o_w0.only m15 (fun k hk => .inl (by have := (lt_w0.out k hk).2; omega))
  replace o_t4 := o_t4.only m15 (fun k hk => .inr (by have := (lt_t4.out k hk).1; have := b6.size; omega))
  replace o_g0 := o_g0.only m15 (fun k hk => .inr (by have := (lt_g0.out k hk).1; have := b6.size; have := b7.size; omega))
  have kb0_0 := Below.cellOf C15 rfl KB0_0.out
  have kb0_1 := Below.cellOf C15 rfl KB0_1.out
  replace kx_x0_0 := Only.cellOf m15 (.inr (by omega)) kx_x0_0
  replace kx_x0_1 := Only.cellOf m15 (.inr (by omega)) kx_x0_1
  clear o_t3
  go_wp2_with fail
  refine (mark_i _ o_t4.own (by omega) (by omega) (by omega)).mono ?_
  rintro e w16 ⟨rfl, q_x1, n16⟩
  have m16 := n16 (w5.alloc (.cells #[.slice (some ⟨sb_x0, 0, none⟩) x0b.length cb_x0, .slice (some ⟨sr_x0, 0, none⟩) x0r.length cr_x0] 39)).heap.size w7.heap.size lt_t4.out
  have C16 := C15.trans (m16.toBelow C6.size C15.size)
  replace o_w0 := o_w0.only m16 (fun k hk => .inl (by have := (lt_w0.out k hk).2; have := b5.size; have := b6.size; omega))
  replace q_x0 := q_x0.only m16 (fun k hk => .inl (by have := (lt_t3.out k hk).2; have := b6.size; omega))
  replace o_g0 := o_g0.only m16 (fun k hk => .inr (by have := (lt_g0.out k hk).1; omega))
  have kb0_0 := Below.cellOf C16 rfl KB0_0.out
  have kb0_1 := Below.cellOf C16 rfl KB0_1.out
  replace kx_x0_0 := Only.cellOf m16 (.inl (by have hz : (w5.alloc (.cells #[.slice (some ⟨sb_x0, 0, none⟩) x0b.length cb_x0, .slice (some ⟨sr_x0, 0, none⟩) x0r.length cr_x0] 39)).heap.size = w5.heap.size + 1 := (by simp); omega)) kx_x0_0
  replace kx_x0_1 := Only.cellOf m16 (.inl (by have hz : (w5.alloc (.cells #[.slice (some ⟨sb_x0, 0, none⟩) x0b.length cb_x0, .slice (some ⟨sr_x0, 0, none⟩) x0r.length cr_x0] 39)).heap.size = w5.heap.size + 1 := (by simp); omega)) kx_x0_1
  clear o_t4
  go_wp2_with fail
  refine (eq_i o_g0 o_w0 (by omega)).mono ?_
  rintro e w17 ⟨rfl, b17⟩
  have C17 := bnext C16 b17
  replace o_w0 := o_w0.below b17
  replace q_x0 := q_x0.below b17
  replace q_x1 := q_x1.below b17
  replace o_g0 := o_g0.below b17
  have kb0_0 := Below.cellOf C17 rfl KB0_0.out
  have kb0_1 := Below.cellOf C17 rfl KB0_1.out
  replace kx_x0_0 := Below.cellOf b17 rfl kx_x0_0
  replace kx_x0_1 := Below.cellOf b17 rfl kx_x0_1
  go_wp2_with fail
  refine (mark_i _ o_g0 (by omega) (by omega) (by omega)).mono ?_
  rintro e w18 ⟨rfl, q_g0, n18⟩
  have m18 := n18 w7.heap.size w8.heap.size lt_g0.out
  have C18 := C17.trans (m18.toBelow C7.size C17.size)
  replace o_w0 := o_w0.only m18 (fun k hk => .inl (by have := (lt_w0.out k hk).2; have := b5.size; have := b6.size; have := b7.size; omega))
  replace q_x0 := q_x0.only m18 (fun k hk => .inl (by have := (lt_t3.out k hk).2; have := b6.size; have := b7.size; omega))
  replace q_x1 := q_x1.only m18 (fun k hk => .inl (by have := (lt_t4.out k hk).2; omega))
  have kb0_0 := Below.cellOf C18 rfl KB0_0.out
  have kb0_1 := Below.cellOf C18 rfl KB0_1.out
  replace kx_x0_0 := Only.cellOf m18 (.inl (by have hz : (w5.alloc (.cells #[.slice (some ⟨sb_x0, 0, none⟩) x0b.length cb_x0, .slice (some ⟨sr_x0, 0, none⟩) x0r.length cr_x0] 39)).heap.size = w5.heap.size + 1 := (by simp); have := b7.size; omega)) kx_x0_0
  replace kx_x0_1 := Only.cellOf m18 (.inl (by have hz : (w5.alloc (.cells #[.slice (some ⟨sb_x0, 0, none⟩) x0b.length cb_x0, .slice (some ⟨sr_x0, 0, none⟩) x0r.length cr_x0] 39)).heap.size = w5.heap.size + 1 := (by simp); have := b7.size; omega)) kx_x0_1
  clear o_g0
  go_wp2_with fail
  refine (held_i _ q_g0 (by omega) (by omega) (by omega)).mono ?_
  rintro e w19 ⟨rfl, b19⟩
  have C19 := bnext C18 b19
  replace o_w0 := o_w0.below b19
  replace q_x0 := q_x0.below b19
  replace q_x1 := q_x1.below b19
  replace q_g0 := q_g0.below b19
  have kb0_0 := Below.cellOf C19 rfl KB0_0.out
  have kb0_1 := Below.cellOf C19 rfl KB0_1.out
  replace kx_x0_0 := Below.cellOf b19 rfl kx_x0_0
  replace kx_x0_1 := Below.cellOf b19 rfl kx_x0_1
  go_wp2_with fail
  refine (to_s (j0.below C19) (by omega)).mono ?_
  rintro e w20 ⟨v_t7, rfl, o_t7, b20⟩
  have C20 := bnext C19 b20
  replace o_w0 := o_w0.below b20
  replace q_x0 := q_x0.below b20
  replace q_x1 := q_x1.below b20
  replace q_g0 := q_g0.below b20
  have kb0_0 := Below.cellOf C20 rfl KB0_0.out
  have kb0_1 := Below.cellOf C20 rfl KB0_1.out
  replace kx_x0_0 := Below.cellOf b20 rfl kx_x0_0
  replace kx_x0_1 := Below.cellOf b20 rfl kx_x0_1
  have lt_t7 := Lib.hid o_t7.lt
  go_wp2_with fail
  refine (to_i (j1.below C20) (by omega)).mono ?_
  rintro e w21 ⟨v_t8, rfl, o_t8, b21⟩
  have C21 := bnext C20 b21
  replace o_w0 := o_w0.below b21
  replace q_x0 := q_x0.below b21
  replace q_x1 := q_x1.below b21
  replace q_g0 := q_g0.below b21
  replace o_t7 := o_t7.below b21
  have kb0_0 := Below.cellOf C21 rfl KB0_0.out
  have kb0_1 := Below.cellOf C21 rfl KB0_1.out
  replace kx_x0_0 := Below.cellOf b21 rfl kx_x0_0
  replace kx_x0_1 := Below.cellOf b21 rfl kx_x0_1
  have lt_t8 := Lib.hid o_t8.lt
  go_wp2_with fail
  refine (DueSh_impl (B := w.heap.size) (rd := x2) (k := x3) (o_t7.mono (bnext bA C19).size) (o_t8.mono (bnext bA C20).size) h4 (fun h => (hS h).below (bnext bA C21))).mono ?_
  intro e w22 hh
  rcases hh.symm with ht | ⟨v_h0, rfl, o_h0, ln_h0, b22⟩
  · obtain ⟨x, ch, va, vb, vc, e0, rfl, q1, q2, q3⟩ := ht
    exact ⟨rfl, Or.inr ⟨x, ch, va, vb, vc, e0, rfl, q1, q2, q3⟩⟩
  have C22 := bnext C21 b22
  replace o_w0 := o_w0.below b22
  replace q_x0 := q_x0.below b22
  replace q_x1 := q_x1.below b22
  replace q_g0 := q_g0.below b22
  replace o_t7 := o_t7.below b22
  replace o_t8 := o_t8.below b22
  have kb0_0 := Below.cellOf C22 rfl KB0_0.out
  have kb0_1 := Below.cellOf C22 rfl KB0_1.out
  replace kx_x0_0 := Below.cellOf b22 rfl kx_x0_0
  replace kx_x0_1 := Below.cellOf b22 rfl kx_x0_1
  have lt_h0 := Lib.hid o_h0.lt
  go_wp2_with fail
  refine (eq_i o_h0 o_w0 (by omega)).mono ?_
  rintro e w23 ⟨rfl, b23⟩
  have C23 := bnext C22 b23
  replace o_w0 := o_w0.below b23
  replace q_x0 := q_x0.below b23
  replace q_x1 := q_x1.below b23
  replace q_g0 := q_g0.below b23
  replace o_h0 := o_h0.below b23
  have kb0_0 := Below.cellOf C23 rfl KB0_0.out
  have kb0_1 := Below.cellOf C23 rfl KB0_1.out
  replace kx_x0_0 := Below.cellOf b23 rfl kx_x0_0
  replace kx_x0_1 := Below.cellOf b23 rfl kx_x0_1
  go_wp2_with fail
  refine (held_i _ q_g0 (by omega) (by omega) (by omega)).mono ?_
  rintro e w24 ⟨rfl, b24⟩
  have C24 := bnext C23 b24
  replace o_w0 := o_w0.below b24
  replace q_x0 := q_x0.below b24
  replace q_x1 := q_x1.below b24
  replace q_g0 := q_g0.below b24
  replace o_h0 := o_h0.below b24
  have kb0_0 := Below.cellOf C24 rfl KB0_0.out
  have kb0_1 := Below.cellOf C24 rfl KB0_1.out
  replace kx_x0_0 := Below.cellOf b24 rfl kx_x0_0
  replace kx_x0_1 := Below.cellOf b24 rfl kx_x0_1
  go_wp2_with fail
  go_ret
  exact Or.inl rfl


end Go.Proofs.Ytpigjhagdpeofaa

namespace Go.Proofs.Ytpigjhagdpeofaa
open Go.RowKit Go.Proofs.Ytpigjhagdpeofaa.Sim
set_option linter.unusedVariables false
set_option maxHeartbeats 1600000 in
theorem preD_ok {n N0 : Nat} {F : Nat → Int} {hl : List Obj} {r0 : Ren} (hN : (XL n F hl r0).n0 ≤ N0) : PreOK (XL n F hl r0) n F (PreD N0 n F) := by
  intro r wl wc va vb vc va' vb' vc' U K hw ha hb hc hpre
  have h4 : 4 ≤ (XL n F hl r0).n0 := by
    show 4 ≤ (Sq.h (letter :: orc n F :: hl)).size
    simp [Sq.h]
  obtain ⟨gl, cl, k, gb, cb, gr, cr, nb, nr, p, q, fb, fr, L, rd, rfl, rfl, k0, k8, rfl, ⟨n1, n2, n3, n4, d1, d2, d3, d4⟩, hL, hp0, hp1, hq0, hIb, hIr, mb, mr, hent, hF, _⟩ := hpre
  obtain ⟨gl', s1, hgl, rfl⟩ := ha.slice_inv
  obtain rfl := hb.int_inv
  obtain ⟨ds, hds, rfl⟩ := hc.fun_inv
  obtain ⟨y, y2, rfl, hy, hy2⟩ := hds.two
  obtain ⟨p', s2, hp, rfl⟩ := hy.ptr_inv
  obtain ⟨q', s3, hq, rfl⟩ := hy2.ptr_inv
  obtain rfl := hw.sh gl gl' s1 (by omega) hgl
  obtain rfl := hw.sh p p' s2 (by omega) hp
  obtain rfl := hw.sh q q' s3 (by omega) hq
  have hplt := (hw.dom _ _ hp).1
  have hqlt := (hw.dom _ _ hq).1
  have hgllt := (hw.dom _ _ hgl).1
  rw [panW_cell hplt (by omega)] at hp0 hp1
  rw [panW_cell hqlt (by omega)] at hq0
  obtain ⟨_, z, _, hr2⟩ := hw.ownCell hp hp0
  obtain ⟨gb', s4, hgb, rfl⟩ := hr2.slice_inv
  obtain rfl := hw.sh gb gb' s4 (by omega) hgb
  obtain ⟨_, z, _, hr3⟩ := hw.ownCell hp hp1
  obtain ⟨gr', s5, hgr, rfl⟩ := hr3.slice_inv
  obtain rfl := hw.sh gr gr' s5 (by omega) hgr
  have hgblt := (hw.dom _ _ hgb).1
  have hgrlt := (hw.dom _ _ hgr).1
  have hL' : ∀ j, j < n → wl.cell? ⟨gl, j, none⟩ = some (.int .i64 (L j)) := fun j hj => by
    have := hL.at0 j hj
    rwa [panW_cell hgllt (by omega)] at this
  have hIb' : ∀ j, j < nb → wl.cell? ⟨gb, j, none⟩ = some (.int .i64 (fb j)) := fun j hj => by
    have := hIb.at0 j hj
    rwa [panW_cell hgblt (by omega)] at this
  have hIr' : ∀ j, j < nr → wl.cell? ⟨gr, j, none⟩ = some (.int .i64 (fr j)) := fun j hj => by
    have := hIr.at0 j hj
    rwa [panW_cell hgrlt (by omega)] at this
  have ne : ∀ {b1 b2 c1 c2 : Nat}, (XL n F hl r0).n0 ≤ b1 → r b1 = some (c1, 0) → r b2 = some (c2, 0) → b2 ≠ b1 → c1 ≠ c2 := fun {b1 b2 c1 c2} h1 e1 e2 hne e => by
    subst e
    exact hne (hw.inj b1 b2 c1 0 0 h1 e1 e2)
  have npq : q' ≠ p' := ne (by omega) hq hp (by omega)
  have nbp : gb' ≠ p' := ne (by omega) hgb hp (by omega)
  have nbq : gb' ≠ q' := ne (by omega) hgb hq (by omega)
  have nrp : gr' ≠ p' := ne (by omega) hgr hp (by omega)
  have nrq : gr' ≠ q' := ne (by omega) hgr hq (by omega)
  have nrb : gr' ≠ gb' := ne (by omega) hgr hgb (by omega)
  let m : Nat → Nat := fun b => if b = p' then 2 else if b = q' then 1 else if b = gb' then nb else nr
  have mp : m p' = 2 := if_pos rfl
  have mq : m q' = 1 := by show (if q' = p' then _ else _) = _; rw [if_neg npq, if_pos rfl]
  have mgb : m gb' = nb := by show (if gb' = p' then _ else _) = _; rw [if_neg nbp, if_neg nbq, if_pos rfl]
  have mgr : m gr' = nr := by show (if gr' = p' then _ else _) = _; rw [if_neg nrp, if_neg nrq, if_neg nrb]
  let D : Nat → Prop := fun y => y = p' ∨ y = q' ∨ y = gb' ∨ y = gr'
  refine ⟨some ⟨gl, 0, none⟩, _, gl', cl, k, 42, _, _, L, D, rfl, rfl, rfl, rfl, fun _ => rfl, rfl, rfl, k0, k8, fun w1 hk h2 hm => ?_⟩
  have hw1 := hw.rely hk
  have hp2 : 2 ≤ p' := hm p' ⟨p, by omega, hp⟩
  have hq2 : 2 ≤ q' := hm q' ⟨q, by omega, hq⟩
  have hgb2 : 2 ≤ gb' := hm gb' ⟨gb, by omega, hgb⟩
  have hgr2 : 2 ≤ gr' := hm gr' ⟨gr, by omega, hgr⟩
  have lp := (hw1.dom _ _ hp).2
  have lq := (hw1.dom _ _ hq).2
  have lgb := (hw1.dom _ _ hgb).2
  have lgr := (hw1.dom _ _ hgr).2
  have cp0 : w1.cell? ⟨p', 0, none⟩ = some (.slice (some ⟨gb', 0, none⟩) nb cb) := by
    obtain ⟨_, z, hz, hr⟩ := hw1.ownCell hp hp0
    obtain ⟨c, s, e1, rfl⟩ := hr.slice_inv
    rw [hgb] at e1
    cases e1
    exact hz
  have cp1 : w1.cell? ⟨p', 1, none⟩ = some (.slice (some ⟨gr', 0, none⟩) nr cr) := by
    obtain ⟨_, z, hz, hr⟩ := hw1.ownCell hp hp1
    obtain ⟨c, s, e1, rfl⟩ := hr.slice_inv
    rw [hgr] at e1
    cases e1
    exact hz
  have cq0 : w1.cell? ⟨q', 0, none⟩ = some (.int .i64 rd) := hw1.ownInt hq hq0
  have cb' : ∀ j, j < nb → w1.cell? ⟨gb', j, none⟩ = some (.int .i64 (fb j)) := fun j hj => hw1.ownInt hgb (hIb' j hj)
  have cr' : ∀ j, j < nr → w1.cell? ⟨gr', j, none⟩ = some (.int .i64 (fr j)) := fun j hj => hw1.ownInt hgr (hIr' j hj)
  have Dp : D p' := .inl rfl
  have Dq : D q' := .inr (.inl rfl)
  have Db : D gb' := .inr (.inr (.inl rfl))
  have Dr : D gr' := .inr (.inr (.inr rfl))
  refine ⟨(hw1.dom _ _ hgl).2, fun j hj => hw1.ownInt hgl (hL' j hj), ⟨⟨fun args w => ?_, fun args w es => ?_⟩, rfl, fun x i v hv => ?_, fun x h i v hv => ?_, m, ⟨h2, fun b hb => ?_, fun b hb => ?_⟩, fun w2 hk2 i hi U2 => ?_⟩, fun y hy => ?_⟩
  · simp only [Go.callFunc, Sem.run_bind, run_program, Result.andThen_ok, Try.func42]
    rfl
  · simp only [Go.callFunc, Sem.events_bind, run_program, Result.evThen_ok, Try.func42]
    rfl
  · match i, hv with
    | 0, hv => cases hv; exact .flat rfl
    | 1, hv => cases hv; exact VRel.ptr (a := ⟨p', 0, none⟩) (c := p') (s := 0) (Sq.ren_iff.2 ⟨Dp, rfl, rfl⟩)
    | 2, hv => cases hv; exact VRel.ptr (a := ⟨q', 0, none⟩) (c := q') (s := 0) (Sq.ren_iff.2 ⟨Dq, rfl, rfl⟩)
    | i + 3, hv => simp at hv
  · match i, hv with
    | 0, hv => cases hv; exact NP.int _ _
    | 1, hv => trivial
    | 2, hv => trivial
    | i + 3, hv => simp at hv
  · rcases hb with rfl | rfl | rfl | rfl
    · exact hp2
    · exact hq2
    · exact hgb2
    · exact hgr2
  · rcases hb with rfl | rfl | rfl | rfl
    · rw [mp]
      refine read_row (g := fun i => if i = 0 then .slice (some ⟨gb', 0, none⟩) nb cb else .slice (some ⟨gr', 0, none⟩) nr cr) lp (fun i hi => ?_) (fun i hi => ?_)
      · match i, hi with
        | 0, _ => exact cp0
        | 1, _ => exact cp1
      · match i, hi with
        | 0, _ => exact ⟨NP.slice _ _ _, VRel.slice (a := ⟨gb', 0, none⟩) (c := gb') (s := 0) (Sq.ren_iff.2 ⟨Db, rfl, rfl⟩)⟩
        | 1, _ => exact ⟨NP.slice _ _ _, VRel.slice (a := ⟨gr', 0, none⟩) (c := gr') (s := 0) (Sq.ren_iff.2 ⟨Dr, rfl, rfl⟩)⟩
    · rw [mq]
      refine read_row (g := fun i => .int .i64 rd) lq (fun i hi => ?_) (fun i hi => ⟨NP.int _ _, .flat rfl⟩)
      obtain rfl : i = 0 := by omega
      exact cq0
    · rw [mgb]
      exact read_row (g := fun i => .int .i64 (fb i)) lgb (fun i hi => cb' i hi) (fun i hi => ⟨NP.int _ _, .flat rfl⟩)
    · rw [mgr]
      exact read_row (g := fun i => .int .i64 (fr i)) lgr (fun i hi => cr' i hi) (fun i hi => ⟨NP.int _ _, .flat rfl⟩)
  · have cell2 : ∀ b i : Nat, D b → 2 ≤ b → i < m b → (Sim.tp (Sq.heldM m w2) U2 0).cell? ⟨b, i, none⟩ = w1.cell? ⟨b, i, none⟩ := fun b i hb h2 hi => by
      have e1 : (Sim.tp (Sq.heldM m w2) U2 0).cell? ⟨b, i, none⟩ = w2.cell? ⟨b, i, none⟩ := Sq.heldM_cell (m := m) (a := ⟨b, i, none⟩) h2 hi
      rw [e1]
      unfold World.cell?
      rw [hk2 b hb]
    obtain ⟨f1, f2, f3⟩ := hF i hi
    show Calls Sq.prog 42 #[.int .i64 (L i), .pointer (some ⟨p', 0, none⟩), .pointer (some ⟨q', 0, none⟩)] _ _
    refine (lit42_impl gb' cb gr' cr nb nr fb fr p' q' (L i) rd _ mb mr (fun i hi => ?_) (fun i hi => ?_) ?_ ?_ ?_ hent f2 f3).mono fun e w' h => ?_
    · rw [cell2 gb' _ Db hgb2 (by rw [mgb]; omega), Nat.zero_add]
      exact cb' _ hi
    · rw [cell2 gr' _ Dr hgr2 (by rw [mgr]; omega), Nat.zero_add]
      exact cr' _ hi
    · rw [cell2 p' 0 Dp hp2 (by rw [mp]; omega)]
      exact cp0
    · rw [cell2 p' 1 Dp hp2 (by rw [mp]; omega)]
      exact cp1
    · rw [cell2 q' 0 Dq hq2 (by rw [mq]; omega)]
      exact cq0
    · rw [h.1, f1]
  · rcases hy with rfl | rfl | rfl | rfl
    · exact lp
    · exact lq
    · exact lgb
    · exact lgr
end Go.Proofs.Ytpigjhagdpeofaa
