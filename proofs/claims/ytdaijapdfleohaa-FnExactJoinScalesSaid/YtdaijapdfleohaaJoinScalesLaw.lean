/-
  FnExactJoinScales returns true for every input: the program's JoinScales and the reference's give the same results, leave their arguments as they were, and share no memory. No condition.
-/
import Derived.Test.YtdaijapdfleohaaRows
import Derived.Test.YtdaijapdfleohaaJoinScales
import Derived.Test.YtdaijapdfleohaaToScale
import Derived.Test.YtdaijapdfleohaaScale
import Derived.Test.YtdaijapdfleohaaScaleM
import Derived.Test.YtdaijapdfleohaaScaleH
import Derived.Test.YtdaijapdfleohaaOpen
import Derived.WalkKit
import Derived.ProofKit
import Derived.OpenShut
import Derived.Carry
import Derived.Deep.RegionHeld3
import Derived.Deep.DeepCutAuto
namespace Go.Proofs.Ytdaijapdfleohaa
open Go.RowKit
theorem OwnS.keepAt {E : TypeId} {w : World} {B : Nat} {v : Value} {b r : List Int} (h : OwnS E w B v b r) (p : Addr) (hp : ∀ k, inS v k → k ≠ p.block) (u : Value) : OwnS E (w.setCell p u) B v b r := by
  obtain ⟨vb, vr, rfl, x, y, d⟩ := h
  exact ⟨vb, vr, rfl, x.keepV p (fun e => hp _ ⟨vb, vr, rfl, .inl e⟩ rfl) u, y.keepV p (fun e => hp _ ⟨vb, vr, rfl, .inr e⟩ rfl) u, d⟩
end Go.Proofs.Ytdaijapdfleohaa
namespace Go.Proofs.Ytdaijapdfleohaa.fnExactJoinScales
open Go.ChangeShapes Go.WideShapes Go.ChangeAt Go.RowKit
set_option linter.unusedVariables false

theorem own : ownKnob Try.prog.godebug = none := by kernel_rfl
theorem laidOut : laidOutB Try.prog = true := by kernel_rfl

set_option maxRecDepth 100000 in
set_option maxHeartbeats 8000000 in
theorem walk (x0b x0r : List Int) (adb0 adr0 : Option Addr) (cb0 cr0 : Nat) (x1b x1r : List Int) (adb1 adr1 : Option Addr) (cb1 cr1 : Nat) (w : World) (i0 : InS w (.agg #[.slice adb0 x0b.length cb0, .slice adr0 x0r.length cr0]) x0b x0r) (i1 : InS w (.agg #[.slice adb1 x1b.length cb1, .slice adr1 x1r.length cr1]) x1b x1r) :
    Calls Try.prog 5 #[.agg #[.slice adb0 x0b.length cb0, .slice adr0 x0r.length cr0], .agg #[.slice adb1 x1b.length cb1, .slice adr1 x1r.length cr1]] w fun e w' => e = .returned (.bool true) ∧ Below w.heap.size w w' := by
  go_enter Try.func5, Try.ntmps5
  have bA : Below w.heap.size w ((w.alloc (.cells #[.slice adb0 x0b.length cb0, .slice adr0 x0r.length cr0] 24)).alloc (.cells #[.slice adb1 x1b.length cb1, .slice adr1 x1r.length cr1] 24)) := Below.alloc (Below.alloc (Below.refl _ _) (Nat.le_refl _) _) (by simp) _
  have KB0_0 : Hid (((w.alloc (.cells #[.slice adb0 x0b.length cb0, .slice adr0 x0r.length cr0] 24)).alloc (.cells #[.slice adb1 x1b.length cb1, .slice adr1 x1r.length cr1] 24)).cell? ⟨w.heap.size, 0, none⟩ = some (.slice adb0 x0b.length cb0)) := by show ((w.alloc (.cells #[.slice adb0 x0b.length cb0, .slice adr0 x0r.length cr0] 24)).alloc (.cells #[.slice adb1 x1b.length cb1, .slice adr1 x1r.length cr1] 24)).cell? _ = _; simp [go_sem]
  have KB0_1 : Hid (((w.alloc (.cells #[.slice adb0 x0b.length cb0, .slice adr0 x0r.length cr0] 24)).alloc (.cells #[.slice adb1 x1b.length cb1, .slice adr1 x1r.length cr1] 24)).cell? ⟨w.heap.size, 1, none⟩ = some (.slice adr0 x0r.length cr0)) := by show ((w.alloc (.cells #[.slice adb0 x0b.length cb0, .slice adr0 x0r.length cr0] 24)).alloc (.cells #[.slice adb1 x1b.length cb1, .slice adr1 x1r.length cr1] 24)).cell? _ = _; simp [go_sem]
  have KB1_0 : Hid (((w.alloc (.cells #[.slice adb0 x0b.length cb0, .slice adr0 x0r.length cr0] 24)).alloc (.cells #[.slice adb1 x1b.length cb1, .slice adr1 x1r.length cr1] 24)).cell? ⟨w.heap.size + 1, 0, none⟩ = some (.slice adb1 x1b.length cb1)) := by show ((w.alloc (.cells #[.slice adb0 x0b.length cb0, .slice adr0 x0r.length cr0] 24)).alloc (.cells #[.slice adb1 x1b.length cb1, .slice adr1 x1r.length cr1] 24)).cell? _ = _; simp [go_sem]
  have KB1_1 : Hid (((w.alloc (.cells #[.slice adb0 x0b.length cb0, .slice adr0 x0r.length cr0] 24)).alloc (.cells #[.slice adb1 x1b.length cb1, .slice adr1 x1r.length cr1] 24)).cell? ⟨w.heap.size + 1, 1, none⟩ = some (.slice adr1 x1r.length cr1)) := by show ((w.alloc (.cells #[.slice adb0 x0b.length cb0, .slice adr0 x0r.length cr0] 24)).alloc (.cells #[.slice adb1 x1b.length cb1, .slice adr1 x1r.length cr1] 24)).cell? _ = _; simp [go_sem]
  have j0 := i0.below bA
  have j1 := i1.below bA
  rcases Int.lt_or_le (1048576) ((x0b.length : Int) + x0r.length) with hs0 | hs0
  · go_wp2_with fail
    refine (sz_s_no j0 hs0 (by omega)).mono ?_
    rintro e wz ⟨rfl, bz⟩
    go_wp2_with fail
    go_ret
    exact ⟨rfl, bnext bA (bz)⟩
  go_wp2_with fail
  refine (sz_s_yes j0 hs0 (by omega)).mono ?_
  rintro e w1 ⟨rfl, b1⟩
  have C1 := b1
  have kb0_0 := Below.cellOf C1 rfl KB0_0.out
  have kb0_1 := Below.cellOf C1 rfl KB0_1.out
  have kb1_0 := Below.cellOf C1 rfl KB1_0.out
  have kb1_1 := Below.cellOf C1 rfl KB1_1.out
  rcases Int.lt_or_le (1048576 - ((x0b.length : Int) + x0r.length)) ((x1b.length : Int) + x1r.length) with hs1 | hs1
  · go_wp2_with fail
    refine (sz_s_no (j1.below C1) hs1 (by omega)).mono ?_
    rintro e wz ⟨rfl, bz⟩
    go_wp2_with fail
    go_ret
    exact ⟨rfl, bnext bA (bnext C1 bz)⟩
  go_wp2_with fail
  refine (sz_s_yes (j1.below C1) hs1 (by omega)).mono ?_
  rintro e w2 ⟨rfl, b2⟩
  have C2 := bnext C1 b2
  have kb0_0 := Below.cellOf C2 rfl KB0_0.out
  have kb0_1 := Below.cellOf C2 rfl KB0_1.out
  have kb1_0 := Below.cellOf C2 rfl KB1_0.out
  have kb1_1 := Below.cellOf C2 rfl KB1_1.out
  go_wp2_with fail
  go_upto_region 8 with fail
  go_cut [6, 7] (fun sa sb wx => ∃ (H : Nat) (ab ar : Option Addr) (cb cr : Nat), sa = .pointer (some ⟨H, 0, none⟩) ∧ sb = .bool (JoinScales_r2 x0b x0r x1b x1r) ∧ wx.cell? ⟨H, 0, none⟩ = some (.slice ab (JoinScales_r0 x0b x0r x1b x1r).length cb) ∧ wx.cell? ⟨H, 1, none⟩ = some (.slice ar (JoinScales_r1 x0b x0r x1b x1r).length cr) ∧ w2.heap.size ≤ H ∧ OwnS 2 wx w2.heap.size (.agg #[.slice ab (JoinScales_r0 x0b x0r x1b x1r).length cb, .slice ar (JoinScales_r1 x0b x0r x1b x1r).length cr]) (JoinScales_r0 x0b x0r x1b x1r) (JoinScales_r1 x0b x0r x1b x1r) ∧ ((JoinScales_r0 x0b x0r x1b x1r).length < 1000000000 ∧ (JoinScales_r1 x0b x0r x1b x1r).length < 1000000000) ∧ Below w2.heap.size w2 wx)
  case first =>
    have bd : Below w2.heap.size w2 (w2.drew) := (Below.refl _ _).drew
    have bB : Below w2.heap.size w2 ((w2.alloc (.cells #[.slice none 0 0, .slice none 0 0] 29)).drew) := ((Below.refl _ _).alloc (Nat.le_refl _) _).drew
    have Cd := bnext C2 bd
    have hww : w.heap.size + 1 < w2.heap.size := Nat.lt_of_lt_of_le (by simp) C2.size
    have kb0_0 := Below.cellOf Cd rfl KB0_0.out; have kb0_1 := Below.cellOf Cd rfl KB0_1.out; have kb1_0 := Below.cellOf Cd rfl KB1_0.out; have kb1_1 := Below.cellOf Cd rfl KB1_1.out
    have q1 := to_s (j0.below Cd) (by omega)
    have q1B := to_s (j0.below (bnext C2 bB)) (by omega)
    go_region_held3 (fun w' => w'.cell? ⟨w.heap.size, 0, none⟩ = some (.slice adb0 x0b.length cb0) ∧ w'.cell? ⟨w.heap.size, 1, none⟩ = some (.slice adr0 x0r.length cr0) ∧ w'.cell? ⟨w.heap.size + 1, 0, none⟩ = some (.slice adb1 x1b.length cb1) ∧ w'.cell? ⟨w.heap.size + 1, 1, none⟩ = some (.slice adr1 x1r.length cr1))
      (first | (exact ⟨kb0_0, kb0_1, kb1_0, kb1_1⟩) | (exact ⟨Below.cellOf ((Below.refl _ _).alloc (Nat.le_refl _) _) rfl kb0_0, Below.cellOf ((Below.refl _ _).alloc (Nat.le_refl _) _) rfl kb0_1, Below.cellOf ((Below.refl _ _).alloc (Nat.le_refl _) _) rfl kb1_0, Below.cellOf ((Below.refl _ _).alloc (Nat.le_refl _) _) rfl kb1_1⟩) | (have hs3 := S3.size; have hs4 := S4.size; have hs5 := S5.size; have hs34 := b4.size; have hs45 := b5.size; refine ⟨?_, ?_, ?_, ?_⟩ <;> (refine (World.cell?_setCell_other _ _ _ _ (by intro e; injection e with e1 e2; omega)).trans ((World.cell?_setCell_other _ _ _ _ (by intro e; injection e with e1 e2; omega)).trans ?_); first | assumption | (exact Below.cellOf ((Below.refl _ _).alloc (Nat.le_refl _) _) rfl (by assumption)))) | go_keep)
      ((first | (go_at_call 8; (with_reducible refine (q1).mono ?_); rintro e w3 ⟨v_ta, rfl, o_ta, b3⟩; have S3 : Below w2.heap.size w2 w3 := bd.trans (b3.mono bd.size); have C3 := bnext C2 S3; have kb0_0 := Below.cellOf C3 rfl KB0_0.out; have kb0_1 := Below.cellOf C3 rfl KB0_1.out; have kb1_0 := Below.cellOf C3 rfl KB1_0.out; have kb1_1 := Below.cellOf C3 rfl KB1_1.out) | (go_at_call 8; (with_reducible refine (q1B).mono ?_); rintro e w3 ⟨v_ta, rfl, o_ta, b3⟩; have S3 : Below w2.heap.size w2 w3 := bB.trans (b3.mono bB.size); have C3 := bnext C2 S3; have kb0_0 := Below.cellOf C3 rfl KB0_0.out; have kb0_1 := Below.cellOf C3 rfl KB0_1.out; have kb1_0 := Below.cellOf C3 rfl KB1_0.out; have kb1_1 := Below.cellOf C3 rfl KB1_1.out; have z0 := Below.cellOf b3 rfl (show ((w2.alloc (.cells #[.slice none 0 0, .slice none 0 0] 29)).drew).cell? ⟨w2.heap.size, 0, none⟩ = some (.slice none 0 0) by simp [go_sem]); have z1 := Below.cellOf b3 rfl (show ((w2.alloc (.cells #[.slice none 0 0, .slice none 0 0] 29)).drew).cell? ⟨w2.heap.size, 1, none⟩ = some (.slice none 0 0) by simp [go_sem]); have zf0 := (b3.frozen (p := ⟨w2.heap.size, 0, none⟩) (by simp)).trans (show ((w2.alloc (.cells #[.slice none 0 0, .slice none 0 0] 29)).drew).frozen? ⟨w2.heap.size, 0, none⟩ = false by simp [go_sem]); have zf1 := (b3.frozen (p := ⟨w2.heap.size, 1, none⟩) (by simp)).trans (show ((w2.alloc (.cells #[.slice none 0 0, .slice none 0 0] 29)).drew).frozen? ⟨w2.heap.size, 1, none⟩ = false by simp [go_sem]); have zH := Nat.lt_of_lt_of_le (show w2.heap.size < ((w2.alloc (.cells #[.slice none 0 0, .slice none 0 0] 29)).drew).heap.size by simp) b3.size) | (go_at_call 8; (with_reducible refine (to_s (j1.below C3) (by omega)).mono ?_); rintro e w4 ⟨v_tb, rfl, o_tb, b4⟩; have S4 : Below w2.heap.size w2 w4 := S3.trans (b4.mono S3.size); have C4 := bnext C2 S4; replace o_ta := o_ta.below b4; have kb0_0 := Below.cellOf C4 rfl KB0_0.out; have kb0_1 := Below.cellOf C4 rfl KB0_1.out; have kb1_0 := Below.cellOf C4 rfl KB1_0.out; have kb1_1 := Below.cellOf C4 rfl KB1_1.out; (try (have zl := World.block_lt_of_cell? _ _ z0; replace zf0 := (b4.frozen (p := ⟨_, 0, none⟩) zl).trans zf0; replace zf1 := (b4.frozen (p := ⟨_, 1, none⟩) zl).trans zf1; replace z0 := Below.cellOf b4 rfl z0; replace z1 := Below.cellOf b4 rfl z1; clear zl))) | (have a3 : Below w3.heap.size w3 (w3.alloc (.cells #[.slice none 0 0, .slice none 0 0] 29)) := (Below.refl _ _).alloc (Nat.le_refl _) _; have S3a : Below w2.heap.size w2 (w3.alloc (.cells #[.slice none 0 0, .slice none 0 0] 29)) := S3.trans (a3.mono S3.size); go_at_call 8; (with_reducible refine (to_s (j1.below (bnext C2 S3a)) (by omega)).mono ?_); rintro e w4 ⟨v_tb, rfl, o_tb, b4⟩; have S4 : Below w2.heap.size w2 w4 := S3a.trans (b4.mono S3a.size); have C4 := bnext C2 S4; replace o_ta := (o_ta.below a3).below b4; have kb0_0 := Below.cellOf C4 rfl KB0_0.out; have kb0_1 := Below.cellOf C4 rfl KB0_1.out; have kb1_0 := Below.cellOf C4 rfl KB1_0.out; have kb1_1 := Below.cellOf C4 rfl KB1_1.out; have z0 := Below.cellOf b4 rfl (show (w3.alloc (.cells #[.slice none 0 0, .slice none 0 0] 29)).cell? ⟨w3.heap.size, 0, none⟩ = some (.slice none 0 0) by simp [go_sem]); have z1 := Below.cellOf b4 rfl (show (w3.alloc (.cells #[.slice none 0 0, .slice none 0 0] 29)).cell? ⟨w3.heap.size, 1, none⟩ = some (.slice none 0 0) by simp [go_sem]); have zf0 := (b4.frozen (p := ⟨w3.heap.size, 0, none⟩) (by simp)).trans (show (w3.alloc (.cells #[.slice none 0 0, .slice none 0 0] 29)).frozen? ⟨w3.heap.size, 0, none⟩ = false by simp [go_sem]); have zf1 := (b4.frozen (p := ⟨w3.heap.size, 1, none⟩) (by simp)).trans (show (w3.alloc (.cells #[.slice none 0 0, .slice none 0 0] 29)).frozen? ⟨w3.heap.size, 1, none⟩ = false by simp [go_sem]); have zH := Nat.lt_of_lt_of_le (show w3.heap.size < (w3.alloc (.cells #[.slice none 0 0, .slice none 0 0] 29)).heap.size by simp) b4.size) | (go_at_call 21; (with_reducible refine (JoinScales_spec o_ta o_tb).mono ?_); rintro e w5 ⟨v_v, rfl, o_v, ln_v, b5⟩; have S5 : Below w2.heap.size w2 w5 := S4.trans (b5.mono S4.size); have C5 := bnext C2 S5; have kb0_0 := Below.cellOf C5 rfl KB0_0.out; have kb0_1 := Below.cellOf C5 rfl KB0_1.out; have kb1_0 := Below.cellOf C5 rfl KB1_0.out; have kb1_1 := Below.cellOf C5 rfl KB1_1.out; (try (have zl := World.block_lt_of_cell? _ _ z0; replace zf0 := (b5.frozen (p := ⟨_, 0, none⟩) zl).trans zf0; replace zf1 := (b5.frozen (p := ⟨_, 1, none⟩) zl).trans zf1; replace z0 := Below.cellOf b5 rfl z0; replace z1 := Below.cellOf b5 rfl z1; clear zl)); obtain ⟨pb_v, pr_v, hv_v, hx_v, hy_v, hz_v⟩ := id o_v; obtain ⟨ab_v, cb_v, rfl, hh_v⟩ := hx_v.shape; obtain ⟨ar_v, cr_v, rfl, hi_v⟩ := hy_v.shape; subst hv_v; clear hh_v hi_v hx_v hy_v hz_v) | (have a4 : Below w4.heap.size w4 (w4.alloc (.cells #[.slice none 0 0, .slice none 0 0] 29)) := (Below.refl _ _).alloc (Nat.le_refl _) _; have S4a : Below w2.heap.size w2 (w4.alloc (.cells #[.slice none 0 0, .slice none 0 0] 29)) := S4.trans (a4.mono S4.size); go_at_call 21; (with_reducible refine (JoinScales_spec (o_ta.below a4) (o_tb.below a4)).mono ?_); rintro e w5 ⟨v_v, rfl, o_v, ln_v, b5⟩; have S5 : Below w2.heap.size w2 w5 := S4a.trans (b5.mono S4a.size); have C5 := bnext C2 S5; have kb0_0 := Below.cellOf C5 rfl KB0_0.out; have kb0_1 := Below.cellOf C5 rfl KB0_1.out; have kb1_0 := Below.cellOf C5 rfl KB1_0.out; have kb1_1 := Below.cellOf C5 rfl KB1_1.out; have z0 := Below.cellOf b5 rfl (show (w4.alloc (.cells #[.slice none 0 0, .slice none 0 0] 29)).cell? ⟨w4.heap.size, 0, none⟩ = some (.slice none 0 0) by simp [go_sem]); have z1 := Below.cellOf b5 rfl (show (w4.alloc (.cells #[.slice none 0 0, .slice none 0 0] 29)).cell? ⟨w4.heap.size, 1, none⟩ = some (.slice none 0 0) by simp [go_sem]); have zf0 := (b5.frozen (p := ⟨w4.heap.size, 0, none⟩) (by simp)).trans (show (w4.alloc (.cells #[.slice none 0 0, .slice none 0 0] 29)).frozen? ⟨w4.heap.size, 0, none⟩ = false by simp [go_sem]); have zf1 := (b5.frozen (p := ⟨w4.heap.size, 1, none⟩) (by simp)).trans (show (w4.alloc (.cells #[.slice none 0 0, .slice none 0 0] 29)).frozen? ⟨w4.heap.size, 1, none⟩ = false by simp [go_sem]); have zH := Nat.lt_of_lt_of_le (show w4.heap.size < (w4.alloc (.cells #[.slice none 0 0, .slice none 0 0] 29)).heap.size by simp) b5.size; obtain ⟨pb_v, pr_v, hv_v, hx_v, hy_v, hz_v⟩ := id o_v; obtain ⟨ab_v, cb_v, rfl, hh_v⟩ := hx_v.shape; obtain ⟨ar_v, cr_v, rfl, hi_v⟩ := hy_v.shape; subst hv_v; clear hh_v hi_v hx_v hy_v hz_v)))
    all_goals
      go_wp2_with fail
      go_meet
      have lt5 := o_v.lt
      have hs3 := S3.size
      have hs4 := S4.size
      have hs5 := S5.size
      have hs34 := b4.size
      have hs45 := b5.size
      have hm : ∀ {W : World} {B : Nat}, OwnS 2 W B _ _ _ → w2.heap.size ≤ B → OwnS 2 W w2.heap.size (.agg #[.slice ab_v (JoinScales_r0 x0b x0r x1b x1r).length cb_v, .slice ar_v (JoinScales_r1 x0b x0r x1b x1r).length cr_v]) (JoinScales_r0 x0b x0r x1b x1r) (JoinScales_r1 x0b x0r x1b x1r) := fun o h => by
        obtain ⟨vb, vr, e, x, y, d⟩ := o
        exact ⟨vb, vr, e, x.mono h, y.mono h, d⟩
      first
        | exact ⟨w5.heap.size, ab_v, ar_v, cb_v, cr_v, rfl, rfl, by simp [go_sem], by simp [go_sem], by omega, hm (o_v.below ((Below.refl _ _).alloc (Nat.le_refl _) _)) (by omega), ln_v, S5.alloc S5.size _⟩
        | exact ⟨_, ab_v, ar_v, cb_v, cr_v, rfl, rfl, by rw [World.cell?_setCell_other _ _ _ _ (by intro e; cases e), World.cell?_setCell_same _ _ _ z0], by rw [World.cell?_setCell_same _ _ _ (by rw [World.cell?_setCell_other _ _ _ _ (by intro e; cases e)]; exact z1)], by omega, hm ((o_v.keepAt _ (fun k hk => by have := (lt5 k hk).1; show k ≠ w2.heap.size; intro hke; subst hke; omega) _).keepAt _ (fun k hk => by have := (lt5 k hk).1; show k ≠ w2.heap.size; intro hke; subst hke; omega) _) (by first | omega | (simp; omega)), ln_v, (S5.setCell (Nat.le_refl _) _).setCell (Nat.le_refl _) _⟩
        | exact ⟨_, ab_v, ar_v, cb_v, cr_v, rfl, rfl, by rw [World.cell?_setCell_other _ _ _ _ (by intro e; cases e), World.cell?_setCell_same _ _ _ z0], by rw [World.cell?_setCell_same _ _ _ (by rw [World.cell?_setCell_other _ _ _ _ (by intro e; cases e)]; exact z1)], by omega, hm ((o_v.keepAt _ (fun k hk => by have := (lt5 k hk).1; show k ≠ w3.heap.size; intro hke; subst hke; omega) _).keepAt _ (fun k hk => by have := (lt5 k hk).1; show k ≠ w3.heap.size; intro hke; subst hke; omega) _) (by first | omega | (simp; omega)), ln_v, (S5.setCell (hs3) _).setCell (hs3) _⟩
        | exact ⟨_, ab_v, ar_v, cb_v, cr_v, rfl, rfl, by rw [World.cell?_setCell_other _ _ _ _ (by intro e; cases e), World.cell?_setCell_same _ _ _ z0], by rw [World.cell?_setCell_same _ _ _ (by rw [World.cell?_setCell_other _ _ _ _ (by intro e; cases e)]; exact z1)], by omega, hm ((o_v.keepAt _ (fun k hk => by have := (lt5 k hk).1; simp at this; show k ≠ w4.heap.size; omega) _).keepAt _ (fun k hk => by have := (lt5 k hk).1; simp at this; show k ≠ w4.heap.size; omega) _) (by first | omega | (simp; omega)), ln_v, (S5.setCell (hs4) _).setCell (hs4) _⟩
  obtain ⟨H_w0, ab_w0, ar_w0, cb_w0, cr_w0, rfl, rfl, kx_w0_0, kx_w0_1, hlo_w0, o_w0, ln_w0, b5⟩ := hcut
  rename World => w5
  have C5 := bnext C2 b5
  have kb0_0 := Below.cellOf C5 rfl KB0_0.out
  have kb0_1 := Below.cellOf C5 rfl KB0_1.out
  have kb1_0 := Below.cellOf C5 rfl KB1_0.out
  have kb1_1 := Below.cellOf C5 rfl KB1_1.out
  have lt_w0 := Lib.hid o_w0.lt
  have hhi_w0 := World.block_lt_of_cell? _ _ kx_w0_0
  go_wp2_with fail
  refine (to_s (j0.below C5) (by omega)).mono ?_
  rintro e w6 ⟨v_t1, rfl, o_t1, b6⟩
  have C6 := bnext C5 b6
  replace o_w0 := o_w0.below b6
  have kb0_0 := Below.cellOf C6 rfl KB0_0.out
  have kb0_1 := Below.cellOf C6 rfl KB0_1.out
  have kb1_0 := Below.cellOf C6 rfl KB1_0.out
  have kb1_1 := Below.cellOf C6 rfl KB1_1.out
  replace kx_w0_0 := Below.cellOf b6 rfl kx_w0_0
  replace kx_w0_1 := Below.cellOf b6 rfl kx_w0_1
  have lt_t1 := Lib.hid o_t1.lt
  obtain ⟨sb_x0, cb_x0, sr_x0, cr_x0, rfl⟩ := o_t1.shape
  have b7 : Below w6.heap.size w6 (w6.alloc (.cells #[.slice (some ⟨sb_x0, 0, none⟩) x0b.length cb_x0, .slice (some ⟨sr_x0, 0, none⟩) x0r.length cr_x0] 29)) := by go_grown
  have C7 := bnext C6 b7
  replace o_w0 := o_w0.below b7
  replace o_t1 := o_t1.below b7
  have kb0_0 := Below.cellOf C7 rfl KB0_0.out
  have kb0_1 := Below.cellOf C7 rfl KB0_1.out
  have kb1_0 := Below.cellOf C7 rfl KB1_0.out
  have kb1_1 := Below.cellOf C7 rfl KB1_1.out
  replace kx_w0_0 := Below.cellOf b7 rfl kx_w0_0
  replace kx_w0_1 := Below.cellOf b7 rfl kx_w0_1
  have kx_x0_0 : (w6.alloc (.cells #[.slice (some ⟨sb_x0, 0, none⟩) x0b.length cb_x0, .slice (some ⟨sr_x0, 0, none⟩) x0r.length cr_x0] 29)).cell? ⟨w6.heap.size, 0, none⟩ = some (.slice (some ⟨sb_x0, 0, none⟩) x0b.length cb_x0) := by simp [go_sem]
  have kx_x0_1 : (w6.alloc (.cells #[.slice (some ⟨sb_x0, 0, none⟩) x0b.length cb_x0, .slice (some ⟨sr_x0, 0, none⟩) x0r.length cr_x0] 29)).cell? ⟨w6.heap.size, 1, none⟩ = some (.slice (some ⟨sr_x0, 0, none⟩) x0r.length cr_x0) := by simp [go_sem]
  go_wp2_with fail
  refine (to_s (j1.below C7) (by omega)).mono ?_
  rintro e w8 ⟨v_t2, rfl, o_t2, b8⟩
  have C8 := bnext C7 b8
  replace o_w0 := o_w0.below b8
  replace o_t1 := o_t1.below b8
  have kb0_0 := Below.cellOf C8 rfl KB0_0.out
  have kb0_1 := Below.cellOf C8 rfl KB0_1.out
  have kb1_0 := Below.cellOf C8 rfl KB1_0.out
  have kb1_1 := Below.cellOf C8 rfl KB1_1.out
  replace kx_w0_0 := Below.cellOf b8 rfl kx_w0_0
  replace kx_w0_1 := Below.cellOf b8 rfl kx_w0_1
  replace kx_x0_0 := Below.cellOf b8 rfl kx_x0_0
  replace kx_x0_1 := Below.cellOf b8 rfl kx_x0_1
  have lt_t2 := Lib.hid o_t2.lt
  obtain ⟨sb_x1, cb_x1, sr_x1, cr_x1, rfl⟩ := o_t2.shape
  have b9 : Below w8.heap.size w8 (w8.alloc (.cells #[.slice (some ⟨sb_x1, 0, none⟩) x1b.length cb_x1, .slice (some ⟨sr_x1, 0, none⟩) x1r.length cr_x1] 29)) := by go_grown
  have C9 := bnext C8 b9
  replace o_w0 := o_w0.below b9
  replace o_t1 := o_t1.below b9
  replace o_t2 := o_t2.below b9
  have kb0_0 := Below.cellOf C9 rfl KB0_0.out
  have kb0_1 := Below.cellOf C9 rfl KB0_1.out
  have kb1_0 := Below.cellOf C9 rfl KB1_0.out
  have kb1_1 := Below.cellOf C9 rfl KB1_1.out
  replace kx_w0_0 := Below.cellOf b9 rfl kx_w0_0
  replace kx_w0_1 := Below.cellOf b9 rfl kx_w0_1
  replace kx_x0_0 := Below.cellOf b9 rfl kx_x0_0
  replace kx_x0_1 := Below.cellOf b9 rfl kx_x0_1
  have kx_x1_0 : (w8.alloc (.cells #[.slice (some ⟨sb_x1, 0, none⟩) x1b.length cb_x1, .slice (some ⟨sr_x1, 0, none⟩) x1r.length cr_x1] 29)).cell? ⟨w8.heap.size, 0, none⟩ = some (.slice (some ⟨sb_x1, 0, none⟩) x1b.length cb_x1) := by simp [go_sem]
  have kx_x1_1 : (w8.alloc (.cells #[.slice (some ⟨sb_x1, 0, none⟩) x1b.length cb_x1, .slice (some ⟨sr_x1, 0, none⟩) x1r.length cr_x1] 29)).cell? ⟨w8.heap.size, 1, none⟩ = some (.slice (some ⟨sr_x1, 0, none⟩) x1r.length cr_x1) := by simp [go_sem]
  go_wp2_with fail
  refine (JoinScales_impl o_t1 o_t2).mono ?_
  rintro e w10 ⟨v_g0, rfl, o_g0, ln_g0, b10⟩
  have C10 := bnext C9 b10
  replace o_w0 := o_w0.below b10
  replace o_t1 := o_t1.below b10
  replace o_t2 := o_t2.below b10
  have kb0_0 := Below.cellOf C10 rfl KB0_0.out
  have kb0_1 := Below.cellOf C10 rfl KB0_1.out
  have kb1_0 := Below.cellOf C10 rfl KB1_0.out
  have kb1_1 := Below.cellOf C10 rfl KB1_1.out
  replace kx_w0_0 := Below.cellOf b10 rfl kx_w0_0
  replace kx_w0_1 := Below.cellOf b10 rfl kx_w0_1
  replace kx_x0_0 := Below.cellOf b10 rfl kx_x0_0
  replace kx_x0_1 := Below.cellOf b10 rfl kx_x0_1
  replace kx_x1_0 := Below.cellOf b10 rfl kx_x1_0
  replace kx_x1_1 := Below.cellOf b10 rfl kx_x1_1
  have lt_g0 := Lib.hid o_g0.lt
  obtain ⟨pb_g0, pr_g0, hv_g0, hx_g0, hy_g0, hz_g0⟩ := id o_g0
  obtain ⟨ab_g0, cb_g0, rfl, hh_g0⟩ := hx_g0.shape
  obtain ⟨ar_g0, cr_g0, rfl, hi_g0⟩ := hy_g0.shape
  subst hv_g0
  clear hh_g0 hi_g0 hx_g0 hy_g0 hz_g0
  have b11 : Below w10.heap.size w10 (w10.alloc (.cells #[.slice ab_g0 (JoinScales_r0 x0b x0r x1b x1r).length cb_g0, .slice ar_g0 (JoinScales_r1 x0b x0r x1b x1r).length cr_g0] 29)) := by go_grown
  have C11 := bnext C10 b11
  replace o_w0 := o_w0.below b11
  replace o_t1 := o_t1.below b11
  replace o_t2 := o_t2.below b11
  replace o_g0 := o_g0.below b11
  have kb0_0 := Below.cellOf C11 rfl KB0_0.out
  have kb0_1 := Below.cellOf C11 rfl KB0_1.out
  have kb1_0 := Below.cellOf C11 rfl KB1_0.out
  have kb1_1 := Below.cellOf C11 rfl KB1_1.out
  replace kx_w0_0 := Below.cellOf b11 rfl kx_w0_0
  replace kx_w0_1 := Below.cellOf b11 rfl kx_w0_1
  replace kx_x0_0 := Below.cellOf b11 rfl kx_x0_0
  replace kx_x0_1 := Below.cellOf b11 rfl kx_x0_1
  replace kx_x1_0 := Below.cellOf b11 rfl kx_x1_0
  replace kx_x1_1 := Below.cellOf b11 rfl kx_x1_1
  have kx_g0_0 : (w10.alloc (.cells #[.slice ab_g0 (JoinScales_r0 x0b x0r x1b x1r).length cb_g0, .slice ar_g0 (JoinScales_r1 x0b x0r x1b x1r).length cr_g0] 29)).cell? ⟨w10.heap.size, 0, none⟩ = some (.slice ab_g0 (JoinScales_r0 x0b x0r x1b x1r).length cb_g0) := by simp [go_sem]
  have kx_g0_1 : (w10.alloc (.cells #[.slice ab_g0 (JoinScales_r0 x0b x0r x1b x1r).length cb_g0, .slice ar_g0 (JoinScales_r1 x0b x0r x1b x1r).length cr_g0] 29)).cell? ⟨w10.heap.size, 1, none⟩ = some (.slice ar_g0 (JoinScales_r1 x0b x0r x1b x1r).length cr_g0) := by simp [go_sem]
  go_wp2_with fail
  refine (eq_s o_g0 o_w0 (by omega)).mono ?_
  rintro e w12 ⟨rfl, b12⟩
  have C12 := bnext C11 b12
  replace o_w0 := o_w0.below b12
  replace o_t1 := o_t1.below b12
  replace o_t2 := o_t2.below b12
  replace o_g0 := o_g0.below b12
  have kb0_0 := Below.cellOf C12 rfl KB0_0.out
  have kb0_1 := Below.cellOf C12 rfl KB0_1.out
  have kb1_0 := Below.cellOf C12 rfl KB1_0.out
  have kb1_1 := Below.cellOf C12 rfl KB1_1.out
  replace kx_w0_0 := Below.cellOf b12 rfl kx_w0_0
  replace kx_w0_1 := Below.cellOf b12 rfl kx_w0_1
  replace kx_x0_0 := Below.cellOf b12 rfl kx_x0_0
  replace kx_x0_1 := Below.cellOf b12 rfl kx_x0_1
  replace kx_x1_0 := Below.cellOf b12 rfl kx_x1_0
  replace kx_x1_1 := Below.cellOf b12 rfl kx_x1_1
  replace kx_g0_0 := Below.cellOf b12 rfl kx_g0_0
  replace kx_g0_1 := Below.cellOf b12 rfl kx_g0_1
  go_wp2_with fail
  have b13 : Below w12.heap.size w12 (w12.drew) := (Below.refl _ _).drew
  have C13 := bnext C12 b13
  replace o_w0 := o_w0.below b13
  replace o_t1 := o_t1.below b13
  replace o_t2 := o_t2.below b13
  replace o_g0 := o_g0.below b13
  have kb0_0 := Below.cellOf C13 rfl KB0_0.out
  have kb0_1 := Below.cellOf C13 rfl KB0_1.out
  have kb1_0 := Below.cellOf C13 rfl KB1_0.out
  have kb1_1 := Below.cellOf C13 rfl KB1_1.out
  replace kx_w0_0 := Below.cellOf b13 rfl kx_w0_0
  replace kx_w0_1 := Below.cellOf b13 rfl kx_w0_1
  replace kx_x0_0 := Below.cellOf b13 rfl kx_x0_0
  replace kx_x0_1 := Below.cellOf b13 rfl kx_x0_1
  replace kx_x1_0 := Below.cellOf b13 rfl kx_x1_0
  replace kx_x1_1 := Below.cellOf b13 rfl kx_x1_1
  replace kx_g0_0 := Below.cellOf b13 rfl kx_g0_0
  replace kx_g0_1 := Below.cellOf b13 rfl kx_g0_1
  go_region_held3 (fun w' => w'.cell? ⟨w6.heap.size, 0, none⟩ = some (.slice (some ⟨sb_x0, 0, none⟩) x0b.length cb_x0) ∧ w'.cell? ⟨w6.heap.size, 1, none⟩ = some (.slice (some ⟨sr_x0, 0, none⟩) x0r.length cr_x0) ∧ w'.cell? ⟨w.heap.size, 0, none⟩ = some (.slice adb0 x0b.length cb0) ∧ w'.cell? ⟨w.heap.size, 1, none⟩ = some (.slice adr0 x0r.length cr0))
    (exact ⟨kx_x0_0, kx_x0_1, kb0_0, kb0_1⟩)
    ((first | (go_at_call 8; refine (to_s (j0.below C13) (by omega)).mono ?_; rintro e w14 ⟨v_t3, rfl, o_t3, b14⟩; have C14 := bnext C13 b14; replace o_w0 := o_w0.below b14; replace o_t1 := o_t1.below b14; replace o_t2 := o_t2.below b14; replace o_g0 := o_g0.below b14; have kb0_0 := Below.cellOf C14 rfl KB0_0.out; have kb0_1 := Below.cellOf C14 rfl KB0_1.out; have kb1_0 := Below.cellOf C14 rfl KB1_0.out; have kb1_1 := Below.cellOf C14 rfl KB1_1.out; replace kx_w0_0 := Below.cellOf b14 rfl kx_w0_0; replace kx_w0_1 := Below.cellOf b14 rfl kx_w0_1; replace kx_x0_0 := Below.cellOf b14 rfl kx_x0_0; replace kx_x0_1 := Below.cellOf b14 rfl kx_x0_1; replace kx_x1_0 := Below.cellOf b14 rfl kx_x1_0; replace kx_x1_1 := Below.cellOf b14 rfl kx_x1_1; replace kx_g0_0 := Below.cellOf b14 rfl kx_g0_0; replace kx_g0_1 := Below.cellOf b14 rfl kx_g0_1; have lt_t3 := Lib.hid o_t3.lt) | (go_at_call 12; refine (eq_s o_t1.own o_t3.own (by omega)).mono ?_; rintro e w15 ⟨rfl, b15⟩; have C15 := bnext C14 b15; replace o_w0 := o_w0.below b15; replace o_t1 := o_t1.below b15; replace o_t2 := o_t2.below b15; replace o_g0 := o_g0.below b15; replace o_t3 := o_t3.below b15; have kb0_0 := Below.cellOf C15 rfl KB0_0.out; have kb0_1 := Below.cellOf C15 rfl KB0_1.out; have kb1_0 := Below.cellOf C15 rfl KB1_0.out; have kb1_1 := Below.cellOf C15 rfl KB1_1.out; replace kx_w0_0 := Below.cellOf b15 rfl kx_w0_0; replace kx_w0_1 := Below.cellOf b15 rfl kx_w0_1; replace kx_x0_0 := Below.cellOf b15 rfl kx_x0_0; replace kx_x0_1 := Below.cellOf b15 rfl kx_x0_1; replace kx_x1_0 := Below.cellOf b15 rfl kx_x1_0; replace kx_x1_1 := Below.cellOf b15 rfl kx_x1_1; replace kx_g0_0 := Below.cellOf b15 rfl kx_g0_0; replace kx_g0_1 := Below.cellOf b15 rfl kx_g0_1)))
  go_wp2_with fail
  have b16 : Below w15.heap.size w15 (w15.drew) := (Below.refl _ _).drew
  have C16 := bnext C15 b16
  replace o_w0 := o_w0.below b16
  replace o_t1 := o_t1.below b16
  replace o_t2 := o_t2.below b16
  replace o_g0 := o_g0.below b16
  have kb0_0 := Below.cellOf C16 rfl KB0_0.out
  have kb0_1 := Below.cellOf C16 rfl KB0_1.out
  have kb1_0 := Below.cellOf C16 rfl KB1_0.out
  have kb1_1 := Below.cellOf C16 rfl KB1_1.out
  replace kx_w0_0 := Below.cellOf b16 rfl kx_w0_0
  replace kx_w0_1 := Below.cellOf b16 rfl kx_w0_1
  replace kx_x0_0 := Below.cellOf b16 rfl kx_x0_0
  replace kx_x0_1 := Below.cellOf b16 rfl kx_x0_1
  replace kx_x1_0 := Below.cellOf b16 rfl kx_x1_0
  replace kx_x1_1 := Below.cellOf b16 rfl kx_x1_1
  replace kx_g0_0 := Below.cellOf b16 rfl kx_g0_0
  replace kx_g0_1 := Below.cellOf b16 rfl kx_g0_1
  go_region_held3 (fun w' => w'.cell? ⟨w8.heap.size, 0, none⟩ = some (.slice (some ⟨sb_x1, 0, none⟩) x1b.length cb_x1) ∧ w'.cell? ⟨w8.heap.size, 1, none⟩ = some (.slice (some ⟨sr_x1, 0, none⟩) x1r.length cr_x1) ∧ w'.cell? ⟨w.heap.size + 1, 0, none⟩ = some (.slice adb1 x1b.length cb1) ∧ w'.cell? ⟨w.heap.size + 1, 1, none⟩ = some (.slice adr1 x1r.length cr1))
    (exact ⟨kx_x1_0, kx_x1_1, kb1_0, kb1_1⟩)
    ((first | (go_at_call 8; refine (to_s (j1.below C16) (by omega)).mono ?_; rintro e w17 ⟨v_t4, rfl, o_t4, b17⟩; have C17 := bnext C16 b17; replace o_w0 := o_w0.below b17; replace o_t1 := o_t1.below b17; replace o_t2 := o_t2.below b17; replace o_g0 := o_g0.below b17; have kb0_0 := Below.cellOf C17 rfl KB0_0.out; have kb0_1 := Below.cellOf C17 rfl KB0_1.out; have kb1_0 := Below.cellOf C17 rfl KB1_0.out; have kb1_1 := Below.cellOf C17 rfl KB1_1.out; replace kx_w0_0 := Below.cellOf b17 rfl kx_w0_0; replace kx_w0_1 := Below.cellOf b17 rfl kx_w0_1; replace kx_x0_0 := Below.cellOf b17 rfl kx_x0_0; replace kx_x0_1 := Below.cellOf b17 rfl kx_x0_1; replace kx_x1_0 := Below.cellOf b17 rfl kx_x1_0; replace kx_x1_1 := Below.cellOf b17 rfl kx_x1_1; replace kx_g0_0 := Below.cellOf b17 rfl kx_g0_0; replace kx_g0_1 := Below.cellOf b17 rfl kx_g0_1; have lt_t4 := Lib.hid o_t4.lt) | (go_at_call 12; refine (eq_s o_t2.own o_t4.own (by omega)).mono ?_; rintro e w18 ⟨rfl, b18⟩; have C18 := bnext C17 b18; replace o_w0 := o_w0.below b18; replace o_t1 := o_t1.below b18; replace o_t2 := o_t2.below b18; replace o_g0 := o_g0.below b18; replace o_t4 := o_t4.below b18; have kb0_0 := Below.cellOf C18 rfl KB0_0.out; have kb0_1 := Below.cellOf C18 rfl KB0_1.out; have kb1_0 := Below.cellOf C18 rfl KB1_0.out; have kb1_1 := Below.cellOf C18 rfl KB1_1.out; replace kx_w0_0 := Below.cellOf b18 rfl kx_w0_0; replace kx_w0_1 := Below.cellOf b18 rfl kx_w0_1; replace kx_x0_0 := Below.cellOf b18 rfl kx_x0_0; replace kx_x0_1 := Below.cellOf b18 rfl kx_x0_1; replace kx_x1_0 := Below.cellOf b18 rfl kx_x1_0; replace kx_x1_1 := Below.cellOf b18 rfl kx_x1_1; replace kx_g0_0 := Below.cellOf b18 rfl kx_g0_0; replace kx_g0_1 := Below.cellOf b18 rfl kx_g0_1)))
  go_wp2_with fail
  refine (mark_s _ o_t1.own (by omega) (by omega) (by omega)).mono ?_
  rintro e w19 ⟨rfl, q_x0, n19⟩
  have m19 := n19 w5.heap.size w6.heap.size lt_t1.out
  have C19 := C18.trans (m19.toBelow C5.size C18.size)
  replace o_w0 := o_w0.only m19 (fun k hk => .inl (by have := (lt_w0.out k hk).2; omega))
  replace o_t2 := o_t2.only m19 (fun k hk => .inr (by have := (lt_t2.out k hk).1; have := b7.size; omega))
  replace o_g0 := o_g0.only m19 (fun k hk => .inr (by have := (lt_g0.out k hk).1; have := b7.size; have := b8.size; have := b9.size; omega))
  have kb0_0 := Below.cellOf C19 rfl KB0_0.out
  have kb0_1 := Below.cellOf C19 rfl KB0_1.out
  have kb1_0 := Below.cellOf C19 rfl KB1_0.out
  have kb1_1 := Below.cellOf C19 rfl KB1_1.out
  replace kx_w0_0 := Only.cellOf m19 (.inl (by have := hhi_w0; omega)) kx_w0_0
  replace kx_w0_1 := Only.cellOf m19 (.inl (by have := hhi_w0; omega)) kx_w0_1
  replace kx_x0_0 := Only.cellOf m19 (.inr (by omega)) kx_x0_0
  replace kx_x0_1 := Only.cellOf m19 (.inr (by omega)) kx_x0_1
  replace kx_x1_0 := Only.cellOf m19 (.inr (by have := b7.size; have := b8.size; omega)) kx_x1_0
  replace kx_x1_1 := Only.cellOf m19 (.inr (by have := b7.size; have := b8.size; omega)) kx_x1_1
  replace kx_g0_0 := Only.cellOf m19 (.inr (by have := b7.size; have := b8.size; have := b9.size; have := b10.size; omega)) kx_g0_0
  replace kx_g0_1 := Only.cellOf m19 (.inr (by have := b7.size; have := b8.size; have := b9.size; have := b10.size; omega)) kx_g0_1
  clear o_t1
  go_wp2_with fail
  refine (mark_s _ o_t2.own (by omega) (by omega) (by omega)).mono ?_
  rintro e w20 ⟨rfl, q_x1, n20⟩
  have m20 := n20 (w6.alloc (.cells #[.slice (some ⟨sb_x0, 0, none⟩) x0b.length cb_x0, .slice (some ⟨sr_x0, 0, none⟩) x0r.length cr_x0] 29)).heap.size w8.heap.size lt_t2.out
  have C20 := C19.trans (m20.toBelow C7.size C19.size)
  replace o_w0 := o_w0.only m20 (fun k hk => .inl (by have := (lt_w0.out k hk).2; have := b6.size; have := b7.size; omega))
  replace q_x0 := q_x0.only m20 (fun k hk => .inl (by have := (lt_t1.out k hk).2; have := b7.size; omega))
  replace o_g0 := o_g0.only m20 (fun k hk => .inr (by have := (lt_g0.out k hk).1; have := b9.size; omega))
  have kb0_0 := Below.cellOf C20 rfl KB0_0.out
  have kb0_1 := Below.cellOf C20 rfl KB0_1.out
  have kb1_0 := Below.cellOf C20 rfl KB1_0.out
  have kb1_1 := Below.cellOf C20 rfl KB1_1.out
  replace kx_w0_0 := Only.cellOf m20 (.inl (by have := hhi_w0; have := b6.size; have := b7.size; omega)) kx_w0_0
  replace kx_w0_1 := Only.cellOf m20 (.inl (by have := hhi_w0; have := b6.size; have := b7.size; omega)) kx_w0_1
  replace kx_x0_0 := Only.cellOf m20 (.inl (by have hz : (w6.alloc (.cells #[.slice (some ⟨sb_x0, 0, none⟩) x0b.length cb_x0, .slice (some ⟨sr_x0, 0, none⟩) x0r.length cr_x0] 29)).heap.size = w6.heap.size + 1 := (by simp); omega)) kx_x0_0
  replace kx_x0_1 := Only.cellOf m20 (.inl (by have hz : (w6.alloc (.cells #[.slice (some ⟨sb_x0, 0, none⟩) x0b.length cb_x0, .slice (some ⟨sr_x0, 0, none⟩) x0r.length cr_x0] 29)).heap.size = w6.heap.size + 1 := (by simp); omega)) kx_x0_1
  replace kx_x1_0 := Only.cellOf m20 (.inr (by omega)) kx_x1_0
  replace kx_x1_1 := Only.cellOf m20 (.inr (by omega)) kx_x1_1
  replace kx_g0_0 := Only.cellOf m20 (.inr (by have := b9.size; have := b10.size; omega)) kx_g0_0
  replace kx_g0_1 := Only.cellOf m20 (.inr (by have := b9.size; have := b10.size; omega)) kx_g0_1
  clear o_t2
  go_wp2_with fail
  refine (eq_s o_g0 o_w0 (by omega)).mono ?_
  rintro e w21 ⟨rfl, b21⟩
  have C21 := bnext C20 b21
  replace o_w0 := o_w0.below b21
  replace q_x0 := q_x0.below b21
  replace q_x1 := q_x1.below b21
  replace o_g0 := o_g0.below b21
  have kb0_0 := Below.cellOf C21 rfl KB0_0.out
  have kb0_1 := Below.cellOf C21 rfl KB0_1.out
  have kb1_0 := Below.cellOf C21 rfl KB1_0.out
  have kb1_1 := Below.cellOf C21 rfl KB1_1.out
  replace kx_w0_0 := Below.cellOf b21 rfl kx_w0_0
  replace kx_w0_1 := Below.cellOf b21 rfl kx_w0_1
  replace kx_x0_0 := Below.cellOf b21 rfl kx_x0_0
  replace kx_x0_1 := Below.cellOf b21 rfl kx_x0_1
  replace kx_x1_0 := Below.cellOf b21 rfl kx_x1_0
  replace kx_x1_1 := Below.cellOf b21 rfl kx_x1_1
  replace kx_g0_0 := Below.cellOf b21 rfl kx_g0_0
  replace kx_g0_1 := Below.cellOf b21 rfl kx_g0_1
  go_wp2_with fail
  refine (mark_s _ o_g0 (by omega) (by omega) (by omega)).mono ?_
  rintro e w22 ⟨rfl, q_g0, n22⟩
  have m22 := n22 (w8.alloc (.cells #[.slice (some ⟨sb_x1, 0, none⟩) x1b.length cb_x1, .slice (some ⟨sr_x1, 0, none⟩) x1r.length cr_x1] 29)).heap.size w10.heap.size lt_g0.out
  have C22 := C21.trans (m22.toBelow C9.size C21.size)
  replace o_w0 := o_w0.only m22 (fun k hk => .inl (by have := (lt_w0.out k hk).2; have := b6.size; have := b7.size; have := b8.size; have := b9.size; omega))
  replace q_x0 := q_x0.only m22 (fun k hk => .inl (by have := (lt_t1.out k hk).2; have := b7.size; have := b8.size; have := b9.size; omega))
  replace q_x1 := q_x1.only m22 (fun k hk => .inl (by have := (lt_t2.out k hk).2; have := b9.size; omega))
  have kb0_0 := Below.cellOf C22 rfl KB0_0.out
  have kb0_1 := Below.cellOf C22 rfl KB0_1.out
  have kb1_0 := Below.cellOf C22 rfl KB1_0.out
  have kb1_1 := Below.cellOf C22 rfl KB1_1.out
  replace kx_w0_0 := Only.cellOf m22 (.inl (by have := hhi_w0; have := b6.size; have := b7.size; have := b8.size; have := b9.size; omega)) kx_w0_0
  replace kx_w0_1 := Only.cellOf m22 (.inl (by have := hhi_w0; have := b6.size; have := b7.size; have := b8.size; have := b9.size; omega)) kx_w0_1
  replace kx_x0_0 := Only.cellOf m22 (.inl (by have hz : (w6.alloc (.cells #[.slice (some ⟨sb_x0, 0, none⟩) x0b.length cb_x0, .slice (some ⟨sr_x0, 0, none⟩) x0r.length cr_x0] 29)).heap.size = w6.heap.size + 1 := (by simp); have := b8.size; have := b9.size; omega)) kx_x0_0
  replace kx_x0_1 := Only.cellOf m22 (.inl (by have hz : (w6.alloc (.cells #[.slice (some ⟨sb_x0, 0, none⟩) x0b.length cb_x0, .slice (some ⟨sr_x0, 0, none⟩) x0r.length cr_x0] 29)).heap.size = w6.heap.size + 1 := (by simp); have := b8.size; have := b9.size; omega)) kx_x0_1
  replace kx_x1_0 := Only.cellOf m22 (.inl (by have hz : (w8.alloc (.cells #[.slice (some ⟨sb_x1, 0, none⟩) x1b.length cb_x1, .slice (some ⟨sr_x1, 0, none⟩) x1r.length cr_x1] 29)).heap.size = w8.heap.size + 1 := (by simp); omega)) kx_x1_0
  replace kx_x1_1 := Only.cellOf m22 (.inl (by have hz : (w8.alloc (.cells #[.slice (some ⟨sb_x1, 0, none⟩) x1b.length cb_x1, .slice (some ⟨sr_x1, 0, none⟩) x1r.length cr_x1] 29)).heap.size = w8.heap.size + 1 := (by simp); omega)) kx_x1_1
  replace kx_g0_0 := Only.cellOf m22 (.inr (by omega)) kx_g0_0
  replace kx_g0_1 := Only.cellOf m22 (.inr (by omega)) kx_g0_1
  clear o_g0
  go_wp2_with fail
  refine (held_s _ q_g0 (by omega) (by omega) (by omega)).mono ?_
  rintro e w23 ⟨rfl, b23⟩
  have C23 := bnext C22 b23
  replace o_w0 := o_w0.below b23
  replace q_x0 := q_x0.below b23
  replace q_x1 := q_x1.below b23
  replace q_g0 := q_g0.below b23
  have kb0_0 := Below.cellOf C23 rfl KB0_0.out
  have kb0_1 := Below.cellOf C23 rfl KB0_1.out
  have kb1_0 := Below.cellOf C23 rfl KB1_0.out
  have kb1_1 := Below.cellOf C23 rfl KB1_1.out
  replace kx_w0_0 := Below.cellOf b23 rfl kx_w0_0
  replace kx_w0_1 := Below.cellOf b23 rfl kx_w0_1
  replace kx_x0_0 := Below.cellOf b23 rfl kx_x0_0
  replace kx_x0_1 := Below.cellOf b23 rfl kx_x0_1
  replace kx_x1_0 := Below.cellOf b23 rfl kx_x1_0
  replace kx_x1_1 := Below.cellOf b23 rfl kx_x1_1
  replace kx_g0_0 := Below.cellOf b23 rfl kx_g0_0
  replace kx_g0_1 := Below.cellOf b23 rfl kx_g0_1
  go_wp2_with fail
  go_upto_region 31 with fail
  go_cut [15, 16] (fun sa sb wx => ∃ (H : Nat) (ab ar : Option Addr) (cb cr : Nat), sa = .pointer (some ⟨H, 0, none⟩) ∧ sb = .bool (JoinScales_r2 x0b x0r x1b x1r) ∧ wx.cell? ⟨H, 0, none⟩ = some (.slice ab (JoinScales_r0 x0b x0r x1b x1r).length cb) ∧ wx.cell? ⟨H, 1, none⟩ = some (.slice ar (JoinScales_r1 x0b x0r x1b x1r).length cr) ∧ w23.heap.size ≤ H ∧ OwnS 2 wx w23.heap.size (.agg #[.slice ab (JoinScales_r0 x0b x0r x1b x1r).length cb, .slice ar (JoinScales_r1 x0b x0r x1b x1r).length cr]) (JoinScales_r0 x0b x0r x1b x1r) (JoinScales_r1 x0b x0r x1b x1r) ∧ ((JoinScales_r0 x0b x0r x1b x1r).length < 1000000000 ∧ (JoinScales_r1 x0b x0r x1b x1r).length < 1000000000) ∧ Below w23.heap.size w23 wx)
  case first =>
    have bd : Below w23.heap.size w23 (w23.drew) := (Below.refl _ _).drew
    have bB : Below w23.heap.size w23 ((w23.alloc (.cells #[.slice none 0 0, .slice none 0 0] 29)).drew) := ((Below.refl _ _).alloc (Nat.le_refl _) _).drew
    have Cd := bnext C23 bd
    have hww : w.heap.size + 1 < w23.heap.size := Nat.lt_of_lt_of_le (by simp) C23.size
    have kb0_0 := Below.cellOf Cd rfl KB0_0.out; have kb0_1 := Below.cellOf Cd rfl KB0_1.out; have kb1_0 := Below.cellOf Cd rfl KB1_0.out; have kb1_1 := Below.cellOf Cd rfl KB1_1.out
    have q1 := to_s (j0.below Cd) (by omega)
    have q1B := to_s (j0.below (bnext C23 bB)) (by omega)
    go_region_held3 (fun w' => w'.cell? ⟨w.heap.size, 0, none⟩ = some (.slice adb0 x0b.length cb0) ∧ w'.cell? ⟨w.heap.size, 1, none⟩ = some (.slice adr0 x0r.length cr0) ∧ w'.cell? ⟨w.heap.size + 1, 0, none⟩ = some (.slice adb1 x1b.length cb1) ∧ w'.cell? ⟨w.heap.size + 1, 1, none⟩ = some (.slice adr1 x1r.length cr1))
      (first | (exact ⟨kb0_0, kb0_1, kb1_0, kb1_1⟩) | (exact ⟨Below.cellOf ((Below.refl _ _).alloc (Nat.le_refl _) _) rfl kb0_0, Below.cellOf ((Below.refl _ _).alloc (Nat.le_refl _) _) rfl kb0_1, Below.cellOf ((Below.refl _ _).alloc (Nat.le_refl _) _) rfl kb1_0, Below.cellOf ((Below.refl _ _).alloc (Nat.le_refl _) _) rfl kb1_1⟩) | (have hs3 := S3.size; have hs4 := S4.size; have hs5 := S5.size; have hs34 := b25.size; have hs45 := b26.size; refine ⟨?_, ?_, ?_, ?_⟩ <;> (refine (World.cell?_setCell_other _ _ _ _ (by intro e; injection e with e1 e2; omega)).trans ((World.cell?_setCell_other _ _ _ _ (by intro e; injection e with e1 e2; omega)).trans ?_); first | assumption | (exact Below.cellOf ((Below.refl _ _).alloc (Nat.le_refl _) _) rfl (by assumption)))) | go_keep)
      ((first | (go_at_call 8; (with_reducible refine (q1).mono ?_); rintro e w24 ⟨v_ta, rfl, o_ta, b24⟩; have S3 : Below w23.heap.size w23 w24 := bd.trans (b24.mono bd.size); have C24 := bnext C23 S3; have kb0_0 := Below.cellOf C24 rfl KB0_0.out; have kb0_1 := Below.cellOf C24 rfl KB0_1.out; have kb1_0 := Below.cellOf C24 rfl KB1_0.out; have kb1_1 := Below.cellOf C24 rfl KB1_1.out) | (go_at_call 8; (with_reducible refine (q1B).mono ?_); rintro e w24 ⟨v_ta, rfl, o_ta, b24⟩; have S3 : Below w23.heap.size w23 w24 := bB.trans (b24.mono bB.size); have C24 := bnext C23 S3; have kb0_0 := Below.cellOf C24 rfl KB0_0.out; have kb0_1 := Below.cellOf C24 rfl KB0_1.out; have kb1_0 := Below.cellOf C24 rfl KB1_0.out; have kb1_1 := Below.cellOf C24 rfl KB1_1.out; have z0 := Below.cellOf b24 rfl (show ((w23.alloc (.cells #[.slice none 0 0, .slice none 0 0] 29)).drew).cell? ⟨w23.heap.size, 0, none⟩ = some (.slice none 0 0) by simp [go_sem]); have z1 := Below.cellOf b24 rfl (show ((w23.alloc (.cells #[.slice none 0 0, .slice none 0 0] 29)).drew).cell? ⟨w23.heap.size, 1, none⟩ = some (.slice none 0 0) by simp [go_sem]); have zf0 := (b24.frozen (p := ⟨w23.heap.size, 0, none⟩) (by simp)).trans (show ((w23.alloc (.cells #[.slice none 0 0, .slice none 0 0] 29)).drew).frozen? ⟨w23.heap.size, 0, none⟩ = false by simp [go_sem]); have zf1 := (b24.frozen (p := ⟨w23.heap.size, 1, none⟩) (by simp)).trans (show ((w23.alloc (.cells #[.slice none 0 0, .slice none 0 0] 29)).drew).frozen? ⟨w23.heap.size, 1, none⟩ = false by simp [go_sem]); have zH := Nat.lt_of_lt_of_le (show w23.heap.size < ((w23.alloc (.cells #[.slice none 0 0, .slice none 0 0] 29)).drew).heap.size by simp) b24.size) | (go_at_call 8; (with_reducible refine (to_s (j1.below C24) (by omega)).mono ?_); rintro e w25 ⟨v_tb, rfl, o_tb, b25⟩; have S4 : Below w23.heap.size w23 w25 := S3.trans (b25.mono S3.size); have C25 := bnext C23 S4; replace o_ta := o_ta.below b25; have kb0_0 := Below.cellOf C25 rfl KB0_0.out; have kb0_1 := Below.cellOf C25 rfl KB0_1.out; have kb1_0 := Below.cellOf C25 rfl KB1_0.out; have kb1_1 := Below.cellOf C25 rfl KB1_1.out; (try (have zl := World.block_lt_of_cell? _ _ z0; replace zf0 := (b25.frozen (p := ⟨_, 0, none⟩) zl).trans zf0; replace zf1 := (b25.frozen (p := ⟨_, 1, none⟩) zl).trans zf1; replace z0 := Below.cellOf b25 rfl z0; replace z1 := Below.cellOf b25 rfl z1; clear zl))) | (have a3 : Below w24.heap.size w24 (w24.alloc (.cells #[.slice none 0 0, .slice none 0 0] 29)) := (Below.refl _ _).alloc (Nat.le_refl _) _; have S3a : Below w23.heap.size w23 (w24.alloc (.cells #[.slice none 0 0, .slice none 0 0] 29)) := S3.trans (a3.mono S3.size); go_at_call 8; (with_reducible refine (to_s (j1.below (bnext C23 S3a)) (by omega)).mono ?_); rintro e w25 ⟨v_tb, rfl, o_tb, b25⟩; have S4 : Below w23.heap.size w23 w25 := S3a.trans (b25.mono S3a.size); have C25 := bnext C23 S4; replace o_ta := (o_ta.below a3).below b25; have kb0_0 := Below.cellOf C25 rfl KB0_0.out; have kb0_1 := Below.cellOf C25 rfl KB0_1.out; have kb1_0 := Below.cellOf C25 rfl KB1_0.out; have kb1_1 := Below.cellOf C25 rfl KB1_1.out; have z0 := Below.cellOf b25 rfl (show (w24.alloc (.cells #[.slice none 0 0, .slice none 0 0] 29)).cell? ⟨w24.heap.size, 0, none⟩ = some (.slice none 0 0) by simp [go_sem]); have z1 := Below.cellOf b25 rfl (show (w24.alloc (.cells #[.slice none 0 0, .slice none 0 0] 29)).cell? ⟨w24.heap.size, 1, none⟩ = some (.slice none 0 0) by simp [go_sem]); have zf0 := (b25.frozen (p := ⟨w24.heap.size, 0, none⟩) (by simp)).trans (show (w24.alloc (.cells #[.slice none 0 0, .slice none 0 0] 29)).frozen? ⟨w24.heap.size, 0, none⟩ = false by simp [go_sem]); have zf1 := (b25.frozen (p := ⟨w24.heap.size, 1, none⟩) (by simp)).trans (show (w24.alloc (.cells #[.slice none 0 0, .slice none 0 0] 29)).frozen? ⟨w24.heap.size, 1, none⟩ = false by simp [go_sem]); have zH := Nat.lt_of_lt_of_le (show w24.heap.size < (w24.alloc (.cells #[.slice none 0 0, .slice none 0 0] 29)).heap.size by simp) b25.size) | (go_at_call 22; (with_reducible refine (JoinScales_impl o_ta o_tb).mono ?_); rintro e w26 ⟨v_v, rfl, o_v, ln_v, b26⟩; have S5 : Below w23.heap.size w23 w26 := S4.trans (b26.mono S4.size); have C26 := bnext C23 S5; have kb0_0 := Below.cellOf C26 rfl KB0_0.out; have kb0_1 := Below.cellOf C26 rfl KB0_1.out; have kb1_0 := Below.cellOf C26 rfl KB1_0.out; have kb1_1 := Below.cellOf C26 rfl KB1_1.out; (try (have zl := World.block_lt_of_cell? _ _ z0; replace zf0 := (b26.frozen (p := ⟨_, 0, none⟩) zl).trans zf0; replace zf1 := (b26.frozen (p := ⟨_, 1, none⟩) zl).trans zf1; replace z0 := Below.cellOf b26 rfl z0; replace z1 := Below.cellOf b26 rfl z1; clear zl)); obtain ⟨pb_v, pr_v, hv_v, hx_v, hy_v, hz_v⟩ := id o_v; obtain ⟨ab_v, cb_v, rfl, hh_v⟩ := hx_v.shape; obtain ⟨ar_v, cr_v, rfl, hi_v⟩ := hy_v.shape; subst hv_v; clear hh_v hi_v hx_v hy_v hz_v) | (have a4 : Below w25.heap.size w25 (w25.alloc (.cells #[.slice none 0 0, .slice none 0 0] 29)) := (Below.refl _ _).alloc (Nat.le_refl _) _; have S4a : Below w23.heap.size w23 (w25.alloc (.cells #[.slice none 0 0, .slice none 0 0] 29)) := S4.trans (a4.mono S4.size); go_at_call 22; (with_reducible refine (JoinScales_impl (o_ta.below a4) (o_tb.below a4)).mono ?_); rintro e w26 ⟨v_v, rfl, o_v, ln_v, b26⟩; have S5 : Below w23.heap.size w23 w26 := S4a.trans (b26.mono S4a.size); have C26 := bnext C23 S5; have kb0_0 := Below.cellOf C26 rfl KB0_0.out; have kb0_1 := Below.cellOf C26 rfl KB0_1.out; have kb1_0 := Below.cellOf C26 rfl KB1_0.out; have kb1_1 := Below.cellOf C26 rfl KB1_1.out; have z0 := Below.cellOf b26 rfl (show (w25.alloc (.cells #[.slice none 0 0, .slice none 0 0] 29)).cell? ⟨w25.heap.size, 0, none⟩ = some (.slice none 0 0) by simp [go_sem]); have z1 := Below.cellOf b26 rfl (show (w25.alloc (.cells #[.slice none 0 0, .slice none 0 0] 29)).cell? ⟨w25.heap.size, 1, none⟩ = some (.slice none 0 0) by simp [go_sem]); have zf0 := (b26.frozen (p := ⟨w25.heap.size, 0, none⟩) (by simp)).trans (show (w25.alloc (.cells #[.slice none 0 0, .slice none 0 0] 29)).frozen? ⟨w25.heap.size, 0, none⟩ = false by simp [go_sem]); have zf1 := (b26.frozen (p := ⟨w25.heap.size, 1, none⟩) (by simp)).trans (show (w25.alloc (.cells #[.slice none 0 0, .slice none 0 0] 29)).frozen? ⟨w25.heap.size, 1, none⟩ = false by simp [go_sem]); have zH := Nat.lt_of_lt_of_le (show w25.heap.size < (w25.alloc (.cells #[.slice none 0 0, .slice none 0 0] 29)).heap.size by simp) b26.size; obtain ⟨pb_v, pr_v, hv_v, hx_v, hy_v, hz_v⟩ := id o_v; obtain ⟨ab_v, cb_v, rfl, hh_v⟩ := hx_v.shape; obtain ⟨ar_v, cr_v, rfl, hi_v⟩ := hy_v.shape; subst hv_v; clear hh_v hi_v hx_v hy_v hz_v)))
    all_goals
      go_wp2_with fail
      go_meet
      have lt5 := o_v.lt
      have hs3 := S3.size
      have hs4 := S4.size
      have hs5 := S5.size
      have hs34 := b25.size
      have hs45 := b26.size
      have hm : ∀ {W : World} {B : Nat}, OwnS 2 W B _ _ _ → w23.heap.size ≤ B → OwnS 2 W w23.heap.size (.agg #[.slice ab_v (JoinScales_r0 x0b x0r x1b x1r).length cb_v, .slice ar_v (JoinScales_r1 x0b x0r x1b x1r).length cr_v]) (JoinScales_r0 x0b x0r x1b x1r) (JoinScales_r1 x0b x0r x1b x1r) := fun o h => by
        obtain ⟨vb, vr, e, x, y, d⟩ := o
        exact ⟨vb, vr, e, x.mono h, y.mono h, d⟩
      first
        | exact ⟨w26.heap.size, ab_v, ar_v, cb_v, cr_v, rfl, rfl, by simp [go_sem], by simp [go_sem], by omega, hm (o_v.below ((Below.refl _ _).alloc (Nat.le_refl _) _)) (by omega), ln_v, S5.alloc S5.size _⟩
        | exact ⟨_, ab_v, ar_v, cb_v, cr_v, rfl, rfl, by rw [World.cell?_setCell_other _ _ _ _ (by intro e; cases e), World.cell?_setCell_same _ _ _ z0], by rw [World.cell?_setCell_same _ _ _ (by rw [World.cell?_setCell_other _ _ _ _ (by intro e; cases e)]; exact z1)], by omega, hm ((o_v.keepAt _ (fun k hk => by have := (lt5 k hk).1; show k ≠ w23.heap.size; intro hke; subst hke; omega) _).keepAt _ (fun k hk => by have := (lt5 k hk).1; show k ≠ w23.heap.size; intro hke; subst hke; omega) _) (by first | omega | (simp; omega)), ln_v, (S5.setCell (Nat.le_refl _) _).setCell (Nat.le_refl _) _⟩
        | exact ⟨_, ab_v, ar_v, cb_v, cr_v, rfl, rfl, by rw [World.cell?_setCell_other _ _ _ _ (by intro e; cases e), World.cell?_setCell_same _ _ _ z0], by rw [World.cell?_setCell_same _ _ _ (by rw [World.cell?_setCell_other _ _ _ _ (by intro e; cases e)]; exact z1)], by omega, hm ((o_v.keepAt _ (fun k hk => by have := (lt5 k hk).1; show k ≠ w24.heap.size; intro hke; subst hke; omega) _).keepAt _ (fun k hk => by have := (lt5 k hk).1; show k ≠ w24.heap.size; intro hke; subst hke; omega) _) (by first | omega | (simp; omega)), ln_v, (S5.setCell (hs3) _).setCell (hs3) _⟩
        | exact ⟨_, ab_v, ar_v, cb_v, cr_v, rfl, rfl, by rw [World.cell?_setCell_other _ _ _ _ (by intro e; cases e), World.cell?_setCell_same _ _ _ z0], by rw [World.cell?_setCell_same _ _ _ (by rw [World.cell?_setCell_other _ _ _ _ (by intro e; cases e)]; exact z1)], by omega, hm ((o_v.keepAt _ (fun k hk => by have := (lt5 k hk).1; simp at this; show k ≠ w25.heap.size; omega) _).keepAt _ (fun k hk => by have := (lt5 k hk).1; simp at this; show k ≠ w25.heap.size; omega) _) (by first | omega | (simp; omega)), ln_v, (S5.setCell (hs4) _).setCell (hs4) _⟩
  obtain ⟨H_h0, ab_h0, ar_h0, cb_h0, cr_h0, rfl, rfl, kx_h0_0, kx_h0_1, hlo_h0, o_h0, ln_h0, b26⟩ := hcut
  rename World => w26
  have C26 := bnext C23 b26
  replace o_w0 := o_w0.below b26
  replace q_x0 := q_x0.below b26
  replace q_x1 := q_x1.below b26
  replace q_g0 := q_g0.below b26
  have kb0_0 := Below.cellOf C26 rfl KB0_0.out
  have kb0_1 := Below.cellOf C26 rfl KB0_1.out
  have kb1_0 := Below.cellOf C26 rfl KB1_0.out
  have kb1_1 := Below.cellOf C26 rfl KB1_1.out
  replace kx_w0_0 := Below.cellOf b26 rfl kx_w0_0
  replace kx_w0_1 := Below.cellOf b26 rfl kx_w0_1
  replace kx_x0_0 := Below.cellOf b26 rfl kx_x0_0
  replace kx_x0_1 := Below.cellOf b26 rfl kx_x0_1
  replace kx_x1_0 := Below.cellOf b26 rfl kx_x1_0
  replace kx_x1_1 := Below.cellOf b26 rfl kx_x1_1
  replace kx_g0_0 := Below.cellOf b26 rfl kx_g0_0
  replace kx_g0_1 := Below.cellOf b26 rfl kx_g0_1
  have lt_h0 := Lib.hid o_h0.lt
  have hhi_h0 := World.block_lt_of_cell? _ _ kx_h0_0
  go_wp2_with fail
  refine (eq_s o_h0 o_w0 (by omega)).mono ?_
  rintro e w27 ⟨rfl, b27⟩
  have C27 := bnext C26 b27
  replace o_w0 := o_w0.below b27
  replace q_x0 := q_x0.below b27
  replace q_x1 := q_x1.below b27
  replace q_g0 := q_g0.below b27
  replace o_h0 := o_h0.below b27
  have kb0_0 := Below.cellOf C27 rfl KB0_0.out
  have kb0_1 := Below.cellOf C27 rfl KB0_1.out
  have kb1_0 := Below.cellOf C27 rfl KB1_0.out
  have kb1_1 := Below.cellOf C27 rfl KB1_1.out
  replace kx_w0_0 := Below.cellOf b27 rfl kx_w0_0
  replace kx_w0_1 := Below.cellOf b27 rfl kx_w0_1
  replace kx_x0_0 := Below.cellOf b27 rfl kx_x0_0
  replace kx_x0_1 := Below.cellOf b27 rfl kx_x0_1
  replace kx_x1_0 := Below.cellOf b27 rfl kx_x1_0
  replace kx_x1_1 := Below.cellOf b27 rfl kx_x1_1
  replace kx_g0_0 := Below.cellOf b27 rfl kx_g0_0
  replace kx_g0_1 := Below.cellOf b27 rfl kx_g0_1
  replace kx_h0_0 := Below.cellOf b27 rfl kx_h0_0
  replace kx_h0_1 := Below.cellOf b27 rfl kx_h0_1
  go_wp2_with fail
  refine (held_s _ q_g0 (by omega) (by omega) (by omega)).mono ?_
  rintro e w28 ⟨rfl, b28⟩
  have C28 := bnext C27 b28
  replace o_w0 := o_w0.below b28
  replace q_x0 := q_x0.below b28
  replace q_x1 := q_x1.below b28
  replace q_g0 := q_g0.below b28
  replace o_h0 := o_h0.below b28
  have kb0_0 := Below.cellOf C28 rfl KB0_0.out
  have kb0_1 := Below.cellOf C28 rfl KB0_1.out
  have kb1_0 := Below.cellOf C28 rfl KB1_0.out
  have kb1_1 := Below.cellOf C28 rfl KB1_1.out
  replace kx_w0_0 := Below.cellOf b28 rfl kx_w0_0
  replace kx_w0_1 := Below.cellOf b28 rfl kx_w0_1
  replace kx_x0_0 := Below.cellOf b28 rfl kx_x0_0
  replace kx_x0_1 := Below.cellOf b28 rfl kx_x0_1
  replace kx_x1_0 := Below.cellOf b28 rfl kx_x1_0
  replace kx_x1_1 := Below.cellOf b28 rfl kx_x1_1
  replace kx_g0_0 := Below.cellOf b28 rfl kx_g0_0
  replace kx_g0_1 := Below.cellOf b28 rfl kx_g0_1
  replace kx_h0_0 := Below.cellOf b28 rfl kx_h0_0
  replace kx_h0_1 := Below.cellOf b28 rfl kx_h0_1
  go_wp2_with fail
  go_ret
  exact ⟨rfl, bnext bA (C28)⟩

set_option maxRecDepth 100000 in
theorem lifted (os : Os) (started : os.Started) (H : Type) (enc : TypeId × Value → H) :
    ReturnsInHanded {} Try.checked os 5 .any (Rows.fnExactJoinScalesSpec.pre6 enc Try.prog Try.f5 Rows.fnExactJoinScalesRow.domain false) (Rows.fnExactJoinScalesSpec.post enc Try.prog Try.f5 false true false false) := by
  refine returnsInHanded_of_change (C := Try.checked) own started (by kernel_rfl) Try.func5
    (ChangeSpec.witness6 (enc := enc) (C := Try.checked) false ⟨#[], #[.agg #[.slice none 0 0, .slice none 0 0], .agg #[.slice none 0 0, .slice none 0 0]], []⟩ 8 (by kernel_rfl) (by kernel_rfl) (by kernel_rfl) (by kernel_rfl)) ?_
  intro W base args ds gs before hval0 hW hcnd _
  have hval : ∀ (j : Nat) t v, Try.f5.params[j]? = some t → args[j]? = some v → Value.okWide Try.prog W .any base t v := hval0
  have hW' := hW
  obtain ⟨p, q, hA0, hV, rfl, hfz, hnd⟩ := hW
  have hA : DataW.TrodAll enc Try.prog W 0 (fun _ => true) true Try.f5.params.toList args.toList ds p := hA0
  rw [Try.params5] at hA hval
  obtain ⟨v0, vs0, d0, ds0, p0, q0, hargs, rfl, rfl, h0, r0⟩ := trodAll_cons hA
  obtain ⟨v1, vs1, d1, ds1, p1, q1, rfl, rfl, rfl, h1, r1⟩ := trodAll_cons r0
  obtain ⟨rfl, rfl, rfl⟩ := trodAll_nil r1
  obtain rfl : args = #[v0, v1] := by cases args; simp_all
  obtain ⟨rfl, rfl⟩ := trodVars_none hV
  have k0 := h0
  have lt0 := lt_of_trod h0
  obtain ⟨x0b, x0r, adb0, adr0, cb0, cr0, rfl, i0⟩ := openS Try.underlying24 (by kernel_rfl) (by kernel_rfl) Try.underlying22 Try.underlying22 Try.underlying2 (by kernel_rfl) (hval 0 24 v0 rfl rfl) h0
  have k1 := h1
  have lt1 := lt_of_trod h1
  obtain ⟨x1b, x1r, adb1, adr1, cb1, cr1, rfl, i1⟩ := openS Try.underlying24 (by kernel_rfl) (by kernel_rfl) Try.underlying22 Try.underlying22 Try.underlying2 (by kernel_rfl) (hval 1 24 v1 rfl rfl) h1
  clear hA0 hval0
  refine (walk x0b x0r adb0 adr0 cb0 cr0 x1b x1r adb1 adr1 cb1 cr1 W i0 i1).mono fun e W' ⟨he, bel⟩ => ?_
  subst he
  exact ⟨_, rfl, _, _, _, [], _, [], hW', trodAll_mk1 (shut_bool Try.underlying4 _), (trodAll_cons_mk (Below.trod laidOut (by kernel_rfl) (of_decide_eq_true (by kernel_rfl)) k0 bel lt0) (trodAll_cons_mk (Below.trod laidOut (by kernel_rfl) (of_decide_eq_true (by kernel_rfl)) k1 bel lt1) trodAll_mk0)), rfl, bel.frame _, fun h => by cases h⟩

theorem over : Rows.fnExactJoinScalesRow.holds Try.pinned (OpenSpec.ofChange Rows.fnExactJoinScalesSpec) :=
  OpenClaim.holds_of_wide 5 Try.f5 rfl rfl rfl rfl rfl rfl rfl ⟨rfl, rfl, rfl, rfl, rfl⟩ rfl rfl rfl rfl rfl (by kernel_rfl) Try.func5 (by kernel_rfl)
    (of_decide_eq_true (by kernel_rfl)) (by unfold Func.isWrapper; first | (rw [if_pos (by decide +kernel)]; kernel_rfl) | (rw [if_neg (by decide +kernel)]; exact ⟨rfl, rfl⟩))
    (fun os started H enc _ => lifted os started H enc)

/-- The statement. -/
theorem proved : Rows.FnExactJoinScalesSaid := over
#print axioms proved
end Go.Proofs.Ytdaijapdfleohaa.fnExactJoinScales
