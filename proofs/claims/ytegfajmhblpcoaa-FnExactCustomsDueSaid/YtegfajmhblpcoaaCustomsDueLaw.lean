/-
  FnExactCustomsDue returns true for every input: the program's CustomsDue and the reference's give the same results, leave their arguments as they were, and share no memory. No condition.
-/
import Derived.Test.YtegfajmhblpcoaaRows
import Derived.Test.YtegfajmhblpcoaaCustomsDue
import Derived.Test.YtegfajmhblpcoaaTarOpen
import Derived.Test.YtegfajmhblpcoaaOpen
import Derived.WalkKit
import Derived.ProofKit
import Derived.OpenShut
import Derived.Carry
namespace Go.Proofs.Ytegfajmhblpcoaa.fnExactCustomsDue
open Go.ChangeShapes Go.WideShapes Go.ChangeAt Go.RowKit
set_option linter.unusedVariables false

theorem own : ownKnob Try.prog.godebug = none := by kernel_rfl
theorem laidOut : laidOutB Try.prog = true := by kernel_rfl

set_option maxHeartbeats 4000000 in
theorem walk (x0a x0b x0c : Int) (x1 : Int) (x2 : Int) (x3 : Int) (w : World) :
    Calls Try.prog 6 #[.agg #[.int .i64 x0a, .int .i64 x0b, .int .i64 x0c], .int .i64 x1, .int .i64 x2, .int .i64 x3] w fun e w' => e = .returned (.bool true) ∧ Below w.heap.size w w' := by
  go_enter Try.func6, Try.ntmps6
  have bA : Below w.heap.size w (w.alloc (.cells #[.int .i64 x0a, .int .i64 x0b, .int .i64 x0c] 34)) := Below.alloc (Below.refl _ _) (Nat.le_refl _) _
  have KB0_0 : Hid ((w.alloc (.cells #[.int .i64 x0a, .int .i64 x0b, .int .i64 x0c] 34)).cell? ⟨w.heap.size, 0, none⟩ = some (.int .i64 x0a)) := by show (w.alloc (.cells #[.int .i64 x0a, .int .i64 x0b, .int .i64 x0c] 34)).cell? _ = _; simp [go_sem]
  have KB0_1 : Hid ((w.alloc (.cells #[.int .i64 x0a, .int .i64 x0b, .int .i64 x0c] 34)).cell? ⟨w.heap.size, 1, none⟩ = some (.int .i64 x0b)) := by show (w.alloc (.cells #[.int .i64 x0a, .int .i64 x0b, .int .i64 x0c] 34)).cell? _ = _; simp [go_sem]
  have KB0_2 : Hid ((w.alloc (.cells #[.int .i64 x0a, .int .i64 x0b, .int .i64 x0c] 34)).cell? ⟨w.heap.size, 2, none⟩ = some (.int .i64 x0c)) := by show (w.alloc (.cells #[.int .i64 x0a, .int .i64 x0b, .int .i64 x0c] 34)).cell? _ = _; simp [go_sem]
  go_wp2_with fail
  refine (to_tar x0a x0b x0c _).mono ?_
  rintro e w1 ⟨rfl, b1⟩
  have C1 := b1
  have kb0_0 := Below.cellOf C1 rfl KB0_0.out
  have kb0_1 := Below.cellOf C1 rfl KB0_1.out
  have kb0_2 := Below.cellOf C1 rfl KB0_2.out
  go_wp2_with fail
  refine (CustomsDue_spec x0a x0b x0c x1 x2 x3 _).mono ?_
  rintro e w2 ⟨rfl, b2⟩
  have C2 := bnext C1 b2
  have kb0_0 := Below.cellOf C2 rfl KB0_0.out
  have kb0_1 := Below.cellOf C2 rfl KB0_1.out
  have kb0_2 := Below.cellOf C2 rfl KB0_2.out
  go_wp2_with fail
  refine (to_tar x0a x0b x0c _).mono ?_
  rintro e w3 ⟨rfl, b3⟩
  have C3 := bnext C2 b3
  have kb0_0 := Below.cellOf C3 rfl KB0_0.out
  have kb0_1 := Below.cellOf C3 rfl KB0_1.out
  have kb0_2 := Below.cellOf C3 rfl KB0_2.out
  go_wp2_with fail
  refine (CustomsDue_impl x0a x0b x0c x1 x2 x3 _).mono ?_
  rintro e w4 ⟨rfl, b4⟩
  have C4 := bnext C3 b4
  have kb0_0 := Below.cellOf C4 rfl KB0_0.out
  have kb0_1 := Below.cellOf C4 rfl KB0_1.out
  have kb0_2 := Below.cellOf C4 rfl KB0_2.out
  go_wp2_with fail
  go_ret
  exact ⟨rfl, bnext bA (C4)⟩

set_option maxRecDepth 100000 in
theorem lifted (os : Os) (started : os.Started) (H : Type) (enc : TypeId × Value → H) :
    ReturnsInHanded {} Try.checked os 6 .any (Rows.fnExactCustomsDueSpec.pre6 enc Try.prog Try.f6 Rows.fnExactCustomsDueRow.domain false) (Rows.fnExactCustomsDueSpec.post enc Try.prog Try.f6 false true false false) := by
  refine returnsInHanded_of_change (C := Try.checked) own started (by kernel_rfl) Try.func6
    (ChangeSpec.witness6 (enc := enc) (C := Try.checked) false ⟨#[], #[.agg #[.int .i64 0, .int .i64 0, .int .i64 0], .int .i64 0, .int .i64 0, .int .i64 0], []⟩ 8 (by kernel_rfl) (by kernel_rfl) (by kernel_rfl) (by kernel_rfl)) ?_
  intro W base args ds gs before hval0 hW hcnd _
  have hval : ∀ (j : Nat) t v, Try.f6.params[j]? = some t → args[j]? = some v → Value.okWide Try.prog W .any base t v := hval0
  have hW' := hW
  obtain ⟨p, q, hA0, hV, rfl, hfz, hnd⟩ := hW
  have hA : DataW.TrodAll enc Try.prog W 0 (fun _ => true) true Try.f6.params.toList args.toList ds p := hA0
  rw [Try.params6] at hA hval
  obtain ⟨v0, vs0, d0, ds0, p0, q0, hargs, rfl, rfl, h0, r0⟩ := trodAll_cons hA
  obtain ⟨v1, vs1, d1, ds1, p1, q1, rfl, rfl, rfl, h1, r1⟩ := trodAll_cons r0
  obtain ⟨v2, vs2, d2, ds2, p2, q2, rfl, rfl, rfl, h2, r2⟩ := trodAll_cons r1
  obtain ⟨v3, vs3, d3, ds3, p3, q3, rfl, rfl, rfl, h3, r3⟩ := trodAll_cons r2
  obtain ⟨rfl, rfl, rfl⟩ := trodAll_nil r3
  obtain rfl : args = #[v0, v1, v2, v3] := by cases args; simp_all
  obtain ⟨rfl, rfl⟩ := trodVars_none hV
  have k0 := h0
  have lt0 := lt_of_trod h0
  obtain ⟨x0a, x0b, x0c, rfl⟩ := openTar Try.underlying34 (by kernel_rfl) (by kernel_rfl) Try.underlying2 Try.underlying2 Try.underlying2 (hval 0 34 v0 rfl rfl) h0
  obtain ⟨x1, rfl, rfl, rfl, wf1⟩ := open_int Try.underlying2 (hval 1 2 v1 rfl rfl) h1
  obtain ⟨x2, rfl, rfl, rfl, wf2⟩ := open_int Try.underlying2 (hval 2 2 v2 rfl rfl) h2
  obtain ⟨x3, rfl, rfl, rfl, wf3⟩ := open_int Try.underlying2 (hval 3 2 v3 rfl rfl) h3
  clear hA0 hval0
  refine (walk x0a x0b x0c x1 x2 x3 W).mono fun e W' ⟨he, bel⟩ => ?_
  subst he
  exact ⟨_, rfl, _, _, _, [], _, [], hW', trodAll_mk1 (shut_bool Try.underlying4 _), (trodAll_cons_mk (Below.trod laidOut (by kernel_rfl) (of_decide_eq_true (by kernel_rfl)) k0 bel lt0) (trodAll_cons_mk (shut_int Try.underlying2 wf1) (trodAll_cons_mk (shut_int Try.underlying2 wf2) (trodAll_cons_mk (shut_int Try.underlying2 wf3) trodAll_mk0)))), rfl, bel.frame _, fun h => by cases h⟩

theorem over : Rows.fnExactCustomsDueRow.holds Try.pinned (OpenSpec.ofChange Rows.fnExactCustomsDueSpec) :=
  OpenClaim.holds_of_wide 6 Try.f6 rfl rfl rfl rfl rfl rfl rfl ⟨rfl, rfl, rfl, rfl, rfl⟩ rfl rfl rfl rfl rfl (by kernel_rfl) Try.func6 (by kernel_rfl)
    (of_decide_eq_true (by kernel_rfl)) (by unfold Func.isWrapper; first | (rw [if_pos (by decide +kernel)]; kernel_rfl) | (rw [if_neg (by decide +kernel)]; exact ⟨rfl, rfl⟩))
    (fun os started H enc _ => lifted os started H enc)

/-- The statement. -/
theorem proved : Rows.FnExactCustomsDueSaid := over
#print axioms proved
end Go.Proofs.Ytegfajmhblpcoaa.fnExactCustomsDue
