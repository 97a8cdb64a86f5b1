/-
  The statement FnExactBalancesShared: the law returns true at every input, and the input reads as it did. No condition.
-/
import Derived.Test.YtpigjhagdpeofaaBa2
import Derived.Test.YtpigjhagdpeofaaSm13
import Derived.Test.YtpigjhagdpeofaaRows

namespace Go.Proofs.Ytpigjhagdpeofaa.fnExactBalancesShared
open Go.ChangeShapes Go.WideShapes Go.ChangeAt Go.RowKit Go.Conc Go.Proofs.Ytpigjhagdpeofaa.Sim
set_option linter.unusedVariables false
theorem own : ownKnob Try.prog.godebug = none := by kernel_rfl
theorem laidOut : laidOutB Try.prog = true := by kernel_rfl
set_option maxRecDepth 100000 in
theorem openE {H : Type} {enc : TypeId × Value → H} {w : World} {v : Value} {d : DataW H} {p : List MemPlace} {r : Go.Reach} {b0 : Nat} (hv : Value.okWide Try.prog w r b0 22 v) (h : DataW.Trod enc Try.prog w 0 (fun _ => true) true 22 v d p) :
    ∃ (X : Rec) (ad : Option Addr) (cap : Nat), v = .slice ad X.length cap ∧ InR 4 w (.slice ad X.length cap) X :=
  openRec Try.underlying22 Try.underlying54 (by kernel_rfl) (by kernel_rfl) (of_decide_eq_true (by kernel_rfl)) (by kernel_rfl) hv h
theorem lawFn : LawFn 3 := ⟨by decide, fun fn h => by cases h; exact ⟨_, rfl⟩, by kernel_rfl⟩
/-- The run, whatever is handed. -/
theorem law {W : World} (h2 : 2 ≤ W.heap.size) (x0 : Rec) (ad0 : Option Addr) (c0 : Nat) (x1 : List Int) (ad1 : Option Addr) (c1 : Nat) (x2 : Int) (i0 : InR 4 W (.slice ad0 x0.length c0) x0) (i1 : InI W (.slice ad1 x1.length c1) x1)
    (l0 : ∀ a, ad0 = some a → a.block < W.heap.size ∧ a.spot = none) (l1 : ∀ a, ad1 = some a → a.block < W.heap.size ∧ a.spot = none) :
    ResW Try.prog W (fun v => v = .bool true) (solo (G (Frame.enter Try.prog 3 #[.slice ad0 x0.length c0, .slice ad1 x1.length c1, .int .i64 x2] .normal) []) W) #[] := by
  let ps : List Inp := [inpOf ad0 (x0.length * 4) fun i => .int .i64 (x0.f i), inpOf ad1 x1.length fun i => .int .i64 (x1.getD i 0)]
  have hp : ∀ p ∈ ps, p.Ok W := fun p hp => by
    simp only [ps, List.mem_cons, List.not_mem_nil, or_false] at hp
    rcases hp with rfl | rfl
    · exact InR.inp i0 h2 l0
    · exact InI.inp i1 h2 l1
  have ha : ARel (Sq.mem Sq.lawFns) (iren ps) #[.slice (inAd ad0 0) x0.length c0, .slice (inAd ad1 1) x1.length c1, .int .i64 x2] #[.slice ad0 x0.length c0, .slice ad1 x1.length c1, .int .i64 x2] := by
    refine ⟨rfl, fun i x y hx hy => ?_⟩
    match i, hx, hy with
    | 0, hx, hy => cases hx; cases hy; exact in1_rel (g := fun i => .int .i64 (x0.f i)) l0 rfl
    | 1, hx, hy => cases hx; cases hy; exact in1_rel (g := fun i => .int .i64 (x1.getD i 0)) l1 rfl
    | 2, hx, hy => cases hx; cases hy; exact .flat rfl
    | i + 3, hx, hy => simp at hx
  have key : ∀ (n : Nat) (F : Nat → Int), n < 1000000000 → (BalSh_r1 x0 x1.length (fun i => x1.getD i 0) x2 = true → Sat2 x1.length (BalSh_F x0 fun i => x1.getD i 0) (lone1 n F ps W)) → PreOK (XI n F ps) n F (PreB (ps.length + 4) x1.length (BalSh_F x0 fun i => x1.getD i 0)) →
      ResW Try.prog W (fun v => v = .bool true) (solo (G (Frame.enter Try.prog 3 #[.slice ad0 x0.length c0, .slice ad1 x1.length c1, .int .i64 x2] .normal) []) W) #[] := by
    intro n F hn hs hPre
    refine law_run1 (ps := ps) (f0 := 3) hn lawFn rfl h2 hp ha (fun i x hx => ?_) hPre (fun w U K va vb vc h => h) fun U => ?_
    · match i, hx with
      | 0, hx => cases hx; exact NP.slice _ _ _
      | 1, hx => cases hx; exact NP.slice _ _ _
      | 2, hx => cases hx; exact NP.int _ _
      | i + 3, hx => simp at hx
    · have hz : (Sim.tp (lone1 n F ps W) U 0).heap.size = ps.length + 4 := lone1_size (n := n) (F := F) (ps := ps) (W := W)
      have := walk_balSh x0 (inAd ad0 0) c0 x1 (inAd ad1 1) c1 x2 (Sim.tp (lone1 n F ps W) U 0) (InR.in1 (ps := ps) (j := 0) i0 rfl) (InI.in1 (ps := ps) (j := 1) i1 rfl) (by rw [hz]; omega) fun h => (hs h).tp U 0
      rw [hz] at this
      exact this
  by_cases hx : x1.length ≤ 1048576
  · exact key x1.length (BalSh_F x0 fun i => x1.getD i 0) (by omega) (fun _ => lone1_sat) (preB_ok (by rw [show (XI x1.length (BalSh_F x0 fun i => x1.getD i 0) ps).n0 = ps.length + 4 from lone1_size (W := W)]; exact Nat.le_refl _))
  · refine key 0 (fun _ => 0) (by omega) (fun h => ?_) fun r wl wc va vb vc va' vb' vc' U K _ _ _ _ h => ?_
    · have := (cntB_iff.1 (all_yes3 (show (entriesOk x0.f x0.length && cntB (fun i => x1.getD i 0) x1.length 0 16 0 36524 && isWorkers x2) = true from h)).2.1).1.2
      omega
    · obtain ⟨gl, cl, k, m, g, p, f, L, _, _, _, _, _, _, _, _, _, _, _, _, _, _, h⟩ := h
      exact absurd h hx
set_option maxRecDepth 100000 in
theorem lifted (os : Os) (started : os.Started) (H : Type) (enc : TypeId × Value → H) :
    ReturnsInLeavingWide {} Try.checked os 3 .any (Rows.fnExactBalancesSharedSpec.pre6 enc Try.prog Try.f3 Rows.fnExactBalancesSharedRow.domain false) (Rows.fnExactBalancesSharedSpec.post enc Try.prog Try.f3 false true false false) := by
  refine leaving_of_shaped (C := Try.checked) own started Try.func3
    (ChangeSpec.witness6 (enc := enc) (C := Try.checked) false ⟨#[], #[.slice none 0 0, .slice none 0 0, .int .i64 0], []⟩ 8 (by kernel_rfl) (by kernel_rfl) (by kernel_rfl) (by kernel_rfl)) ?_
  intro W base args ds gs before hsh hval0 hW
  have h2W := two_of_shaped hsh
  have hval : ∀ (j : Nat) t v, Try.f3.params[j]? = some t → args[j]? = some v → Value.okWide Try.prog W .any base t v := hval0
  have hW' := hW
  obtain ⟨p, q, hA0, hV, rfl, hfz, hnd⟩ := hW
  have hA : DataW.TrodAll enc Try.prog W 0 (fun _ => true) true Try.f3.params.toList args.toList ds p := hA0
  rw [Try.params3] at hA hval
  obtain ⟨v0, vs0, d0, ds0, p0, q0, hargs, rfl, rfl, h0, r0⟩ := trodAll_cons hA
  obtain ⟨v1, vs1, d1, ds1, p1, q1, rfl, rfl, rfl, h1, r1⟩ := trodAll_cons r0
  obtain ⟨v2, vs2, d2, ds2, p2, q2, rfl, rfl, rfl, h2, r2⟩ := trodAll_cons r1
  obtain ⟨rfl, rfl, rfl⟩ := trodAll_nil r2
  obtain rfl : args = #[v0, v1, v2] := by cases args; simp_all
  obtain ⟨rfl, rfl⟩ := trodVars_none hV
  have k0 := h0
  have lt0 := lt_of_trod h0
  have w0 := hval 0 22 v0 rfl rfl
  obtain ⟨x0, ad0, c0, rfl, i0⟩ := openE w0 h0
  have k1 := h1
  have lt1 := lt_of_trod h1
  have w1 := hval 1 23 v1 rfl rfl
  obtain ⟨x1, ad1, c1, rfl, i1⟩ := openI' Try.underlying23 Try.underlying2 (by kernel_rfl) w1 h1
  obtain ⟨x2, rfl, rfl, rfl, wf2⟩ := open_int Try.underlying2 (hval 2 2 v2 rfl rfl) h2
  clear hA0 hval0
  obtain ⟨M, last, o, w', t', e1, e2, e3, e4⟩ := law h2W x0 ad0 c0 x1 ad1 c1 x2 i0 i1 (slice_at Try.underlying22 w0) (slice_at Try.underlying23 w1)
  refine ⟨M, last, o, w', t', e1, e2, e3, e4.mono fun v hF => ?_⟩
  obtain ⟨rfl, hkw⟩ := hF
  have bel := hkw.below
  exact ⟨_, _, _, [], _, [], hW', trodAll_mk1 (shut_bool Try.underlying4 _), (trodAll_cons_mk (Below.trod laidOut (by kernel_rfl) (of_decide_eq_true (by kernel_rfl)) k0 bel lt0) (trodAll_cons_mk (Below.trod laidOut (by kernel_rfl) (of_decide_eq_true (by kernel_rfl)) k1 bel lt1) (trodAll_cons_mk (shut_int Try.underlying2 wf2) trodAll_mk0))), rfl, bel.frame _, fun h => by cases h⟩

theorem over : Rows.fnExactBalancesSharedRow.holds Try.pinned (OpenSpec.ofChange Rows.fnExactBalancesSharedSpec) :=
  OpenClaim.holds_of_wide_leaving 3 Try.f3 rfl rfl rfl rfl rfl rfl rfl ⟨rfl, rfl, rfl, rfl, rfl⟩ rfl rfl rfl rfl rfl (by kernel_rfl) Try.func3 (by kernel_rfl)
    (of_decide_eq_true (by kernel_rfl)) (by unfold Func.isWrapper; first | (rw [if_pos (by decide +kernel)]; kernel_rfl) | (rw [if_neg (by decide +kernel)]; exact ⟨rfl, rfl⟩))
    (fun os started H enc _ => lifted os started H enc)

/-- The statement. -/
theorem proved : Rows.FnExactBalancesSharedSaid := over
#print axioms proved
end Go.Proofs.Ytpigjhagdpeofaa.fnExactBalancesShared
