/-
  The statement FnExactDuesShared: the law returns true at every input, and the input reads as it did. No condition.
-/
import Derived.Test.YtpigjhagdpeofaaDa3
import Derived.Test.YtpigjhagdpeofaaSm13
import Derived.Test.YtpigjhagdpeofaaDa2
import Derived.Test.YtpigjhagdpeofaaRows

namespace Go.Proofs.Ytpigjhagdpeofaa.fnExactDuesShared
open Go.ChangeShapes Go.WideShapes Go.ChangeAt Go.RowKit Go.Conc Go.Proofs.Ytpigjhagdpeofaa.Sim
set_option linter.unusedVariables false
theorem own : ownKnob Try.prog.godebug = none := by kernel_rfl
theorem laidOut : laidOutB Try.prog = true := by kernel_rfl
theorem lawFn : LawFn 4 := ⟨by decide, fun fn h => by cases h; exact ⟨_, rfl⟩, by kernel_rfl⟩
theorem agg_at {P : Program} {W : World} {r : Go.Reach} {base : Nat} {t s e : TypeId} {fs : Array Field} (hs : P.underlying t = some (.struct fs)) (hts : P.cellTypes P.depth t = some [s, s]) (he : P.underlying s = some (.slice e)) {a1 a2 : Option Addr} {l1 c1 l2 c2 : Nat}
    (h : Value.okWide P W r base t (.agg #[.slice a1 l1 c1, .slice a2 l2 c2])) : (∀ a, a1 = some a → a.block < W.heap.size ∧ a.spot = none) ∧ ∀ a, a2 = some a → a.block < W.heap.size ∧ a.spot = none := by
  simp only [Value.okWide, hs] at h
  obtain ⟨cs, e1, _, ts, h1, _, h2⟩ := h
  cases e1
  rw [hts] at h1
  cases h1
  have one : ∀ {a : Option Addr} {l c : Nat}, Cell.okWide P W r base s (.slice a l c) → ∀ x, a = some x → x.block < W.heap.size ∧ x.spot = none := fun {a l c} hc => slice_at (r := r) (base := base) (len := l) (cap := c) he (by simp only [Value.okWide, he]; exact hc)
  obtain ⟨u, hu, hc⟩ := h2 0 _ rfl
  obtain ⟨u', hu', hc'⟩ := h2 1 _ rfl
  obtain rfl : s = u := Option.some.inj hu
  obtain rfl : s = u' := Option.some.inj hu'
  exact ⟨one hc, one hc'⟩
/-- The run, whatever is handed. -/
theorem law {W : World} (h2 : 2 ≤ W.heap.size) (xb xr : List Int) (adb adr : Option Addr) (cb cr : Nat) (x1 : List Int) (ad1 : Option Addr) (c1 : Nat) (x2 x3 : Int) (i0 : InS W (.agg #[.slice adb xb.length cb, .slice adr xr.length cr]) xb xr) (i1 : InI W (.slice ad1 x1.length c1) x1)
    (lb : ∀ a, adb = some a → a.block < W.heap.size ∧ a.spot = none) (lr : ∀ a, adr = some a → a.block < W.heap.size ∧ a.spot = none) (l1 : ∀ a, ad1 = some a → a.block < W.heap.size ∧ a.spot = none) :
    ResW Try.prog W (fun v => v = .bool true) (solo (G (Frame.enter Try.prog 4 #[.agg #[.slice adb xb.length cb, .slice adr xr.length cr], .slice ad1 x1.length c1, .int .i64 x2, .int .i64 x3] .normal) []) W) #[] := by
  obtain ⟨ab, cb0, ar, cr0, hv, mb, mr, ib, ir⟩ := i0
  cases hv
  let ps : List Inp := [inpOf adb xb.length fun i => .int .i64 (xb.getD i 0), inpOf adr xr.length fun i => .int .i64 (xr.getD i 0), inpOf ad1 x1.length fun i => .int .i64 (x1.getD i 0)]
  have hp : ∀ p ∈ ps, p.Ok W := fun p hp => by
    simp only [ps, List.mem_cons, List.not_mem_nil, or_false] at hp
    rcases hp with rfl | rfl | rfl
    · exact InI.inp ib h2 lb
    · exact InI.inp ir h2 lr
    · exact InI.inp i1 h2 l1
  have ha : ARel (Sq.mem Sq.lawFns) (iren ps) #[.agg #[.slice (inAd adb 0) xb.length cb, .slice (inAd adr 1) xr.length cr], .slice (inAd ad1 2) x1.length c1, .int .i64 x2, .int .i64 x3] #[.agg #[.slice adb xb.length cb, .slice adr xr.length cr], .slice ad1 x1.length c1, .int .i64 x2, .int .i64 x3] := by
    refine ⟨rfl, fun i x y hx hy => ?_⟩
    match i, hx, hy with
    | 0, hx, hy =>
      cases hx; cases hy
      refine .agg rfl fun i x y hx hy => ?_
      match i, hx, hy with
      | 0, hx, hy => cases hx; cases hy; exact in1_rel (g := fun i => .int .i64 (xb.getD i 0)) lb rfl
      | 1, hx, hy => cases hx; cases hy; exact in1_rel (g := fun i => .int .i64 (xr.getD i 0)) lr rfl
      | i + 2, hx, hy => simp at hx
    | 1, hx, hy => cases hx; cases hy; exact in1_rel (g := fun i => .int .i64 (x1.getD i 0)) l1 rfl
    | 2, hx, hy => cases hx; cases hy; exact .flat rfl
    | 3, hx, hy => cases hx; cases hy; exact .flat rfl
    | i + 4, hx, hy => simp at hx
  have key : ∀ (n : Nat) (F : Nat → Int), n < 1000000000 → (DueSh_r1 xb xr x1.length (fun i => x1.getD i 0) x2 x3 = true → Sat2 x1.length (DueSh_F xb xr (fun i => x1.getD i 0) x2) (lone1 n F ps W)) → PreOK (XI n F ps) n F (PreD (ps.length + 4) x1.length (DueSh_F xb xr (fun i => x1.getD i 0) x2)) →
      ResW Try.prog W (fun v => v = .bool true) (solo (G (Frame.enter Try.prog 4 #[.agg #[.slice adb xb.length cb, .slice adr xr.length cr], .slice ad1 x1.length c1, .int .i64 x2, .int .i64 x3] .normal) []) W) #[] := by
    intro n F hn hs hPre
    refine law_run1 (ps := ps) (f0 := 4) hn lawFn rfl h2 hp ha (fun i x hx => ?_) hPre (fun w U K va vb vc h => h) fun U => ?_
    · match i, hx with
      | 0, hx =>
        cases hx
        refine NP.agg fun i x hx => ?_
        match i, hx with
        | 0, hx => cases hx; exact NP.slice _ _ _
        | 1, hx => cases hx; exact NP.slice _ _ _
        | i + 2, hx => simp at hx
      | 1, hx => cases hx; exact NP.slice _ _ _
      | 2, hx => cases hx; exact NP.int _ _
      | 3, hx => cases hx; exact NP.int _ _
      | i + 4, hx => simp at hx
    · have hz : (Sim.tp (lone1 n F ps W) U 0).heap.size = ps.length + 4 := lone1_size (n := n) (F := F) (ps := ps) (W := W)
      have := walk_dueSh xb xr (inAd adb 0) (inAd adr 1) cb cr x1 (inAd ad1 2) c1 x2 x3 (Sim.tp (lone1 n F ps W) U 0) ⟨_, _, _, _, rfl, mb, mr, InI.in1 (ps := ps) (j := 0) ib rfl, InI.in1 (ps := ps) (j := 1) ir rfl⟩ (InI.in1 (ps := ps) (j := 2) i1 rfl) (by rw [hz]; omega) fun h => (hs h).tp U 0
      rw [hz] at this
      exact this
  by_cases hx : x1.length ≤ 1048576
  · exact key x1.length (DueSh_F xb xr (fun i => x1.getD i 0) x2) (by omega) (fun _ => lone1_sat) (preD_ok (by rw [show (XI x1.length (DueSh_F xb xr (fun i => x1.getD i 0) x2) ps).n0 = ps.length + 4 from lone1_size (W := W)]; exact Nat.le_refl _))
  · refine key 0 (fun _ => 0) (by omega) (fun h => ?_) fun r wl wc va vb vc va' vb' vc' U K _ _ _ _ h => ?_
    · have := (cntB_iff.1 (all_yes3 (show (askOk (fun i => xb.getD i 0) xb.length (fun i => xr.getD i 0) xr.length 0 x2 && cntB (fun i => x1.getD i 0) x1.length 1 60 0 1000000000000 && isWorkers x3) = true from h)).2.1).1.2
      omega
    · obtain ⟨gl, cl, k, gb, cb, gr, cr, nb, nr, p, q, fb, fr, L, rd, _, _, _, _, _, _, _, _, _, _, _, _, _, _, _, _, h⟩ := h
      exact absurd h hx
set_option maxRecDepth 100000 in
theorem lifted (os : Os) (started : os.Started) (H : Type) (enc : TypeId × Value → H) :
    ReturnsInLeavingWide {} Try.checked os 4 .any (Rows.fnExactDuesSharedSpec.pre6 enc Try.prog Try.f4 Rows.fnExactDuesSharedRow.domain false) (Rows.fnExactDuesSharedSpec.post enc Try.prog Try.f4 false true false false) := by
  refine leaving_of_shaped (C := Try.checked) own started Try.func4
    (ChangeSpec.witness6 (enc := enc) (C := Try.checked) false ⟨#[], #[.agg #[.slice none 0 0, .slice none 0 0], .slice none 0 0, .int .i64 0, .int .i64 0], []⟩ 8 (by kernel_rfl) (by kernel_rfl) (by kernel_rfl) (by kernel_rfl)) ?_
  intro W base args ds gs before hsh hval0 hW
  have h2W := two_of_shaped hsh
  have hval : ∀ (j : Nat) t v, Try.f4.params[j]? = some t → args[j]? = some v → Value.okWide Try.prog W .any base t v := hval0
  have hW' := hW
  obtain ⟨p, q, hA0, hV, rfl, hfz, hnd⟩ := hW
  have hA : DataW.TrodAll enc Try.prog W 0 (fun _ => true) true Try.f4.params.toList args.toList ds p := hA0
  rw [Try.params4] at hA hval
  obtain ⟨v0, vs0, d0, ds0, p0, q0, hargs, rfl, rfl, h0, r0⟩ := trodAll_cons hA
  obtain ⟨v1, vs1, d1, ds1, p1, q1, rfl, rfl, rfl, h1, r1⟩ := trodAll_cons r0
  obtain ⟨v2, vs2, d2, ds2, p2, q2, rfl, rfl, rfl, h2, r2⟩ := trodAll_cons r1
  obtain ⟨v3, vs3, d3, ds3, p3, q3, rfl, rfl, rfl, h3, r3⟩ := trodAll_cons r2
  obtain ⟨rfl, rfl, rfl⟩ := trodAll_nil r3
  obtain rfl : args = #[v0, v1, v2, v3] := by cases args; simp_all
  obtain ⟨rfl, rfl⟩ := trodVars_none hV
  have k0 := h0
  have lt0 := lt_of_trod h0
  have w0 := hval 0 36 v0 rfl rfl
  obtain ⟨xb, xr, adb, adr, cb, cr, rfl, i0⟩ := openS Try.underlying36 (by kernel_rfl) (by kernel_rfl) Try.underlying23 Try.underlying23 Try.underlying2 (by kernel_rfl) w0 h0
  obtain ⟨lb, lr⟩ := agg_at Try.underlying36 (by kernel_rfl) Try.underlying23 w0
  have k1 := h1
  have lt1 := lt_of_trod h1
  have w1 := hval 1 23 v1 rfl rfl
  obtain ⟨x1, ad1, c1, rfl, i1⟩ := openI' Try.underlying23 Try.underlying2 (by kernel_rfl) w1 h1
  obtain ⟨x2, rfl, rfl, rfl, wf2⟩ := open_int Try.underlying2 (hval 2 2 v2 rfl rfl) h2
  obtain ⟨x3, rfl, rfl, rfl, wf3⟩ := open_int Try.underlying2 (hval 3 2 v3 rfl rfl) h3
  clear hA0 hval0
  obtain ⟨M, last, o, w', t', e1, e2, e3, e4⟩ := law h2W xb xr adb adr cb cr x1 ad1 c1 x2 x3 i0 i1 lb lr (slice_at Try.underlying23 w1)
  refine ⟨M, last, o, w', t', e1, e2, e3, e4.mono fun v hF => ?_⟩
  obtain ⟨rfl, hkw⟩ := hF
  have bel := hkw.below
  exact ⟨_, _, _, [], _, [], hW', trodAll_mk1 (shut_bool Try.underlying4 _), (trodAll_cons_mk (Below.trod laidOut (by kernel_rfl) (of_decide_eq_true (by kernel_rfl)) k0 bel lt0) (trodAll_cons_mk (Below.trod laidOut (by kernel_rfl) (of_decide_eq_true (by kernel_rfl)) k1 bel lt1) (trodAll_cons_mk (shut_int Try.underlying2 wf2) (trodAll_cons_mk (shut_int Try.underlying2 wf3) trodAll_mk0)))), rfl, bel.frame _, fun h => by cases h⟩

theorem over : Rows.fnExactDuesSharedRow.holds Try.pinned (OpenSpec.ofChange Rows.fnExactDuesSharedSpec) :=
  OpenClaim.holds_of_wide_leaving 4 Try.f4 rfl rfl rfl rfl rfl rfl rfl ⟨rfl, rfl, rfl, rfl, rfl⟩ rfl rfl rfl rfl rfl (by kernel_rfl) Try.func4 (by kernel_rfl)
    (of_decide_eq_true (by kernel_rfl)) (by unfold Func.isWrapper; first | (rw [if_pos (by decide +kernel)]; kernel_rfl) | (rw [if_neg (by decide +kernel)]; exact ⟨rfl, rfl⟩))
    (fun os started H enc _ => lifted os started H enc)

/-- The statement. -/
theorem proved : Rows.FnExactDuesSharedSaid := over
#print axioms proved
end Go.Proofs.Ytpigjhagdpeofaa.fnExactDuesShared
