/-
  impl.DuesShared over the second program: what it returns, or what it tells. No condition but the oracle.
  spec.DuesShared over the second program. No condition.
  toInt64S gives a copy in new memory. Condition: at most 1048576 integers.
  How the slices of integers among a call's arguments are opened: each reads as a list of integers. No program in sight. No condition.
  toScale gives a copy of a scale in new memory; how a scale among a call's arguments is opened. Condition: fewer than 1000000000 integers in each list.
  The laws' helpers on slices of integers, by contracts: eqInt64S of two slices that hold the same integers is true; markInt64S writes k, k + 1, ..; heldInt64S of what was so marked is k + its length. Condition: fewer than 1000000000 integers.
  Scales that a law hands on, as copies in memory of the call's own: toScale, eqScale, szScale, markScale, heldScale by their contracts. Condition: fewer than 1000000000 integers in each list.
  markScale, by its contract. Condition: fewer than 1000000000 integers in each list.
  The lone law's memory at the start: the arguments' cells, the letter box and the oracle. No condition.
-/
import Derived.Test.YtpigjhagdpeofaaSm5
import Derived.Test.YtpigjhagdpeofaaDa1
import Derived.Test.YtpigjhagdpeofaaSm12
import Derived.Test.YtpigjhagdpeofaaProg
import Derived.Test.YtpigjhagdpeofaaSm4
import Derived.OpenShut
import Derived.Below
import Derived.Carry
import Derived.Lib.SmallJoins

namespace Go.Proofs.Ytpigjhagdpeofaa
open Go.RowKit Go.Proofs.Ytpigjhagdpeofaa.Sim
set_option linter.unusedVariables false
def dsOk (fb : Nat → Int) (nb : Nat) (fr : Nat → Int) (nr nc : Nat) (a : Nat → Int) (rd k : Int) : Bool := askOk fb nb fr nr 0 rd && cntB a nc 1 60 0 1000000000000 && isWorkers k
def dsF (fb fr : Nat → Int) (nb : Nat) (a : Nat → Int) (rd : Int) (i : Nat) : Int := dueF fb fr nb (a i) rd
def dsL (fb : Nat → Int) (nb : Nat) (fr : Nat → Int) (nr nc : Nat) (a : Nat → Int) (rd k : Int) : List Int := bif dsOk fb nb fr nr nc a rd k then tab (dsF fb fr nb a rd) nc else []
section
variable {fb fr a : Nat → Int} {nb nr nc : Nat} {rd k : Int}
theorem ds_no (h : dsOk fb nb fr nr nc a rd k = false) : dsL fb nb fr nr nc a rd k = [] := by simp only [dsL, h, cond_false]
theorem ds_yes (h : dsOk fb nb fr nr nc a rd k = true) : dsL fb nb fr nr nc a rd k = tab (dsF fb fr nb a rd) nc := by simp only [dsL, h, cond_true]
end
/-- What the told call shows. -/
def PreD (N0 n : Nat) (F : Nat → Int) (w : World) (va vb vc : Value) : Prop :=
  ∃ (gl cl k gb cb gr cr nb nr p q : Nat) (fb fr L : Nat → Int) (rd : Int), va = .slice (some ⟨gl, 0, none⟩) n cl ∧ vb = .int .i64 (k : Nat) ∧ 0 < k ∧ k ≤ 8 ∧ vc = .func (.func 42) #[] #[.pointer (some ⟨p, 0, none⟩), .pointer (some ⟨q, 0, none⟩)] ∧
    (N0 ≤ gl ∧ N0 ≤ gb ∧ N0 ≤ gr ∧ N0 ≤ p ∧ gb < p ∧ gr < p ∧ p < q ∧ gb ≠ gr) ∧
    Ints w gl 0 n L ∧ w.cell? ⟨p, 0, none⟩ = some (.slice (some ⟨gb, 0, none⟩) nb cb) ∧ w.cell? ⟨p, 1, none⟩ = some (.slice (some ⟨gr, 0, none⟩) nr cr) ∧ w.cell? ⟨q, 0, none⟩ = some (.int .i64 rd) ∧
    Ints w gb 0 nb fb ∧ Ints w gr 0 nr fr ∧ nb < 1000000000 ∧ nr < 1000000000 ∧ ScaleIs fb nb fr nr ∧ (∀ i, i < n → F i = dueF fb fr nb (L i) rd ∧ 0 ≤ L i ∧ L i ≤ 1000000000000) ∧ n ≤ 1048576
set_option maxHeartbeats 1600000 in
theorem dueSh_core (gb cb gr cr nb nr : Nat) (fb fr : Nat → Int) (rd k : Int) (B gc cc nc : Nat) (a : Nat → Int) (w : World) (mb : nb < 1000000000) (mr : nr < 1000000000) (Ib : Ints w gb 0 nb fb) (Ir : Ints w gr 0 nr fr) (hbB : B ≤ gb) (hbw : gb < w.heap.size) (hrB : B ≤ gr) (hrw : gr < w.heap.size) (hbr : gb ≠ gr) (hcB : B ≤ gc) (hcw : gc < w.heap.size) (hIc : Ints w gc 0 nc a) (hnc : nc < 1000000000) (h4 : 3 < B) (hS : dsOk fb nb fr nr nc a rd k = true → Sat2 nc (dsF fb fr nb a rd) w) :
    Calls Sq.prog 19 #[.agg #[.slice (some ⟨gb, 0, none⟩) nb cb, .slice (some ⟨gr, 0, none⟩) nr cr], .slice (some ⟨gc, 0, none⟩) nc cc, .int .i64 rd, .int .i64 k] w fun e w' => RetL1 2 w (dsL fb nb fr nr nc a rd k) (dsOk fb nb fr nr nc a rd k) e w' ∨ Told (PreD B nc (dsF fb fr nb a rd)) e w' := by
  have bA2 : Below w.heap.size w ((w.alloc (.cells #[.slice (some ⟨gb, 0, none⟩) nb cb, .slice (some ⟨gr, 0, none⟩) nr cr] 39)).alloc (.cells #[.int .i64 rd] 2)) := by go_grown
  have HK0 : Hid (((w.alloc (.cells #[.slice (some ⟨gb, 0, none⟩) nb cb, .slice (some ⟨gr, 0, none⟩) nr cr] 39)).alloc (.cells #[.int .i64 rd] 2)).cell? ⟨w.heap.size, 0, none⟩ = some (.slice (some ⟨gb, 0, none⟩) nb cb)) := by show ((w.alloc (.cells #[.slice (some ⟨gb, 0, none⟩) nb cb, .slice (some ⟨gr, 0, none⟩) nr cr] 39)).alloc (.cells #[.int .i64 rd] 2)).cell? _ = _; simp [go_sem]
  have HK1 : Hid (((w.alloc (.cells #[.slice (some ⟨gb, 0, none⟩) nb cb, .slice (some ⟨gr, 0, none⟩) nr cr] 39)).alloc (.cells #[.int .i64 rd] 2)).cell? ⟨w.heap.size, 1, none⟩ = some (.slice (some ⟨gr, 0, none⟩) nr cr)) := by show ((w.alloc (.cells #[.slice (some ⟨gb, 0, none⟩) nb cb, .slice (some ⟨gr, 0, none⟩) nr cr] 39)).alloc (.cells #[.int .i64 rd] 2)).cell? _ = _; simp [go_sem]
  have HK2 : Hid (((w.alloc (.cells #[.slice (some ⟨gb, 0, none⟩) nb cb, .slice (some ⟨gr, 0, none⟩) nr cr] 39)).alloc (.cells #[.int .i64 rd] 2)).cell? ⟨w.heap.size + 1, 0, none⟩ = some (.int .i64 rd)) := by show ((w.alloc (.cells #[.slice (some ⟨gb, 0, none⟩) nb cb, .slice (some ⟨gr, 0, none⟩) nr cr] 39)).alloc (.cells #[.int .i64 rd] 2)).cell? _ = _; simp [go_sem]
  have HZ : Hid (((w.alloc (.cells #[.slice (some ⟨gb, 0, none⟩) nb cb, .slice (some ⟨gr, 0, none⟩) nr cr] 39)).alloc (.cells #[.int .i64 rd] 2)).heap.size = w.heap.size + 2) := by show ((w.alloc (.cells #[.slice (some ⟨gb, 0, none⟩) nb cb, .slice (some ⟨gr, 0, none⟩) nr cr] 39)).alloc (.cells #[.int .i64 rd] 2)).heap.size = _; simp
  cases h : dsOk fb nb fr nr nc a rd k
  · rw [ds_no h]
    rcases first_no3 (show (askOk fb nb fr nr 0 rd && cntB a nc 1 60 0 1000000000000 && isWorkers k) = false from h) with h1 | ⟨h1, h2 | ⟨h2, h3⟩⟩
    all_goals clear h
    · go_enter Sq.func19, Sq.ntmps19
      go_wp2_with (first | (go_at_call 32; refine (impl_isWorkers_any _ _).mono ?_; rintro e w' ⟨rfl, rfl⟩) | (go_at_call 31; refine (hasCount_any nc gc 0 cc a _ _ _ _ _ hnc (hIc.below C1)).mono ?_; rintro e w2 ⟨rfl, b2⟩; have C2 := bnext C1 b2) | (go_at_call 41; refine (isAsked_any gb cb gr cr nb nr fb fr 0 rd _ mb mr (Ib.below bA2) (Ir.below bA2)).mono ?_; rintro e w1 ⟨rfl, b1⟩; have C1 := bnext bA2 b1))
      go_ret2
      exact Or.inl (RetL1.no _ C1)
    · go_enter Sq.func19, Sq.ntmps19
      go_wp2_with (first | (go_at_call 32; refine (impl_isWorkers_any _ _).mono ?_; rintro e w' ⟨rfl, rfl⟩) | (go_at_call 31; refine (hasCount_any nc gc 0 cc a _ _ _ _ _ hnc (hIc.below C1)).mono ?_; rintro e w2 ⟨rfl, b2⟩; have C2 := bnext C1 b2) | (go_at_call 41; refine (isAsked_any gb cb gr cr nb nr fb fr 0 rd _ mb mr (Ib.below bA2) (Ir.below bA2)).mono ?_; rintro e w1 ⟨rfl, b1⟩; have C1 := bnext bA2 b1))
      go_ret2
      exact Or.inl (RetL1.no _ C2)
    · go_enter Sq.func19, Sq.ntmps19
      go_wp2_with (first | (go_at_call 32; refine (impl_isWorkers_any _ _).mono ?_; rintro e w' ⟨rfl, rfl⟩; rw [h3]) | (go_at_call 31; refine (hasCount_any nc gc 0 cc a _ _ _ _ _ hnc (hIc.below C1)).mono ?_; rintro e w2 ⟨rfl, b2⟩; have C2 := bnext C1 b2) | (go_at_call 41; refine (isAsked_any gb cb gr cr nb nr fb fr 0 rd _ mb mr (Ib.below bA2) (Ir.below bA2)).mono ?_; rintro e w1 ⟨rfl, b1⟩; have C1 := bnext bA2 b1))
      go_ret2
      exact Or.inl (RetL1.no _ C2)
  · rw [ds_yes h]
    have hSat := hS h
    clear hS
    obtain ⟨h1, h2, h3⟩ := all_yes3 (show (askOk fb nb fr nr 0 rd && cntB a nc 1 60 0 1000000000000 && isWorkers k) = true from h)
    obtain ⟨k1, k8⟩ := win_iff.1 h3
    have H1 := Lib.hid (ask_is h1).1
    have HC := Lib.hid (cntB_iff.1 h2)
    clear h
    go_enter Sq.func19, Sq.ntmps19
    go_wp2_with (first | (go_at_call 32; refine (impl_isWorkers_any _ _).mono ?_; rintro e w' ⟨rfl, rfl⟩; rw [h3]) | (go_at_call 31; refine (hasCount_any nc gc 0 cc a _ _ _ _ _ hnc (hIc.below C1)).mono ?_; rintro e w2 ⟨rfl, b2⟩; have C2 := bnext C1 b2) | (go_at_call 41; refine (isAsked_any gb cb gr cr nb nr fb fr 0 rd _ mb mr (Ib.below bA2) (Ir.below bA2)).mono ?_; rintro e w1 ⟨rfl, b1⟩; have C1 := bnext bA2 b1))
    obtain ⟨kk, rfl⟩ : ∃ kk : Nat, k = (kk : Int) := ⟨k.toNat, by omega⟩
    have z0 := HZ.out
    have z1 := b1.size
    have z2 := b2.size
    have q0 := Below.cellOf b2 rfl (Below.cellOf b1 rfl HK0.out)
    have q1 := Below.cellOf b2 rfl (Below.cellOf b1 rfl HK1.out)
    have q2 := Below.cellOf b2 rfl (Below.cellOf b1 rfl HK2.out)
    have hIc2 := hIc.below C2
    have hIb2 := Ib.below C2
    have hIr2 := Ir.below C2
    refine (Sq.sh33 (Pre := PreD B nc (dsF fb fr nb a rd)) (F := dsF fb fr nb a rd) hnc (hSat.below C2) ?_).mono ?_
    · intro w' hw'
      have cell : ∀ b i : Nat, 3 < b → b < w2.heap.size → w'.cell? ⟨b, i, none⟩ = w2.cell? ⟨b, i, none⟩ := fun b i h h' => by
        unfold World.cell?
        rw [hw' b (by omega) h']
      refine ⟨gc, cc, kk, gb, cb, gr, cr, nb, nr, w.heap.size, w.heap.size + 1, fb, fr, a, rd, rfl, rfl, by omega, by omega, rfl, ⟨hcB, hbB, hrB, by omega, hbw, hrw, by omega, hbr⟩, fun i hi => ?_, ?_, ?_, ?_, fun i hi => ?_, fun i hi => ?_, mb, mr, H1.out, fun i hi => ⟨rfl, HC.out.2 i hi⟩, by have := HC.out.1; omega⟩
      · rw [cell _ _ (by omega) (by omega)]; exact hIc2 i hi
      · rw [cell _ _ (by omega) (by omega)]; exact q0
      · rw [cell _ _ (by omega) (by omega)]; exact q1
      · rw [cell _ _ (by omega) (by omega)]; exact q2
      · rw [cell _ _ (by omega) (by omega)]; exact hIb2 i hi
      · rw [cell _ _ (by omega) (by omega)]; exact hIr2 i hi
    · rintro e w3 (⟨v3, rfl, hv3, hb3⟩ | ⟨x, ch, va, vb, vc, e0, rfl, t1, t2, t3⟩)
      · go_wp2
        go_ret2
        exact Or.inl ⟨_, rfl, hv3.mono C2.size, by rw [tab_length]; omega, bnext C2 hb3⟩
      · exact ⟨rfl, Or.inr ⟨x, ch, va, vb, vc, e0, rfl, t1, t2, t3⟩⟩
def DueSh_r1 (xb xr : List Int) (nc : Nat) (a : Nat → Int) (rd k : Int) : Bool := dsOk (fun i => xb.getD i 0) xb.length (fun i => xr.getD i 0) xr.length nc a rd k
def DueSh_r0 (xb xr : List Int) (nc : Nat) (a : Nat → Int) (rd k : Int) : List Int := dsL (fun i => xb.getD i 0) xb.length (fun i => xr.getD i 0) xr.length nc a rd k
def DueSh_F (xb xr : List Int) (a : Nat → Int) (rd : Int) : Nat → Int := dsF (fun i => xb.getD i 0) (fun i => xr.getD i 0) xb.length a rd
theorem RowS.form4 {E : TypeId} {w : World} {B : Nat} {v : Value} {b r : List Int} (h : RowS E w B v b r) :
    ∃ gb cb gr cr, v = .agg #[.slice (some ⟨gb, 0, none⟩) b.length cb, .slice (some ⟨gr, 0, none⟩) r.length cr] ∧ b.length < 1000000000 ∧ r.length < 1000000000 ∧ Ints w gb 0 b.length (fun i => b.getD i 0) ∧ Ints w gr 0 r.length (fun i => r.getD i 0) ∧ B ≤ gb ∧ gb < w.heap.size ∧ B ≤ gr ∧ gr < w.heap.size ∧ gb ≠ gr := by
  obtain ⟨vb, vr, rfl, h1, h2, hd⟩ := h
  obtain ⟨gb, cb, rfl, B1, l1, _, _, I1, _, m1⟩ := h1.form
  obtain ⟨gr, cr, rfl, B2, l2, _, _, I2, _, m2⟩ := h2.form
  exact ⟨gb, cb, gr, cr, rfl, m1, m2, I1, I2, B1, l1, B2, l2, fun e => by subst e; exact hd _ rfl rfl⟩
theorem DueSh_impl {w : World} {B : Nat} {u v : Value} {xb xr cs : List Int} {rd k : Int} (hu : RowS 2 w B u xb xr) (hv : RowI 2 w B v cs) (h4 : 3 < B) (hS : DueSh_r1 xb xr cs.length (fun i => cs.getD i 0) rd k = true → Sat2 cs.length (DueSh_F xb xr (fun i => cs.getD i 0) rd) w) :
    Calls Sq.prog 19 #[u, v, .int .i64 rd, .int .i64 k] w fun e w' => RetL1 2 w (DueSh_r0 xb xr cs.length (fun i => cs.getD i 0) rd k) (DueSh_r1 xb xr cs.length (fun i => cs.getD i 0) rd k) e w' ∨ Told (PreD B cs.length (DueSh_F xb xr (fun i => cs.getD i 0) rd)) e w' := by
  obtain ⟨gb, cb, gr, cr, rfl, mb, mr, Ib, Ir, hbB, hbw, hrB, hrw, hbr⟩ := hu.form4
  obtain ⟨gc, cc, rfl, hcB, hcw, _, _, hIc, _, hnc⟩ := hv.form
  exact dueSh_core gb cb gr cr _ _ _ _ rd k B gc cc _ _ w mb mr Ib Ir hbB hbw hrB hrw hbr hcB hcw hIc hnc h4 hS
end Go.Proofs.Ytpigjhagdpeofaa

namespace Go.Proofs.Ytpigjhagdpeofaa
open Go.RowKit Go.Proofs.Ytpigjhagdpeofaa.Sim
set_option linter.unusedVariables false
set_option maxHeartbeats 3200000 in
set_option maxRecDepth 100000 in
theorem dueSh_spec_core (gb cb gr cr nb nr : Nat) (fb fr : Nat → Int) (rd k : Int) (gc cc nc : Nat) (a : Nat → Int) (w : World) (mb : nb < 1000000000) (mr : nr < 1000000000) (Ib : Ints w gb 0 nb fb) (Ir : Ints w gr 0 nr fr) (hIc : Ints w gc 0 nc a) (hnc : nc < 1000000000) :
    Calls Sq.prog 17 #[.agg #[.slice (some ⟨gb, 0, none⟩) nb cb, .slice (some ⟨gr, 0, none⟩) nr cr], .slice (some ⟨gc, 0, none⟩) nc cc, .int .i64 rd, .int .i64 k] w (RetL1 2 w (dsL fb nb fr nr nc a rd k) (dsOk fb nb fr nr nc a rd k)) := by
  have bA : Below w.heap.size w (w.alloc (.cells #[.slice (some ⟨gb, 0, none⟩) nb cb, .slice (some ⟨gr, 0, none⟩) nr cr] 39)) := by go_grown
  have HK0 : Hid ((w.alloc (.cells #[.slice (some ⟨gb, 0, none⟩) nb cb, .slice (some ⟨gr, 0, none⟩) nr cr] 39)).cell? ⟨w.heap.size, 0, none⟩ = some (.slice (some ⟨gb, 0, none⟩) nb cb)) := by show (w.alloc (.cells #[.slice (some ⟨gb, 0, none⟩) nb cb, .slice (some ⟨gr, 0, none⟩) nr cr] 39)).cell? _ = _; simp [go_sem]
  have HK1 : Hid ((w.alloc (.cells #[.slice (some ⟨gb, 0, none⟩) nb cb, .slice (some ⟨gr, 0, none⟩) nr cr] 39)).cell? ⟨w.heap.size, 1, none⟩ = some (.slice (some ⟨gr, 0, none⟩) nr cr)) := by show (w.alloc (.cells #[.slice (some ⟨gb, 0, none⟩) nb cb, .slice (some ⟨gr, 0, none⟩) nr cr] 39)).cell? _ = _; simp [go_sem]
  have HV : Hid (∀ w', w'.cell? ⟨w.heap.size, 0, none⟩ = some (.slice (some ⟨gb, 0, none⟩) nb cb) → w'.cell? ⟨w.heap.size, 1, none⟩ = some (.slice (some ⟨gr, 0, none⟩) nr cr) → Below w.heap.size w w' → Calls Sq.prog 38 #[.pointer (some ⟨w.heap.size, 0, none⟩), .int .i64 0, .int .i64 rd] w' (RetV w' (.bool (askOk fb nb fr nr 0 rd)))) := fun w' x y hb => can_any w.heap.size gb cb gr cr nb nr fb fr 0 rd w' x y mb mr (Ib.below hb) (Ir.below hb)
  have er : dsOk fb nb fr nr nc a rd k = (askOk fb nb fr nr 0 rd && cntB a nc 1 60 0 1000000000000 && isWorkers k) := rfl
  rcases Bool.eq_false_or_eq_true (askOk fb nb fr nr 0 rd) |>.symm with h1 | h1
  · have h : dsOk fb nb fr nr nc a rd k = false := by rw [er, h1]; rfl
    rw [ds_no h, h]
    rw [h1] at HV
    clear h er
    go_enter Sq.func17, Sq.ntmps17
    go_wp2_with (first | (go_at_call 38; refine (HV.out _ HK0.out HK1.out bA).mono ?_; rintro e w2 ⟨rfl, b2⟩; have C2 := bnext bA b2))
    go_ret2
    exact RetL1.no _ C2
  have HS := Lib.hid (ask_is h1).1
  rcases Nat.lt_or_ge nc 1 with h0 | h0
  · have h : dsOk fb nb fr nr nc a rd k = false := by
      rw [er]
      cases hc : cntB a nc 1 60 0 1000000000000
      · rw [Bool.and_false, Bool.false_and]
      · have := (cntB_iff.1 hc).1.1; omega
    rw [ds_no h, h]
    rw [h1] at HV
    clear h er
    go_enter Sq.func17, Sq.ntmps17
    go_wp2_with (first | (go_at_call 38; refine (HV.out _ HK0.out HK1.out bA).mono ?_; rintro e w2 ⟨rfl, b2⟩; have C2 := bnext bA b2))
    go_ret2
    exact RetL1.no _ C2
  rcases Nat.lt_or_ge 60 nc with h2 | h2
  · have h : dsOk fb nb fr nr nc a rd k = false := by
      rw [er]
      cases hc : cntB a nc 1 60 0 1000000000000
      · rw [Bool.and_false, Bool.false_and]
      · have := (cntB_iff.1 hc).1.2; omega
    rw [ds_no h, h]
    rw [h1] at HV
    clear h er
    go_enter Sq.func17, Sq.ntmps17
    go_wp2_with (first | (go_at_call 38; refine (HV.out _ HK0.out HK1.out bA).mono ?_; rintro e w2 ⟨rfl, b2⟩; have C2 := bnext bA b2))
    go_ret2
    exact RetL1.no _ C2
  rcases Bool.eq_false_or_eq_true (isWorkers k) |>.symm with h3 | h3
  · have h : dsOk fb nb fr nr nc a rd k = false := by rw [er, h3, Bool.and_false]
    rw [ds_no h, h]
    rw [h1] at HV
    clear h er
    go_enter Sq.func17, Sq.ntmps17
    go_wp2_with (first | (go_at_call 25; refine (spec_l00In_any _ _ _ _).mono ?_; rintro e w' ⟨rfl, rfl⟩) | (go_at_call 38; refine (HV.out _ HK0.out HK1.out bA).mono ?_; rintro e w2 ⟨rfl, b2⟩; have C2 := bnext bA b2))
    go_ret2
    exact RetL1.no _ C2
  have HNO : Hid (∀ i, i < nc → win (a i) 0 1000000000000 = false → dsOk fb nb fr nr nc a rd k = false) := fun i hi hx => by
    rw [er]
    cases hc : cntB a nc 1 60 0 1000000000000
    · rw [Bool.and_false, Bool.false_and]
    · have := win_iff.2 ((cntB_iff.1 hc).2 i hi)
      rw [hx] at this
      cases this
  have HYES : Hid ((∀ i, i < nc → 0 ≤ a i ∧ a i ≤ 1000000000000) → dsOk fb nb fr nr nc a rd k = true) := fun hx => by
    rw [er, h1, h3, Bool.and_true, Bool.true_and]
    exact cntB_iff.2 ⟨⟨by omega, by omega⟩, hx⟩
  have HL0 : Hid (dsOk fb nb fr nr nc a rd k = false → dsL fb nb fr nr nc a rd k = []) := ds_no
  have HL1 : Hid (dsOk fb nb fr nr nc a rd k = true → dsL fb nb fr nr nc a rd k = tab (dsF fb fr nb a rd) nc) := ds_yes
  obtain ⟨OK, hOK⟩ : ∃ OK, dsOk fb nb fr nr nc a rd k = OK := ⟨_, rfl⟩
  obtain ⟨RL, hRL⟩ : ∃ RL, dsL fb nb fr nr nc a rd k = RL := ⟨_, rfl⟩
  rw [hOK] at HNO HYES HL0 HL1
  rw [hRL] at HL0 HL1
  rw [hOK, hRL]
  rw [h1] at HV
  clear er h1 hOK hRL
  go_enter Sq.func17, Sq.ntmps17
  go_wp2_with (first | (go_at_call 25; refine (spec_l00In_any _ _ _ _).mono ?_; rintro e w' ⟨rfl, rfl⟩) | (go_at_call 38; refine (HV.out _ HK0.out HK1.out bA).mono ?_; rintro e w2 ⟨rfl, b2⟩; have C2 := bnext bA b2))
  have K0 := Lib.hid (Below.cellOf b2 rfl HK0.out)
  have K1 := Lib.hid (Below.cellOf b2 rfl HK1.out)
  go_loopw [11, 10] (fun i v wr => ∃ q : Nat, q ≤ nc ∧ i = .int .i64 q ∧ Hid (∀ j, j < q → 0 ≤ a j ∧ a j ≤ 1000000000000) ∧ Own 2 wr w2.heap.size v (tab (dsF fb fr nb a rd) q) ∧ Below w2.heap.size w2 wr) (fun i _ _ => nc - (intOf i).toNat)
  case atStart => exact ⟨0, Nat.zero_le _, rfl, fun j hj => absurd hj (Nat.not_lt_zero _), Own.made _ _ (Nat.le_refl _), (Below.refl _ _).alloc (Nat.le_refl _) _⟩
  case round =>
    obtain ⟨q, hq, rfl, hall, hown, hbr⟩ := hrel
    have hbw := C2.trans (hbr.mono C2.size)
    by_cases hlt : q < nc
    · have hc := (hIc.below hbw).at0 q hlt
      cases hx : win (a q) 0 1000000000000
      · have HO : Hid (OK = false) := HNO.out q hlt hx
        have Z := Lib.hid (HL0.out HO.out)
        have ha : isAmount (a q) = false := hx
        go_wp2_with (first | (go_at_call 39; refine (spec_l02Cents_any _ _).mono ?_; rintro e w' ⟨rfl, rfl⟩))
        go_ret2
        rw [Z.out, HO.out]
        exact RetL1.no _ hbw
      · have hd2 := win_iff.1 hx
        have HDD := Lib.hid hd2
        have ha : isAmount (a q) = true := hx
        have HD : Hid (Calls Sq.prog 40 #[.pointer (some ⟨w.heap.size, 0, none⟩), .int .i64 (a q), .int .i64 rd] wr _) := due_spec w.heap.size gb cb gr cr nb nr fb fr (a q) rd wr (Below.cellOf hbr rfl K0.out) (Below.cellOf hbr rfl K1.out) mb mr (Ib.below hbw) (Ir.below hbw) HS.out hd2.1 hd2.2
        have HL := Lib.hid (tab_length (dsF fb fr nb a rd) q)
        have hbs := hbr.size
        have HT : Hid (tab (dsF fb fr nb a rd) (q + 1) = tab (dsF fb fr nb a rd) q ++ [dueF fb fr nb (a q) rd]) := rfl
        clear hd2
        obtain ⟨X, hX⟩ : ∃ X, dueF fb fr nb (a q) rd = X := ⟨_, rfl⟩
        rw [hX] at HD HT
        clear hX
        go_wp2_with (first | (go_at_call 39; refine (spec_l02Cents_any _ _).mono ?_; rintro e w' ⟨rfl, rfl⟩) | (go_at_call 40; refine HD.out.mono ?_; rintro e w3 ⟨rfl, m3, rfl⟩; have hown3 := hown.drewN m3) | (at_builtin; refine wpList_app1 _ rfl _ _ 23 rfl w2.heap.size 2 Sq.infoI Sq.underlying23 _ _ rfl hown3 _ rfl (by have := HL.out; omega) hbs ?_; intro v' w5 hown5 hb5))
        go_roundw
        case rel => exact ⟨q + 1, by omega, by go_num, fun j hj => by rcases Nat.lt_succ_iff_lt_or_eq.1 hj with h | rfl; exact hall.out j h; exact HDD.out, by rw [HT.out]; exact hown5, (Below.drewN' hbr m3).trans hb5⟩
        case measure => simp [intOf]; omega
    · obtain rfl : q = nc := by omega
      have HO : Hid (OK = true) := HYES.out hall.out
      have Z := Lib.hid (HL1.out HO.out)
      go_wp2_with fail
      go_ret2
      rw [Z.out, HO.out]
      exact ⟨_, rfl, hown.mono C2.size, by rw [tab_length]; exact hnc, hbw⟩
theorem DueSh_spec {w : World} {B B' : Nat} {u v : Value} {xb xr cs : List Int} {rd k : Int} (hu : RowS 2 w B u xb xr) (hv : RowI 2 w B' v cs) :
    Calls Sq.prog 17 #[u, v, .int .i64 rd, .int .i64 k] w (RetL1 2 w (DueSh_r0 xb xr cs.length (fun i => cs.getD i 0) rd k) (DueSh_r1 xb xr cs.length (fun i => cs.getD i 0) rd k)) := by
  obtain ⟨gb, cb, gr, cr, rfl, mb, mr, Ib, Ir, _⟩ := hu.form4
  obtain ⟨gc, cc, rfl, _, _, _, _, hIc, _, hnc⟩ := hv.form
  exact dueSh_spec_core gb cb gr cr _ _ _ _ rd k gc cc _ _ w mb mr Ib Ir hIc hnc
end Go.Proofs.Ytpigjhagdpeofaa

namespace Go.Proofs.Ytpigjhagdpeofaa
open Go.RowKit
set_option linter.unusedVariables false

theorem copy_set (xs : List Int) (k : Nat) (h : k < xs.length) : (xs.take k ++ List.replicate (xs.length - k) 0).set k (xs.getD k 0) = xs.take (k + 1) ++ List.replicate (xs.length - (k + 1)) 0 := by
  rw [List.set_append]
  have hl : (xs.take k).length = k := by simp; omega
  have hr : xs.length - k = (xs.length - (k + 1)) + 1 := by omega
  rw [hl, if_neg (by omega), Nat.sub_self, hr, List.replicate_succ, List.set_cons_zero, List.take_succ_eq_append_getElem h, List.append_assoc, List.singleton_append]
  simp [List.getD, h]

set_option maxHeartbeats 400000 in
theorem to_core (a : Option Addr) (cap : Nat) (xs : List Int) (w : World) (hn : xs.length < 1000000000) (ha : xs ≠ [] → ∃ g off, a = some ⟨g, off, none⟩ ∧ Ints w g off xs.length (fun i => xs.getD i 0)) :
    Calls Sq.prog 9 #[.slice a xs.length cap] w fun e w' =>
      e = .returned (.slice (some ⟨w.heap.size, 0, none⟩) xs.length xs.length) ∧ Own 2 w' w.heap.size (.slice (some ⟨w.heap.size, 0, none⟩) xs.length xs.length) xs ∧ Below w.heap.size w w' := by
  obtain ⟨n, hN⟩ : ∃ n, n = xs.length := ⟨_, rfl⟩
  have HN := Lib.hid hN
  have H0 : n = 0 ∨ ∃ g off, a = some ⟨g, off, none⟩ ∧ Ints w g off n (fun i => xs.getD i 0) := by
    by_cases hx : xs = []
    · left; rw [hN, hx]; rfl
    · right; rw [hN]; exact ha hx
  rw [← hN] at hn ⊢
  clear hN ha
  rcases H0 with h0 | ⟨g, off, rfl, hI⟩
  · subst h0
    have hx : xs = [] := List.eq_nil_of_length_eq_zero HN.out.symm
    have HX := Lib.hid hx
    clear hx
    go_enter Sq.func9, Sq.ntmps9
    go_wp2_with (at_make; refine wpList_mk _ rfl _ _ 23 rfl w.heap.size 2 Sq.infoI Sq.underlying23 _ _ _ _ 0 rfl rfl rfl rfl (by omega) (Nat.le_refl _) ?_; intro w1 hown hb)
    go_rounds 1
    go_ret
    exact ⟨rfl, by rw [HX.out]; exact hown, hb⟩
  · go_enter Sq.func9, Sq.ntmps9
    go_wp2_with (at_make; refine wpList_mk _ rfl _ _ 23 rfl w.heap.size 2 Sq.infoI Sq.underlying23 _ _ _ _ n rfl rfl rfl rfl hn (Nat.le_refl _) ?_; intro w1 hown hb)
    go_loopw [4] (fun i wr => ∃ k : Nat, k ≤ n ∧ i = .int .i64 k ∧ Own 2 wr w.heap.size (.slice (some ⟨w.heap.size, 0, none⟩) n n) (xs.take k ++ List.replicate (n - k) 0) ∧ Below w.heap.size w wr) (fun i _ => n - (intOf i).toNat)
    case atStart => exact ⟨0, Nat.zero_le _, rfl, by simpa using hown, hb⟩
    case round =>
      obtain ⟨k, hk, rfl, ho, hbr⟩ := hrel
      have hl : (xs.take k ++ List.replicate (n - k) 0).length = n := by have := HN.out; simp; omega
      by_cases hlt : k < n
      · have hc := Below.cellOf hbr rfl (hI.at k hlt)
        obtain ⟨x, hx⟩ : ∃ x, wr.cell? ⟨w.heap.size, k, none⟩ = some x := ⟨_, ho.cellAt k (by omega)⟩
        have hf := ho.freeAt k
        have hd : (xs.getD k 0) = xs.getD k 0 := rfl
        have R := ho.set hl.symm k (xs.getD k 0)
        rw [HN.out, copy_set xs k (by rw [← HN.out]; exact hlt), ← HN.out] at R
        have HR := Lib.hid R
        have HL := Lib.hid hl
        generalize xs.getD k 0 = y at hc HR
        clear R hl ho hd
        go_wp2
        go_roundw
        case rel => exact ⟨k + 1, by omega, by go_num, HR.out, hbr.setCell (Nat.le_refl _) _⟩
        case measure => simp [intOf]; omega
      · obtain rfl : k = n := by omega
        have R : Own 2 wr w.heap.size (.slice (some ⟨w.heap.size, 0, none⟩) k k) xs := by
          have := ho
          rwa [List.take_of_length_le (by rw [HN.out]; exact Nat.le_refl _), Nat.sub_self, List.replicate_zero, List.append_nil] at this
        have HR := Lib.hid R
        have HL := Lib.hid hl
        clear R hl ho
        go_wp2
        go_ret
        exact ⟨rfl, HR.out, hbr⟩

/-- What toInt64S gives. -/
def CopyI (E : TypeId) (w : World) (xs : List Int) (e : Ending) (w' : World) : Prop := ∃ v, e = .returned v ∧ RowI E w' w.heap.size v xs ∧ Below w.heap.size w w'

theorem to_i {w : World} {v : Value} {xs : List Int} (h : InI w v xs) (hn : xs.length < 1000000000) :
    Calls Sq.prog 9 #[v] w (CopyI 2 w xs) := by
  obtain ⟨a, cap, rfl, ha⟩ := h
  exact (to_core a cap xs w hn ha).mono fun e w' ⟨he, ho, hb⟩ => ⟨_, he, ⟨ho, ⟨_, _, rfl⟩, hn⟩, hb⟩
end Go.Proofs.Ytpigjhagdpeofaa

namespace Go.Proofs.Ytpigjhagdpeofaa
open Go.ChangeShapes Go.WideShapes Go.RowKit

theorem openI {H : Type} {enc : TypeId × Value → H} {P : Program} {w : World} {fuel : Nat} {t e : TypeId} {v : Value} {x : DataW H × List MemPlace} (ht : P.underlying t = some (.slice e)) (he : P.underlying e = some (.int .i64)) (hc : P.cellsOf e = 1)
    (h : DataW.trod enc P w 0 (fun _ => true) true fuel t [v] = some x) : ∃ (xs : List Int) (ad : Option Addr) (cap : Nat), v = .slice ad xs.length cap ∧ InI w (.slice ad xs.length cap) xs := by
  rcases open_ints ht he hc h with ⟨hcs, _⟩ | ⟨a, len, cap, zs, hcs, _, hl, hm, hz, hx, hcell, hwz⟩
  · simp at hcs
    subst hcs
    exact ⟨[], none, 0, rfl, none, 0, rfl, fun h => absurd rfl h⟩
  · simp at hcs
    subst hcs
    have hz' : zs.length = cap := by simpa using hz
    have hlen : (zs.take len).length = len := by rw [List.length_take]; omega
    refine ⟨zs.take len, some a, cap, by rw [hlen], some a, cap, by rw [hlen], fun hne => ?_⟩
    have h0 : 0 < zs.length := by
      rcases Nat.eq_zero_or_pos zs.length with h0 | h0
      · exfalso; apply hne; rw [List.eq_nil_of_length_eq_zero h0, List.take_nil]
      · exact h0
    obtain ⟨b, off, spot⟩ := a
    have hspot : spot = none := by simpa [Addr.add] using World.cell?_spot (hcell 0 h0)
    subst hspot
    refine ⟨b, off, rfl, fun i hi => ?_⟩
    have hi' : i < len := by omega
    have := hcell i (by omega)
    have e1 : (⟨b, off, none⟩ : Addr).add i = ⟨b, off + i, none⟩ := by unfold Addr.add; split <;> simp_all
    rw [e1] at this
    rw [this]
    simp [List.getD, hi']
theorem openI' {H : Type} {enc : TypeId × Value → H} {P : Program} {w : World} {t e : TypeId} {v : Value} {d : DataW H} {p : List MemPlace} (ht : P.underlying t = some (.slice e)) (he : P.underlying e = some (.int .i64)) (hc : P.cellsOf e = 1)
    {r : Reach} {b0 : Nat} (hv : Value.okWide P w r b0 t v) (h : DataW.Trod enc P w 0 (fun _ => true) true t v d p) : ∃ (xs : List Int) (ad : Option Addr) (cap : Nat), v = .slice ad xs.length cap ∧ InI w (.slice ad xs.length cap) xs := by
  obtain ⟨a, len, cap, rfl⟩ := okWide_slice ht hv
  obtain ⟨fuel, hf⟩ := h
  exact openI ht he hc (by simpa [Value.cells] using hf)
theorem lt_of_trod {H : Type} {enc : TypeId × Value → H} {P : Program} {w : World} {b : Nat} {s : Nat → Bool} {hd : Bool} {t : TypeId} {v : Value} {d : DataW H} {p : List MemPlace} (h : DataW.Trod enc P w b s hd t v d p) : ∀ x ∈ p, x.block < w.heap.size := by
  obtain ⟨m, hm⟩ := h
  exact DataW.trod_lt m _ _ _ hm
end Go.Proofs.Ytpigjhagdpeofaa

namespace Go.Proofs.Ytpigjhagdpeofaa
open Go.ChangeShapes Go.WideShapes Go.RowKit Go.Joins Go.Deep
set_option linter.unusedVariables false

theorem openIm {H : Type} {enc : TypeId × Value → H} {P : Program} {w : World} {fuel : Nat} {t e : TypeId} {v : Value} {x : DataW H × List MemPlace} (ht : P.underlying t = some (.slice e)) (he : P.underlying e = some (.int .i64)) (hc : P.cellsOf e = 1)
    (h : DataW.trod enc P w 0 (fun _ => true) true fuel t [v] = some x) : ∃ (xs : List Int) (ad : Option Addr) (cap : Nat), v = .slice ad xs.length cap ∧ xs.length ≤ maxLen ∧ InI w (.slice ad xs.length cap) xs := by
  obtain ⟨xs, ad, cap, hv, hi⟩ := openI ht he hc h
  refine ⟨xs, ad, cap, hv, ?_, hi⟩
  rcases open_ints ht he hc h with ⟨hcs, _⟩ | ⟨a, len, cap', zs, hcs, _, hl, hm, hz, hx, hcell, hwz⟩
  · simp at hcs
    rw [hv] at hcs
    simp only [Value.slice.injEq] at hcs
    omega
  · simp at hcs
    rw [hv] at hcs
    simp only [Value.slice.injEq] at hcs
    omega
theorem openS {H : Type} {enc : TypeId × Value → H} {P : Program} {w : World} {t e : TypeId} {f0 f1 : Field} {v : Value} {d : DataW H} {p : List MemPlace} (hs : P.underlying t = some (.struct #[f0, f1])) (hone : oneCellFields P #[f0, f1] = true) (hC : P.cellsOf t = 2)
    (h0 : P.underlying f0.type = some (.slice e)) (h1 : P.underlying f1.type = some (.slice e)) (he : P.underlying e = some (.int .i64)) (hc : P.cellsOf e = 1) {r : Reach} {b0 : Nat} (hv : Value.okWide P w r b0 t v) (h : DataW.Trod enc P w 0 (fun _ => true) true t v d p) :
    ∃ (b q : List Int) (ab ar : Option Addr) (cb cr : Nat), v = .agg #[.slice ab b.length cb, .slice ar q.length cr] ∧ InS w (.agg #[.slice ab b.length cb, .slice ar q.length cr]) b q := by
  obtain ⟨v0, v1, y0, y1, n, rfl, _, _, t0, t1⟩ := open_agg2 hs hone hC hv h
  obtain ⟨b, ab, cb, rfl, mb, ib⟩ := openIm h0 he hc t0
  obtain ⟨q, ar, cr, rfl, mr, ir⟩ := openIm h1 he hc t1
  exact ⟨b, q, ab, ar, cb, cr, rfl, ab, cb, ar, cr, rfl, mb, mr, ib, ir⟩

theorem RowI.mono' {E : TypeId} {w : World} {B B' : Nat} {v : Value} {xs : List Int} (h : RowI E w B v xs) (hB : B' ≤ B) : RowI E w B' v xs := ⟨h.1.mono hB, h.2⟩
set_option maxHeartbeats 400000 in
theorem to_s {w : World} {v : Value} {b r : List Int} (h : InS w v b r) (hn : b.length < 1000000000 ∧ r.length < 1000000000) :
    Calls Sq.prog 18 #[v] w (fun e w' => ∃ v, e = .returned v ∧ RowS 2 w' w.heap.size v b r ∧ Below w.heap.size w w') := by
  obtain ⟨ab, cb, ar, cr, rfl, _, _, ib, ir⟩ := h
  obtain ⟨mb, mr⟩ := hn
  generalize hvb : Value.slice ab b.length cb = vb at *
  generalize hvr : Value.slice ar r.length cr = vr at *
  clear hvb hvr
  go_enter Sq.func18, Sq.ntmps18
  have bA : Below w.heap.size w (((w.alloc (.cells #[vb, vr] 36)).alloc (.cells #[.slice none 0 0, .slice none 0 0] 39)).alloc (.cells #[.slice none 0 0, .slice none 0 0] 39)) := by go_grown
  go_wp2_with fail
  refine (to_i (ib.below bA) mb).mono ?_
  rintro e w1 ⟨u, rfl, hu, hb⟩
  obtain ⟨g1, c1, rfl, _, q1, _⟩ := hu.form
  have hz : w.heap.size + 3 ≤ w1.heap.size := by have := hb.size; simp at this; omega
  have k0 : w1.cell? ⟨w.heap.size + 1 + 1, 0, none⟩ = some (.slice none 0 0) := Below.cellOf hb rfl (by simp [go_sem])
  have k1 : w1.cell? ⟨w.heap.size + 1 + 1, 1, none⟩ = some (.slice none 0 0) := Below.cellOf hb rfl (by simp [go_sem])
  have k2 : w1.cell? ⟨w.heap.size, 1, none⟩ = some vr := Below.cellOf hb rfl (by simp [go_sem])
  have f0 : w1.frozen? ⟨w.heap.size + 1 + 1, 0, none⟩ = false := (hb.frozen (p := ⟨w.heap.size + 1 + 1, 0, none⟩) (by simp)).trans (by simp [go_sem])
  have f1 : w1.frozen? ⟨w.heap.size + 1 + 1, 1, none⟩ = false := (hb.frozen (p := ⟨w.heap.size + 1 + 1, 1, none⟩) (by simp)).trans (by simp [go_sem])
  have HK5 : Hid (w1.cell? ⟨w.heap.size + 1, 0, none⟩ = some (.slice none 0 0)) := Below.cellOf hb rfl (by simp [go_sem])
  have HK6 : Hid (w1.cell? ⟨w.heap.size + 1, 1, none⟩ = some (.slice none 0 0)) := Below.cellOf hb rfl (by simp [go_sem])
  have HF5 : Hid (w1.frozen? ⟨w.heap.size + 1, 0, none⟩ = false) := (hb.frozen (p := ⟨w.heap.size + 1, 0, none⟩) (by simp)).trans (by simp [go_sem])
  have HF6 : Hid (w1.frozen? ⟨w.heap.size + 1, 1, none⟩ = false) := (hb.frozen (p := ⟨w.heap.size + 1, 1, none⟩) (by simp)).trans (by simp [go_sem])
  have C1 : Below w.heap.size w w1 := bnext bA hb
  have HU := Lib.hid hu
  have HF1 := Lib.hid f1
  have HK1 := Lib.hid k1
  clear hu f1 k1
  go_wp2_with fail
  have bS : Below w.heap.size w (w1.setCell ⟨w.heap.size + 1 + 1, 0, none⟩ (.slice (some ⟨g1, 0, none⟩) b.length c1)) := C1.setCell (by simp; omega) _
  refine (to_i (ir.below bS) mr).mono ?_
  rintro e w2 ⟨u2, rfl, hu2, hb2⟩
  obtain ⟨g2, c2, rfl, _, q2, _⟩ := hu2.form
  have bq : ∀ j v, Only (w.heap.size + 2) (w.heap.size + 3) w1 (w1.setCell ⟨w.heap.size + 1 + 1, j, none⟩ v) := fun j v => (Only.refl _ _ _).setCell (by simp) (by simp) _
  have hul : ∀ k, (Value.slice (some ⟨g1, 0, none⟩) b.length c1).ownBlock = some k → k < w.heap.size + 2 ∨ w.heap.size + 3 ≤ k := fun k hk => by have := (HU.out.lt k hk).1; simp at this; omega
  have hu1' := (HU.out.only (bq 0 _) hul).below hb2
  have hz2 : w.heap.size + 3 ≤ w2.heap.size := by have := hb2.size; simp at this; omega
  have k3 : w2.cell? ⟨w.heap.size + 1 + 1, 0, none⟩ = some (.slice (some ⟨g1, 0, none⟩) b.length c1) := Below.cellOf hb2 rfl (by simp [go_sem, k0])
  have k4 : w2.cell? ⟨w.heap.size + 1 + 1, 1, none⟩ = some (.slice none 0 0) := Below.cellOf hb2 rfl (by simp [go_sem, HK1.out])
  have f2 : w2.frozen? ⟨w.heap.size + 1 + 1, 1, none⟩ = false := (hb2.frozen (p := ⟨w.heap.size + 1 + 1, 1, none⟩) (by simp; omega)).trans (by simp [go_sem, HF1.out])
  have k5 : w2.cell? ⟨w.heap.size + 1, 0, none⟩ = some (.slice none 0 0) := Below.cellOf hb2 rfl (by simp [go_sem, HK5.out])
  have k6 : w2.cell? ⟨w.heap.size + 1, 1, none⟩ = some (.slice none 0 0) := Below.cellOf hb2 rfl (by simp [go_sem, HK6.out])
  have f5 : w2.frozen? ⟨w.heap.size + 1, 0, none⟩ = false := (hb2.frozen (p := ⟨w.heap.size + 1, 0, none⟩) (by simp; omega)).trans (by simp [go_sem, HF5.out])
  have f6 : w2.frozen? ⟨w.heap.size + 1, 1, none⟩ = false := (hb2.frozen (p := ⟨w.heap.size + 1, 1, none⟩) (by simp; omega)).trans (by simp [go_sem, HF6.out])
  have C2 : Below w.heap.size w w2 := bS.trans (hb2.mono (by simp; omega))
  have hlt1 : ∀ k, (Value.slice (some ⟨g1, 0, none⟩) b.length c1).ownBlock = some k → (Value.slice (some ⟨g2, 0, none⟩) r.length c2).ownBlock = some k → False := fun k h1 h2 => by have := (HU.out.lt k h1).2; have := (hu2.lt k h2).1; simp at this; omega
  have HU2 := Lib.hid hu2
  have HA := Lib.hid hlt1
  have HU1 := Lib.hid hu1'
  have HL := Lib.hid hul
  clear hu2 hlt1 hu1' hul bq
  go_wp2_with fail
  refine bodyPost_ret (v := .agg #[.slice (some ⟨g1, 0, none⟩) b.length c1, .slice (some ⟨g2, 0, none⟩) r.length c2]) (by first | simp [results, go_sem, k5, k6] | simp [results, Sq.results18, go_sem, k5, k6]) rfl ?_
  have bW : ∀ u1 u2 u3, Only (w.heap.size + 1) (w.heap.size + 3) w2 (((w2.setCell ⟨w.heap.size + 1 + 1, 1, none⟩ u1).setCell ⟨w.heap.size + 1, 0, none⟩ u2).setCell ⟨w.heap.size + 1, 1, none⟩ u3) := fun u1 u2 u3 => (((Only.refl _ _ _).setCell (by simp) (by simp) _).setCell (by simp) (by simp) _).setCell (by simp) (by simp) _
  refine ⟨_, rfl, ⟨_, _, rfl, (HU1.out.only (bW _ _ _) (fun k hk => ?_)).mono' (by simp; omega), (HU2.out.only (bW _ _ _) (fun k hk => ?_)).mono' (by simp; omega), HA.out⟩, ((C2.setCell (by simp; omega) _).setCell (by simp) _).setCell (by simp) _⟩
  · have := (HU1.out.lt k hk).1; simp at this; omega
  · have := (HU2.out.lt k hk).1; simp at this; omega
end Go.Proofs.Ytpigjhagdpeofaa

namespace Go.Proofs.Ytpigjhagdpeofaa
open Go.RowKit
set_option linter.unusedVariables false

/-- k, k + 1, .. -/
def marks (k : Int) : Nat → List Int
  | 0 => []
  | n + 1 => marks k n ++ [k + n]
theorem marks_length (k : Int) (n : Nat) : (marks k n).length = n := by
  induction n with
  | zero => rfl
  | succ n ih => simp [marks, ih]
theorem marks_get (k : Int) (n i : Nat) (h : i < n) : (marks k n).getD i 0 = k + i := by
  induction n with
  | zero => omega
  | succ n ih =>
    have hl := marks_length k n
    by_cases hi : i < n
    · have := ih hi
      simp only [marks, List.getD, List.getElem?_append, hl, hi, if_true] at this ⊢
      exact this
    · obtain rfl : i = n := by omega
      simp [marks, List.getD, hl]

set_option maxHeartbeats 400000 in
theorem eq_core (n g1 g2 c1 c2 : Nat) (f : Nat → Int) (w : World) (hn : n < 1000000000) (H1 : Ints w g1 0 n f) (H2 : Ints w g2 0 n f) :
    Calls Sq.prog 11 #[.slice (some ⟨g1, 0, none⟩) n c1, .slice (some ⟨g2, 0, none⟩) n c2] w fun e w' => e = .returned (.bool true) ∧ Below w.heap.size w w' := by
  go_enter Sq.func11, Sq.ntmps11
  go_wp2
  go_loopw [5] (fun i wr => ∃ k : Nat, k ≤ n ∧ i = .int .i64 k ∧ Below w.heap.size w wr) (fun i _ => n - (intOf i).toNat)
  case atStart => exact ⟨0, Nat.zero_le _, rfl, Below.refl _ _⟩
  case round =>
    obtain ⟨k, hk, rfl, hb⟩ := hrel
    by_cases hlt : k < n
    · have c1 := Below.cellOf hb rfl (H1.at0 k hlt)
      have c2 := Below.cellOf hb rfl (H2.at0 k hlt)
      go_wp2
      go_quiet (fail)
      go_wp2
      go_roundw
      case rel => exact ⟨k + 1, by omega, by go_num, Below.drewN' hb _⟩
      case measure => simp [intOf]; omega
    · go_wp2
      go_ret
      exact ⟨rfl, hb⟩

theorem eq_none (a1 a2 : Option Addr) (c1 c2 : Nat) (w : World) :
    Calls Sq.prog 11 #[.slice a1 0 c1, .slice a2 0 c2] w fun e w' => e = .returned (.bool true) ∧ Below w.heap.size w w' := by
  go_enter Sq.func11, Sq.ntmps11
  go_wp2
  go_rounds 1
  go_ret
  exact ⟨rfl, Below.refl _ _⟩

theorem eq_i {E : TypeId} {w : World} {B1 B2 : Nat} {v1 v2 : Value} {xs : List Int} (h1 : Own E w B1 v1 xs) (h2 : Own E w B2 v2 xs) (hn : xs.length < 1000000000) :
    Calls Sq.prog 11 #[v1, v2] w fun e w' => e = .returned (.bool true) ∧ Below w.heap.size w w' := by
  obtain ⟨a1, c1, rfl, k1⟩ := h1.shape
  obtain ⟨a2, c2, rfl, k2⟩ := h2.shape
  by_cases hx : xs = []
  · subst hx
    exact eq_none a1 a2 c1 c2 w
  · obtain ⟨g1, rfl, _, _, _, _, i1, _⟩ := k1 hx
    obtain ⟨g2, rfl, _, _, _, _, i2, _⟩ := k2 hx
    exact eq_core xs.length g1 g2 c1 c2 _ w hn i1 i2
theorem marks_set (k : Int) (xs : List Int) (j : Nat) (h : j < xs.length) : (marks k j ++ xs.drop j).set j (k + j) = marks k (j + 1) ++ xs.drop (j + 1) := by
  have hl := marks_length k j
  rw [List.set_append]
  simp only [hl, Nat.lt_irrefl, if_false, Nat.sub_self]
  rw [List.drop_eq_getElem_cons h]
  simp only [List.set_cons_zero, marks, List.append_assoc, List.singleton_append]

set_option maxHeartbeats 400000 in
theorem mark_core {E : TypeId} (g c B : Nat) (xs : List Int) (k0 : Int) (w : World) (hn : xs.length < 1000000000) (hk0 : 0 ≤ k0) (hk1 : k0 < 100000000000) (h : Own E w B (.slice (some ⟨g, 0, none⟩) xs.length c) xs) :
    Calls Sq.prog 14 #[.slice (some ⟨g, 0, none⟩) xs.length c, .int .i64 k0] w fun e w' =>
      e = .returned (.int .i64 (k0 + xs.length)) ∧ Own E w' B (.slice (some ⟨g, 0, none⟩) xs.length c) (marks k0 xs.length) ∧ Only g (g + 1) w w' := by
  obtain ⟨n, hN⟩ : ∃ n, n = xs.length := ⟨_, rfl⟩
  have HN := Lib.hid hN
  rw [← hN] at h hn ⊢
  clear hN
  go_enter Sq.func14, Sq.ntmps14
  go_wp2
  go_loopw [1, 5] (fun kv i wr => ∃ j : Nat, j ≤ n ∧ i = .int .i64 j ∧ kv = .int .i64 (k0 + j) ∧ Own E wr B (.slice (some ⟨g, 0, none⟩) n c) (marks k0 j ++ xs.drop j) ∧ Only g (g + 1) w wr) (fun _ i _ => n - (intOf i).toNat)
  case atStart => exact ⟨0, Nat.zero_le _, rfl, by go_num, by simpa [marks] using h, Only.refl _ _ _⟩
  case round =>
    obtain ⟨j, hj, rfl, rfl, ho, hb⟩ := hrel
    have hl : (marks k0 j ++ xs.drop j).length = n := by rw [HN.out, List.length_append, marks_length, List.length_drop]; rw [HN.out] at hj; omega
    by_cases hlt : j < n
    · obtain ⟨x, hx⟩ : ∃ x, wr.cell? ⟨g, j, none⟩ = some x := by
        rcases ho.form with ⟨h0, _⟩ | ⟨g', c', hv, _, _, _, _, hi, _⟩
        · cases h0
        · simp only [Value.slice.injEq, Option.some.injEq, Addr.mk.injEq, and_true] at hv
          obtain ⟨rfl, _, rfl⟩ := hv
          exact ⟨_, hi.at0 j (by omega)⟩
      have hf : wr.frozen? ⟨g, j, none⟩ = false := by
        rcases ho.form with ⟨h0, _⟩ | ⟨g', c', hv, _, _, _, _, _, hfz⟩
        · cases h0
        · simp only [Value.slice.injEq, Option.some.injEq, Addr.mk.injEq, and_true] at hv
          obtain ⟨rfl, _, rfl⟩ := hv
          exact hfz j
      have R := ho.set hl.symm j (k0 + j)
      rw [marks_set k0 xs j (by rw [← HN.out]; exact hlt)] at R
      have HR := Lib.hid R
      have HL := Lib.hid hl
      clear R hl ho
      go_wp2
      go_roundw
      case rel => exact ⟨j + 1, by omega, by go_num, by go_num, HR.out, hb.setCell (Nat.le_refl _) (Nat.lt_succ_self _) _⟩
      case measure => simp [intOf]; omega
    · obtain rfl : j = n := by omega
      have R : Own E wr B (.slice (some ⟨g, 0, none⟩) j c) (marks k0 j) := by
        have := ho
        rwa [List.drop_of_length_le (by rw [HN.out]; exact Nat.le_refl _), List.append_nil] at this
      have HR := Lib.hid R
      have HL := Lib.hid hl
      clear R hl ho
      go_wp2
      go_ret
      exact ⟨rfl, HR.out, hb⟩

theorem mark_none (a : Option Addr) (c : Nat) (k0 : Int) (w : World) :
    Calls Sq.prog 14 #[.slice a 0 c, .int .i64 k0] w fun e w' => e = .returned (.int .i64 k0) ∧ w = w' := by
  go_enter Sq.func14, Sq.ntmps14
  go_wp2
  go_rounds 1
  go_ret
  exact ⟨rfl, rfl⟩

/-- What marking leaves. -/
def Marked (E : TypeId) (w : World) (B : Nat) (v : Value) (n : Nat) (k0 : Int) (e : Ending) (w' : World) : Prop :=
  e = .returned (.int .i64 (k0 + n)) ∧ Own E w' B v (marks k0 n) ∧ ∀ lo hi, (∀ b, v.ownBlock = some b → lo ≤ b ∧ b < hi) → Only lo hi w w'

theorem mark_i {E : TypeId} {w : World} {B : Nat} {v : Value} {xs : List Int} (k0 : Int) (h : Own E w B v xs) (hn : xs.length < 1000000000) (hk0 : 0 ≤ k0) (hk1 : k0 < 100000000000) :
    Calls Sq.prog 14 #[v, .int .i64 k0] w (Marked E w B v xs.length k0) := by
  have h0 := h
  obtain ⟨a, c, rfl, k⟩ := h.shape
  by_cases hx : xs = []
  · subst hx
    refine (mark_none a c k0 w).mono fun e w' ⟨he, hw⟩ => ?_
    subst hw
    exact ⟨by rw [he]; simp, h0, fun _ _ _ => Only.refl _ _ _⟩
  · obtain ⟨g, rfl, _⟩ := k hx
    refine (mark_core g c B xs k0 w hn hk0 hk1 h0).mono fun e w' ⟨he, ho, hb⟩ => ⟨he, ho, fun lo hi hr => ?_⟩
    obtain ⟨h1, h2⟩ := hr g rfl
    exact ⟨hb.os, hb.tape, hb.output, hb.size, fun k hk hd => hb.block k hk (by omega)⟩

set_option maxHeartbeats 400000 in
theorem held_core (n g c : Nat) (k0 : Int) (w : World) (hn : n < 1000000000) (hk0 : 0 ≤ k0) (hk1 : k0 < 100000000000) (H : Ints w g 0 n (fun i => k0 + i)) :
    Calls Sq.prog 15 #[.slice (some ⟨g, 0, none⟩) n c, .int .i64 k0] w fun e w' => e = .returned (.int .i64 (k0 + n)) ∧ Below w.heap.size w w' := by
  go_enter Sq.func15, Sq.ntmps15
  go_wp2
  go_loopw [1, 5] (fun kv i wr => ∃ j : Nat, j ≤ n ∧ i = .int .i64 j ∧ kv = .int .i64 (k0 + j) ∧ Below w.heap.size w wr) (fun _ i _ => n - (intOf i).toNat)
  case atStart => exact ⟨0, Nat.zero_le _, rfl, by go_num, Below.refl _ _⟩
  case round =>
    obtain ⟨j, hj, rfl, rfl, hb⟩ := hrel
    by_cases hlt : j < n
    · have c1 := Below.cellOf hb rfl (H.at0 j hlt)
      go_wp2
      go_roundw
      case rel => exact ⟨j + 1, by omega, by go_num, by go_num, hb⟩
      case measure => simp [intOf]; omega
    · obtain rfl : j = n := by omega
      go_wp2
      go_ret
      exact ⟨rfl, hb⟩

theorem held_none (a : Option Addr) (c : Nat) (k0 : Int) (w : World) :
    Calls Sq.prog 15 #[.slice a 0 c, .int .i64 k0] w fun e w' => e = .returned (.int .i64 k0) ∧ w = w' := by
  go_enter Sq.func15, Sq.ntmps15
  go_wp2
  go_rounds 1
  go_ret
  exact ⟨rfl, rfl⟩

theorem held_i {E : TypeId} {w : World} {B : Nat} {v : Value} {n : Nat} (k0 : Int) (h : Own E w B v (marks k0 n)) (hn : n < 1000000000) (hk0 : 0 ≤ k0) (hk1 : k0 < 100000000000) :
    Calls Sq.prog 15 #[v, .int .i64 k0] w fun e w' => e = .returned (.int .i64 (k0 + n)) ∧ Below w.heap.size w w' := by
  obtain ⟨a, c, rfl, k⟩ := h.shape
  have hl := marks_length k0 n
  by_cases hx : n = 0
  · subst hx
    refine (held_none a c k0 w).mono fun e w' ⟨he, hw⟩ => ?_
    subst hw
    exact ⟨by rw [he]; simp, Below.refl _ _⟩
  · obtain ⟨g, rfl, _, _, _, _, hi, _⟩ := k (fun e => by rw [e] at hl; simp at hl; omega)
    rw [hl] at hi ⊢
    refine held_core n g c k0 w hn hk0 hk1 fun i h => ?_
    rw [hi i h]
    exact congrArg (fun x => some (Value.int .i64 x)) (marks_get k0 n i h)
end Go.Proofs.Ytpigjhagdpeofaa

namespace Go.Proofs.Ytpigjhagdpeofaa
open Go.RowKit
set_option linter.unusedVariables false

set_option maxHeartbeats 400000 in
theorem eq_s {w : World} {B1 B2 : Nat} {v1 v2 : Value} {b r : List Int} (h1 : OwnS 2 w B1 v1 b r) (h2 : OwnS 2 w B2 v2 b r) (hn : b.length < 1000000000 ∧ r.length < 1000000000) :
    Calls Sq.prog 20 #[v1, v2] w (RetV w (.bool true)) := by
  obtain ⟨a1, d1, rfl, x1, y1, _⟩ := h1
  obtain ⟨a2, d2, rfl, x2, y2, _⟩ := h2
  obtain ⟨mb, mr⟩ := hn
  have bA : Below w.heap.size w ((w.alloc (.cells #[a1, d1] 39)).alloc (.cells #[a2, d2] 39)) := by go_grown
  have K0 : ((w.alloc (.cells #[a1, d1] 39)).alloc (.cells #[a2, d2] 39)).cell? ⟨w.heap.size, 1, none⟩ = some d1 := by simp [go_sem]
  have K1 : ((w.alloc (.cells #[a1, d1] 39)).alloc (.cells #[a2, d2] 39)).cell? ⟨w.heap.size + 1, 1, none⟩ = some d2 := by simp [go_sem]
  have HK0 := Lib.hid K0
  have HK1 := Lib.hid K1
  clear K0 K1
  go_enter Sq.func20, Sq.ntmps20
  go_wp2_with fail
  refine (eq_i (x1.below bA) (x2.below bA) mb).mono ?_
  rintro e w1 ⟨rfl, hb⟩
  have k0 := Below.cellOf hb rfl HK0.out
  have k1 := Below.cellOf hb rfl HK1.out
  have C1 := bnext bA hb
  go_wp2_with fail
  refine (eq_i (y1.below C1) (y2.below C1) mr).mono ?_
  rintro e w2 ⟨rfl, hb2⟩
  go_wp2_with fail
  go_ret
  exact ⟨rfl, bnext C1 hb2⟩

theorem sz_i_yes (a : Option Addr) (n cap : Nat) (L : Int) (w : World) (hm : n ≤ maxLen) (hL : 0 ≤ L ∧ L ≤ 1048576) (hs : (n : Int) ≤ L) : Calls Sq.prog 37 #[.slice a n cap, .int .i64 L] w fun e w' => e = .returned (.int .i64 (L - n)) ∧ w = w' := by
  unfold maxLen at hm
  go_enter Sq.func37, Sq.ntmps37
  go_wp2
  go_ret
  exact ⟨rfl, rfl⟩
theorem sz_i_no (a : Option Addr) (n cap : Nat) (L : Int) (w : World) (hm : n ≤ maxLen) (hL : 0 ≤ L ∧ L ≤ 1048576) (hs : L < (n : Int)) : Calls Sq.prog 37 #[.slice a n cap, .int .i64 L] w fun e w' => e = .returned (.int .i64 (-1)) ∧ w = w' := by
  unfold maxLen at hm
  go_enter Sq.func37, Sq.ntmps37
  go_wp2
  go_ret
  exact ⟨rfl, rfl⟩
theorem sz_s_no {w : World} {v : Value} {b r : List Int} (h : InS w v b r) {L : Int} (hs : L < (b.length : Int) + r.length) (hL : 0 ≤ L ∧ L ≤ 1048576) : Calls Sq.prog 16 #[v, .int .i64 L] w (RetV w (.int .i64 (-1))) := by
  obtain ⟨ab, cb, ar, cr, rfl, mb, mr, _, _⟩ := h
  generalize b.length = nb at *
  generalize r.length = nr at *
  rcases Int.lt_or_le L nb with h1 | h1
  · go_enter Sq.func16, Sq.ntmps16
    go_wp2_with fail
    refine (sz_i_no ab nb cb L _ mb hL h1).mono ?_
    rintro e w1 ⟨rfl, rfl⟩
    go_wp2_with fail
    go_ret
    exact ⟨rfl, by go_grown⟩
  · go_enter Sq.func16, Sq.ntmps16
    go_wp2_with fail
    refine (sz_i_yes ab nb cb L _ mb hL h1).mono ?_
    rintro e w1 ⟨rfl, rfl⟩
    go_wp2_with fail
    refine (sz_i_no ar nr cr _ _ mr (by omega) (by omega)).mono ?_
    rintro e w1 ⟨rfl, rfl⟩
    go_wp2_with fail
    go_ret
    exact ⟨rfl, by go_grown⟩
theorem sz_s_yes {w : World} {v : Value} {b r : List Int} (h : InS w v b r) {L : Int} (hs : (b.length : Int) + r.length ≤ L) (hL : 0 ≤ L ∧ L ≤ 1048576) : Calls Sq.prog 16 #[v, .int .i64 L] w (RetV w (.int .i64 (L - ((b.length : Int) + r.length)))) := by
  obtain ⟨ab, cb, ar, cr, rfl, mb, mr, _, _⟩ := h
  generalize b.length = nb at *
  generalize r.length = nr at *
  go_enter Sq.func16, Sq.ntmps16
  go_wp2_with fail
  refine (sz_i_yes ab nb cb L _ mb hL (by omega)).mono ?_
  rintro e w1 ⟨rfl, rfl⟩
  go_wp2_with fail
  refine (sz_i_yes ar nr cr _ _ mr (by omega) (by omega)).mono ?_
  rintro e w1 ⟨rfl, rfl⟩
  go_wp2_with fail
  go_ret
  exact ⟨ret_int (by omega), by go_grown⟩
end Go.Proofs.Ytpigjhagdpeofaa

namespace Go.Proofs.Ytpigjhagdpeofaa
open Go.RowKit
set_option linter.unusedVariables false

/-- What marking a scale leaves. -/
def MarkedS (E : TypeId) (w : World) (B : Nat) (v : Value) (n m : Nat) (k0 : Int) (e : Ending) (w' : World) : Prop :=
  e = .returned (.int .i64 (k0 + n + m)) ∧ OwnS E w' B v (marks k0 n) (marks (k0 + n) m) ∧ ∀ lo hi, (∀ b, inS v b → lo ≤ b ∧ b < hi) → Only lo hi w w'
theorem Only.trans' {lo hi : Nat} {a b c : World} (h : Only lo hi a b) (h' : Only lo hi b c) : Only lo hi a c :=
  ⟨h'.os.trans h.os, h'.tape.trans h.tape, h'.output.trans h.output, Nat.le_trans h.size h'.size, fun k hk hd => (h'.block k (Nat.lt_of_lt_of_le hk h.size) hd).trans (h.block k hk hd)⟩
theorem Only.ofBelow {lo hi : Nat} {a b : World} (h : Below a.heap.size a b) : Only lo hi a b := ⟨h.os, h.tape, h.output, h.size, fun k hk _ => h.block k hk⟩
set_option maxHeartbeats 400000 in
theorem mark_s {w : World} {B : Nat} {v : Value} {b r : List Int} (k0 : Int) (h : OwnS 2 w B v b r) (hn : b.length < 1000000000 ∧ r.length < 1000000000) (hk0 : 0 ≤ k0) (hk1 : k0 < 90000000000) :
    Calls Sq.prog 21 #[v, .int .i64 k0] w (MarkedS 2 w B v b.length r.length k0) := by
  obtain ⟨vb, vr, rfl, x, y, d⟩ := h
  obtain ⟨mb, mr⟩ := hn
  have D := Lib.hid d
  clear d
  have bA : Below w.heap.size w (w.alloc (.cells #[vb, vr] 39)) := by go_grown
  have K0 : (w.alloc (.cells #[vb, vr] 39)).cell? ⟨w.heap.size, 1, none⟩ = some vr := by simp [go_sem]
  have hz : (w.alloc (.cells #[vb, vr] 39)).heap.size = w.heap.size + 1 := by simp
  have HK0 := Lib.hid K0
  have HZ := Lib.hid hz
  clear K0 hz
  have x' := x.below bA
  have y' := y.below bA
  have lb := Lib.hid x.lt
  have lr := Lib.hid y.lt
  go_enter Sq.func21, Sq.ntmps21
  go_wp2_with fail
  refine (mark_i k0 x' mb hk0 (by omega)).mono ?_
  rintro e w1 ⟨rfl, q, n1⟩
  have N1 := Lib.hid n1
  have o1 : ∀ hi, w.heap.size ≤ hi → Only 0 hi (w.alloc (.cells #[vb, vr] 39)) w1 := fun hi h0 => N1.out 0 hi (fun k hk => ⟨Nat.zero_le _, by have := (lb.out k hk).2; omega⟩)
  have k0' : w1.cell? ⟨w.heap.size, 1, none⟩ = some vr := by
    have hlt : w.heap.size < (w.alloc (.cells #[vb, vr] 39)).heap.size := by rw [HZ.out]; omega
    have hbk := (o1 w.heap.size (Nat.le_refl _)).block w.heap.size hlt (.inr (Nat.le_refl _))
    have hc := HK0.out
    unfold World.cell? at hc ⊢
    simp only at hc ⊢
    rw [hbk]
    exact hc
  have y1 : Own 2 w1 B vr r := y'.onlyOf n1 (fun k h1 h2 => D.out k h2 h1)
  clear n1 o1
  go_wp2_with fail
  refine (mark_i (k0 + b.length) y1 mr (by omega) (by omega)).mono ?_
  rintro e w2 ⟨rfl, q2, n2⟩
  have q1 : Own 2 w2 B vb (marks k0 b.length) := q.onlyOf n2 (fun k h1 h2 => D.out k h1 h2)
  go_wp2_with fail
  go_ret
  refine ⟨rfl, ⟨vb, vr, rfl, q1, q2, D.out⟩, fun lo hi hk => ?_⟩
  have t1 : Only lo hi w (w.alloc (.cells #[vb, vr] 39)) := Only.ofBelow bA
  exact (t1.trans' (N1.out lo hi fun k h => hk k ⟨vb, vr, rfl, .inl h⟩)).trans' (n2 lo hi fun k h => hk k ⟨vb, vr, rfl, .inr h⟩)
end Go.Proofs.Ytpigjhagdpeofaa

namespace Go.Proofs.Ytpigjhagdpeofaa
open Go.RowKit Go.Proofs.Ytpigjhagdpeofaa.Sim
set_option linter.unusedVariables false
section
variable {n : Nat} {F : Nat → Int} {W : World}
theorem lone_cellA {a : Addr} (h : 4 ≤ a.block) : (lone0 n F W).cell? a = W.cell? ⟨a.block - 2, a.off, a.spot⟩ := by
  show (match (Sq.h (loneL n F W))[a.block]? with | some (.cells c _ _) => if a.spot.isSome then none else c[a.off]? | _ => none) = W.cell? ⟨a.block - 2, a.off, a.spot⟩
  rw [lone_at h]
  unfold World.cell?
  cases W.heap[a.block - 2]? with
  | none => rfl
  | some o => cases o <;> rfl
theorem lone_cell {b i : Nat} (h : 2 ≤ b) : (lone0 n F W).cell? ⟨b + 2, i, none⟩ = W.cell? ⟨b, i, none⟩ := lone_cellA (a := ⟨b + 2, i, none⟩) (by show 4 ≤ b + 2; omega)
/-- Two blocks up. -/
def up2 (a : Option Addr) : Option Addr := a.map fun a => ⟨a.block + 2, a.off, a.spot⟩
theorem InR.lone {k c : Nat} {ad : Option Addr} {X : Rec} (h : InR k W (.slice ad X.length c) X) (h2 : ∀ a, ad = some a → 2 ≤ a.block) : InR k (lone0 n F W) (.slice (up2 ad) X.length c) X := by
  obtain ⟨a, cap, hv, hm, ha⟩ := h
  cases hv
  refine ⟨_, _, rfl, hm, fun hx => ?_⟩
  obtain ⟨g, off, rfl, hI⟩ := ha hx
  have hg : 2 ≤ g := h2 _ rfl
  exact ⟨g + 2, off, rfl, fun i hi j hj => by rw [lone_cell hg]; exact hI i hi j hj⟩
theorem InI.lone {c : Nat} {ad : Option Addr} {xs : List Int} (h : InI W (.slice ad xs.length c) xs) (h2 : ∀ a, ad = some a → 2 ≤ a.block) : InI (lone0 n F W) (.slice (up2 ad) xs.length c) xs := by
  obtain ⟨a, cap, hv, ha⟩ := h
  cases hv
  refine ⟨_, _, rfl, fun hx => ?_⟩
  obtain ⟨g, off, rfl, hI⟩ := ha hx
  have hg : 2 ≤ g := h2 _ rfl
  exact ⟨g + 2, off, rfl, fun i hi => by rw [lone_cell hg]; exact hI i hi⟩
theorem lone_sat (h2 : 2 ≤ W.heap.size) : Sat2 n F (lone0 n F W) := by
  refine ⟨⟨#[.int .i64 0, .nilFunc], 58, rfl, rfl⟩, fun p hp => ?_, ?_⟩
  · show (Sq.rowF n F)[p]? = _
    exact Sq.rowF_at hp
  · have : (lone0 n F W).heap.size = W.heap.size + 2 := lone_size h2
    omega
theorem Sat2.tp {w : World} (h : Sat2 n F w) (U : Nat → Question → Nat) (K : Nat) : Sat2 n F (Sim.tp w U K) := ⟨h.box, h.orc, h.low⟩
end
end Go.Proofs.Ytpigjhagdpeofaa
