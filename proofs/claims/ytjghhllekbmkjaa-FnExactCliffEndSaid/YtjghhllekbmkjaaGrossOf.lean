/-
  impl.GrossOf and spec.GrossOf answer alike: every scale of fewer than 1000000000 integers a list, every number. No other condition.
-/
import Derived.Test.YtjghhllekbmkjaaScaleO
import Derived.Test.YtjghhllekbmkjaaLeastI
import Derived.Test.YtjghhllekbmkjaaWithin
import Derived.Deep.QuietTactic
import Derived.BigQuiet
import Derived.Test.YtjghhllekbmkjaaLeastS
namespace Go.Proofs.Ytjghhllekbmkjaa
open Go.RowKit
set_option linter.unusedVariables false

def grsOk (fb : Nat → Int) (nb : Nat) (fr : Nat → Int) (nr : Nat) (t r : Int) : Bool := askOk fb nb fr nr t r && allW fr 0 9999 nr
def grs1 (fb : Nat → Int) (nb : Nat) (fr : Nat → Int) (nr : Nat) (t r : Int) : Bool := grsOk fb nb fr nr t r && ls1 (geB fb fr nb r t) 0 && decide (netF fb fr nb (bs (geB fb fr nb r t) 0 1000000000000) r = t)
def grs0 (fb : Nat → Int) (nb : Nat) (fr : Nat → Int) (nr : Nat) (t r : Int) : Int := bif grs1 fb nb fr nr t r then bs (geB fb fr nb r t) 0 1000000000000 else 0
section
variable {fb fr : Nat → Int} {nb nr : Nat} {t r : Int}
theorem grs_no (h : grs1 fb nb fr nr t r = false) : grs0 fb nb fr nr t r = 0 := by simp only [grs0, h, cond_false]
theorem grs_yes (h : grs1 fb nb fr nr t r = true) : grs0 fb nb fr nr t r = bs (geB fb fr nb r t) 0 1000000000000 := by simp only [grs0, h, cond_true]
theorem grs_n1 (h : grsOk fb nb fr nr t r = false) : grs1 fb nb fr nr t r = false := by simp only [grs1, h, Bool.false_and]
theorem grs_n2 (h : ls1 (geB fb fr nb r t) 0 = false) : grs1 fb nb fr nr t r = false := by simp only [grs1, h, Bool.and_false, Bool.false_and]
theorem grs_n3 (h : ¬ netF fb fr nb (bs (geB fb fr nb r t) 0 1000000000000) r = t) : grs1 fb nb fr nr t r = false := by simp only [grs1, decide_eq_false h, Bool.and_false]
theorem grs_y (h1 : grsOk fb nb fr nr t r = true) (h2 : ls1 (geB fb fr nb r t) 0 = true) (h3 : netF fb fr nb (bs (geB fb fr nb r t) 0 1000000000000) r = t) : grs1 fb nb fr nr t r = true := by simp only [grs1, h1, h2, decide_eq_true h3, Bool.and_true]
end
def GrossOf_r0 (xb xr : List Int) (t r : Int) : Int := grs0 (fun i => xb.getD i 0) xb.length (fun i => xr.getD i 0) xr.length t r
def GrossOf_r1 (xb xr : List Int) (t r : Int) : Bool := grs1 (fun i => xb.getD i 0) xb.length (fun i => xr.getD i 0) xr.length t r

theorem below_any (gb cb gr cr nb nr : Nat) (fb fr : Nat → Int) (w : World) (mb : nb < 1000000000) (mr : nr < 1000000000) (Ib : Ints w gb 0 nb fb) (Ir : Ints w gr 0 nr fr) : Calls Try.prog 71 #[.agg #[.slice (some ⟨gb, 0, none⟩) nb cb, .slice (some ⟨gr, 0, none⟩) nr cr]] w (RetV w (.bool (allW fr 0 9999 nr))) := by
  have bA : Below w.heap.size w (w.alloc (.cells #[.slice (some ⟨gb, 0, none⟩) nb cb, .slice (some ⟨gr, 0, none⟩) nr cr] 28)) := by go_grown
  go_enter Try.func71, Try.ntmps71
  go_wp2_with (first | (go_at_call 94; refine (areWithin_any nr gr 0 cr fr _ _ _ mr (Ir.below bA)).mono ?_; rintro e w1 ⟨rfl, hb⟩))
  go_ret
  exact ⟨rfl, bnext bA hb⟩

set_option maxHeartbeats 3200000 in
theorem grs_impl (gb cb gr cr nb nr : Nat) (fb fr : Nat → Int) (t r : Int) (w : World) (mb : nb < 1000000000) (mr : nr < 1000000000) (Ib : Ints w gb 0 nb fb) (Ir : Ints w gr 0 nr fr) : Calls Try.prog 37 #[.agg #[.slice (some ⟨gb, 0, none⟩) nb cb, .slice (some ⟨gr, 0, none⟩) nr cr], .int .i64 t, .int .i64 r] w (RetV w (.tuple #[.int .i64 (grs0 fb nb fr nr t r), .bool (grs1 fb nb fr nr t r)])) := by
  have bA : Below w.heap.size w (((w.alloc (.cells #[.slice (some ⟨gb, 0, none⟩) nb cb, .slice (some ⟨gr, 0, none⟩) nr cr] 28)).alloc (.cells #[.int .i64 t] 2)).alloc (.cells #[.int .i64 r] 2)) := by go_grown
  have HK0 : Hid ((((w.alloc (.cells #[.slice (some ⟨gb, 0, none⟩) nb cb, .slice (some ⟨gr, 0, none⟩) nr cr] 28)).alloc (.cells #[.int .i64 t] 2)).alloc (.cells #[.int .i64 r] 2)).cell? ⟨w.heap.size, 0, none⟩ = some (.slice (some ⟨gb, 0, none⟩) nb cb)) := by show World.cell? _ _ = _; simp [go_sem]
  have HK1 : Hid ((((w.alloc (.cells #[.slice (some ⟨gb, 0, none⟩) nb cb, .slice (some ⟨gr, 0, none⟩) nr cr] 28)).alloc (.cells #[.int .i64 t] 2)).alloc (.cells #[.int .i64 r] 2)).cell? ⟨w.heap.size, 1, none⟩ = some (.slice (some ⟨gr, 0, none⟩) nr cr)) := by show World.cell? _ _ = _; simp [go_sem]
  have HK2 : Hid ((((w.alloc (.cells #[.slice (some ⟨gb, 0, none⟩) nb cb, .slice (some ⟨gr, 0, none⟩) nr cr] 28)).alloc (.cells #[.int .i64 t] 2)).alloc (.cells #[.int .i64 r] 2)).cell? ⟨w.heap.size + 1, 0, none⟩ = some (.int .i64 t)) := by show World.cell? _ _ = _; simp [go_sem]
  have HK3 : Hid ((((w.alloc (.cells #[.slice (some ⟨gb, 0, none⟩) nb cb, .slice (some ⟨gr, 0, none⟩) nr cr] 28)).alloc (.cells #[.int .i64 t] 2)).alloc (.cells #[.int .i64 r] 2)).cell? ⟨w.heap.size + 1 + 1, 0, none⟩ = some (.int .i64 r)) := by show World.cell? _ _ = _; simp [go_sem]
  cases h : grsOk fb nb fr nr t r
  · rw [grs_no (grs_n1 h), grs_n1 h]
    rcases first_no2 h with h1 | ⟨h1, h2⟩
    all_goals
      clear h
      go_enter Try.func37, Try.ntmps37
      go_wp2_with (first | (go_at_call 53; refine (isAsked_any gb cb gr cr nb nr fb fr _ _ _ mb mr (Ib.below bA) (Ir.below bA)).mono ?_; rintro e w1 ⟨rfl, hb⟩; have k0 := Below.cellOf hb rfl HK0.out; have k1 := Below.cellOf hb rfl HK1.out; have C1 := bnext bA hb) | (go_at_call 71; refine (below_any gb cb gr cr nb nr fb fr _ mb mr (Ib.below C1) (Ir.below C1)).mono ?_; rintro e w2 ⟨rfl, hb2⟩; have C2 := bnext C1 hb2))
      go_ret2
      exact ⟨rfl, by assumption⟩
  obtain ⟨h1, h2⟩ := all_yes2 h
  have hs := (ask_is h1).1
  have t0 := (ask_is h1).2.1
  have HS := Lib.hid hs
  have H := Lib.hid h
  have HQ : Hid (∀ w1 : World, Below w.heap.size w w1 → w1.cell? ⟨w.heap.size, 0, none⟩ = some (.slice (some ⟨gb, 0, none⟩) nb cb) → w1.cell? ⟨w.heap.size, 1, none⟩ = some (.slice (some ⟨gr, 0, none⟩) nr cr) → w1.cell? ⟨w.heap.size + 1, 0, none⟩ = some (.int .i64 t) → w1.cell? ⟨w.heap.size + 1 + 1, 0, none⟩ = some (.int .i64 r) →
      Calls Try.prog 72 #[.int .i64 0, .func (.func 78) #[] #[.pointer (some ⟨w.heap.size, 0, none⟩), .pointer (some ⟨w.heap.size + 1 + 1, 0, none⟩), .pointer (some ⟨w.heap.size + 1, 0, none⟩)]] w1 (RetV w1 (.tuple #[.int .i64 (ls0 (geB fb fr nb r t) 0), .bool (ls1 (geB fb fr nb r t) 0)]))) := fun w1 C k0 k1 k2 k3 =>
    least_gross 0 (geB fb fr nb r t) _ w1 (by omega) (by omega) (fun w' hb c c0 c1 => ge_gross c r t w.heap.size (w.heap.size + 1 + 1) (w.heap.size + 1) gb cb gr cr nb nr fb fr w' (Below.cellOf hb rfl k0) (Below.cellOf hb rfl k1) (Below.cellOf hb rfl k3) (Below.cellOf hb rfl k2) mb mr (Ib.below (bnext C hb)) (Ir.below (bnext C hb)) hs c0 c1)
  clear h hs
  have HR0 : Hid (∀ x, grs1 fb nb fr nr t r = x → grs0 fb nb fr nr t r = (bif x then bs (geB fb fr nb r t) 0 1000000000000 else 0)) := fun x hx => by rw [← hx]; rfl
  cases h3 : ls1 (geB fb fr nb r t) 0
  · have HX := Lib.hid (grs_n2 (nr := nr) h3)
    have HX0 := Lib.hid (HR0.out _ HX.out)
    have HE := Lib.hid (ls_no h3)
    rw [h3] at HQ
    rw [HE.out] at HQ
    clear h3
    generalize hV : grs0 fb nb fr nr t r = V at *
    generalize hU : grs1 fb nb fr nr t r = U at *
    clear hV hU
    go_enter Try.func37, Try.ntmps37
    go_wp2_with (first | (go_at_call 53; refine (isAsked_any gb cb gr cr nb nr fb fr _ _ _ mb mr (Ib.below bA) (Ir.below bA)).mono ?_; rintro e w1 ⟨rfl, hb⟩; have k0 := Below.cellOf hb rfl HK0.out; have k1 := Below.cellOf hb rfl HK1.out; have k2 := Below.cellOf hb rfl HK2.out; have k3 := Below.cellOf hb rfl HK3.out; have C1 := bnext bA hb) | (go_at_call 71; refine (below_any gb cb gr cr nb nr fb fr _ mb mr (Ib.below C1) (Ir.below C1)).mono ?_; rintro e w2 ⟨rfl, hb2⟩; have C2 := bnext C1 hb2; replace k0 := Below.cellOf hb2 rfl k0; replace k1 := Below.cellOf hb2 rfl k1; replace k2 := Below.cellOf hb2 rfl k2; replace k3 := Below.cellOf hb2 rfl k3))
    refine (HQ.out _ C2 k0 k1 k2 k3).mono ?_
    rintro e w3 ⟨rfl, hb3⟩
    go_wp2_with fail
    go_quiet (fail)
    go_wp2
    go_ret2
    exact ⟨ret_ib2 HX0.out.symm HX.out.symm, Below.drewN' (bnext C2 hb3) _⟩
  · have HE := Lib.hid (ls_yes h3)
    obtain ⟨c0, c1⟩ := ls_bd h3
    have HR1 : Hid (netF fb fr nb (bs (geB fb fr nb r t) 0 1000000000000) r = t → grs1 fb nb fr nr t r = true) := grs_y H.out h3
    have HR2 : Hid (¬ netF fb fr nb (bs (geB fb fr nb r t) 0 1000000000000) r = t → grs1 fb nb fr nr t r = false) := grs_n3
    rw [h3] at HQ
    rw [HE.out] at HQ
    clear h3 HE
    generalize bs (geB fb fr nb r t) 0 1000000000000 = C at *
    generalize hV : grs0 fb nb fr nr t r = V at *
    generalize hU : grs1 fb nb fr nr t r = U at *
    clear hV hU
    have M : ∃ u, (netF fb fr nb C r != t) = u ∧ U = !u := by
      by_cases h4 : netF fb fr nb C r = t
      · exact ⟨false, by simp [h4], HR1.out h4⟩
      · exact ⟨true, by simp [h4], HR2.out h4⟩
    obtain ⟨u, hu, hU⟩ := M
    have HU := Lib.hid hU
    have HX0 := Lib.hid (HR0.out _ hU)
    clear hU
    cases u
    all_goals
      go_enter Try.func37, Try.ntmps37
      go_wp2_with (first | (go_at_call 53; refine (isAsked_any gb cb gr cr nb nr fb fr _ _ _ mb mr (Ib.below bA) (Ir.below bA)).mono ?_; rintro e w1 ⟨rfl, hb⟩; have k0 := Below.cellOf hb rfl HK0.out; have k1 := Below.cellOf hb rfl HK1.out; have k2 := Below.cellOf hb rfl HK2.out; have k3 := Below.cellOf hb rfl HK3.out; have C1 := bnext bA hb) | (go_at_call 71; refine (below_any gb cb gr cr nb nr fb fr _ mb mr (Ib.below C1) (Ir.below C1)).mono ?_; rintro e w2 ⟨rfl, hb2⟩; have C2 := bnext C1 hb2; replace k0 := Below.cellOf hb2 rfl k0; replace k1 := Below.cellOf hb2 rfl k1; replace k2 := Below.cellOf hb2 rfl k2; replace k3 := Below.cellOf hb2 rfl k3))
      refine (HQ.out _ C2 k0 k1 k2 k3).mono ?_
      rintro e w3 ⟨rfl, hb3⟩
      have C3 := bnext C2 hb3
      replace k0 := Below.cellOf hb3 rfl k0
      replace k1 := Below.cellOf hb3 rfl k1
      replace k2 := Below.cellOf hb3 rfl k2
      replace k3 := Below.cellOf hb3 rfl k3
      have D1 := Ib.below C3
      have D2 := Ir.below C3
      go_wp2_with fail
      go_region_held3 (fun w' => w'.cell? ⟨w.heap.size, 0, none⟩ = some (.slice (some ⟨gb, 0, none⟩) nb cb) ∧ w'.cell? ⟨w.heap.size, 1, none⟩ = some (.slice (some ⟨gr, 0, none⟩) nr cr) ∧ w'.cell? ⟨w.heap.size + 1, 0, none⟩ = some (.int .i64 t) ∧ w'.cell? ⟨w.heap.size + 1 + 1, 0, none⟩ = some (.int .i64 r) ∧ Ints w' gb 0 nb fb ∧ Ints w' gr 0 nr fr ∧ Below w.heap.size w w')
        (first | (exact ⟨Below.cellOf ((Below.refl _ _).drew) rfl k0, Below.cellOf ((Below.refl _ _).drew) rfl k1, Below.cellOf ((Below.refl _ _).drew) rfl k2, Below.cellOf ((Below.refl _ _).drew) rfl k3, D1.below ((Below.refl _ _).drew), D2.below ((Below.refl _ _).drew), C3.drew⟩) | (go_split_ands; refine ⟨Below.cellOf hb4 rfl (by assumption), Below.cellOf hb4 rfl (by assumption), Below.cellOf hb4 rfl (by assumption), Below.cellOf hb4 rfl (by assumption), Ints.below (by assumption) hb4, Ints.below (by assumption) hb4, bnext (by assumption) hb4⟩))
        ((first | (go_at_call 67; refine (net_impl gb cb gr cr nb nr fb fr _ _ _ mb mr (by assumption) (by assumption) HS.out (by omega) (by omega)).mono ?_; rintro e w4 ⟨rfl, hb4⟩)))
      rename_i hH
      have hfin := hH.2.2.2.2.2.2
      clear hH
      go_wp2
      go_ret2
      exact ⟨ret_ib2 HX0.out.symm HU.out.symm, hfin⟩

set_option maxHeartbeats 1600000 in
theorem grs_spec (gb cb gr cr nb nr : Nat) (fb fr : Nat → Int) (t r : Int) (w : World) (mb : nb < 1000000000) (mr : nr < 1000000000) (Ib : Ints w gb 0 nb fb) (Ir : Ints w gr 0 nr fr) : Calls Try.prog 36 #[.agg #[.slice (some ⟨gb, 0, none⟩) nb cb, .slice (some ⟨gr, 0, none⟩) nr cr], .int .i64 t, .int .i64 r] w (RetV w (.tuple #[.int .i64 (grs0 fb nb fr nr t r), .bool (grs1 fb nb fr nr t r)])) := by
  have bA : Below w.heap.size w (w.alloc (.cells #[.slice (some ⟨gb, 0, none⟩) nb cb, .slice (some ⟨gr, 0, none⟩) nr cr] 28)) := by go_grown
  have HK0 : Hid ((w.alloc (.cells #[.slice (some ⟨gb, 0, none⟩) nb cb, .slice (some ⟨gr, 0, none⟩) nr cr] 28)).cell? ⟨w.heap.size, 0, none⟩ = some (.slice (some ⟨gb, 0, none⟩) nb cb)) := by show (w.alloc (.cells #[.slice (some ⟨gb, 0, none⟩) nb cb, .slice (some ⟨gr, 0, none⟩) nr cr] 28)).cell? _ = _; simp [go_sem]
  have HK1 : Hid ((w.alloc (.cells #[.slice (some ⟨gb, 0, none⟩) nb cb, .slice (some ⟨gr, 0, none⟩) nr cr] 28)).cell? ⟨w.heap.size, 1, none⟩ = some (.slice (some ⟨gr, 0, none⟩) nr cr)) := by show (w.alloc (.cells #[.slice (some ⟨gb, 0, none⟩) nb cb, .slice (some ⟨gr, 0, none⟩) nr cr] 28)).cell? _ = _; simp [go_sem]
  cases h : grsOk fb nb fr nr t r
  · rw [grs_no (grs_n1 h), grs_n1 h]
    rcases first_no2 h with h1 | ⟨h1, h2⟩
    · clear h
      go_enter Try.func36, Try.ntmps36
      go_wp2_with (first | (go_at_call 49; refine (can_any w.heap.size gb cb gr cr nb nr fb fr _ _ _ HK0.out HK1.out mb mr (Ib.below bA) (Ir.below bA)).mono ?_; rintro e w1 ⟨rfl, hb⟩; have k0 := Below.cellOf hb rfl HK0.out; have k1 := Below.cellOf hb rfl HK1.out; have C1 := bnext bA hb))
      go_ret2
      exact ⟨rfl, C1⟩
    · have hs := (ask_is h1).1
      have HS := Lib.hid hs
      clear h hs
      go_enter Try.func36, Try.ntmps36
      go_wp2_with (first | (go_at_call 49; refine (can_any w.heap.size gb cb gr cr nb nr fb fr _ _ _ HK0.out HK1.out mb mr (Ib.below bA) (Ir.below bA)).mono ?_; rintro e w1 ⟨rfl, hb⟩; have k0 := Below.cellOf hb rfl HK0.out; have k1 := Below.cellOf hb rfl HK1.out; have C1 := bnext bA hb) | (go_at_call 69; refine (grows_any w.heap.size gb cb gr cr nb nr fb fr _ k0 k1 mb mr (Ib.below C1) (Ir.below C1) HS.out).mono ?_; rintro e w2 ⟨rfl, rfl⟩))
      go_ret2
      exact ⟨rfl, C1⟩
  obtain ⟨h1, h2⟩ := all_yes2 h
  have hs := (ask_is h1).1
  have t0 := (ask_is h1).2.1
  have HS := Lib.hid hs
  have H := Lib.hid h
  clear h hs
  cases h3 : ls1 (geB fb fr nb r t) 0
  · rw [grs_no (grs_n2 h3), grs_n2 h3]
    have HE := Lib.hid (lsS_no h3)
    clear h3
    go_enter Try.func36, Try.ntmps36
    go_wp2_with (first | (go_at_call 49; refine (can_any w.heap.size gb cb gr cr nb nr fb fr _ _ _ HK0.out HK1.out mb mr (Ib.below bA) (Ir.below bA)).mono ?_; rintro e w1 ⟨rfl, hb⟩; have k0 := Below.cellOf hb rfl HK0.out; have k1 := Below.cellOf hb rfl HK1.out; have C1 := bnext bA hb) | (go_at_call 69; refine (grows_any w.heap.size gb cb gr cr nb nr fb fr _ k0 k1 mb mr (Ib.below C1) (Ir.below C1) HS.out).mono ?_; rintro e w2 ⟨rfl, rfl⟩))
    have HG := gross_spec w.heap.size gb cb gr cr nb nr fb fr 0 t r _ k0 k1 mb mr (Ib.below C1) (Ir.below C1) HS.out (by omega) (by omega)
    rw [HE.out] at HG
    refine HG.mono ?_
    clear HG
    rintro e w2 ⟨rfl, hb2⟩
    go_wp2
    go_ret2
    exact ⟨rfl, bnext C1 hb2⟩
  · have HE := Lib.hid (lsS_yes h3)
    obtain ⟨c0, c1⟩ := ls_bd h3
    have HR0 : Hid (∀ x, grs1 fb nb fr nr t r = x → grs0 fb nb fr nr t r = (bif x then bs (geB fb fr nb r t) 0 1000000000000 else 0)) := fun x hx => by rw [← hx]; rfl
    have HR1 : Hid (netF fb fr nb (bs (geB fb fr nb r t) 0 1000000000000) r = t → grs1 fb nb fr nr t r = true) := grs_y H.out h3
    have HR2 : Hid (¬ netF fb fr nb (bs (geB fb fr nb r t) 0 1000000000000) r = t → grs1 fb nb fr nr t r = false) := grs_n3
    clear h3
    generalize bs (geB fb fr nb r t) 0 1000000000000 = C at *
    by_cases h4 : netF fb fr nb C r = t
    · have HX := Lib.hid (HR1.out h4)
      have HX0 := Lib.hid (HR0.out _ HX.out)
      have h4' : (netF fb fr nb C r != t) = false := by simp [h4]
      clear h4
      go_enter Try.func36, Try.ntmps36
      go_wp2_with (first | (go_at_call 49; refine (can_any w.heap.size gb cb gr cr nb nr fb fr _ _ _ HK0.out HK1.out mb mr (Ib.below bA) (Ir.below bA)).mono ?_; rintro e w1 ⟨rfl, hb⟩; have k0 := Below.cellOf hb rfl HK0.out; have k1 := Below.cellOf hb rfl HK1.out; have C1 := bnext bA hb) | (go_at_call 69; refine (grows_any w.heap.size gb cb gr cr nb nr fb fr _ k0 k1 mb mr (Ib.below C1) (Ir.below C1) HS.out).mono ?_; rintro e w2 ⟨rfl, rfl⟩))
      have HG := gross_spec w.heap.size gb cb gr cr nb nr fb fr 0 t r _ k0 k1 mb mr (Ib.below C1) (Ir.below C1) HS.out (by omega) (by omega)
      rw [HE.out] at HG
      refine HG.mono ?_
      clear HG
      rintro e w2 ⟨rfl, hb2⟩
      have k2 := Below.cellOf hb2 rfl k0
      have k3 := Below.cellOf hb2 rfl k1
      have C2 := bnext C1 hb2
      go_wp2_with fail
      refine (net_spec w.heap.size gb cb gr cr nb nr fb fr _ _ _ k2 k3 mb mr (Ib.below C2) (Ir.below C2) HS.out (by omega) (by omega)).mono ?_
      rintro e w3 ⟨rfl, m, rfl⟩
      go_wp2
      go_ret2
      exact ⟨ret_ib2 HX0.out.symm HX.out.symm, Below.drewN' C2 _⟩
    · have HX := Lib.hid (HR2.out h4)
      have HX0 := Lib.hid (HR0.out _ HX.out)
      have h4' : (netF fb fr nb C r != t) = true := by simp [h4]
      clear h4
      go_enter Try.func36, Try.ntmps36
      go_wp2_with (first | (go_at_call 49; refine (can_any w.heap.size gb cb gr cr nb nr fb fr _ _ _ HK0.out HK1.out mb mr (Ib.below bA) (Ir.below bA)).mono ?_; rintro e w1 ⟨rfl, hb⟩; have k0 := Below.cellOf hb rfl HK0.out; have k1 := Below.cellOf hb rfl HK1.out; have C1 := bnext bA hb) | (go_at_call 69; refine (grows_any w.heap.size gb cb gr cr nb nr fb fr _ k0 k1 mb mr (Ib.below C1) (Ir.below C1) HS.out).mono ?_; rintro e w2 ⟨rfl, rfl⟩))
      have HG := gross_spec w.heap.size gb cb gr cr nb nr fb fr 0 t r _ k0 k1 mb mr (Ib.below C1) (Ir.below C1) HS.out (by omega) (by omega)
      rw [HE.out] at HG
      refine HG.mono ?_
      clear HG
      rintro e w2 ⟨rfl, hb2⟩
      have k2 := Below.cellOf hb2 rfl k0
      have k3 := Below.cellOf hb2 rfl k1
      have C2 := bnext C1 hb2
      go_wp2_with fail
      refine (net_spec w.heap.size gb cb gr cr nb nr fb fr _ _ _ k2 k3 mb mr (Ib.below C2) (Ir.below C2) HS.out (by omega) (by omega)).mono ?_
      rintro e w3 ⟨rfl, m, rfl⟩
      go_wp2
      go_ret2
      exact ⟨ret_ib2 HX0.out.symm HX.out.symm, Below.drewN' C2 _⟩

theorem GrossOf_impl {w : World} {B : Nat} {v : Value} {xb xr : List Int} (h : RowS 2 w B v xb xr) (y0 y1 : Int) :
    Calls Try.prog 37 #[v, .int .i64 y0, .int .i64 y1] w (RetV w (.tuple #[.int .i64 (GrossOf_r0 xb xr y0 y1), .bool (GrossOf_r1 xb xr y0 y1)])) := by
  obtain ⟨gb, cb, gr, cr, rfl, mb, mr, Ib, Ir⟩ := h.form
  exact grs_impl gb cb gr cr _ _ _ _ y0 y1 w mb mr Ib Ir

theorem GrossOf_spec {w : World} {B : Nat} {v : Value} {xb xr : List Int} (h : RowS 2 w B v xb xr) (y0 y1 : Int) :
    Calls Try.prog 36 #[v, .int .i64 y0, .int .i64 y1] w (RetV w (.tuple #[.int .i64 (GrossOf_r0 xb xr y0 y1), .bool (GrossOf_r1 xb xr y0 y1)])) := by
  obtain ⟨gb, cb, gr, cr, rfl, mb, mr, Ib, Ir⟩ := h.form
  exact grs_spec gb cb gr cr _ _ _ _ y0 y1 w mb mr Ib Ir
end Go.Proofs.Ytjghhllekbmkjaa
