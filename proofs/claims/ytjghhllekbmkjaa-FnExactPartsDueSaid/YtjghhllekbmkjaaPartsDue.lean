/-
  impl.PartsDue and spec.PartsDue answer alike: every scale of fewer than 1000000000 integers a list, every number. No other condition.
-/
import Derived.Test.YtjghhllekbmkjaaScaleO
import Derived.Test.YtjghhllekbmkjaaScaleW
import Derived.Test.YtjghhllekbmkjaaScaleD
import Derived.Test.YtjghhllekbmkjaaAmount
import Derived.Deep.RegionHeld3
namespace Go.Proofs.Ytjghhllekbmkjaa
open Go.RowKit
set_option linter.unusedVariables false

def ptdOk (fb : Nat → Int) (nb : Nat) (fr : Nat → Int) (nr : Nat) (c p m r : Int) : Bool := askOk fb nb fr nr c r && win p 2 16 && isAmount m
def ptdF (fb fr : Nat → Int) (nb : Nat) (c p m r : Int) : Int := max (p * dueF fb fr nb (c * 2 / p) r / 2) (dueF fb fr nb c r - m)
def ptd1 (fb : Nat → Int) (nb : Nat) (fr : Nat → Int) (nr : Nat) (c p m r : Int) : Bool := ptdOk fb nb fr nr c p m r && isAmount (ptdF fb fr nb c p m r)
def ptd0 (fb : Nat → Int) (nb : Nat) (fr : Nat → Int) (nr : Nat) (c p m r : Int) : Int := bif ptdOk fb nb fr nr c p m r then amt (ptdF fb fr nb c p m r) else 0
section
variable {fb fr : Nat → Int} {nb nr : Nat} {c p m r : Int}
theorem ptd_no (h : ptdOk fb nb fr nr c p m r = false) : ptd0 fb nb fr nr c p m r = 0 ∧ ptd1 fb nb fr nr c p m r = false := by simp only [ptd0, ptd1, h, cond_false, Bool.false_and, and_self]
theorem ptd_yes (h : ptdOk fb nb fr nr c p m r = true) : ptd0 fb nb fr nr c p m r = amt (ptdF fb fr nb c p m r) ∧ ptd1 fb nb fr nr c p m r = isAmount (ptdF fb fr nb c p m r) := by simp only [ptd0, ptd1, h, cond_true, Bool.true_and, and_self]
theorem ptd_part {c p : Int} (c0 : 0 ≤ c) (p0 : 2 ≤ p) : 0 ≤ c * 2 / p ∧ c * 2 / p ≤ c := by
  refine ⟨Int.ediv_nonneg (by omega) (by omega), ?_⟩
  refine Int.ediv_le_of_le_mul (by omega) ?_
  exact Int.mul_le_mul_of_nonneg_left p0 c0
theorem ptd_bd (hs : ScaleIs fb nb fr nr) (c0 : 0 ≤ c) (c1 : c ≤ 1000000000000) (p0 : 2 ≤ p) (p1 : p ≤ 16) (r : Int) : (0 ≤ c * 2 / p ∧ c * 2 / p ≤ 1000000000000) ∧ (0 ≤ dueF fb fr nb (c * 2 / p) r ∧ dueF fb fr nb (c * 2 / p) r ≤ 9000000000000) ∧ (0 ≤ p * dueF fb fr nb (c * 2 / p) r ∧ p * dueF fb fr nb (c * 2 / p) r ≤ 144000000000000) ∧ 0 ≤ dueF fb fr nb c r ∧ dueF fb fr nb c r ≤ 9000000000000 := by
  obtain ⟨x0, x1⟩ := ptd_part c0 p0
  have d1 := dueF_bd hs x0 r
  have d2 := dueF_bd hs c0 r
  have d3 : p * dueF fb fr nb (c * 2 / p) r ≤ 16 * 9000000000000 := Int.mul_le_mul p1 (by omega) d1.1 (by omega)
  exact ⟨⟨x0, by omega⟩, ⟨d1.1, by omega⟩, ⟨Int.mul_nonneg (by omega) d1.1, by omega⟩, d2.1, by omega⟩
end
def PartsDue_r0 (xb xr : List Int) (c p m r : Int) : Int := ptd0 (fun i => xb.getD i 0) xb.length (fun i => xr.getD i 0) xr.length c p m r
def PartsDue_r1 (xb xr : List Int) (c p m r : Int) : Bool := ptd1 (fun i => xb.getD i 0) xb.length (fun i => xr.getD i 0) xr.length c p m r

theorem l00Max_any (a b : Int) (w : World) : Calls Try.prog 61 #[.int .i64 a, .int .i64 b] w fun e w' => e = .returned (.int .i64 (max a b)) ∧ w = w' := by
  go_enter Try.func61, Try.ntmps61
  go_wp2
  all_goals (go_ret; exact ⟨ret_int (by omega), rfl⟩)
set_option maxHeartbeats 1600000 in
theorem ptd_impl (gb cb gr cr nb nr : Nat) (fb fr : Nat → Int) (c p m r : Int) (w : World) (mb : nb < 1000000000) (mr : nr < 1000000000) (Ib : Ints w gb 0 nb fb) (Ir : Ints w gr 0 nr fr) : Calls Try.prog 22 #[.agg #[.slice (some ⟨gb, 0, none⟩) nb cb, .slice (some ⟨gr, 0, none⟩) nr cr], .int .i64 c, .int .i64 p, .int .i64 m, .int .i64 r] w (RetV w (.tuple #[.int .i64 (ptd0 fb nb fr nr c p m r), .bool (ptd1 fb nb fr nr c p m r)])) := by
  have bA : Below w.heap.size w (w.alloc (.cells #[.slice (some ⟨gb, 0, none⟩) nb cb, .slice (some ⟨gr, 0, none⟩) nr cr] 28)) := by go_grown
  have HK0 : Hid ((w.alloc (.cells #[.slice (some ⟨gb, 0, none⟩) nb cb, .slice (some ⟨gr, 0, none⟩) nr cr] 28)).cell? ⟨w.heap.size, 0, none⟩ = some (.slice (some ⟨gb, 0, none⟩) nb cb)) := by show (w.alloc (.cells #[.slice (some ⟨gb, 0, none⟩) nb cb, .slice (some ⟨gr, 0, none⟩) nr cr] 28)).cell? _ = _; simp [go_sem]
  have HK1 : Hid ((w.alloc (.cells #[.slice (some ⟨gb, 0, none⟩) nb cb, .slice (some ⟨gr, 0, none⟩) nr cr] 28)).cell? ⟨w.heap.size, 1, none⟩ = some (.slice (some ⟨gr, 0, none⟩) nr cr)) := by show (w.alloc (.cells #[.slice (some ⟨gb, 0, none⟩) nb cb, .slice (some ⟨gr, 0, none⟩) nr cr] 28)).cell? _ = _; simp [go_sem]
  cases h : ptdOk fb nb fr nr c p m r
  · rw [(ptd_no h).1, (ptd_no h).2]
    rcases first_no3 h with h1 | ⟨h1, h2 | ⟨h2, h3⟩⟩
    all_goals
      clear h
      go_enter Try.func22, Try.ntmps22
      go_wp2_with (first | (go_at_call 54; refine (impl_isAmount_any _ _).mono ?_; rintro e w' ⟨rfl, rfl⟩) | (go_at_call 62; refine (impl_within_any _ _ _ _).mono ?_; rintro e w' ⟨rfl, rfl⟩) | (go_at_call 53; refine (isAsked_any gb cb gr cr nb nr fb fr _ _ _ mb mr (Ib.below bA) (Ir.below bA)).mono ?_; rintro e w1 ⟨rfl, hb⟩; have k0 := Below.cellOf hb rfl HK0.out; have k1 := Below.cellOf hb rfl HK1.out; have C1 := bnext bA hb))
      go_ret2
      exact ⟨rfl, C1⟩
  · rw [(ptd_yes h).1, (ptd_yes h).2]
    obtain ⟨h1, h2, h3⟩ := all_yes3 h
    obtain ⟨hs, ⟨c0, c1⟩, _⟩ := ask_is h1
    obtain ⟨p0, p1⟩ := win_iff.1 h2
    obtain ⟨m0, m1⟩ := win_iff.1 h3
    obtain ⟨⟨x0, x1⟩, ⟨y0, y1⟩, ⟨z0, z1⟩, u0, u1⟩ := ptd_bd hs c0 c1 p0 p1 r
    have HS := Lib.hid hs
    have HE : Hid (ptdF fb fr nb c p m r = max (p * dueF fb fr nb (c * 2 / p) r / 2) (dueF fb fr nb c r - m)) := rfl
    have HD : Hid (∀ w' : World, Ints w' gb 0 nb fb → Ints w' gr 0 nr fr → ∀ x : Int, (0 ≤ x ∧ x ≤ 1000000000000) → Calls Try.prog 60 #[.agg #[.slice (some ⟨gb, 0, none⟩) nb cb, .slice (some ⟨gr, 0, none⟩) nr cr], .int .i64 x, .int .i64 r] w' (RetV w' (.int .i64 (dueF fb fr nb x r)))) := fun w' i1 i2 x hx => due_impl gb cb gr cr nb nr fb fr x r w' mb mr i1 i2 hs hx.1 hx.2
    have X1 : 0 ≤ c * 2 / p ∧ c * 2 / p ≤ 1000000000000 := ⟨x0, x1⟩
    have X2 : 0 ≤ c ∧ c ≤ 1000000000000 := ⟨c0, c1⟩
    clear h hs
    go_enter Try.func22, Try.ntmps22
    go_wp2_with (first | (go_at_call 54; refine (impl_isAmount_any _ _).mono ?_; rintro e w' ⟨rfl, rfl⟩) | (go_at_call 62; refine (impl_within_any _ _ _ _).mono ?_; rintro e w' ⟨rfl, rfl⟩) | (go_at_call 53; refine (isAsked_any gb cb gr cr nb nr fb fr _ _ _ mb mr (Ib.below bA) (Ir.below bA)).mono ?_; rintro e w1 ⟨rfl, hb⟩; have k0 := Below.cellOf hb rfl HK0.out; have k1 := Below.cellOf hb rfl HK1.out; have C1 := bnext bA hb))
    have D1 := Ib.below C1
    have D2 := Ir.below C1
    have e1 : IntKind.i64.wrap (p * dueF fb fr nb (c * 2 / p) r) = p * dueF fb fr nb (c * 2 / p) r := IntWalk.i64_in _ (by omega)
    have e2 : IntKind.i64.wrap ((p * dueF fb fr nb (c * 2 / p) r).tdiv 2) = p * dueF fb fr nb (c * 2 / p) r / 2 := by rw [Int.tdiv_eq_ediv_of_nonneg z0]; exact IntWalk.i64_in _ (by omega)
    go_region_held3 (fun w' => w'.cell? ⟨w.heap.size, 0, none⟩ = some (.slice (some ⟨gb, 0, none⟩) nb cb) ∧ w'.cell? ⟨w.heap.size, 1, none⟩ = some (.slice (some ⟨gr, 0, none⟩) nr cr) ∧ Ints w' gb 0 nb fb ∧ Ints w' gr 0 nr fr ∧ Below w.heap.size w w')
      (first | (exact ⟨Below.cellOf ((Below.refl _ _).drew) rfl k0, Below.cellOf ((Below.refl _ _).drew) rfl k1, D1.below ((Below.refl _ _).drew), D2.below ((Below.refl _ _).drew), C1.drew⟩) | (go_split_ands; refine ⟨Below.cellOf hb3 rfl (by assumption), Below.cellOf hb3 rfl (by assumption), Ints.below (by assumption) hb3, Ints.below (by assumption) hb3, bnext (by assumption) hb3⟩))
      ((first | (go_at_call 60; (try go_split_ands); refine (HD.out _ (by assumption) (by assumption) _ (by first | assumption | exact ⟨by assumption, by assumption⟩)).mono ?_; rintro e w3 ⟨rfl, hb3⟩)))
    rename_i hH
    have hfin := hH.2.2.2.2
    clear hH e1 e2
    all_goals
      go_wp2_with (first | (go_at_call 59; refine (amount_any _ _).mono ?_; rintro e w4 ⟨rfl, rfl⟩))
      all_goals
        go_ret2
        exact ⟨ret_ib2 (by rw [HE.out]; congr 1; omega) (by rw [HE.out]; congr 1; omega), hfin⟩

set_option maxHeartbeats 1600000 in
theorem ptd_spec (gb cb gr cr nb nr : Nat) (fb fr : Nat → Int) (c p m r : Int) (w : World) (mb : nb < 1000000000) (mr : nr < 1000000000) (Ib : Ints w gb 0 nb fb) (Ir : Ints w gr 0 nr fr) : Calls Try.prog 21 #[.agg #[.slice (some ⟨gb, 0, none⟩) nb cb, .slice (some ⟨gr, 0, none⟩) nr cr], .int .i64 c, .int .i64 p, .int .i64 m, .int .i64 r] w (RetV w (.tuple #[.int .i64 (ptd0 fb nb fr nr c p m r), .bool (ptd1 fb nb fr nr c p m r)])) := by
  have bA : Below w.heap.size w (w.alloc (.cells #[.slice (some ⟨gb, 0, none⟩) nb cb, .slice (some ⟨gr, 0, none⟩) nr cr] 28)) := by go_grown
  have HK0 : Hid ((w.alloc (.cells #[.slice (some ⟨gb, 0, none⟩) nb cb, .slice (some ⟨gr, 0, none⟩) nr cr] 28)).cell? ⟨w.heap.size, 0, none⟩ = some (.slice (some ⟨gb, 0, none⟩) nb cb)) := by show (w.alloc (.cells #[.slice (some ⟨gb, 0, none⟩) nb cb, .slice (some ⟨gr, 0, none⟩) nr cr] 28)).cell? _ = _; simp [go_sem]
  have HK1 : Hid ((w.alloc (.cells #[.slice (some ⟨gb, 0, none⟩) nb cb, .slice (some ⟨gr, 0, none⟩) nr cr] 28)).cell? ⟨w.heap.size, 1, none⟩ = some (.slice (some ⟨gr, 0, none⟩) nr cr)) := by show (w.alloc (.cells #[.slice (some ⟨gb, 0, none⟩) nb cb, .slice (some ⟨gr, 0, none⟩) nr cr] 28)).cell? _ = _; simp [go_sem]
  cases h : ptdOk fb nb fr nr c p m r
  · rw [(ptd_no h).1, (ptd_no h).2]
    rcases first_no3 h with h1 | ⟨h1, h2 | ⟨h2, h3⟩⟩
    all_goals
      clear h
      go_enter Try.func21, Try.ntmps21
      go_wp2_with (first | (go_at_call 57; refine (spec_l02Cents_any _ _).mono ?_; rintro e w' ⟨rfl, rfl⟩) | (go_at_call 50; refine (spec_l00In_any _ _ _ _).mono ?_; rintro e w' ⟨rfl, rfl⟩) | (go_at_call 49; refine (can_any w.heap.size gb cb gr cr nb nr fb fr _ _ _ HK0.out HK1.out mb mr (Ib.below bA) (Ir.below bA)).mono ?_; rintro e w1 ⟨rfl, hb⟩; have k0 := Below.cellOf hb rfl HK0.out; have k1 := Below.cellOf hb rfl HK1.out; have C1 := bnext bA hb))
      go_ret2
      exact ⟨rfl, C1⟩
  · rw [(ptd_yes h).1, (ptd_yes h).2]
    obtain ⟨h1, h2, h3⟩ := all_yes3 h
    obtain ⟨hs, ⟨c0, c1⟩, _⟩ := ask_is h1
    obtain ⟨p0, p1⟩ := win_iff.1 h2
    obtain ⟨m0, m1⟩ := win_iff.1 h3
    obtain ⟨⟨x0, x1⟩, ⟨y0, y1⟩, ⟨z0, z1⟩, u0, u1⟩ := ptd_bd hs c0 c1 p0 p1 r
    have HE : Hid (max (p * dueF fb fr nb (c * 2 / p) r / 2) (dueF fb fr nb c r - m) = ptdF fb fr nb c p m r) := rfl
    have HS := Lib.hid hs
    clear h hs
    cases hx : isAmount (max (p * dueF fb fr nb (c * 2 / p) r / 2) (dueF fb fr nb c r - m))
    all_goals
      have HA := Lib.hid (amt_of hx)
      have HX := Lib.hid hx
      go_enter Try.func21, Try.ntmps21
      go_wp2_with (first | (go_at_call 57; refine (spec_l02Cents_any _ _).mono ?_; rintro e w' ⟨rfl, rfl⟩) | (go_at_call 50; refine (spec_l00In_any _ _ _ _).mono ?_; rintro e w' ⟨rfl, rfl⟩) | (go_at_call 49; refine (can_any w.heap.size gb cb gr cr nb nr fb fr _ _ _ HK0.out HK1.out mb mr (Ib.below bA) (Ir.below bA)).mono ?_; rintro e w1 ⟨rfl, hb⟩; have k0 := Below.cellOf hb rfl HK0.out; have k1 := Below.cellOf hb rfl HK1.out; have C1 := bnext bA hb) | (go_at_call 58; refine (due_spec w.heap.size gb cb gr cr nb nr fb fr _ _ _ (by simpa using k0) (by simpa using k1) mb mr (Ib.below (by first | exact C1 | exact Below.drewN' C1 _)) (Ir.below (by first | exact C1 | exact Below.drewN' C1 _)) HS.out (by omega) (by omega)).mono ?_; rintro e w2 ⟨rfl, m, rfl⟩) | (go_at_call 61; refine (l00Max_any _ _ _).mono ?_; rintro e w3 ⟨rfl, rfl⟩))
      go_ret2
      exact ⟨ret_ib2 (by rw [← HE.out, HA.out]; rfl) (by rw [← HE.out, HX.out]), Below.drewN' C1 _⟩

theorem PartsDue_impl {w : World} {B : Nat} {v : Value} {xb xr : List Int} (h : RowS 2 w B v xb xr) (y0 y1 y2 y3 : Int) :
    Calls Try.prog 22 #[v, .int .i64 y0, .int .i64 y1, .int .i64 y2, .int .i64 y3] w (RetV w (.tuple #[.int .i64 (PartsDue_r0 xb xr y0 y1 y2 y3), .bool (PartsDue_r1 xb xr y0 y1 y2 y3)])) := by
  obtain ⟨gb, cb, gr, cr, rfl, mb, mr, Ib, Ir⟩ := h.form
  exact ptd_impl gb cb gr cr _ _ _ _ y0 y1 y2 y3 w mb mr Ib Ir

theorem PartsDue_spec {w : World} {B : Nat} {v : Value} {xb xr : List Int} (h : RowS 2 w B v xb xr) (y0 y1 y2 y3 : Int) :
    Calls Try.prog 21 #[v, .int .i64 y0, .int .i64 y1, .int .i64 y2, .int .i64 y3] w (RetV w (.tuple #[.int .i64 (PartsDue_r0 xb xr y0 y1 y2 y3), .bool (PartsDue_r1 xb xr y0 y1 y2 y3)])) := by
  obtain ⟨gb, cb, gr, cr, rfl, mb, mr, Ib, Ir⟩ := h.form
  exact ptd_spec gb cb gr cr _ _ _ _ y0 y1 y2 y3 w mb mr Ib Ir
end Go.Proofs.Ytjghhllekbmkjaa
