/-
  impl.SplitDue and spec.SplitDue answer alike: every scale of fewer than 1000000000 integers a list, every number. No other condition.
-/
import Derived.Test.YtjghhllekbmkjaaScaleO
import Derived.Test.YtjghhllekbmkjaaScaleW
import Derived.Test.YtjghhllekbmkjaaScaleD
import Derived.Test.YtjghhllekbmkjaaAmount
namespace Go.Proofs.Ytjghhllekbmkjaa
open Go.RowKit
set_option linter.unusedVariables false


def spdOk (fb : Nat → Int) (nb : Nat) (fr : Nat → Int) (nr : Nat) (a b r : Int) : Bool := askOk fb nb fr nr a r && isAmount b
def spdF (fb fr : Nat → Int) (nb : Nat) (a b r : Int) : Int := 2 * dueF fb fr nb ((a + b) / 2) r
def spd1 (fb : Nat → Int) (nb : Nat) (fr : Nat → Int) (nr : Nat) (a b r : Int) : Bool := spdOk fb nb fr nr a b r && isAmount (spdF fb fr nb a b r)
def spd0 (fb : Nat → Int) (nb : Nat) (fr : Nat → Int) (nr : Nat) (a b r : Int) : Int := bif spdOk fb nb fr nr a b r then amt (spdF fb fr nb a b r) else 0
section
variable {fb fr : Nat → Int} {nb nr : Nat} {a b r : Int}
theorem spd_no (h : spdOk fb nb fr nr a b r = false) : spd0 fb nb fr nr a b r = 0 ∧ spd1 fb nb fr nr a b r = false := by simp only [spd0, spd1, h, cond_false, Bool.false_and, and_self]
theorem spd_yes (h : spdOk fb nb fr nr a b r = true) : spd0 fb nb fr nr a b r = amt (spdF fb fr nb a b r) ∧ spd1 fb nb fr nr a b r = isAmount (spdF fb fr nb a b r) := by simp only [spd0, spd1, h, cond_true, Bool.true_and, and_self]
end
def SplitDue_r0 (xb xr : List Int) (a b r : Int) : Int := spd0 (fun i => xb.getD i 0) xb.length (fun i => xr.getD i 0) xr.length a b r
def SplitDue_r1 (xb xr : List Int) (a b r : Int) : Bool := spd1 (fun i => xb.getD i 0) xb.length (fun i => xr.getD i 0) xr.length a b r

set_option maxHeartbeats 1600000 in
theorem spd_impl (gb cb gr cr nb nr : Nat) (fb fr : Nat → Int) (a b r : Int) (w : World) (mb : nb < 1000000000) (mr : nr < 1000000000) (Ib : Ints w gb 0 nb fb) (Ir : Ints w gr 0 nr fr) : Calls Try.prog 20 #[.agg #[.slice (some ⟨gb, 0, none⟩) nb cb, .slice (some ⟨gr, 0, none⟩) nr cr], .int .i64 a, .int .i64 b, .int .i64 r] w (RetV w (.tuple #[.int .i64 (spd0 fb nb fr nr a b r), .bool (spd1 fb nb fr nr a b r)])) := by
  have bA : Below w.heap.size w (w.alloc (.cells #[.slice (some ⟨gb, 0, none⟩) nb cb, .slice (some ⟨gr, 0, none⟩) nr cr] 28)) := by go_grown
  have HK0 : Hid ((w.alloc (.cells #[.slice (some ⟨gb, 0, none⟩) nb cb, .slice (some ⟨gr, 0, none⟩) nr cr] 28)).cell? ⟨w.heap.size, 0, none⟩ = some (.slice (some ⟨gb, 0, none⟩) nb cb)) := by show (w.alloc (.cells #[.slice (some ⟨gb, 0, none⟩) nb cb, .slice (some ⟨gr, 0, none⟩) nr cr] 28)).cell? _ = _; simp [go_sem]
  have HK1 : Hid ((w.alloc (.cells #[.slice (some ⟨gb, 0, none⟩) nb cb, .slice (some ⟨gr, 0, none⟩) nr cr] 28)).cell? ⟨w.heap.size, 1, none⟩ = some (.slice (some ⟨gr, 0, none⟩) nr cr)) := by show (w.alloc (.cells #[.slice (some ⟨gb, 0, none⟩) nb cb, .slice (some ⟨gr, 0, none⟩) nr cr] 28)).cell? _ = _; simp [go_sem]
  cases h : spdOk fb nb fr nr a b r
  · rw [(spd_no h).1, (spd_no h).2]
    rcases first_no2 h with h1 | ⟨h1, h2⟩
    all_goals
      clear h
      go_enter Try.func20, Try.ntmps20
      go_wp2_with (first | (go_at_call 54; refine (impl_isAmount_any _ _).mono ?_; rintro e w' ⟨rfl, rfl⟩) | (go_at_call 53; refine (isAsked_any gb cb gr cr nb nr fb fr _ _ _ mb mr (Ib.below bA) (Ir.below bA)).mono ?_; rintro e w1 ⟨rfl, hb⟩; have k0 := Below.cellOf hb rfl HK0.out; have k1 := Below.cellOf hb rfl HK1.out; have C1 := bnext bA hb))
      go_ret2
      exact ⟨rfl, C1⟩
  · rw [(spd_yes h).1, (spd_yes h).2]
    obtain ⟨h1, h2⟩ := all_yes2 h
    obtain ⟨hs, a0, r0⟩ := ask_is h1
    have b0 := win_iff.1 h2
    have d0 := dueF_bd hs (show 0 ≤ (a + b) / 2 by omega) r
    have HS := Lib.hid hs
    clear h hs
    go_enter Try.func20, Try.ntmps20
    go_wp2_with (first | (go_at_call 54; refine (impl_isAmount_any _ _).mono ?_; rintro e w' ⟨rfl, rfl⟩) | (go_at_call 53; refine (isAsked_any gb cb gr cr nb nr fb fr _ _ _ mb mr (Ib.below bA) (Ir.below bA)).mono ?_; rintro e w1 ⟨rfl, hb⟩; have k0 := Below.cellOf hb rfl HK0.out; have k1 := Below.cellOf hb rfl HK1.out; have C1 := bnext bA hb) | (go_at_call 60; refine (due_impl gb cb gr cr nb nr fb fr _ _ _ mb mr (Ib.below C1) (Ir.below C1) HS.out (by omega) (by omega)).mono ?_; rintro e w2 ⟨rfl, hb2⟩) | (go_at_call 59; refine (amount_any _ _).mono ?_; rintro e w3 ⟨rfl, rfl⟩))
    go_ret2
    exact ⟨rfl, bnext C1 hb2⟩

set_option maxHeartbeats 1600000 in
theorem spd_spec (gb cb gr cr nb nr : Nat) (fb fr : Nat → Int) (a b r : Int) (w : World) (mb : nb < 1000000000) (mr : nr < 1000000000) (Ib : Ints w gb 0 nb fb) (Ir : Ints w gr 0 nr fr) : Calls Try.prog 19 #[.agg #[.slice (some ⟨gb, 0, none⟩) nb cb, .slice (some ⟨gr, 0, none⟩) nr cr], .int .i64 a, .int .i64 b, .int .i64 r] w (RetV w (.tuple #[.int .i64 (spd0 fb nb fr nr a b r), .bool (spd1 fb nb fr nr a b r)])) := by
  have bA : Below w.heap.size w (w.alloc (.cells #[.slice (some ⟨gb, 0, none⟩) nb cb, .slice (some ⟨gr, 0, none⟩) nr cr] 28)) := by go_grown
  have HK0 : Hid ((w.alloc (.cells #[.slice (some ⟨gb, 0, none⟩) nb cb, .slice (some ⟨gr, 0, none⟩) nr cr] 28)).cell? ⟨w.heap.size, 0, none⟩ = some (.slice (some ⟨gb, 0, none⟩) nb cb)) := by show (w.alloc (.cells #[.slice (some ⟨gb, 0, none⟩) nb cb, .slice (some ⟨gr, 0, none⟩) nr cr] 28)).cell? _ = _; simp [go_sem]
  have HK1 : Hid ((w.alloc (.cells #[.slice (some ⟨gb, 0, none⟩) nb cb, .slice (some ⟨gr, 0, none⟩) nr cr] 28)).cell? ⟨w.heap.size, 1, none⟩ = some (.slice (some ⟨gr, 0, none⟩) nr cr)) := by show (w.alloc (.cells #[.slice (some ⟨gb, 0, none⟩) nb cb, .slice (some ⟨gr, 0, none⟩) nr cr] 28)).cell? _ = _; simp [go_sem]
  cases h : spdOk fb nb fr nr a b r
  · rw [(spd_no h).1, (spd_no h).2]
    rcases first_no2 h with h1 | ⟨h1, h2⟩
    all_goals
      clear h
      go_enter Try.func19, Try.ntmps19
      go_wp2_with (first | (go_at_call 57; refine (spec_l02Cents_any _ _).mono ?_; rintro e w' ⟨rfl, rfl⟩) | (go_at_call 49; refine (can_any w.heap.size gb cb gr cr nb nr fb fr _ _ _ HK0.out HK1.out mb mr (Ib.below bA) (Ir.below bA)).mono ?_; rintro e w1 ⟨rfl, hb⟩; have k0 := Below.cellOf hb rfl HK0.out; have k1 := Below.cellOf hb rfl HK1.out; have C1 := bnext bA hb))
      go_ret2
      exact ⟨rfl, C1⟩
  · rw [(spd_yes h).1, (spd_yes h).2]
    obtain ⟨h1, h2⟩ := all_yes2 h
    obtain ⟨hs, a0, r0⟩ := ask_is h1
    have b0 := win_iff.1 h2
    have d0 := dueF_bd hs (show 0 ≤ (a + b) / 2 by omega) r
    have HS := Lib.hid hs
    have HE : Hid (2 * dueF fb fr nb ((a + b) / 2) r = spdF fb fr nb a b r) := rfl
    clear h hs
    cases hx : isAmount (2 * dueF fb fr nb ((a + b) / 2) r)
    all_goals
      have HA := Lib.hid (amt_of hx)
      have HX := Lib.hid hx
      go_enter Try.func19, Try.ntmps19
      go_wp2_with (first | (go_at_call 57; refine (spec_l02Cents_any _ _).mono ?_; rintro e w' ⟨rfl, rfl⟩) | (go_at_call 49; refine (can_any w.heap.size gb cb gr cr nb nr fb fr _ _ _ HK0.out HK1.out mb mr (Ib.below bA) (Ir.below bA)).mono ?_; rintro e w1 ⟨rfl, hb⟩; have k0 := Below.cellOf hb rfl HK0.out; have k1 := Below.cellOf hb rfl HK1.out; have C1 := bnext bA hb) | (go_at_call 58; refine (due_spec w.heap.size gb cb gr cr nb nr fb fr _ _ _ k0 k1 mb mr (Ib.below C1) (Ir.below C1) HS.out (by omega) (by omega)).mono ?_; rintro e w2 ⟨rfl, m, rfl⟩))
      go_ret2
      exact ⟨ret_ib2 (by rw [← HE.out, HA.out]; rfl) (by rw [← HE.out, HX.out]), Below.drewN' C1 _⟩

theorem SplitDue_impl {w : World} {B : Nat} {v : Value} {xb xr : List Int} (h : RowS 2 w B v xb xr) (y0 y1 y2 : Int) :
    Calls Try.prog 20 #[v, .int .i64 y0, .int .i64 y1, .int .i64 y2] w (RetV w (.tuple #[.int .i64 (SplitDue_r0 xb xr y0 y1 y2), .bool (SplitDue_r1 xb xr y0 y1 y2)])) := by
  obtain ⟨gb, cb, gr, cr, rfl, mb, mr, Ib, Ir⟩ := h.form
  exact spd_impl gb cb gr cr _ _ _ _ y0 y1 y2 w mb mr Ib Ir

theorem SplitDue_spec {w : World} {B : Nat} {v : Value} {xb xr : List Int} (h : RowS 2 w B v xb xr) (y0 y1 y2 : Int) :
    Calls Try.prog 19 #[v, .int .i64 y0, .int .i64 y1, .int .i64 y2] w (RetV w (.tuple #[.int .i64 (SplitDue_r0 xb xr y0 y1 y2), .bool (SplitDue_r1 xb xr y0 y1 y2)])) := by
  obtain ⟨gb, cb, gr, cr, rfl, mb, mr, Ib, Ir⟩ := h.form
  exact spd_spec gb cb gr cr _ _ _ _ y0 y1 y2 w mb mr Ib Ir
end Go.Proofs.Ytjghhllekbmkjaa
