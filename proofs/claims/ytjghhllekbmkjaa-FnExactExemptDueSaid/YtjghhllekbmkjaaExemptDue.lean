/-
  impl.ExemptDue and spec.ExemptDue answer alike: every scale of fewer than 1000000000 integers a list, every number. No other condition.
-/
import Derived.Test.YtjghhllekbmkjaaScaleO
import Derived.Test.YtjghhllekbmkjaaScaleW
import Derived.Test.YtjghhllekbmkjaaScaleD
namespace Go.Proofs.Ytjghhllekbmkjaa
open Go.RowKit
set_option linter.unusedVariables false


def exmOk (fb : Nat → Int) (nb : Nat) (fr : Nat → Int) (nr : Nat) (a b r : Int) : Bool := askOk fb nb fr nr a r && isAmount b && decide (a + b ≤ 100000)
def exmF (fb fr : Nat → Int) (nb : Nat) (a b r : Int) : Int := bif a + b == 0 then 0 else rnd (exF fb fr nb (a + b) * a) (10000 * (a + b)) r
def exm0 (fb : Nat → Int) (nb : Nat) (fr : Nat → Int) (nr : Nat) (a b r : Int) : Int := bif exmOk fb nb fr nr a b r then exmF fb fr nb a b r else 0
section
variable {fb fr : Nat → Int} {nb nr : Nat} {a b r : Int}
theorem exm_no (h : exmOk fb nb fr nr a b r = false) : exm0 fb nb fr nr a b r = 0 := by simp only [exm0, h, cond_false]
theorem exm_yes (h : exmOk fb nb fr nr a b r = true) : exm0 fb nb fr nr a b r = exmF fb fr nb a b r := by simp only [exm0, h, cond_true]
theorem exm_zero (h : (a + b == 0) = true) : exmF fb fr nb a b r = 0 := by simp only [exmF, h, cond_true]
theorem exm_pos (h : (a + b == 0) = false) : exmF fb fr nb a b r = rnd (exF fb fr nb (a + b) * a) (10000 * (a + b)) r := by simp only [exmF, h, cond_false]
theorem exm_bd (h : ScaleIs fb nb fr nr) (a0 : 0 ≤ a) (b0 : 0 ≤ b) (hs : a + b ≤ 100000) : 0 ≤ exF fb fr nb (a + b) ∧ exF fb fr nb (a + b) ≤ 8000000000 ∧ 0 ≤ exF fb fr nb (a + b) * a ∧ exF fb fr nb (a + b) * a ≤ 800000000000000 := by
  obtain ⟨x, y⟩ := exF_bd h (show 0 ≤ a + b by omega)
  have : exF fb fr nb (a + b) * a ≤ 8000000000 * 100000 := Int.mul_le_mul (by omega) (by omega) a0 (by omega)
  exact ⟨x, by omega, Int.mul_nonneg x a0, by omega⟩
/-- What the reference asks is the same. -/
theorem exm_ref (h : exmOk fb nb fr nr a b r = false) : askOk fb nb fr nr 0 r = false ∨ askOk fb nb fr nr 0 r = true ∧ (win a 0 100000 = false ∨ win a 0 100000 = true ∧ win b 0 (100000 - a) = false) := by
  cases h1 : askOk fb nb fr nr 0 r
  · exact .inl rfl
  · refine .inr ⟨rfl, ?_⟩
    cases h2 : win a 0 100000
    · exact .inl rfl
    · refine .inr ⟨rfl, ?_⟩
      cases h3 : win b 0 (100000 - a)
      · rfl
      · exfalso
        obtain ⟨a0, a1⟩ := win_iff.1 h2
        obtain ⟨b0, b1⟩ := win_iff.1 h3
        obtain ⟨x1, x2, x3⟩ := all_yes3 h1
        have y1 : askOk fb nb fr nr a r = true := by
          have : isAmount a = true := win_iff.2 ⟨a0, by omega⟩
          simp only [askOk, x1, x3, this, Bool.and_true]
        have y2 : isAmount b = true := win_iff.2 ⟨b0, by omega⟩
        have y3 : decide (a + b ≤ 100000) = true := decide_eq_true (by omega)
        simp only [exmOk, y1, y2, y3, Bool.and_true] at h
        cases h
theorem exm_is (h : exmOk fb nb fr nr a b r = true) : ScaleIs fb nb fr nr ∧ 0 ≤ a ∧ 0 ≤ b ∧ a + b ≤ 100000 ∧ askOk fb nb fr nr 0 r = true := by
  obtain ⟨h1, h2, h3⟩ := all_yes3 h
  obtain ⟨x1, x2, x3⟩ := all_yes3 h1
  refine ⟨scale_is x1, (win_iff.1 x2).1, (win_iff.1 h2).1, of_decide_eq_true h3, ?_⟩
  have : isAmount 0 = true := by decide
  simp only [askOk, x1, x3, this, Bool.and_true]
end
def ExemptDue_r0 (xb xr : List Int) (a b r : Int) : Int := exm0 (fun i => xb.getD i 0) xb.length (fun i => xr.getD i 0) xr.length a b r
def ExemptDue_r1 (xb xr : List Int) (a b r : Int) : Bool := exmOk (fun i => xb.getD i 0) xb.length (fun i => xr.getD i 0) xr.length a b r

set_option maxHeartbeats 1600000 in
theorem exm_impl (gb cb gr cr nb nr : Nat) (fb fr : Nat → Int) (a b r : Int) (w : World) (mb : nb < 1000000000) (mr : nr < 1000000000) (Ib : Ints w gb 0 nb fb) (Ir : Ints w gr 0 nr fr) : Calls Try.prog 17 #[.agg #[.slice (some ⟨gb, 0, none⟩) nb cb, .slice (some ⟨gr, 0, none⟩) nr cr], .int .i64 a, .int .i64 b, .int .i64 r] w (RetV w (.tuple #[.int .i64 (exm0 fb nb fr nr a b r), .bool (exmOk fb nb fr nr a b r)])) := by
  have bA : Below w.heap.size w (w.alloc (.cells #[.slice (some ⟨gb, 0, none⟩) nb cb, .slice (some ⟨gr, 0, none⟩) nr cr] 28)) := by go_grown
  have HK0 : Hid ((w.alloc (.cells #[.slice (some ⟨gb, 0, none⟩) nb cb, .slice (some ⟨gr, 0, none⟩) nr cr] 28)).cell? ⟨w.heap.size, 0, none⟩ = some (.slice (some ⟨gb, 0, none⟩) nb cb)) := by show (w.alloc (.cells #[.slice (some ⟨gb, 0, none⟩) nb cb, .slice (some ⟨gr, 0, none⟩) nr cr] 28)).cell? _ = _; simp [go_sem]
  have HK1 : Hid ((w.alloc (.cells #[.slice (some ⟨gb, 0, none⟩) nb cb, .slice (some ⟨gr, 0, none⟩) nr cr] 28)).cell? ⟨w.heap.size, 1, none⟩ = some (.slice (some ⟨gr, 0, none⟩) nr cr)) := by show (w.alloc (.cells #[.slice (some ⟨gb, 0, none⟩) nb cb, .slice (some ⟨gr, 0, none⟩) nr cr] 28)).cell? _ = _; simp [go_sem]
  cases h : exmOk fb nb fr nr a b r
  · rw [exm_no h]
    rcases first_no3 h with h1 | ⟨h1, h2 | ⟨h2, h3⟩⟩
    case inr.inr =>
      have h4 : ¬ a + b ≤ 100000 := of_decide_eq_false h3
      have a1 := (ask_is h1).2.1
      have b1 := win_iff.1 h2
      clear h h3
      go_enter Try.func17, Try.ntmps17
      go_wp2_with (first | (go_at_call 54; refine (impl_isAmount_any _ _).mono ?_; rintro e w' ⟨rfl, rfl⟩) | (go_at_call 53; refine (isAsked_any gb cb gr cr nb nr fb fr _ _ _ mb mr (Ib.below bA) (Ir.below bA)).mono ?_; rintro e w1 ⟨rfl, hb⟩; have k0 := Below.cellOf hb rfl HK0.out; have k1 := Below.cellOf hb rfl HK1.out; have C1 := bnext bA hb))
      go_ret2
      exact ⟨rfl, C1⟩
    all_goals
      clear h
      go_enter Try.func17, Try.ntmps17
      go_wp2_with (first | (go_at_call 54; refine (impl_isAmount_any _ _).mono ?_; rintro e w' ⟨rfl, rfl⟩) | (go_at_call 53; refine (isAsked_any gb cb gr cr nb nr fb fr _ _ _ mb mr (Ib.below bA) (Ir.below bA)).mono ?_; rintro e w1 ⟨rfl, hb⟩; have k0 := Below.cellOf hb rfl HK0.out; have k1 := Below.cellOf hb rfl HK1.out; have C1 := bnext bA hb))
      go_ret2
      exact ⟨rfl, C1⟩
  · rw [exm_yes h]
    obtain ⟨hs, a0, b0, ab, _⟩ := exm_is h
    obtain ⟨h1, h2, _⟩ := all_yes3 h
    obtain ⟨x0, x1, y0, y1⟩ := exm_bd (nr := nr) hs a0 b0 ab
    have HS := Lib.hid hs
    clear h hs
    cases hz : (a + b == 0)
    · rw [exm_pos hz]
      have : a + b ≠ 0 := by simpa using hz
      have z1 : 1 ≤ a + b := by omega
      clear this
      go_enter Try.func17, Try.ntmps17
      go_wp2_with (first | (go_at_call 54; refine (impl_isAmount_any _ _).mono ?_; rintro e w' ⟨rfl, rfl⟩) | (go_at_call 53; refine (isAsked_any gb cb gr cr nb nr fb fr _ _ _ mb mr (Ib.below bA) (Ir.below bA)).mono ?_; rintro e w1 ⟨rfl, hb⟩; have k0 := Below.cellOf hb rfl HK0.out; have k1 := Below.cellOf hb rfl HK1.out; have C1 := bnext bA hb) | (go_at_call 56; refine (exact_impl gb cb gr cr nb nr fb fr _ _ mb mr (Ib.below C1) (Ir.below C1) HS.out (by omega) (by omega)).mono ?_; rintro e w2 ⟨rfl, hb2⟩) | (go_at_call 55; refine (impl_rounded _ _ _ _ (by omega) (by omega) (by omega) (by omega)).mono ?_; rintro e w3 ⟨rfl, m, rfl⟩))
      go_ret2
      exact ⟨rfl, Below.drewN' (bnext C1 hb2) _⟩
    · rw [exm_zero hz]
      go_enter Try.func17, Try.ntmps17
      go_wp2_with (first | (go_at_call 54; refine (impl_isAmount_any _ _).mono ?_; rintro e w' ⟨rfl, rfl⟩) | (go_at_call 53; refine (isAsked_any gb cb gr cr nb nr fb fr _ _ _ mb mr (Ib.below bA) (Ir.below bA)).mono ?_; rintro e w1 ⟨rfl, hb⟩; have k0 := Below.cellOf hb rfl HK0.out; have k1 := Below.cellOf hb rfl HK1.out; have C1 := bnext bA hb))
      go_ret2
      exact ⟨rfl, C1⟩

set_option maxHeartbeats 1600000 in
theorem exm_spec (gb cb gr cr nb nr : Nat) (fb fr : Nat → Int) (a b r : Int) (w : World) (mb : nb < 1000000000) (mr : nr < 1000000000) (Ib : Ints w gb 0 nb fb) (Ir : Ints w gr 0 nr fr) : Calls Try.prog 15 #[.agg #[.slice (some ⟨gb, 0, none⟩) nb cb, .slice (some ⟨gr, 0, none⟩) nr cr], .int .i64 a, .int .i64 b, .int .i64 r] w (RetV w (.tuple #[.int .i64 (exm0 fb nb fr nr a b r), .bool (exmOk fb nb fr nr a b r)])) := by
  have bA : Below w.heap.size w (w.alloc (.cells #[.slice (some ⟨gb, 0, none⟩) nb cb, .slice (some ⟨gr, 0, none⟩) nr cr] 28)) := by go_grown
  have HK0 : Hid ((w.alloc (.cells #[.slice (some ⟨gb, 0, none⟩) nb cb, .slice (some ⟨gr, 0, none⟩) nr cr] 28)).cell? ⟨w.heap.size, 0, none⟩ = some (.slice (some ⟨gb, 0, none⟩) nb cb)) := by show (w.alloc (.cells #[.slice (some ⟨gb, 0, none⟩) nb cb, .slice (some ⟨gr, 0, none⟩) nr cr] 28)).cell? _ = _; simp [go_sem]
  have HK1 : Hid ((w.alloc (.cells #[.slice (some ⟨gb, 0, none⟩) nb cb, .slice (some ⟨gr, 0, none⟩) nr cr] 28)).cell? ⟨w.heap.size, 1, none⟩ = some (.slice (some ⟨gr, 0, none⟩) nr cr)) := by show (w.alloc (.cells #[.slice (some ⟨gb, 0, none⟩) nb cb, .slice (some ⟨gr, 0, none⟩) nr cr] 28)).cell? _ = _; simp [go_sem]
  cases h : exmOk fb nb fr nr a b r
  · rw [exm_no h]
    rcases exm_ref h with h1 | ⟨h1, h2 | ⟨h2, h3⟩⟩
    case inr.inr =>
      have a1 := win_iff.1 h2
      clear h
      go_enter Try.func15, Try.ntmps15
      go_wp2_with (first | (go_at_call 50; refine (spec_l00In_any _ _ _ _).mono ?_; rintro e w' ⟨rfl, rfl⟩) | (go_at_call 49; refine (can_any w.heap.size gb cb gr cr nb nr fb fr _ _ _ HK0.out HK1.out mb mr (Ib.below bA) (Ir.below bA)).mono ?_; rintro e w1 ⟨rfl, hb⟩; have k0 := Below.cellOf hb rfl HK0.out; have k1 := Below.cellOf hb rfl HK1.out; have C1 := bnext bA hb))
      go_ret2
      exact ⟨rfl, C1⟩
    all_goals
      clear h
      go_enter Try.func15, Try.ntmps15
      go_wp2_with (first | (go_at_call 50; refine (spec_l00In_any _ _ _ _).mono ?_; rintro e w' ⟨rfl, rfl⟩) | (go_at_call 49; refine (can_any w.heap.size gb cb gr cr nb nr fb fr _ _ _ HK0.out HK1.out mb mr (Ib.below bA) (Ir.below bA)).mono ?_; rintro e w1 ⟨rfl, hb⟩; have k0 := Below.cellOf hb rfl HK0.out; have k1 := Below.cellOf hb rfl HK1.out; have C1 := bnext bA hb))
      go_ret2
      exact ⟨rfl, C1⟩
  · rw [exm_yes h]
    obtain ⟨hs, a0, b0, ab, h1⟩ := exm_is h
    obtain ⟨x0, x1, y0, y1⟩ := exm_bd (nr := nr) hs a0 b0 ab
    have h2 : win a 0 100000 = true := win_iff.2 ⟨a0, by omega⟩
    have h3 : win b 0 (100000 - a) = true := win_iff.2 ⟨b0, by omega⟩
    have HS := Lib.hid hs
    have z2 : a ≤ 100000 := by omega
    clear h hs
    cases hz : (a + b == 0)
    · rw [exm_pos hz]
      have : a + b ≠ 0 := by simpa using hz
      have z1 : 1 ≤ a + b := by omega
      clear this
      go_enter Try.func15, Try.ntmps15
      go_wp2_with (first | (go_at_call 50; refine (spec_l00In_any _ _ _ _).mono ?_; rintro e w' ⟨rfl, rfl⟩) | (go_at_call 49; refine (can_any w.heap.size gb cb gr cr nb nr fb fr _ _ _ HK0.out HK1.out mb mr (Ib.below bA) (Ir.below bA)).mono ?_; rintro e w1 ⟨rfl, hb⟩; have k0 := Below.cellOf hb rfl HK0.out; have k1 := Below.cellOf hb rfl HK1.out; have C1 := bnext bA hb) | (go_at_call 52; refine (exact_spec w.heap.size gb cb gr cr nb nr fb fr _ _ k0 k1 mb mr (Ib.below C1) (Ir.below C1) HS.out (by omega) (by omega)).mono ?_; rintro e w2 ⟨rfl, m, rfl⟩) | (go_at_call 51; refine (spec_l02Round _ _ _ _ (by omega) (by omega) (by omega) (by omega)).mono ?_; rintro e w3 ⟨rfl, m2, rfl⟩))
      go_ret2
      exact ⟨rfl, Below.drewN' C1 _⟩
    · rw [exm_zero hz]
      go_enter Try.func15, Try.ntmps15
      go_wp2_with (first | (go_at_call 50; refine (spec_l00In_any _ _ _ _).mono ?_; rintro e w' ⟨rfl, rfl⟩) | (go_at_call 49; refine (can_any w.heap.size gb cb gr cr nb nr fb fr _ _ _ HK0.out HK1.out mb mr (Ib.below bA) (Ir.below bA)).mono ?_; rintro e w1 ⟨rfl, hb⟩; have k0 := Below.cellOf hb rfl HK0.out; have k1 := Below.cellOf hb rfl HK1.out; have C1 := bnext bA hb))
      go_ret2
      exact ⟨rfl, C1⟩

theorem ExemptDue_impl {w : World} {B : Nat} {v : Value} {xb xr : List Int} (h : RowS 2 w B v xb xr) (y0 y1 y2 : Int) :
    Calls Try.prog 17 #[v, .int .i64 y0, .int .i64 y1, .int .i64 y2] w (RetV w (.tuple #[.int .i64 (ExemptDue_r0 xb xr y0 y1 y2), .bool (ExemptDue_r1 xb xr y0 y1 y2)])) := by
  obtain ⟨gb, cb, gr, cr, rfl, mb, mr, Ib, Ir⟩ := h.form
  exact exm_impl gb cb gr cr _ _ _ _ y0 y1 y2 w mb mr Ib Ir

theorem ExemptDue_spec {w : World} {B : Nat} {v : Value} {xb xr : List Int} (h : RowS 2 w B v xb xr) (y0 y1 y2 : Int) :
    Calls Try.prog 15 #[v, .int .i64 y0, .int .i64 y1, .int .i64 y2] w (RetV w (.tuple #[.int .i64 (ExemptDue_r0 xb xr y0 y1 y2), .bool (ExemptDue_r1 xb xr y0 y1 y2)])) := by
  obtain ⟨gb, cb, gr, cr, rfl, mb, mr, Ib, Ir⟩ := h.form
  exact exm_spec gb cb gr cr _ _ _ _ y0 y1 y2 w mb mr Ib Ir
end Go.Proofs.Ytjghhllekbmkjaa
