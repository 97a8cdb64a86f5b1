/-
  impl.CliffEnd and spec.CliffEnd answer alike: every scale of fewer than 1000000000 integers a list, every number. No other condition.
-/
import Derived.Test.YtjghhllekbmkjaaGrossOf
namespace Go.Proofs.Ytjghhllekbmkjaa
open Go.RowKit
set_option linter.unusedVariables false

def clfOk (fb : Nat → Int) (nb : Nat) (fr : Nat → Int) (nr : Nat) (f l r : Int) : Bool := askOk fb nb fr nr l r && isAmount f && allW fr 0 9999 nr
def clfT (fb fr : Nat → Int) (nb : Nat) (f l r : Int) : Int := netF fb fr nb l r + f
def clf1 (fb : Nat → Int) (nb : Nat) (fr : Nat → Int) (nr : Nat) (f l r : Int) : Bool := clfOk fb nb fr nr f l r && ls1 (geB fb fr nb r (clfT fb fr nb f l r)) (l + 1)
def clf0 (fb : Nat → Int) (nb : Nat) (fr : Nat → Int) (nr : Nat) (f l r : Int) : Int := bif clfOk fb nb fr nr f l r then ls0 (geB fb fr nb r (clfT fb fr nb f l r)) (l + 1) else 0
section
variable {fb fr : Nat → Int} {nb nr : Nat} {f l r : Int}
theorem clf_no (h : clfOk fb nb fr nr f l r = false) : clf0 fb nb fr nr f l r = 0 ∧ clf1 fb nb fr nr f l r = false := by simp only [clf0, clf1, h, cond_false, Bool.false_and, and_self]
theorem clf_yes (h : clfOk fb nb fr nr f l r = true) : clf0 fb nb fr nr f l r = ls0 (geB fb fr nb r (clfT fb fr nb f l r)) (l + 1) ∧ clf1 fb nb fr nr f l r = ls1 (geB fb fr nb r (clfT fb fr nb f l r)) (l + 1) := by simp only [clf0, clf1, h, cond_true, Bool.true_and, and_self]
end
def CliffEnd_r0 (xb xr : List Int) (f l r : Int) : Int := clf0 (fun i => xb.getD i 0) xb.length (fun i => xr.getD i 0) xr.length f l r
def CliffEnd_r1 (xb xr : List Int) (f l r : Int) : Bool := clf1 (fun i => xb.getD i 0) xb.length (fun i => xr.getD i 0) xr.length f l r

set_option maxHeartbeats 3200000 in
theorem clf_impl (gb cb gr cr nb nr : Nat) (fb fr : Nat → Int) (f l r : Int) (w : World) (mb : nb < 1000000000) (mr : nr < 1000000000) (Ib : Ints w gb 0 nb fb) (Ir : Ints w gr 0 nr fr) : Calls Try.prog 26 #[.agg #[.slice (some ⟨gb, 0, none⟩) nb cb, .slice (some ⟨gr, 0, none⟩) nr cr], .int .i64 f, .int .i64 l, .int .i64 r] w (RetV w (.tuple #[.int .i64 (clf0 fb nb fr nr f l r), .bool (clf1 fb nb fr nr f l r)])) := by
  have bA : Below w.heap.size w ((w.alloc (.cells #[.slice (some ⟨gb, 0, none⟩) nb cb, .slice (some ⟨gr, 0, none⟩) nr cr] 28)).alloc (.cells #[.int .i64 r] 2)) := by go_grown
  have HK0 : Hid (((w.alloc (.cells #[.slice (some ⟨gb, 0, none⟩) nb cb, .slice (some ⟨gr, 0, none⟩) nr cr] 28)).alloc (.cells #[.int .i64 r] 2)).cell? ⟨w.heap.size, 0, none⟩ = some (.slice (some ⟨gb, 0, none⟩) nb cb)) := by show World.cell? _ _ = _; simp [go_sem]
  have HK1 : Hid (((w.alloc (.cells #[.slice (some ⟨gb, 0, none⟩) nb cb, .slice (some ⟨gr, 0, none⟩) nr cr] 28)).alloc (.cells #[.int .i64 r] 2)).cell? ⟨w.heap.size, 1, none⟩ = some (.slice (some ⟨gr, 0, none⟩) nr cr)) := by show World.cell? _ _ = _; simp [go_sem]
  have HK3 : Hid (((w.alloc (.cells #[.slice (some ⟨gb, 0, none⟩) nb cb, .slice (some ⟨gr, 0, none⟩) nr cr] 28)).alloc (.cells #[.int .i64 r] 2)).cell? ⟨w.heap.size + 1, 0, none⟩ = some (.int .i64 r)) := by show World.cell? _ _ = _; simp [go_sem]
  cases h : clfOk fb nb fr nr f l r
  · rw [(clf_no h).1, (clf_no h).2]
    rcases first_no3 h with h1 | ⟨h1, h2 | ⟨h2, h3⟩⟩
    all_goals
      clear h
      go_enter Try.func26, Try.ntmps26
      go_wp2_with (first | (go_at_call 54; refine (impl_isAmount_any _ _).mono ?_; rintro e w' ⟨rfl, rfl⟩) | (go_at_call 53; refine (isAsked_any gb cb gr cr nb nr fb fr _ _ _ mb mr (Ib.below bA) (Ir.below bA)).mono ?_; rintro e w1 ⟨rfl, hb⟩; have k0 := Below.cellOf hb rfl HK0.out; have k1 := Below.cellOf hb rfl HK1.out; have k3 := Below.cellOf hb rfl HK3.out; have C1 := bnext bA hb) | (go_at_call 71; refine (below_any gb cb gr cr nb nr fb fr _ mb mr (Ib.below C1) (Ir.below C1)).mono ?_; rintro e w2 ⟨rfl, hb2⟩; have C2 := bnext C1 hb2))
      go_ret2
      exact ⟨rfl, by assumption⟩
  rw [(clf_yes h).1, (clf_yes h).2]
  obtain ⟨h1, h2, h3⟩ := all_yes3 h
  have hs := (ask_is h1).1
  obtain ⟨l0, l1⟩ := (ask_is h1).2.1
  have f0 := win_iff.1 h2
  have nb0 := netF_bd hs l0 l1 r
  have HS := Lib.hid hs
  have HT : Hid (clfT fb fr nb f l r = netF fb fr nb l r + f) := rfl
  clear h hs
  go_enter Try.func26, Try.ntmps26
  go_wp2_with (first | (go_at_call 54; refine (impl_isAmount_any _ _).mono ?_; rintro e w' ⟨rfl, rfl⟩) | (go_at_call 53; refine (isAsked_any gb cb gr cr nb nr fb fr _ _ _ mb mr (Ib.below bA) (Ir.below bA)).mono ?_; rintro e w1 ⟨rfl, hb⟩; have k0 := Below.cellOf hb rfl HK0.out; have k1 := Below.cellOf hb rfl HK1.out; have k3 := Below.cellOf hb rfl HK3.out; have C1 := bnext bA hb) | (go_at_call 71; refine (below_any gb cb gr cr nb nr fb fr _ mb mr (Ib.below C1) (Ir.below C1)).mono ?_; rintro e w2 ⟨rfl, hb2⟩; have C2 := bnext C1 hb2; replace k0 := Below.cellOf hb2 rfl k0; replace k1 := Below.cellOf hb2 rfl k1; replace k3 := Below.cellOf hb2 rfl k3) | (go_at_call 67; refine (net_impl gb cb gr cr nb nr fb fr _ _ _ mb mr (Ib.below C2) (Ir.below C2) HS.out l0 l1).mono ?_; rintro e w3 ⟨rfl, hb3⟩; have C3 := bnext C2 hb3; replace k0 := Below.cellOf hb3 rfl k0; replace k1 := Below.cellOf hb3 rfl k1; replace k3 := Below.cellOf hb3 rfl k3))
  have b4 : Below w3.heap.size w3 (w3.alloc (.cells #[.int .i64 (netF fb fr nb l r + f)] 2)) := by go_grown
  have C4 := bnext C3 b4
  have k2 : (w3.alloc (.cells #[.int .i64 (netF fb fr nb l r + f)] 2)).cell? ⟨w3.heap.size, 0, none⟩ = some (.int .i64 (clfT fb fr nb f l r)) := by rw [HT.out]; simp [go_sem]
  replace k0 := Below.cellOf b4 rfl k0
  replace k1 := Below.cellOf b4 rfl k1
  replace k3 := Below.cellOf b4 rfl k3
  have q0 : 0 ≤ l + 1 := by omega
  have q1 : l + 1 ≤ 1000000000001 := by omega
  have HQ : Calls Try.prog 72 #[.int .i64 (l + 1), .func (.func 73) #[] #[.pointer (some ⟨w.heap.size, 0, none⟩), .pointer (some ⟨w.heap.size + 1, 0, none⟩), .pointer (some ⟨w3.heap.size, 0, none⟩)]] (w3.alloc (.cells #[.int .i64 (netF fb fr nb l r + f)] 2)) (RetV (w3.alloc (.cells #[.int .i64 (netF fb fr nb l r + f)] 2)) (.tuple #[.int .i64 (ls0 (geB fb fr nb r (clfT fb fr nb f l r)) (l + 1)), .bool (ls1 (geB fb fr nb r (clfT fb fr nb f l r)) (l + 1))])) :=
    least_cliff (l + 1) (geB fb fr nb r (clfT fb fr nb f l r)) _ _ q0 q1 (fun w' hb c c0 c1 => ge_cliff c r (clfT fb fr nb f l r) w.heap.size (w.heap.size + 1) w3.heap.size gb cb gr cr nb nr fb fr w' (Below.cellOf hb rfl k0) (Below.cellOf hb rfl k1) (Below.cellOf hb rfl k3) (Below.cellOf hb rfl k2) mb mr (Ib.below (bnext C4 hb)) (Ir.below (bnext C4 hb)) HS.out c0 c1)
  refine HQ.mono ?_
  clear HQ
  rintro e w5 ⟨rfl, hb5⟩
  go_wp2
  go_ret2
  exact ⟨rfl, bnext C4 hb5⟩

set_option maxHeartbeats 1600000 in
theorem clf_spec (gb cb gr cr nb nr : Nat) (fb fr : Nat → Int) (f l r : Int) (w : World) (mb : nb < 1000000000) (mr : nr < 1000000000) (Ib : Ints w gb 0 nb fb) (Ir : Ints w gr 0 nr fr) : Calls Try.prog 25 #[.agg #[.slice (some ⟨gb, 0, none⟩) nb cb, .slice (some ⟨gr, 0, none⟩) nr cr], .int .i64 f, .int .i64 l, .int .i64 r] w (RetV w (.tuple #[.int .i64 (clf0 fb nb fr nr f l r), .bool (clf1 fb nb fr nr f l r)])) := by
  have bA : Below w.heap.size w (w.alloc (.cells #[.slice (some ⟨gb, 0, none⟩) nb cb, .slice (some ⟨gr, 0, none⟩) nr cr] 28)) := by go_grown
  have HK0 : Hid ((w.alloc (.cells #[.slice (some ⟨gb, 0, none⟩) nb cb, .slice (some ⟨gr, 0, none⟩) nr cr] 28)).cell? ⟨w.heap.size, 0, none⟩ = some (.slice (some ⟨gb, 0, none⟩) nb cb)) := by show (w.alloc (.cells #[.slice (some ⟨gb, 0, none⟩) nb cb, .slice (some ⟨gr, 0, none⟩) nr cr] 28)).cell? _ = _; simp [go_sem]
  have HK1 : Hid ((w.alloc (.cells #[.slice (some ⟨gb, 0, none⟩) nb cb, .slice (some ⟨gr, 0, none⟩) nr cr] 28)).cell? ⟨w.heap.size, 1, none⟩ = some (.slice (some ⟨gr, 0, none⟩) nr cr)) := by show (w.alloc (.cells #[.slice (some ⟨gb, 0, none⟩) nb cb, .slice (some ⟨gr, 0, none⟩) nr cr] 28)).cell? _ = _; simp [go_sem]
  cases h : clfOk fb nb fr nr f l r
  · rw [(clf_no h).1, (clf_no h).2]
    rcases first_no3 h with h1 | ⟨h1, h2 | ⟨h2, h3⟩⟩
    case inr.inr =>
      have hs := (ask_is h1).1
      have HS := Lib.hid hs
      clear h hs
      go_enter Try.func25, Try.ntmps25
      go_wp2_with (first | (go_at_call 57; refine (spec_l02Cents_any _ _).mono ?_; rintro e w' ⟨rfl, rfl⟩) | (go_at_call 49; refine (can_any w.heap.size gb cb gr cr nb nr fb fr _ _ _ HK0.out HK1.out mb mr (Ib.below bA) (Ir.below bA)).mono ?_; rintro e w1 ⟨rfl, hb⟩; have k0 := Below.cellOf hb rfl HK0.out; have k1 := Below.cellOf hb rfl HK1.out; have C1 := bnext bA hb) | (go_at_call 69; refine (grows_any w.heap.size gb cb gr cr nb nr fb fr _ k0 k1 mb mr (Ib.below C1) (Ir.below C1) HS.out).mono ?_; rintro e w2 ⟨rfl, rfl⟩))
      go_ret2
      exact ⟨rfl, C1⟩
    all_goals
      clear h
      go_enter Try.func25, Try.ntmps25
      go_wp2_with (first | (go_at_call 57; refine (spec_l02Cents_any _ _).mono ?_; rintro e w' ⟨rfl, rfl⟩) | (go_at_call 49; refine (can_any w.heap.size gb cb gr cr nb nr fb fr _ _ _ HK0.out HK1.out mb mr (Ib.below bA) (Ir.below bA)).mono ?_; rintro e w1 ⟨rfl, hb⟩; have k0 := Below.cellOf hb rfl HK0.out; have k1 := Below.cellOf hb rfl HK1.out; have C1 := bnext bA hb))
      go_ret2
      exact ⟨rfl, C1⟩
  rw [(clf_yes h).1, (clf_yes h).2]
  obtain ⟨h1, h2, h3⟩ := all_yes3 h
  have hs := (ask_is h1).1
  obtain ⟨l0, l1⟩ := (ask_is h1).2.1
  have f0 := win_iff.1 h2
  have nb0 := netF_bd hs l0 l1 r
  have HS := Lib.hid hs
  have HT : Hid (netF fb fr nb l r + f = clfT fb fr nb f l r) := rfl
  have HC : Hid (∀ w1 : World, Below w.heap.size w w1 → w1.cell? ⟨w.heap.size, 0, none⟩ = some (.slice (some ⟨gb, 0, none⟩) nb cb) → w1.cell? ⟨w.heap.size, 1, none⟩ = some (.slice (some ⟨gr, 0, none⟩) nr cr) →
      Calls Try.prog 70 #[.pointer (some ⟨w.heap.size, 0, none⟩), .int .i64 (l + 1), .int .i64 (netF fb fr nb l r + f), .int .i64 r] w1 (RetV w1 (.int .i64 (lsS (geB fb fr nb r (clfT fb fr nb f l r)) (l + 1))))) := fun w1 C k0 k1 =>
    gross_spec w.heap.size gb cb gr cr nb nr fb fr (l + 1) _ r w1 k0 k1 mb mr (Ib.below C) (Ir.below C) hs (by omega) (by omega)
  clear h hs
  cases hq : ls1 (geB fb fr nb r (clfT fb fr nb f l r)) (l + 1)
  · have HE := Lib.hid (lsS_no hq)
    have HE0 := Lib.hid (ls_no hq)
    rw [HE.out] at HC
    rw [HE0.out]
    clear hq
    go_enter Try.func25, Try.ntmps25
    go_wp2_with (first | (go_at_call 57; refine (spec_l02Cents_any _ _).mono ?_; rintro e w' ⟨rfl, rfl⟩) | (go_at_call 49; refine (can_any w.heap.size gb cb gr cr nb nr fb fr _ _ _ HK0.out HK1.out mb mr (Ib.below bA) (Ir.below bA)).mono ?_; rintro e w1 ⟨rfl, hb⟩; have k0 := Below.cellOf hb rfl HK0.out; have k1 := Below.cellOf hb rfl HK1.out; have C1 := bnext bA hb) | (go_at_call 69; refine (grows_any w.heap.size gb cb gr cr nb nr fb fr _ k0 k1 mb mr (Ib.below C1) (Ir.below C1) HS.out).mono ?_; rintro e w2 ⟨rfl, rfl⟩) | (go_at_call 64; refine (net_spec w.heap.size gb cb gr cr nb nr fb fr _ _ _ k0 k1 mb mr (Ib.below C1) (Ir.below C1) HS.out (by omega) (by omega)).mono ?_; rintro e w3 ⟨rfl, m, hw3⟩; have hb3 : Below _ _ w3 := (by rw [hw3]; exact Below.drewN' (Below.refl w1.heap.size w1) m); clear hw3; replace k0 := Below.cellOf hb3 rfl k0; replace k1 := Below.cellOf hb3 rfl k1; have C3 := bnext C1 hb3))
    refine (HC.out _ C3 k0 k1).mono ?_
    rintro e w4 ⟨rfl, hb4⟩
    go_wp2
    go_ret2
    exact ⟨rfl, bnext C3 hb4⟩
  · have HE := Lib.hid (lsS_yes hq)
    have HE0 := Lib.hid (ls_yes hq)
    obtain ⟨c0, c1⟩ := ls_bd hq
    rw [HE.out] at HC
    rw [HE0.out]
    clear hq HE HE0
    generalize bs (geB fb fr nb r (clfT fb fr nb f l r)) (l + 1) 1000000000000 = C at *
    go_enter Try.func25, Try.ntmps25
    go_wp2_with (first | (go_at_call 57; refine (spec_l02Cents_any _ _).mono ?_; rintro e w' ⟨rfl, rfl⟩) | (go_at_call 49; refine (can_any w.heap.size gb cb gr cr nb nr fb fr _ _ _ HK0.out HK1.out mb mr (Ib.below bA) (Ir.below bA)).mono ?_; rintro e w1 ⟨rfl, hb⟩; have k0 := Below.cellOf hb rfl HK0.out; have k1 := Below.cellOf hb rfl HK1.out; have C1 := bnext bA hb) | (go_at_call 69; refine (grows_any w.heap.size gb cb gr cr nb nr fb fr _ k0 k1 mb mr (Ib.below C1) (Ir.below C1) HS.out).mono ?_; rintro e w2 ⟨rfl, rfl⟩) | (go_at_call 64; refine (net_spec w.heap.size gb cb gr cr nb nr fb fr _ _ _ k0 k1 mb mr (Ib.below C1) (Ir.below C1) HS.out (by omega) (by omega)).mono ?_; rintro e w3 ⟨rfl, m, hw3⟩; have hb3 : Below _ _ w3 := (by rw [hw3]; exact Below.drewN' (Below.refl w1.heap.size w1) m); clear hw3; replace k0 := Below.cellOf hb3 rfl k0; replace k1 := Below.cellOf hb3 rfl k1; have C3 := bnext C1 hb3))
    refine (HC.out _ C3 k0 k1).mono ?_
    rintro e w4 ⟨rfl, hb4⟩
    go_wp2
    go_ret2
    exact ⟨rfl, bnext C3 hb4⟩

theorem CliffEnd_impl {w : World} {B : Nat} {v : Value} {xb xr : List Int} (h : RowS 2 w B v xb xr) (y0 y1 y2 : Int) :
    Calls Try.prog 26 #[v, .int .i64 y0, .int .i64 y1, .int .i64 y2] w (RetV w (.tuple #[.int .i64 (CliffEnd_r0 xb xr y0 y1 y2), .bool (CliffEnd_r1 xb xr y0 y1 y2)])) := by
  obtain ⟨gb, cb, gr, cr, rfl, mb, mr, Ib, Ir⟩ := h.form
  exact clf_impl gb cb gr cr _ _ _ _ y0 y1 y2 w mb mr Ib Ir

theorem CliffEnd_spec {w : World} {B : Nat} {v : Value} {xb xr : List Int} (h : RowS 2 w B v xb xr) (y0 y1 y2 : Int) :
    Calls Try.prog 25 #[v, .int .i64 y0, .int .i64 y1, .int .i64 y2] w (RetV w (.tuple #[.int .i64 (CliffEnd_r0 xb xr y0 y1 y2), .bool (CliffEnd_r1 xb xr y0 y1 y2)])) := by
  obtain ⟨gb, cb, gr, cr, rfl, mb, mr, Ib, Ir⟩ := h.form
  exact clf_spec gb cb gr cr _ _ _ _ y0 y1 y2 w mb mr Ib Ir
end Go.Proofs.Ytjghhllekbmkjaa
