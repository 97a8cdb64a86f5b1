/-
  impl.NetWithTaper and spec.NetWithTaper answer alike: every scale of fewer than 1000000000 integers a list, every number. No other condition.
-/
import Derived.Test.YtjghhllekbmkjaaScaleO
import Derived.Test.YtjghhllekbmkjaaScaleW
import Derived.Test.YtjghhllekbmkjaaScaleD
import Derived.Test.YtjghhllekbmkjaaAmount
import Derived.Test.YtjghhllekbmkjaaTaperI
import Derived.Test.YtjghhllekbmkjaaTaperS
namespace Go.Proofs.Ytjghhllekbmkjaa
open Go.RowKit
set_option linter.unusedVariables false


def nwtOk (fb : Nat → Int) (nb : Nat) (fr : Nat → Int) (nr : Nat) (a b t c r : Int) : Bool := askOk fb nb fr nr c r && isTaperB a b t
def nwtF (fb fr : Nat → Int) (nb : Nat) (a b t c r : Int) : Int := netF fb fr nb c r + taperF a b t c
def nwt1 (fb : Nat → Int) (nb : Nat) (fr : Nat → Int) (nr : Nat) (a b t c r : Int) : Bool := nwtOk fb nb fr nr a b t c r && isAmount (nwtF fb fr nb a b t c r)
def nwt0 (fb : Nat → Int) (nb : Nat) (fr : Nat → Int) (nr : Nat) (a b t c r : Int) : Int := bif nwtOk fb nb fr nr a b t c r then amt (nwtF fb fr nb a b t c r) else 0
section
variable {fb fr : Nat → Int} {nb nr : Nat} {a b t c r : Int}
theorem nwt_no (h : nwtOk fb nb fr nr a b t c r = false) : nwt0 fb nb fr nr a b t c r = 0 ∧ nwt1 fb nb fr nr a b t c r = false := by simp only [nwt0, nwt1, h, cond_false, Bool.false_and, and_self]
theorem nwt_yes (h : nwtOk fb nb fr nr a b t c r = true) : nwt0 fb nb fr nr a b t c r = amt (nwtF fb fr nb a b t c r) ∧ nwt1 fb nb fr nr a b t c r = isAmount (nwtF fb fr nb a b t c r) := by simp only [nwt0, nwt1, h, cond_true, Bool.true_and, and_self]
end
def NetWithTaper_r0 (xb xr : List Int) (a b t c r : Int) : Int := nwt0 (fun i => xb.getD i 0) xb.length (fun i => xr.getD i 0) xr.length a b t c r
def NetWithTaper_r1 (xb xr : List Int) (a b t c r : Int) : Bool := nwt1 (fun i => xb.getD i 0) xb.length (fun i => xr.getD i 0) xr.length a b t c r
theorem taperB_is {a b t : Int} (h : isTaperB a b t = true) : (0 ≤ a ∧ a ≤ 1000000000000) ∧ (0 ≤ b ∧ b ≤ 1000000000000) ∧ 0 ≤ t ∧ t ≤ 10000 := by
  obtain ⟨h1, h2, h3⟩ := all_yes3 h
  exact ⟨win_iff.1 h1, win_iff.1 h2, win_iff.1 h3⟩
theorem nwtF_bd {fb fr : Nat → Int} {nb nr : Nat} {a b t c : Int} (hs : ScaleIs fb nb fr nr) (c0 : 0 ≤ c) (c1 : c ≤ 1000000000000) (a0 : 0 ≤ a) (a1 : a ≤ 1000000000000) (b0 : 0 ≤ b) (t0 : 0 ≤ t) (t1 : t ≤ 10000) (r : Int) :
    -9000000000000 ≤ netF fb fr nb c r ∧ netF fb fr nb c r ≤ 1000000000000 ∧ 0 ≤ taperF a b t c ∧ taperF a b t c ≤ 1000000000000 := by
  have d := dueF_bd hs c0 r
  have k := taperF_bd a0 b0 c1 t0 t1
  unfold netF
  omega

set_option maxHeartbeats 1600000 in
theorem nwt_impl (gb cb gr cr nb nr : Nat) (fb fr : Nat → Int) (a b t c r : Int) (w : World) (mb : nb < 1000000000) (mr : nr < 1000000000) (Ib : Ints w gb 0 nb fb) (Ir : Ints w gr 0 nr fr) : Calls Try.prog 24 #[.agg #[.slice (some ⟨gb, 0, none⟩) nb cb, .slice (some ⟨gr, 0, none⟩) nr cr], .int .i64 a, .int .i64 b, .int .i64 t, .int .i64 c, .int .i64 r] w (RetV w (.tuple #[.int .i64 (nwt0 fb nb fr nr a b t c r), .bool (nwt1 fb nb fr nr a b t c r)])) := by
  have bA : Below w.heap.size w (w.alloc (.cells #[.slice (some ⟨gb, 0, none⟩) nb cb, .slice (some ⟨gr, 0, none⟩) nr cr] 28)) := by go_grown
  have HK0 : Hid ((w.alloc (.cells #[.slice (some ⟨gb, 0, none⟩) nb cb, .slice (some ⟨gr, 0, none⟩) nr cr] 28)).cell? ⟨w.heap.size, 0, none⟩ = some (.slice (some ⟨gb, 0, none⟩) nb cb)) := by show (w.alloc (.cells #[.slice (some ⟨gb, 0, none⟩) nb cb, .slice (some ⟨gr, 0, none⟩) nr cr] 28)).cell? _ = _; simp [go_sem]
  have HK1 : Hid ((w.alloc (.cells #[.slice (some ⟨gb, 0, none⟩) nb cb, .slice (some ⟨gr, 0, none⟩) nr cr] 28)).cell? ⟨w.heap.size, 1, none⟩ = some (.slice (some ⟨gr, 0, none⟩) nr cr)) := by show (w.alloc (.cells #[.slice (some ⟨gb, 0, none⟩) nb cb, .slice (some ⟨gr, 0, none⟩) nr cr] 28)).cell? _ = _; simp [go_sem]
  cases h : nwtOk fb nb fr nr a b t c r
  · rw [(nwt_no h).1, (nwt_no h).2]
    rcases first_no2 h with h1 | ⟨h1, h2⟩
    all_goals
      clear h
      go_enter Try.func24, Try.ntmps24
      go_wp2_with (first | (go_at_call 66; refine (impl_isTaper_any _ _ _ _).mono ?_; rintro e w' ⟨rfl, rfl⟩) | (go_at_call 53; refine (isAsked_any gb cb gr cr nb nr fb fr _ _ _ mb mr (Ib.below bA) (Ir.below bA)).mono ?_; rintro e w1 ⟨rfl, hb⟩; have k0 := Below.cellOf hb rfl HK0.out; have k1 := Below.cellOf hb rfl HK1.out; have C1 := bnext bA hb))
      go_ret2
      exact ⟨rfl, C1⟩
  · rw [(nwt_yes h).1, (nwt_yes h).2]
    obtain ⟨h1, h2⟩ := all_yes2 h
    obtain ⟨hs, ⟨c0, c1⟩, _⟩ := ask_is h1
    obtain ⟨⟨a0, a1⟩, ⟨b0, b1⟩, t0, t1⟩ := taperB_is h2
    obtain ⟨x0, x1, x2, x3⟩ := nwtF_bd hs c0 c1 a0 a1 b0 t0 t1 r
    have HS := Lib.hid hs
    clear h hs
    go_enter Try.func24, Try.ntmps24
    go_wp2_with (first | (go_at_call 66; refine (impl_isTaper_any _ _ _ _).mono ?_; rintro e w' ⟨rfl, rfl⟩) | (go_at_call 53; refine (isAsked_any gb cb gr cr nb nr fb fr _ _ _ mb mr (Ib.below bA) (Ir.below bA)).mono ?_; rintro e w1 ⟨rfl, hb⟩; have k0 := Below.cellOf hb rfl HK0.out; have k1 := Below.cellOf hb rfl HK1.out; have C1 := bnext bA hb) | (go_at_call 67; refine (net_impl gb cb gr cr nb nr fb fr _ _ _ mb mr (Ib.below C1) (Ir.below C1) HS.out (by omega) (by omega)).mono ?_; rintro e w2 ⟨rfl, hb2⟩) | (go_at_call 68; refine (impl_taper _ _ _ _ _ a0 a1 b0 b1 t0 t1 c0 c1).mono ?_; rintro e w3 ⟨rfl, hb3⟩) | (go_at_call 59; refine (amount_any _ _).mono ?_; rintro e w4 ⟨rfl, rfl⟩))
    go_ret2
    exact ⟨rfl, bnext (bnext C1 hb2) hb3⟩

set_option maxHeartbeats 1600000 in
theorem nwt_spec (gb cb gr cr nb nr : Nat) (fb fr : Nat → Int) (a b t c r : Int) (w : World) (mb : nb < 1000000000) (mr : nr < 1000000000) (Ib : Ints w gb 0 nb fb) (Ir : Ints w gr 0 nr fr) : Calls Try.prog 23 #[.agg #[.slice (some ⟨gb, 0, none⟩) nb cb, .slice (some ⟨gr, 0, none⟩) nr cr], .int .i64 a, .int .i64 b, .int .i64 t, .int .i64 c, .int .i64 r] w (RetV w (.tuple #[.int .i64 (nwt0 fb nb fr nr a b t c r), .bool (nwt1 fb nb fr nr a b t c r)])) := by
  have bA : Below w.heap.size w (w.alloc (.cells #[.slice (some ⟨gb, 0, none⟩) nb cb, .slice (some ⟨gr, 0, none⟩) nr cr] 28)) := by go_grown
  have HK0 : Hid ((w.alloc (.cells #[.slice (some ⟨gb, 0, none⟩) nb cb, .slice (some ⟨gr, 0, none⟩) nr cr] 28)).cell? ⟨w.heap.size, 0, none⟩ = some (.slice (some ⟨gb, 0, none⟩) nb cb)) := by show (w.alloc (.cells #[.slice (some ⟨gb, 0, none⟩) nb cb, .slice (some ⟨gr, 0, none⟩) nr cr] 28)).cell? _ = _; simp [go_sem]
  have HK1 : Hid ((w.alloc (.cells #[.slice (some ⟨gb, 0, none⟩) nb cb, .slice (some ⟨gr, 0, none⟩) nr cr] 28)).cell? ⟨w.heap.size, 1, none⟩ = some (.slice (some ⟨gr, 0, none⟩) nr cr)) := by show (w.alloc (.cells #[.slice (some ⟨gb, 0, none⟩) nb cb, .slice (some ⟨gr, 0, none⟩) nr cr] 28)).cell? _ = _; simp [go_sem]
  cases h : nwtOk fb nb fr nr a b t c r
  · rw [(nwt_no h).1, (nwt_no h).2]
    rcases first_no2 h with h1 | ⟨h1, h2⟩
    all_goals
      clear h
      go_enter Try.func23, Try.ntmps23
      go_wp2_with (first | (go_at_call 63; refine (spec_l02Tapers_any _ _ _ _).mono ?_; rintro e w' ⟨rfl, rfl⟩) | (go_at_call 49; refine (can_any w.heap.size gb cb gr cr nb nr fb fr _ _ _ HK0.out HK1.out mb mr (Ib.below bA) (Ir.below bA)).mono ?_; rintro e w1 ⟨rfl, hb⟩; have k0 := Below.cellOf hb rfl HK0.out; have k1 := Below.cellOf hb rfl HK1.out; have C1 := bnext bA hb))
      go_ret2
      exact ⟨rfl, C1⟩
  · rw [(nwt_yes h).1, (nwt_yes h).2]
    obtain ⟨h1, h2⟩ := all_yes2 h
    obtain ⟨hs, ⟨c0, c1⟩, _⟩ := ask_is h1
    obtain ⟨⟨a0, a1⟩, ⟨b0, b1⟩, t0, t1⟩ := taperB_is h2
    obtain ⟨x0, x1, x2, x3⟩ := nwtF_bd hs c0 c1 a0 a1 b0 t0 t1 r
    have HS := Lib.hid hs
    have HE : Hid (netF fb fr nb c r + taperF a b t c = nwtF fb fr nb a b t c r) := rfl
    clear h hs
    cases hx : isAmount (netF fb fr nb c r + taperF a b t c)
    all_goals
      have HA := Lib.hid (amt_of hx)
      have HX := Lib.hid hx
      go_enter Try.func23, Try.ntmps23
      go_wp2_with (first | (go_at_call 63; refine (spec_l02Tapers_any _ _ _ _).mono ?_; rintro e w' ⟨rfl, rfl⟩) | (go_at_call 57; refine (spec_l02Cents_any _ _).mono ?_; rintro e w' ⟨rfl, rfl⟩) | (go_at_call 49; refine (can_any w.heap.size gb cb gr cr nb nr fb fr _ _ _ HK0.out HK1.out mb mr (Ib.below bA) (Ir.below bA)).mono ?_; rintro e w1 ⟨rfl, hb⟩; have k0 := Below.cellOf hb rfl HK0.out; have k1 := Below.cellOf hb rfl HK1.out; have C1 := bnext bA hb) | (go_at_call 64; refine (net_spec w.heap.size gb cb gr cr nb nr fb fr _ _ _ k0 k1 mb mr (Ib.below C1) (Ir.below C1) HS.out (by omega) (by omega)).mono ?_; rintro e w2 ⟨rfl, m, rfl⟩) | (go_at_call 65; refine (spec_l02Taper _ _ _ _ _ a0 a1 b0 b1 t0 t1 c0 c1).mono ?_; rintro e w3 ⟨rfl, hb3⟩))
      go_ret2
      exact ⟨ret_ib2 (by rw [← HE.out, HA.out]; rfl) (by rw [← HE.out, HX.out]), bnext (Below.drewN' C1 _) hb3⟩

theorem NetWithTaper_impl {w : World} {B : Nat} {v : Value} {xb xr : List Int} (h : RowS 2 w B v xb xr) (y0 y1 y2 y3 y4 : Int) :
    Calls Try.prog 24 #[v, .int .i64 y0, .int .i64 y1, .int .i64 y2, .int .i64 y3, .int .i64 y4] w (RetV w (.tuple #[.int .i64 (NetWithTaper_r0 xb xr y0 y1 y2 y3 y4), .bool (NetWithTaper_r1 xb xr y0 y1 y2 y3 y4)])) := by
  obtain ⟨gb, cb, gr, cr, rfl, mb, mr, Ib, Ir⟩ := h.form
  exact nwt_impl gb cb gr cr _ _ _ _ y0 y1 y2 y3 y4 w mb mr Ib Ir

theorem NetWithTaper_spec {w : World} {B : Nat} {v : Value} {xb xr : List Int} (h : RowS 2 w B v xb xr) (y0 y1 y2 y3 y4 : Int) :
    Calls Try.prog 23 #[v, .int .i64 y0, .int .i64 y1, .int .i64 y2, .int .i64 y3, .int .i64 y4] w (RetV w (.tuple #[.int .i64 (NetWithTaper_r0 xb xr y0 y1 y2 y3 y4), .bool (NetWithTaper_r1 xb xr y0 y1 y2 y3 y4)])) := by
  obtain ⟨gb, cb, gr, cr, rfl, mb, mr, Ib, Ir⟩ := h.form
  exact nwt_spec gb cb gr cr _ _ _ _ y0 y1 y2 y3 y4 w mb mr Ib Ir
end Go.Proofs.Ytjghhllekbmkjaa
