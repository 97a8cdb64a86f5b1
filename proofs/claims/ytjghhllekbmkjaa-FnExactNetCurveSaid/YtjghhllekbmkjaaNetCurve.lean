/-
  impl.NetCurve and spec.NetCurve answer alike: every scale of fewer than 1000000000 integers a list, every number. No other condition.
-/
import Derived.Test.YtjghhllekbmkjaaNetWithTaper
import Derived.Test.YtjghhllekbmkjaaTab
namespace Go.Proofs.Ytjghhllekbmkjaa
open Go.RowKit
set_option linter.unusedVariables false

def ncvAt (fb fr : Nat → Int) (nb : Nat) (a b t s r : Int) (k : Nat) : Int := nwtF fb fr nb a b t (k * s) r
def ncvP (fb fr : Nat → Int) (nb : Nat) (a b t s r : Int) (k : Nat) : Bool := isAmount (ncvAt fb fr nb a b t s r k)
def ncvOk (fb : Nat → Int) (nb : Nat) (fr : Nat → Int) (nr : Nat) (a b t s q r : Int) : Bool := askOk fb nb fr nr 0 r && isTaperB a b t && win s 1 1000000 && win q 1 64 && allB (ncvP fb fr nb a b t s r) (q.toNat + 1)
def ncvL (fb : Nat → Int) (nb : Nat) (fr : Nat → Int) (nr : Nat) (a b t s q r : Int) : List Int := bif ncvOk fb nb fr nr a b t s q r then tab (ncvAt fb fr nb a b t s r) (q.toNat + 1) else []
section
variable {fb fr : Nat → Int} {nb nr : Nat} {a b t s q r : Int}
theorem ncv_no (h : ncvOk fb nb fr nr a b t s q r = false) : ncvL fb nb fr nr a b t s q r = [] := by simp only [ncvL, h, cond_false]
theorem ncv_yes (h : ncvOk fb nb fr nr a b t s q r = true) : ncvL fb nb fr nr a b t s q r = tab (ncvAt fb fr nb a b t s r) (q.toNat + 1) := by simp only [ncvL, h, cond_true]
theorem ncv_n1 (h : askOk fb nb fr nr 0 r = false) : ncvOk fb nb fr nr a b t s q r = false := by simp only [ncvOk, h, Bool.false_and]
theorem ncv_n2 (h : isTaperB a b t = false) : ncvOk fb nb fr nr a b t s q r = false := by simp only [ncvOk, h, Bool.false_and, Bool.and_false]
theorem ncv_n3 (h : win s 1 1000000 = false) : ncvOk fb nb fr nr a b t s q r = false := by simp only [ncvOk, h, Bool.false_and, Bool.and_false]
theorem ncv_n4 (h : win q 1 64 = false) : ncvOk fb nb fr nr a b t s q r = false := by simp only [ncvOk, h, Bool.false_and, Bool.and_false]
theorem ncv_n5 (k : Nat) (hk : k < q.toNat + 1) (h : ncvP fb fr nb a b t s r k = false) : ncvOk fb nb fr nr a b t s q r = false := by simp only [ncvOk, allB_false k hk h, Bool.and_false]
theorem ncv_y (h1 : askOk fb nb fr nr 0 r = true) (h2 : isTaperB a b t = true) (h3 : win s 1 1000000 = true) (h4 : win q 1 64 = true) (h5 : allB (ncvP fb fr nb a b t s r) (q.toNat + 1) = true) : ncvOk fb nb fr nr a b t s q r = true := by simp only [ncvOk, h1, h2, h3, h4, h5, Bool.and_true]
/-- Whether what is asked of each place of the curve is so. -/
theorem nwt_at {c : Int} (c0 : 0 ≤ c) (c1 : c ≤ 1000000000000) : nwtOk fb nb fr nr a b t c r = (askOk fb nb fr nr 0 r && isTaperB a b t) := by
  have h0 : isAmount c = true := win_iff.2 ⟨c0, c1⟩
  have h1 : isAmount 0 = true := by decide
  simp only [nwtOk, askOk, h0, h1, Bool.and_true]
end
def NetCurve_r0 (xb xr : List Int) (a b t s q r : Int) : List Int := ncvL (fun i => xb.getD i 0) xb.length (fun i => xr.getD i 0) xr.length a b t s q r
def NetCurve_r1 (xb xr : List Int) (a b t s q r : Int) : Bool := ncvOk (fun i => xb.getD i 0) xb.length (fun i => xr.getD i 0) xr.length a b t s q r
def ncvB (fb : Nat → Int) (nb : Nat) (fr : Nat → Int) (nr : Nat) (a b t s r : Int) (k : Nat) : Bool := askOk fb nb fr nr 0 r && isTaperB a b t && ncvP fb fr nb a b t s r k
section
variable {fb fr : Nat → Int} {nb nr : Nat} {a b t s q r : Int}
theorem ncvB_all (h1 : askOk fb nb fr nr 0 r = true) (h2 : isTaperB a b t = true) (k : Nat) : ncvB fb nb fr nr a b t s r k = ncvP fb fr nb a b t s r k := by simp only [ncvB, h1, h2, Bool.true_and]
theorem ncvB_no (h3 : win s 1 1000000 = true) (h4 : win q 1 64 = true) (k : Nat) (hk : k < q.toNat + 1) (h : ncvB fb nb fr nr a b t s r k = false) : ncvOk fb nb fr nr a b t s q r = false := by
  cases h1 : askOk fb nb fr nr 0 r
  · exact ncv_n1 h1
  · cases h2 : isTaperB a b t
    · exact ncv_n2 h2
    · rw [ncvB_all h1 h2] at h
      exact ncv_n5 k hk h
theorem ncvB_yes (h3 : win s 1 1000000 = true) (h4 : win q 1 64 = true) (h : allB (ncvB fb nb fr nr a b t s r) (q.toNat + 1) = true) : ncvOk fb nb fr nr a b t s q r = true := by
  have h0 := all_yes3 (allB_iff.1 h 0 (by omega))
  exact ncv_y h0.1 h0.2.1 h3 h4 (allB_iff.2 fun i hi => (all_yes3 (allB_iff.1 h i hi)).2.2)
theorem ncv_call (k : Nat) (c0 : 0 ≤ k * s) (c1 : k * s ≤ 1000000000000) : nwt1 fb nb fr nr a b t (k * s) r = ncvB fb nb fr nr a b t s r k ∧ (ncvB fb nb fr nr a b t s r k = true → nwt0 fb nb fr nr a b t (k * s) r = ncvAt fb fr nb a b t s r k) := by
  have e : nwt1 fb nb fr nr a b t (k * s) r = ncvB fb nb fr nr a b t s r k := by
    simp only [nwt1, nwt_at c0 c1]; rfl
  refine ⟨e, fun h => ?_⟩
  obtain ⟨h1, h2, h3⟩ := all_yes3 h
  have h5 : nwtOk fb nb fr nr a b t (k * s) r = true := by rw [nwt_at c0 c1, h1, h2]; rfl
  have h6 : isAmount (nwtF fb fr nb a b t (k * s) r) = true := h3
  rw [(nwt_yes h5).1, amt_of h6]
  rfl
theorem step_bd {k Q : Nat} {s : Int} (hk : k ≤ Q) (hQ : Q ≤ 64) (s0 : 1 ≤ s) (s1 : s ≤ 1000000) : 0 ≤ k * s ∧ k * s ≤ 64000000 := by
  refine ⟨Int.mul_nonneg (by omega) (by omega), ?_⟩
  have : (k : Int) * s ≤ 64 * 1000000 := Int.mul_le_mul (by omega) s1 (by omega) (by omega)
  omega
end
set_option maxHeartbeats 3200000 in
theorem ncv_impl (gb cb gr cr nb nr : Nat) (fb fr : Nat → Int) (a b t s q r : Int) (w : World) (mb : nb < 1000000000) (mr : nr < 1000000000) (Ib : Ints w gb 0 nb fb) (Ir : Ints w gr 0 nr fr) (blt : gb < w.heap.size) (rlt : gr < w.heap.size) : Calls Try.prog 44 #[.agg #[.slice (some ⟨gb, 0, none⟩) nb cb, .slice (some ⟨gr, 0, none⟩) nr cr], .int .i64 a, .int .i64 b, .int .i64 t, .int .i64 s, .int .i64 q, .int .i64 r] w (RetL1 2 w (ncvL fb nb fr nr a b t s q r) (ncvOk fb nb fr nr a b t s q r)) := by
  have bA : Below w.heap.size w (w.alloc (.cells #[.slice (some ⟨gb, 0, none⟩) nb cb, .slice (some ⟨gr, 0, none⟩) nr cr] 28)) := by go_grown
  have HK0 : Hid ((w.alloc (.cells #[.slice (some ⟨gb, 0, none⟩) nb cb, .slice (some ⟨gr, 0, none⟩) nr cr] 28)).cell? ⟨w.heap.size, 0, none⟩ = some (.slice (some ⟨gb, 0, none⟩) nb cb)) := by show (w.alloc (.cells #[.slice (some ⟨gb, 0, none⟩) nb cb, .slice (some ⟨gr, 0, none⟩) nr cr] 28)).cell? _ = _; simp [go_sem]
  have HK1 : Hid ((w.alloc (.cells #[.slice (some ⟨gb, 0, none⟩) nb cb, .slice (some ⟨gr, 0, none⟩) nr cr] 28)).cell? ⟨w.heap.size, 1, none⟩ = some (.slice (some ⟨gr, 0, none⟩) nr cr)) := by show (w.alloc (.cells #[.slice (some ⟨gb, 0, none⟩) nb cb, .slice (some ⟨gr, 0, none⟩) nr cr] 28)).cell? _ = _; simp [go_sem]
  cases h4 : win q 1 64
  · rw [ncv_no (ncv_n4 h4), ncv_n4 h4]
    go_enter Try.func44, Try.ntmps44
    go_wp2_with (first | (go_at_call 62; refine (impl_within_any _ _ _ _).mono ?_; rintro e w' ⟨rfl, rfl⟩))
    go_ret2
    exact RetL1.no _ bA
  cases h3 : win s 1 1000000
  · rw [ncv_no (ncv_n3 h3), ncv_n3 h3]
    go_enter Try.func44, Try.ntmps44
    go_wp2_with (first | (go_at_call 62; refine (impl_within_any _ _ _ _).mono ?_; rintro e w' ⟨rfl, rfl⟩))
    go_ret2
    exact RetL1.no _ bA
  have HN : Hid (∀ k, k < q.toNat + 1 → ncvB fb nb fr nr a b t s r k = false → ncvOk fb nb fr nr a b t s q r = false) := fun k hk h => ncvB_no h3 h4 k hk h
  have HY : Hid (allB (ncvB fb nb fr nr a b t s r) (q.toNat + 1) = true → ncvOk fb nb fr nr a b t s q r = true) := ncvB_yes h3 h4
  have HL : Hid (∀ x, ncvOk fb nb fr nr a b t s q r = x → ncvL fb nb fr nr a b t s q r = bif x then tab (ncvAt fb fr nb a b t s r) (q.toNat + 1) else []) := fun x hx => by rw [← hx]; rfl
  obtain ⟨q0, q1⟩ := win_iff.1 h4
  obtain ⟨s0, s1⟩ := win_iff.1 h3
  obtain ⟨Q, rfl⟩ : ∃ Q : Nat, q = Q := ⟨q.toNat, by omega⟩
  rw [Int.toNat_natCast] at HN HY HL
  have Jb := Ib.below bA
  have Jr := Ir.below bA
  have HZ : Hid (w.heap.size + 1 ≤ (w.alloc (.cells #[.slice (some ⟨gb, 0, none⟩) nb cb, .slice (some ⟨gr, 0, none⟩) nr cr] 28)).heap.size) := by show _ ≤ _; simp
  generalize hok : ncvOk fb nb fr nr a b t s Q r = ok at *
  generalize hL : ncvL fb nb fr nr a b t s Q r = L at *
  clear hok hL
  go_enter Try.func44, Try.ntmps44
  go_wp2_with (first | (go_at_call 62; refine (impl_within_any _ _ _ _).mono ?_; rintro e w' ⟨rfl, rfl⟩))
  go_loopw [16, 31] (fun v i wr => ∃ k : Nat, k ≤ Q + 1 ∧ i = .int .i64 k ∧ Own 2 wr (w.heap.size + 1) v (tab (ncvAt fb fr nb a b t s r) k) ∧ Below (w.heap.size + 1) (w.alloc (.cells #[.slice (some ⟨gb, 0, none⟩) nb cb, .slice (some ⟨gr, 0, none⟩) nr cr] 28)) wr ∧ Hid (allB (ncvB fb nb fr nr a b t s r) k = true)) (fun _ i _ => Q + 2 - (intOf i).toNat)
  case atStart =>
    have hz1 : (w.alloc (.cells #[.slice (some ⟨gb, 0, none⟩) nb cb, .slice (some ⟨gr, 0, none⟩) nr cr] 28)).heap.size = w.heap.size + 1 := by simp
    have A2 := Own.made 2 (w.alloc (.cells #[.slice (some ⟨gb, 0, none⟩) nb cb, .slice (some ⟨gr, 0, none⟩) nr cr] 28)) (B := w.heap.size + 1) (by omega)
    rw [hz1] at A2
    exact ⟨0, Nat.zero_le _, rfl, A2, (Below.refl _ _).alloc HZ.out _, rfl⟩
  case round =>
    obtain ⟨k, hk, rfl, hown, hbr, ha⟩ := hrel
    have hsz : w.heap.size + 1 ≤ wr.heap.size := by have := hbr.size; simp at this; omega
    by_cases hlt : k < Q + 1
    · have k0 := cellAtB HK0.out hbr (by simp)
      have k1 := cellAtB HK1.out hbr (by simp)
      have Kb := Jb.belowAt hbr (by omega)
      have Kr := Jr.belowAt hbr (by omega)
      obtain ⟨p0, p1⟩ := step_bd (show k ≤ Q by omega) (show Q ≤ 64 by omega) s0 s1
      obtain ⟨c1, c2⟩ := ncv_call (fb := fb) (nb := nb) (fr := fr) (nr := nr) (a := a) (b := b) (t := t) (r := r) k p0 (by omega)
      have HT := Lib.hid (tab_length (ncvAt fb fr nb a b t s r) k)
      have HC : Hid (Calls Try.prog 24 #[.agg #[.slice (some ⟨gb, 0, none⟩) nb cb, .slice (some ⟨gr, 0, none⟩) nr cr], .int .i64 a, .int .i64 b, .int .i64 t, .int .i64 (k * s), .int .i64 r] wr (RetV wr (.tuple #[.int .i64 (nwt0 fb nb fr nr a b t (k * s) r), .bool (ncvB fb nb fr nr a b t s r k)]))) := by
        rw [← c1]; exact nwt_impl gb cb gr cr nb nr fb fr a b t (k * s) r wr mb mr Kb Kr
      cases hx : ncvB fb nb fr nr a b t s r k
      · have HF := Lib.hid (HN.out k hlt hx)
        have HF2 := Lib.hid (HL.out _ HF.out)
        clear c1 c2
        go_wp2_with fail
        refine HC.out.mono ?_
        rintro e w3 ⟨rfl, hb3⟩
        go_wp2
        go_ret2
        rw [HF2.out, HF.out]
        exact RetL1.no _ (bA.trans ((hbr.trans (hb3.mono hsz)).mono (by simp)))
      · have HV := Lib.hid (c2 hx)
        have HA := Lib.hid (allB_succ ha.out hx)
        clear c1 c2
        go_wp2_with fail
        refine HC.out.mono ?_
        rintro e w3 ⟨rfl, hb3⟩
        have ho3 := hown.below hb3
        have hsz3 := Nat.le_trans hsz hb3.size
        go_wp2_with (first | (at_builtin; refine wpList_app1 _ rfl _ _ 22 rfl (w.heap.size + 1) 2 Try.infoI Try.underlying22 _ _ rfl ho3 _ rfl (by have := HT.out; omega) (hsz3) ?_; intro v' w5 ho5 hb5))
        go_roundw
        case rel => exact ⟨k + 1, by omega, by go_num, by rw [tab, ← HV.out]; exact ho5, (hbr.trans (hb3.mono hsz)).trans hb5, HA⟩
        case measure => simp [intOf]; omega
    · obtain rfl : k = Q + 1 := by omega
      have HF := Lib.hid (HY.out ha.out)
      have HF2 := Lib.hid (HL.out _ HF.out)
      go_wp2
      go_ret2
      rw [HF2.out, HF.out]
      exact ⟨_, rfl, hown.mono (by omega), by rw [cond_true, tab_length]; omega, bA.trans (hbr.mono (by simp))⟩

set_option maxHeartbeats 3200000 in
theorem ncv_spec (gb cb gr cr nb nr : Nat) (fb fr : Nat → Int) (a b t s q r : Int) (w : World) (mb : nb < 1000000000) (mr : nr < 1000000000) (Ib : Ints w gb 0 nb fb) (Ir : Ints w gr 0 nr fr) (blt : gb < w.heap.size) (rlt : gr < w.heap.size) : Calls Try.prog 43 #[.agg #[.slice (some ⟨gb, 0, none⟩) nb cb, .slice (some ⟨gr, 0, none⟩) nr cr], .int .i64 a, .int .i64 b, .int .i64 t, .int .i64 s, .int .i64 q, .int .i64 r] w (RetL1 2 w (ncvL fb nb fr nr a b t s q r) (ncvOk fb nb fr nr a b t s q r)) := by
  have bA : Below w.heap.size w (w.alloc (.cells #[.slice (some ⟨gb, 0, none⟩) nb cb, .slice (some ⟨gr, 0, none⟩) nr cr] 28)) := by go_grown
  have HK0 : Hid ((w.alloc (.cells #[.slice (some ⟨gb, 0, none⟩) nb cb, .slice (some ⟨gr, 0, none⟩) nr cr] 28)).cell? ⟨w.heap.size, 0, none⟩ = some (.slice (some ⟨gb, 0, none⟩) nb cb)) := by show (w.alloc (.cells #[.slice (some ⟨gb, 0, none⟩) nb cb, .slice (some ⟨gr, 0, none⟩) nr cr] 28)).cell? _ = _; simp [go_sem]
  have HK1 : Hid ((w.alloc (.cells #[.slice (some ⟨gb, 0, none⟩) nb cb, .slice (some ⟨gr, 0, none⟩) nr cr] 28)).cell? ⟨w.heap.size, 1, none⟩ = some (.slice (some ⟨gr, 0, none⟩) nr cr)) := by show (w.alloc (.cells #[.slice (some ⟨gb, 0, none⟩) nb cb, .slice (some ⟨gr, 0, none⟩) nr cr] 28)).cell? _ = _; simp [go_sem]
  cases h1 : askOk fb nb fr nr 0 r
  · rw [ncv_no (ncv_n1 h1), ncv_n1 h1]
    go_enter Try.func43, Try.ntmps43
    go_wp2_with (first | (go_at_call 50; refine (spec_l00In_any _ _ _ _).mono ?_; rintro e w' ⟨rfl, rfl⟩) | (go_at_call 63; refine (spec_l02Tapers_any _ _ _ _).mono ?_; rintro e w' ⟨rfl, rfl⟩) | (go_at_call 49; refine (can_any w.heap.size gb cb gr cr nb nr fb fr _ _ _ HK0.out HK1.out mb mr (Ib.below bA) (Ir.below bA)).mono ?_; rintro e w1 ⟨rfl, hb⟩; have k0 := Below.cellOf hb rfl HK0.out; have k1 := Below.cellOf hb rfl HK1.out; have C1 := bnext bA hb))
    go_ret2
    exact RetL1.no _ C1
  cases h2 : isTaperB a b t
  · rw [ncv_no (ncv_n2 h2), ncv_n2 h2]
    go_enter Try.func43, Try.ntmps43
    go_wp2_with (first | (go_at_call 50; refine (spec_l00In_any _ _ _ _).mono ?_; rintro e w' ⟨rfl, rfl⟩) | (go_at_call 63; refine (spec_l02Tapers_any _ _ _ _).mono ?_; rintro e w' ⟨rfl, rfl⟩) | (go_at_call 49; refine (can_any w.heap.size gb cb gr cr nb nr fb fr _ _ _ HK0.out HK1.out mb mr (Ib.below bA) (Ir.below bA)).mono ?_; rintro e w1 ⟨rfl, hb⟩; have k0 := Below.cellOf hb rfl HK0.out; have k1 := Below.cellOf hb rfl HK1.out; have C1 := bnext bA hb))
    go_ret2
    exact RetL1.no _ C1
  cases h3 : win s 1 1000000
  · rw [ncv_no (ncv_n3 h3), ncv_n3 h3]
    go_enter Try.func43, Try.ntmps43
    go_wp2_with (first | (go_at_call 50; refine (spec_l00In_any _ _ _ _).mono ?_; rintro e w' ⟨rfl, rfl⟩) | (go_at_call 63; refine (spec_l02Tapers_any _ _ _ _).mono ?_; rintro e w' ⟨rfl, rfl⟩) | (go_at_call 49; refine (can_any w.heap.size gb cb gr cr nb nr fb fr _ _ _ HK0.out HK1.out mb mr (Ib.below bA) (Ir.below bA)).mono ?_; rintro e w1 ⟨rfl, hb⟩; have k0 := Below.cellOf hb rfl HK0.out; have k1 := Below.cellOf hb rfl HK1.out; have C1 := bnext bA hb))
    go_ret2
    exact RetL1.no _ C1
  cases h4 : win q 1 64
  · rw [ncv_no (ncv_n4 h4), ncv_n4 h4]
    go_enter Try.func43, Try.ntmps43
    go_wp2_with (first | (go_at_call 50; refine (spec_l00In_any _ _ _ _).mono ?_; rintro e w' ⟨rfl, rfl⟩) | (go_at_call 63; refine (spec_l02Tapers_any _ _ _ _).mono ?_; rintro e w' ⟨rfl, rfl⟩) | (go_at_call 49; refine (can_any w.heap.size gb cb gr cr nb nr fb fr _ _ _ HK0.out HK1.out mb mr (Ib.below bA) (Ir.below bA)).mono ?_; rintro e w1 ⟨rfl, hb⟩; have k0 := Below.cellOf hb rfl HK0.out; have k1 := Below.cellOf hb rfl HK1.out; have C1 := bnext bA hb))
    go_ret2
    exact RetL1.no _ C1
  have HN : Hid (∀ k, k < q.toNat + 1 → ncvP fb fr nb a b t s r k = false → ncvOk fb nb fr nr a b t s q r = false) := fun k hk h => ncv_n5 k hk h
  have HY : Hid (allB (ncvP fb fr nb a b t s r) (q.toNat + 1) = true → ncvOk fb nb fr nr a b t s q r = true) := ncv_y h1 h2 h3 h4
  have HL : Hid (∀ x, ncvOk fb nb fr nr a b t s q r = x → ncvL fb nb fr nr a b t s q r = bif x then tab (ncvAt fb fr nb a b t s r) (q.toNat + 1) else []) := fun x hx => by rw [← hx]; rfl
  obtain ⟨q0, q1⟩ := win_iff.1 h4
  obtain ⟨s0, s1⟩ := win_iff.1 h3
  have hs := (ask_is h1).1
  obtain ⟨⟨a0, a1⟩, ⟨b0, b1⟩, t0, t1⟩ := taperB_is h2
  have HS := Lib.hid hs
  clear hs
  obtain ⟨Q, rfl⟩ : ∃ Q : Nat, q = Q := ⟨q.toNat, by omega⟩
  rw [Int.toNat_natCast] at HN HY HL
  generalize hok : ncvOk fb nb fr nr a b t s Q r = ok at *
  generalize hL : ncvL fb nb fr nr a b t s Q r = L at *
  clear hok hL
  go_enter Try.func43, Try.ntmps43
  go_wp2_with (first | (go_at_call 50; refine (spec_l00In_any _ _ _ _).mono ?_; rintro e w' ⟨rfl, rfl⟩) | (go_at_call 63; refine (spec_l02Tapers_any _ _ _ _).mono ?_; rintro e w' ⟨rfl, rfl⟩) | (go_at_call 49; refine (can_any w.heap.size gb cb gr cr nb nr fb fr _ _ _ HK0.out HK1.out mb mr (Ib.below bA) (Ir.below bA)).mono ?_; rintro e w1 ⟨rfl, hb⟩; have k0 := Below.cellOf hb rfl HK0.out; have k1 := Below.cellOf hb rfl HK1.out; have C1 := bnext bA hb))
  have D1 := Ib.below C1
  have D2 := Ir.below C1
  have hz1 : w.heap.size + 1 ≤ w1.heap.size := World.block_lt_of_cell? _ _ k0
  have H0 := Lib.hid k0
  have H1 := Lib.hid k1
  clear k0 k1
  go_loopw [16, 17] (fun v i wr => ∃ k : Nat, k ≤ Q + 1 ∧ i = .int .i64 k ∧ Own 2 wr w1.heap.size v (tab (ncvAt fb fr nb a b t s r) k) ∧ Below w1.heap.size w1 wr ∧ Hid (allB (ncvP fb fr nb a b t s r) k = true)) (fun _ i _ => Q + 2 - (intOf i).toNat)
  case atStart => exact ⟨0, Nat.zero_le _, rfl, Own.made _ _ (Nat.le_refl _), (Below.refl _ _).alloc (Nat.le_refl _) _, rfl⟩
  case round =>
    obtain ⟨k, hk, rfl, hown, hbr, ha⟩ := hrel
    have hsz : w1.heap.size ≤ wr.heap.size := hbr.size
    by_cases hlt : k < Q + 1
    · have k0 := cellAtB H0.out hbr (show w.heap.size < w1.heap.size by omega)
      have k1 := cellAtB H1.out hbr (show w.heap.size < w1.heap.size by omega)
      have Kb := D1.belowAt hbr (by omega)
      have Kr := D2.belowAt hbr (by omega)
      obtain ⟨p0, p1⟩ := step_bd (show k ≤ Q by omega) (show Q ≤ 64 by omega) s0 s1
      obtain ⟨x0, x1, x2, x3⟩ := nwtF_bd (t := t) (b := b) HS.out p0 (show k * s ≤ 1000000000000 by omega) a0 a1 b0 t0 t1 r
      have HT := Lib.hid (tab_length (ncvAt fb fr nb a b t s r) k)
      have HE : Hid (netF fb fr nb (k * s) r + taperF a b t (k * s) = ncvAt fb fr nb a b t s r k) := rfl
      cases hx : isAmount (netF fb fr nb (k * s) r + taperF a b t (k * s))
      · have HF := Lib.hid (HN.out k hlt (show isAmount (ncvAt fb fr nb a b t s r k) = false from hx))
        have HF2 := Lib.hid (HL.out _ HF.out)
        have hkQ : ¬ (Q : Int) < k := by omega
        go_wp2_with (first | (go_at_call 57; refine (spec_l02Cents_any _ _).mono ?_; rintro e w' ⟨rfl, rfl⟩) | (go_at_call 64; refine (net_spec w.heap.size gb cb gr cr nb nr fb fr _ _ _ k0 k1 mb mr Kb Kr HS.out (by omega) (by omega)).mono ?_; rintro e w2 ⟨rfl, m, rfl⟩) | (go_at_call 65; refine (spec_l02Taper _ _ _ _ _ a0 a1 b0 b1 t0 t1 (by omega) (by omega)).mono ?_; rintro e w3 ⟨rfl, hb3⟩))
        go_ret2
        rw [HF2.out, HF.out]
        exact RetL1.no _ (C1.trans (((Below.drewN' hbr m).trans (hb3.mono (by simpa using hsz))).mono (by omega)))
      · have HA := Lib.hid (allB_succ ha.out (show ncvP fb fr nb a b t s r k = true from hx))
        go_wp2_with (first | (go_at_call 57; refine (spec_l02Cents_any _ _).mono ?_; rintro e w' ⟨rfl, rfl⟩) | (go_at_call 64; refine (net_spec w.heap.size gb cb gr cr nb nr fb fr _ _ _ k0 k1 mb mr Kb Kr HS.out (by omega) (by omega)).mono ?_; rintro e w2 ⟨rfl, m, rfl⟩) | (go_at_call 65; refine (spec_l02Taper _ _ _ _ _ a0 a1 b0 b1 t0 t1 (by omega) (by omega)).mono ?_; rintro e w3 ⟨rfl, hb3⟩; have ho3 := (hown.drewN m).below hb3; have hsz3 := Nat.le_trans (show w1.heap.size ≤ (wr.drewN m).heap.size by simpa using hsz) hb3.size) | (at_builtin; refine wpList_app1 _ rfl _ _ 22 rfl (w1.heap.size) 2 Try.infoI Try.underlying22 _ _ rfl ho3 _ rfl (by have := HT.out; omega) (hsz3) ?_; intro v' w5 ho5 hb5))
        go_roundw
        case rel => exact ⟨k + 1, by omega, by go_num, by rw [tab, ← HE.out]; exact ho5, ((Below.drewN' hbr m).trans (hb3.mono (by simpa using hsz))).trans hb5, HA⟩
        case measure => simp [intOf]; omega
    · obtain rfl : k = Q + 1 := by omega
      have HF := Lib.hid (HY.out ha.out)
      have HF2 := Lib.hid (HL.out _ HF.out)
      go_wp2
      go_ret2
      rw [HF2.out, HF.out]
      exact ⟨_, rfl, hown.mono (by omega), by rw [cond_true, tab_length]; omega, C1.trans (hbr.mono (by omega))⟩

theorem NetCurve_impl {w : World} {B : Nat} {v : Value} {xb xr : List Int} (h : RowS 2 w B v xb xr) (a b t s q r : Int) : Calls Try.prog 44 #[v, .int .i64 a, .int .i64 b, .int .i64 t, .int .i64 s, .int .i64 q, .int .i64 r] w (RetL1 2 w (NetCurve_r0 xb xr a b t s q r) (NetCurve_r1 xb xr a b t s q r)) := by
  obtain ⟨gb, cb, gr, cr, rfl, mb, mr, Ib, Ir, l1, l2⟩ := h.form2
  exact ncv_impl gb cb gr cr _ _ _ _ a b t s q r w mb mr Ib Ir l1 l2

theorem NetCurve_spec {w : World} {B : Nat} {v : Value} {xb xr : List Int} (h : RowS 2 w B v xb xr) (a b t s q r : Int) : Calls Try.prog 43 #[v, .int .i64 a, .int .i64 b, .int .i64 t, .int .i64 s, .int .i64 q, .int .i64 r] w (RetL1 2 w (NetCurve_r0 xb xr a b t s q r) (NetCurve_r1 xb xr a b t s q r)) := by
  obtain ⟨gb, cb, gr, cr, rfl, mb, mr, Ib, Ir, l1, l2⟩ := h.form2
  exact ncv_spec gb cb gr cr _ _ _ _ a b t s q r w mb mr Ib Ir l1 l2
end Go.Proofs.Ytjghhllekbmkjaa
