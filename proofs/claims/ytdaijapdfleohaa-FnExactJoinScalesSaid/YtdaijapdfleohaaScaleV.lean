/-
  impl.ValidScale, impl.isAsked, spec.l02Is, spec.l02Can tell whether a scale is valid (and an amount and a way of rounding with it). Condition: fewer than 1000000000 integers in each list.
-/
import Derived.Test.YtdaijapdfleohaaWithin
import Derived.Test.YtdaijapdfleohaaScaleP
namespace Go.Proofs.Ytdaijapdfleohaa
open Go.RowKit
set_option linter.unusedVariables false

theorem asc_any (n g c : Nat) (f : Nat → Int) (w : World) (h0 : 1 ≤ n) (hn : n < 1000000000) (hI : Ints w g 0 n f) :
    Calls Try.prog 50 #[.slice (some ⟨g, 0, none⟩) n c] w (RetV w (.bool (ascB f n))) := by
  go_enter Try.func50, Try.ntmps50
  go_wp2
  go_loopw [3] (fun i wr => ∃ k : Nat, k + 1 ≤ n ∧ i = .int .i64 (k + 1) ∧ Hid (allB (ascP f) (k + 1) = true) ∧ Below w.heap.size w wr) (fun i _ => n - (intOf i).toNat)
  case atStart => exact ⟨0, h0, by go_num, rfl, Below.refl _ _⟩
  case round =>
    obtain ⟨k, hk, rfl, ha, hb⟩ := hrel
    by_cases hlt : k + 1 < n
    · have c1 := Below.cellOf hb rfl (hI.at0 k (by omega))
      have c2 := Below.cellOf hb rfl (hI.at0 (k + 1) hlt)
      have l1 : (k : Int) + 1 < n := by omega
      have l2 : (0 : Int) ≤ (k : Int) + 1 := by omega
      have l3 : ((k : Int) + 1).toNat = k + 1 := by omega
      have l4 : k < n := by omega
      have l5 : (k : Int) < n := by omega
      have e1 : IntKind.i64.wrap ((k : Int) + 1 - 1) = k := by rw [show (k : Int) + 1 - 1 = k by omega]; exact IntWalk.i64_in _ (by omega)
      by_cases hx : f (k + 1) ≤ f k
      · have HF : Hid (ascB f n = false) := allB_false (k + 1) hlt (ascP_not hx)
        go_wp2
        go_quiet (fail)
        go_wp2
        go_ret
        exact ⟨ret_bool HF.out.symm, Below.drewN' hb _⟩
      · have HF : Hid (allB (ascP f) (k + 1 + 1) = true) := allB_succ ha.out (ascP_two (by omega))
        go_wp2
        go_quiet (fail)
        go_wp2
        go_roundw
        case rel => exact ⟨k + 1, by omega, by go_num, HF, Below.drewN' hb _⟩
        case measure => simp [intOf]; omega
    · obtain rfl : n = k + 1 := by omega
      have HF : Hid (ascB f (k + 1) = true) := ha.out
      go_wp2
      go_ret
      exact ⟨ret_bool HF.out.symm, hb⟩

set_option maxHeartbeats 1600000 in
theorem valid_impl (gb cb gr cr nb nr : Nat) (fb fr : Nat → Int) (w : World) (mb : nb < 1000000000) (mr : nr < 1000000000) (Ib : Ints w gb 0 nb fb) (Ir : Ints w gr 0 nr fr) : Calls Try.prog 28 #[.agg #[.slice (some ⟨gb, 0, none⟩) nb cb, .slice (some ⟨gr, 0, none⟩) nr cr]] w (RetV w (.bool (scaleOk fb nb fr nr))) := by
  have bA : Below w.heap.size w (w.alloc (.cells #[.slice (some ⟨gb, 0, none⟩) nb cb, .slice (some ⟨gr, 0, none⟩) nr cr] 29)) := by go_grown
  have HK0 : Hid ((w.alloc (.cells #[.slice (some ⟨gb, 0, none⟩) nb cb, .slice (some ⟨gr, 0, none⟩) nr cr] 29)).cell? ⟨w.heap.size, 0, none⟩ = some (.slice (some ⟨gb, 0, none⟩) nb cb)) := by show (w.alloc (.cells #[.slice (some ⟨gb, 0, none⟩) nb cb, .slice (some ⟨gr, 0, none⟩) nr cr] 29)).cell? _ = _; simp [go_sem]
  have HK1 : Hid ((w.alloc (.cells #[.slice (some ⟨gb, 0, none⟩) nb cb, .slice (some ⟨gr, 0, none⟩) nr cr] 29)).cell? ⟨w.heap.size, 1, none⟩ = some (.slice (some ⟨gr, 0, none⟩) nr cr)) := by show (w.alloc (.cells #[.slice (some ⟨gb, 0, none⟩) nb cb, .slice (some ⟨gr, 0, none⟩) nr cr] 29)).cell? _ = _; simp [go_sem]
  cases h1 : cntB fb nb 1 8 0 1000000000000
  · rw [scale_no1 h1]
    go_enter Try.func28, Try.ntmps28
    go_wp2_with (first | (go_at_call 29; refine (hasCount_any nb gb 0 cb fb _ _ _ _ _ mb (Ib.below bA)).mono ?_; rintro e w1 ⟨rfl, hb⟩))
    go_ret
    exact ⟨rfl, bnext bA hb⟩
  obtain ⟨⟨n1, n8⟩, hbk⟩ := cntB_iff.1 h1
  have AR : Hid (∀ w', Ints w' gb 0 nb fb → Calls Try.prog 29 #[.slice (some ⟨gb, 0, none⟩) nb cb, .int .i64 1, .int .i64 8, .int .i64 0, .int .i64 1000000000000] w' (RetV w' (.bool true))) := fun w' I => by have := hasCount_any nb gb 0 cb fb 1 8 0 1000000000000 w' mb I; rwa [h1] at this
  have HB := Lib.hid hbk
  clear h1 hbk
  by_cases h2 : ¬ fb 0 = 0
  · have HF : Hid (scaleOk fb nb fr nr = false) := scale_not fun h => h2 h.b0
    have h2' : (fb 0 == 0) = false := by simpa using h2
    clear h2
    go_enter Try.func28, Try.ntmps28
    go_wp2_with fail
    refine (AR.out _ (Ib.below bA)).mono ?_
    rintro e w1 ⟨rfl, hb⟩
    have C1 := bnext bA hb
    have k0 := Below.cellOf hb rfl HK0.out
    have c0 := (Ib.below C1).at0 0 (by omega)
    go_wp2_with fail
    go_ret
    exact ⟨ret_bool HF.out.symm, C1⟩
  have h2 := Classical.not_not.1 h2
  have H2 := Lib.hid h2
  have h2' : (fb 0 == 0) = true := by simpa using h2
  clear h2
  cases h3 : ascB fb nb
  · have HF : Hid (scaleOk fb nb fr nr = false) := scale_not fun h => by rw [asc_iff.2 h.asc] at h3; cases h3
    go_enter Try.func28, Try.ntmps28
    go_wp2_with fail
    refine (AR.out _ (Ib.below bA)).mono ?_
    rintro e w1 ⟨rfl, hb⟩
    have C1 := bnext bA hb
    have k0 := Below.cellOf hb rfl HK0.out
    have c0 := (Ib.below C1).at0 0 (by omega)
    go_wp2_with (first | (go_at_call 50; refine (asc_any nb gb cb fb _ (by omega) mb (Ib.below C1)).mono ?_; rintro e w2 ⟨rfl, hb2⟩))
    go_ret
    exact ⟨ret_bool HF.out.symm, bnext C1 hb2⟩
  have AS : Hid (∀ w', Ints w' gb 0 nb fb → Calls Try.prog 50 #[.slice (some ⟨gb, 0, none⟩) nb cb] w' (RetV w' (.bool true))) := fun w' I => by have := asc_any nb gb cb fb w' (by omega) mb I; rwa [h3] at this
  have H3 := Lib.hid h3
  clear h3
  by_cases h4 : ¬ nr = nb
  · have HF : Hid (scaleOk fb nb fr nr = false) := scale_not fun h => h4 h.nr
    have h4' : ((nr : Int) == nb) = false := by simp; omega
    clear h4
    go_enter Try.func28, Try.ntmps28
    go_wp2_with fail
    refine (AR.out _ (Ib.below bA)).mono ?_
    rintro e w1 ⟨rfl, hb⟩
    have C1 := bnext bA hb
    have k0 := Below.cellOf hb rfl HK0.out
    have k1 := Below.cellOf hb rfl HK1.out
    have c0 := (Ib.below C1).at0 0 (by omega)
    have HK0' := Lib.hid k0
    have HK1' := Lib.hid k1
    go_wp2_with fail
    refine (AS.out _ (Ib.below C1)).mono ?_
    rintro e w2 ⟨rfl, hb2⟩
    have C2 := bnext C1 hb2
    have k2 := Below.cellOf hb2 rfl HK0'.out
    have k3 := Below.cellOf hb2 rfl HK1'.out
    go_wp2_with fail
    go_ret
    exact ⟨ret_bool HF.out.symm, C2⟩
  obtain rfl : nr = nb := Classical.not_not.1 h4
  have h4' : ((nr : Int) == nr) = true := by simp
  go_enter Try.func28, Try.ntmps28
  go_wp2_with fail
  refine (AR.out _ (Ib.below bA)).mono ?_
  rintro e w1 ⟨rfl, hb⟩
  have C1 := bnext bA hb
  have k0 := Below.cellOf hb rfl HK0.out
  have k1 := Below.cellOf hb rfl HK1.out
  have c0 := (Ib.below C1).at0 0 (by omega)
  have HK0' := Lib.hid k0
  have HK1' := Lib.hid k1
  go_wp2_with fail
  refine (AS.out _ (Ib.below C1)).mono ?_
  rintro e w2 ⟨rfl, hb2⟩
  have C2 := bnext C1 hb2
  have k2 := Below.cellOf hb2 rfl HK0'.out
  have k3 := Below.cellOf hb2 rfl HK1'.out
  go_wp2_with fail
  refine (areWithin_any nr gr 0 cr fr _ _ _ mr (Ir.below C2)).mono ?_
  rintro e w3 ⟨rfl, hb3⟩
  cases h5 : allW fr 0 10000 nr
  · have HF : Hid (scaleOk fb nr fr nr = false) := scale_not fun h => by rw [allW_iff.2 h.r] at h5; cases h5
    go_wp2_with fail
    go_ret
    exact ⟨ret_bool HF.out.symm, bnext C2 hb3⟩
  · have HF : Hid (scaleOk fb nr fr nr = true) := scale_mk ⟨by omega, by omega, rfl, H2.out, HB.out, asc_iff.1 H3.out, allW_iff.1 h5⟩
    go_wp2_with fail
    go_ret
    exact ⟨ret_bool HF.out.symm, bnext C2 hb3⟩
end Go.Proofs.Ytdaijapdfleohaa
