/-
  A scale's exact due, its due and its net of an amount, in the program and in the reference. Conditions: the scale is valid, the amount from 0 to 1000000000000.
-/
import Derived.Test.YtdaijapdfleohaaScaleP
import Derived.Test.YtdaijapdfleohaaSmall
import Derived.Test.YtdaijapdfleohaaRoundI
import Derived.Test.YtdaijapdfleohaaRoundS
namespace Go.Proofs.Ytdaijapdfleohaa
open Go.RowKit
set_option linter.unusedVariables false

theorem l00Min_any (a b : Int) (w : World) : Calls Try.prog 39 #[.int .i64 a, .int .i64 b] w fun e w' => e = .returned (.int .i64 (min a b)) ∧ w = w' := by
  go_enter Try.func39, Try.ntmps39
  go_wp2
  all_goals (go_ret; exact ⟨ret_int (by omega), rfl⟩)
/-- What a round of the sum adds, with the end written as the program does. -/
theorem endA_last {fb : Nat → Int} {n : Nat} {c : Int} {k : Nat} (h : ¬ k + 1 < n) : endA fb n c k = c := if_neg h
theorem endA_min {fb : Nat → Int} {n : Nat} {c : Int} {k : Nat} (h : k + 1 < n) : endA fb n c k = min c (fb (k + 1)) := if_pos h

set_option maxHeartbeats 1600000 in
theorem exact_impl (gb cb gr cr nb nr : Nat) (fb fr : Nat → Int) (c : Int) (w : World) (mb : nb < 1000000000) (mr : nr < 1000000000) (Ib : Ints w gb 0 nb fb) (Ir : Ints w gr 0 nr fr) (h : ScaleIs fb nb fr nr) (c0 : 0 ≤ c) (c1 : c ≤ 1000000000000) :
    Calls Try.prog 53 #[.agg #[.slice (some ⟨gb, 0, none⟩) nb cb, .slice (some ⟨gr, 0, none⟩) nr cr], .int .i64 c] w (RetV w (.int .i64 (exF fb fr nb c))) := by
  have bA : Below w.heap.size w (w.alloc (.cells #[.slice (some ⟨gb, 0, none⟩) nb cb, .slice (some ⟨gr, 0, none⟩) nr cr] 29)) := by go_grown
  have Jb := Ib.below bA
  have Jr := Ir.below bA
  have HS := Lib.hid h
  have n8 := h.n8
  have e : nr = nb := h.nr
  subst e
  clear h
  go_enter Try.func53, Try.ntmps53
  go_wp2
  go_loop [12, 5] (fun i s => ∃ k : Nat, k ≤ nr ∧ i = .int .i64 k ∧ s = .int .i64 (exS fb fr nr c k)) (fun i _ => nr - (intOf i).toNat)
  case atStart => exact ⟨0, Nat.zero_le _, rfl, rfl⟩
  case round =>
    obtain ⟨k, hk, rfl, rfl⟩ := hrel
    by_cases hlt : k < nr
    · have d0 := Jb.at0 k hlt
      have d1 := Jr.at0 k hlt
      have b0 := HS.out.b k hlt
      by_cases hc : c ≤ fb k
      · have HF := Lib.hid (exS_stop HS.out hlt hc)
        go_wp2
        go_ret
        exact ⟨ret_int HF.out.symm, bA⟩
      · have hc' : fb k < c := by omega
        have pb := piece_bd HS.out hlt hc'
        have sb := exS_bd8 HS.out c0 k hk
        have r0 := HS.out.r k hlt
        have HF := Lib.hid (exS_on (fr := fr) (nb := nr) hc')
        have eb := endA_bd HS.out hlt hc'
        by_cases h1 : k + 1 < nr
        · have d2 := Jb.at0 (k + 1) h1
          have b1 := HS.out.b (k + 1) h1
          have HE := Lib.hid (endA_min (fb := fb) (c := c) h1)
          have l0 : (0 : Int) ≤ (k : Int) + 1 := by omega
          have l1 : ((k : Int) + 1).toNat = k + 1 := by omega
          by_cases hm : c ≤ fb (k + 1)
          · have hE : endA fb nr c k = c := by rw [HE.out]; omega
            rw [hE] at pb eb
            have HF2 : Hid (exS fb fr nr c (k + 1) = exS fb fr nr c k + (c - fb k) * fr k) := by rw [hE] at HF; exact HF
            clear hE
            go_wp2
            all_goals
              go_round
              case rel => exact ⟨k + 1, by omega, by go_num, by rw [HF2.out]⟩
              case measure => simp [intOf]; omega
          · have hm' : fb (k + 1) < c := by omega
            have hE : endA fb nr c k = fb (k + 1) := by rw [HE.out]; omega
            rw [hE] at pb eb
            have HF2 : Hid (exS fb fr nr c (k + 1) = exS fb fr nr c k + (fb (k + 1) - fb k) * fr k) := by rw [hE] at HF; exact HF
            clear hE
            go_wp2
            all_goals
              go_round
              case rel => exact ⟨k + 1, by omega, by go_num, by rw [HF2.out]⟩
              case measure => simp [intOf]; omega
        · have hE := endA_last (fb := fb) (c := c) h1
          rw [hE] at pb eb
          have HF2 : Hid (exS fb fr nr c (k + 1) = exS fb fr nr c k + (c - fb k) * fr k) := by rw [hE] at HF; exact HF
          have h1' : ¬ (k : Int) + 1 < nr := by omega
          clear hE
          go_wp2
          go_round
          case rel => exact ⟨k + 1, by omega, by go_num, by rw [HF2.out]⟩
          case measure => simp [intOf]; omega
    · obtain rfl : k = nr := by omega
      go_wp2
      go_ret
      exact ⟨rfl, bA⟩

theorem due_impl (gb cb gr cr nb nr : Nat) (fb fr : Nat → Int) (c r : Int) (w : World) (mb : nb < 1000000000) (mr : nr < 1000000000) (Ib : Ints w gb 0 nb fb) (Ir : Ints w gr 0 nr fr) (h : ScaleIs fb nb fr nr) (c0 : 0 ≤ c) (c1 : c ≤ 1000000000000) :
    Calls Try.prog 30 #[.agg #[.slice (some ⟨gb, 0, none⟩) nb cb, .slice (some ⟨gr, 0, none⟩) nr cr], .int .i64 c, .int .i64 r] w (RetV w (.int .i64 (dueF fb fr nb c r))) := by
  have bA : Below w.heap.size w (w.alloc (.cells #[.slice (some ⟨gb, 0, none⟩) nb cb, .slice (some ⟨gr, 0, none⟩) nr cr] 29)) := by go_grown
  have eb := exF_bd h c0
  go_enter Try.func30, Try.ntmps30
  go_wp2_with (first | (go_at_call 53; refine (exact_impl gb cb gr cr nb nr fb fr c _ mb mr (Ib.below bA) (Ir.below bA) h c0 c1).mono ?_; rintro e w1 ⟨rfl, hb⟩) | (go_at_call 52; refine (impl_rounded _ _ _ _ (by omega) (by omega) (by omega) (by omega)).mono ?_; rintro e w2 ⟨rfl, m, rfl⟩))
  go_ret
  exact ⟨rfl, Below.drewN' (bnext bA hb) _⟩
theorem net_impl (gb cb gr cr nb nr : Nat) (fb fr : Nat → Int) (c r : Int) (w : World) (mb : nb < 1000000000) (mr : nr < 1000000000) (Ib : Ints w gb 0 nb fb) (Ir : Ints w gr 0 nr fr) (h : ScaleIs fb nb fr nr) (c0 : 0 ≤ c) (c1 : c ≤ 1000000000000) :
    Calls Try.prog 59 #[.agg #[.slice (some ⟨gb, 0, none⟩) nb cb, .slice (some ⟨gr, 0, none⟩) nr cr], .int .i64 c, .int .i64 r] w (RetV w (.int .i64 (netF fb fr nb c r))) := by
  have bA : Below w.heap.size w (w.alloc (.cells #[.slice (some ⟨gb, 0, none⟩) nb cb, .slice (some ⟨gr, 0, none⟩) nr cr] 29)) := by go_grown
  have eb := dueF_bd h c0 r
  go_enter Try.func59, Try.ntmps59
  go_wp2_with (first | (go_at_call 30; refine (due_impl gb cb gr cr nb nr fb fr c r _ mb mr (Ib.below bA) (Ir.below bA) h c0 c1).mono ?_; rintro e w1 ⟨rfl, hb⟩))
  go_ret
  exact ⟨rfl, bnext bA hb⟩

set_option maxHeartbeats 1600000 in
theorem exact_spec (g : Nat) (gb cb gr cr nb nr : Nat) (fb fr : Nat → Int) (c : Int) (w : World) (k0 : w.cell? ⟨g, 0, none⟩ = some (.slice (some ⟨gb, 0, none⟩) nb cb)) (k1 : w.cell? ⟨g, 1, none⟩ = some (.slice (some ⟨gr, 0, none⟩) nr cr)) (mb : nb < 1000000000) (mr : nr < 1000000000) (Ib : Ints w gb 0 nb fb) (Ir : Ints w gr 0 nr fr) (h : ScaleIs fb nb fr nr) (c0 : 0 ≤ c) (c1 : c ≤ 1000000000000) :
    Calls Try.prog 49 #[.pointer (some ⟨g, 0, none⟩), .int .i64 c] w fun e w' => e = .returned (.int .i64 (exF fb fr nb c)) ∧ ∃ m, w' = w.drewN m := by
  have HS := Lib.hid h
  have n8 := h.n8
  have e : nr = nb := h.nr
  subst e
  clear h
  go_enter Try.func49, Try.ntmps49
  go_wp2
  go_loopw [6, 5] (fun i s wr => ∃ k : Nat, k ≤ nr ∧ i = .int .i64 k ∧ s = .int .i64 (exS fb fr nr c k) ∧ ∃ m, wr = w.drewN m) (fun i _ _ => nr - (intOf i).toNat)
  case atStart => exact ⟨0, Nat.zero_le _, rfl, rfl, 0, rfl⟩
  case round =>
    obtain ⟨k, hk, rfl, rfl, m, rfl⟩ := hrel
    by_cases hlt : k < nr
    · have d0 := Ib.at0 k hlt
      have d1 := Ir.at0 k hlt
      have b0 := HS.out.b k hlt
      have l5 : (k : Int) < nr := by omega
      by_cases hc : c ≤ fb k
      · have HF := Lib.hid (exS_stop HS.out hlt hc)
        go_wp2
        go_ret
        exact ⟨ret_int HF.out.symm, _, rfl⟩
      · have hc' : fb k < c := by omega
        have pb := piece_bd HS.out hlt hc'
        have sb := exS_bd8 HS.out c0 k hk
        have r0 := HS.out.r k hlt
        have HF := Lib.hid (exS_on (fr := fr) (nb := nr) hc')
        have eb := endA_bd HS.out hlt hc'
        by_cases h1 : k + 1 < nr
        · have d2 := Ib.at0 (k + 1) h1
          have b1 := HS.out.b (k + 1) h1
          have HE := Lib.hid (endA_min (fb := fb) (c := c) h1)
          have l0 : (0 : Int) ≤ (k : Int) + 1 := by omega
          have l1 : ((k : Int) + 1).toNat = k + 1 := by omega
          rw [HE.out] at pb eb
          have HF2 : Hid (exS fb fr nr c (k + 1) = exS fb fr nr c k + (min c (fb (k + 1)) - fb k) * fr k) := by rw [HE.out] at HF; exact HF
          have e1 : IntKind.i64.wrap (min c (fb (k + 1)) - fb k) = min c (fb (k + 1)) - fb k := IntWalk.i64_in _ (by omega)
          have e2 : IntKind.i64.wrap ((min c (fb (k + 1)) - fb k) * fr k) = (min c (fb (k + 1)) - fb k) * fr k := IntWalk.i64_in _ (by omega)
          have e3 : IntKind.i64.wrap (exS fb fr nr c k + (min c (fb (k + 1)) - fb k) * fr k) = exS fb fr nr c k + (min c (fb (k + 1)) - fb k) * fr k := IntWalk.i64_in _ (by omega)
          go_wp2_with (first | (go_at_call 39; refine (l00Min_any _ _ _).mono ?_; rintro e w' ⟨rfl, rfl⟩))
          go_quiet (fail)
          clear e1 e2 e3
          go_wp2
          go_roundw
          case rel => exact ⟨k + 1, by omega, by go_num, by rw [HF2.out], _, rfl⟩
          case measure => simp [intOf]; omega
        · have hE := endA_last (fb := fb) (c := c) h1
          rw [hE] at pb eb
          have HF2 : Hid (exS fb fr nr c (k + 1) = exS fb fr nr c k + (c - fb k) * fr k) := by rw [hE] at HF; exact HF
          have h1' : ¬ (k : Int) + 1 < nr := by omega
          clear hE
          have e1 : IntKind.i64.wrap (c - fb k) = c - fb k := IntWalk.i64_in _ (by omega)
          have e2 : IntKind.i64.wrap ((c - fb k) * fr k) = (c - fb k) * fr k := IntWalk.i64_in _ (by omega)
          have e3 : IntKind.i64.wrap (exS fb fr nr c k + (c - fb k) * fr k) = exS fb fr nr c k + (c - fb k) * fr k := IntWalk.i64_in _ (by omega)
          go_wp2_with fail
          go_quiet (fail)
          clear e1 e2 e3
          go_wp2
          go_roundw
          case rel => exact ⟨k + 1, by omega, by go_num, by rw [HF2.out], _, rfl⟩
          case measure => simp [intOf]; omega
    · obtain rfl : k = nr := by omega
      go_wp2
      go_ret
      exact ⟨rfl, _, rfl⟩
theorem due_spec (g : Nat) (gb cb gr cr nb nr : Nat) (fb fr : Nat → Int) (c r : Int) (w : World) (k0 : w.cell? ⟨g, 0, none⟩ = some (.slice (some ⟨gb, 0, none⟩) nb cb)) (k1 : w.cell? ⟨g, 1, none⟩ = some (.slice (some ⟨gr, 0, none⟩) nr cr)) (mb : nb < 1000000000) (mr : nr < 1000000000) (Ib : Ints w gb 0 nb fb) (Ir : Ints w gr 0 nr fr) (h : ScaleIs fb nb fr nr) (c0 : 0 ≤ c) (c1 : c ≤ 1000000000000) :
    Calls Try.prog 27 #[.pointer (some ⟨g, 0, none⟩), .int .i64 c, .int .i64 r] w fun e w' => e = .returned (.int .i64 (dueF fb fr nb c r)) ∧ ∃ m, w' = w.drewN m := by
  have eb := exF_bd h c0
  go_enter Try.func27, Try.ntmps27
  go_wp2_with (first | (go_at_call 49; refine (exact_spec g gb cb gr cr nb nr fb fr c _ k0 k1 mb mr Ib Ir h c0 c1).mono ?_; rintro e w1 ⟨rfl, m, rfl⟩) | (go_at_call 48; refine (spec_l02Round _ _ _ _ (by omega) (by omega) (by omega) (by omega)).mono ?_; rintro e w2 ⟨rfl, m2, rfl⟩))
  go_ret
  exact ⟨rfl, _, rfl⟩
theorem net_spec (g : Nat) (gb cb gr cr nb nr : Nat) (fb fr : Nat → Int) (c r : Int) (w : World) (k0 : w.cell? ⟨g, 0, none⟩ = some (.slice (some ⟨gb, 0, none⟩) nb cb)) (k1 : w.cell? ⟨g, 1, none⟩ = some (.slice (some ⟨gr, 0, none⟩) nr cr)) (mb : nb < 1000000000) (mr : nr < 1000000000) (Ib : Ints w gb 0 nb fb) (Ir : Ints w gr 0 nr fr) (h : ScaleIs fb nb fr nr) (c0 : 0 ≤ c) (c1 : c ≤ 1000000000000) :
    Calls Try.prog 35 #[.pointer (some ⟨g, 0, none⟩), .int .i64 c, .int .i64 r] w fun e w' => e = .returned (.int .i64 (netF fb fr nb c r)) ∧ ∃ m, w' = w.drewN m := by
  have eb := dueF_bd h c0 r
  go_enter Try.func35, Try.ntmps35
  go_wp2_with (first | (go_at_call 27; refine (due_spec g gb cb gr cr nb nr fb fr c r _ k0 k1 mb mr Ib Ir h c0 c1).mono ?_; rintro e w1 ⟨rfl, m, rfl⟩))
  go_ret
  exact ⟨rfl, _, rfl⟩
end Go.Proofs.Ytdaijapdfleohaa
