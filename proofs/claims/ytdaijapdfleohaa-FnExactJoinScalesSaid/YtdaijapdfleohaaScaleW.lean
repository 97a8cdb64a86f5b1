/-
  impl.isAsked, spec.l02Is, spec.l02Can tell whether a scale is valid (and an amount and a way of rounding with it). Condition: fewer than 1000000000 integers in each list.
-/
import Derived.Test.YtdaijapdfleohaaScaleV
namespace Go.Proofs.Ytdaijapdfleohaa
open Go.RowKit
set_option linter.unusedVariables false

def askOk (fb : Nat → Int) (nb : Nat) (fr : Nat → Int) (nr : Nat) (c r : Int) : Bool := scaleOk fb nb fr nr && isAmount c && isRound r
theorem ask_is {fb fr : Nat → Int} {nb nr : Nat} {c r : Int} (h : askOk fb nb fr nr c r = true) : ScaleIs fb nb fr nr ∧ (0 ≤ c ∧ c ≤ 1000000000000) ∧ 0 ≤ r ∧ r ≤ 3 := by
  obtain ⟨h1, h2, h3⟩ := all_yes3 h
  exact ⟨scale_is h1, win_iff.1 h2, win_iff.1 h3⟩

set_option maxHeartbeats 800000 in
theorem isAsked_any (gb cb gr cr nb nr : Nat) (fb fr : Nat → Int) (c r : Int) (w : World) (mb : nb < 1000000000) (mr : nr < 1000000000) (Ib : Ints w gb 0 nb fb) (Ir : Ints w gr 0 nr fr) : Calls Try.prog 56 #[.agg #[.slice (some ⟨gb, 0, none⟩) nb cb, .slice (some ⟨gr, 0, none⟩) nr cr], .int .i64 c, .int .i64 r] w (RetV w (.bool (askOk fb nb fr nr c r))) := by
  have bA : Below w.heap.size w (w.alloc (.cells #[.slice (some ⟨gb, 0, none⟩) nb cb, .slice (some ⟨gr, 0, none⟩) nr cr] 29)) := by go_grown
  cases h : askOk fb nb fr nr c r
  · rcases first_no3 h with h1 | ⟨h1, h2 | ⟨h2, h3⟩⟩
    all_goals
      clear h
      go_enter Try.func56, Try.ntmps56
      go_wp2_with (first | (go_at_call 66; refine (impl_isAmount_any _ _).mono ?_; rintro e w' ⟨rfl, rfl⟩) | (go_at_call 67; refine (impl_isRound_any _ _).mono ?_; rintro e w' ⟨rfl, rfl⟩) | (go_at_call 28; refine (valid_impl gb cb gr cr nb nr fb fr _ mb mr (Ib.below bA) (Ir.below bA)).mono ?_; rintro e w1 ⟨rfl, hb⟩))
      go_ret
      exact ⟨rfl, bnext bA hb⟩
  · obtain ⟨h1, h2, h3⟩ := all_yes3 h
    clear h
    go_enter Try.func56, Try.ntmps56
    go_wp2_with (first | (go_at_call 66; refine (impl_isAmount_any _ _).mono ?_; rintro e w' ⟨rfl, rfl⟩) | (go_at_call 67; refine (impl_isRound_any _ _).mono ?_; rintro e w' ⟨rfl, rfl⟩) | (go_at_call 28; refine (valid_impl gb cb gr cr nb nr fb fr _ mb mr (Ib.below bA) (Ir.below bA)).mono ?_; rintro e w1 ⟨rfl, hb⟩))
    go_ret
    exact ⟨rfl, bnext bA hb⟩

set_option maxHeartbeats 1600000 in
theorem is_spec (g : Nat) (gb cb gr cr nb nr : Nat) (fb fr : Nat → Int) (w : World) (k0 : w.cell? ⟨g, 0, none⟩ = some (.slice (some ⟨gb, 0, none⟩) nb cb)) (k1 : w.cell? ⟨g, 1, none⟩ = some (.slice (some ⟨gr, 0, none⟩) nr cr)) (mb : nb < 1000000000) (mr : nr < 1000000000) (Ib : Ints w gb 0 nb fb) (Ir : Ints w gr 0 nr fr) : Calls Try.prog 25 #[.pointer (some ⟨g, 0, none⟩)] w (RetV w (.bool (scaleOk fb nb fr nr))) := by
  by_cases n1 : ¬ (1 : Int) ≤ nb
  · have HF : Hid (scaleOk fb nb fr nr = false) := scale_not fun h => by have := h.n1; omega
    go_enter Try.func25, Try.ntmps25
    go_wp2
    go_ret
    exact ⟨ret_bool HF.out.symm, Below.refl _ _⟩
  have n1 := Classical.not_not.1 n1
  by_cases n8 : ¬ (nb : Int) ≤ 8
  · have HF : Hid (scaleOk fb nb fr nr = false) := scale_not fun h => by have := h.n8; omega
    go_enter Try.func25, Try.ntmps25
    go_wp2
    go_ret
    exact ⟨ret_bool HF.out.symm, Below.refl _ _⟩
  have n8 := Classical.not_not.1 n8
  by_cases h4 : ¬ nr = nb
  · have HF : Hid (scaleOk fb nb fr nr = false) := scale_not fun h => h4 h.nr
    have h4' : ((nr : Int) != nb) = true := by simp; omega
    have h4'' : ((nr : Int) == nb) = false := by simp; omega
    clear h4
    go_enter Try.func25, Try.ntmps25
    go_wp2
    go_ret
    exact ⟨ret_bool HF.out.symm, Below.refl _ _⟩
  obtain rfl : nr = nb := Classical.not_not.1 h4
  have h4' : ((nr : Int) != nr) = false := by simp
  have c0 := Ib.at0 0 (by omega)
  by_cases h2 : ¬ fb 0 = 0
  · have HF : Hid (scaleOk fb nr fr nr = false) := scale_not fun h => h2 h.b0
    have h2' : (fb 0 != 0) = true := by simpa using h2
    have h2'' : (fb 0 == 0) = false := by simpa using h2
    clear h2
    go_enter Try.func25, Try.ntmps25
    go_wp2
    go_ret
    exact ⟨ret_bool HF.out.symm, Below.refl _ _⟩
  have h2 := Classical.not_not.1 h2
  have H2 := Lib.hid h2
  have h2' : (fb 0 != 0) = false := by simpa using h2
  have h2'' : (fb 0 == 0) = true := by simpa using h2
  clear h2
  have HY : Hid (allB (placeOk fb fr) nr = true → scaleOk fb nr fr nr = true) := fun h => scale_all (by omega) (by omega) rfl H2.out h
  have HN : Hid (∀ i, i < nr → placeOk fb fr i = false → scaleOk fb nr fr nr = false) := fun i hi h => scale_no6 hi h
  generalize hS : scaleOk fb nr fr nr = S at *
  clear hS
  go_enter Try.func25, Try.ntmps25
  go_wp2
  go_loopw [4] (fun i wr => ∃ k : Nat, k ≤ nr ∧ i = .int .i64 k ∧ Hid (allB (placeOk fb fr) k = true) ∧ Below w.heap.size w wr) (fun i _ => nr - (intOf i).toNat)
  case atStart => exact ⟨0, Nat.zero_le _, rfl, rfl, Below.refl _ _⟩
  case round =>
    obtain ⟨k, hk, rfl, ha, hb⟩ := hrel
    have p0 := Below.cellOf hb rfl k0
    have p1 := Below.cellOf hb rfl k1
    by_cases hlt : k < nr
    · have c1 := Below.cellOf hb rfl (Ib.at0 k hlt)
      have c2 := Below.cellOf hb rfl (Ir.at0 k hlt)
      have l1 : (k : Int) < nr := by omega
      obtain ⟨j, hj⟩ : ∃ j, (k = 0 ∧ j = 0) ∨ k = j + 1 := ⟨k - 1, by omega⟩
      cases hx : placeOk fb fr k
      · have HF := Lib.hid (HN.out k hlt hx)
        have hx' : (isAmount (fb k) && ascP fb k && isRate (fr k)) = false := hx
        rcases first_no3 hx' with h1 | ⟨h1, h5 | ⟨h5, h6⟩⟩
        · clear hx hx' hj
          go_wp2_with fail
          go_quiet ((first | (go_at_call 26; exact Calls.quiet_of_same ((spec_l02Cents_any _ _).mono (fun _ _ h => ⟨h.1, h.2.symm⟩))) | (go_at_call 47; exact Calls.quiet_of_same ((spec_l02Rate_any _ _).mono (fun _ _ h => ⟨h.1, h.2.symm⟩))))); go_wp2
          go_ret
          exact ⟨ret_bool HF.out.symm, Below.drewN' hb _⟩
        · have h7 : ¬ k = 0 ∧ fb k ≤ fb (k - 1) := by simpa [ascP] using h5
          have hj' : k = j + 1 := by omega
          have h8 : fb k ≤ fb j := by have := h7.2; rwa [show k - 1 = j by omega] at this
          have cj := Below.cellOf hb rfl (Ib.at0 j (by omega))
          have e1 : IntKind.i64.wrap ((k : Int) - 1) = j := by rw [show (k : Int) - 1 = j by omega]; exact IntWalk.i64_in _ (by omega)
          have l2 : (0 : Int) < k := by omega
          have l2' : 0 < k := by omega
          have l3 : (j : Int) < nr := by omega
          have l4 : j < nr := by omega
          clear hx hx' h5 h7 hj' hj
          go_wp2_with fail
          go_quiet ((first | (go_at_call 26; exact Calls.quiet_of_same ((spec_l02Cents_any _ _).mono (fun _ _ h => ⟨h.1, h.2.symm⟩))) | (go_at_call 47; exact Calls.quiet_of_same ((spec_l02Rate_any _ _).mono (fun _ _ h => ⟨h.1, h.2.symm⟩))))); go_wp2
          go_ret
          exact ⟨ret_bool HF.out.symm, Below.drewN' hb _⟩
        · rcases hj with ⟨hk0, _⟩ | hj
          · have l2 : decide ((0 : Int) < (k : Int)) = false := decide_eq_false (by omega)
            have l2' : decide (0 < k) = false := decide_eq_false (by omega)
            clear hx hx' h5 hk0
            go_wp2_with fail
            go_quiet ((first | (go_at_call 26; exact Calls.quiet_of_same ((spec_l02Cents_any _ _).mono (fun _ _ h => ⟨h.1, h.2.symm⟩))) | (go_at_call 47; exact Calls.quiet_of_same ((spec_l02Rate_any _ _).mono (fun _ _ h => ⟨h.1, h.2.symm⟩))))); go_wp2
            go_ret
            exact ⟨ret_bool HF.out.symm, Below.drewN' hb _⟩
          · have h8 : ¬ fb k ≤ fb j := by
              have h6' : k = 0 ∨ fb (k - 1) < fb k := by simpa [ascP] using h5
              rw [show k - 1 = j by omega] at h6'
              omega
            have cj := Below.cellOf hb rfl (Ib.at0 j (by omega))
            have e1 : IntKind.i64.wrap ((k : Int) - 1) = j := by rw [show (k : Int) - 1 = j by omega]; exact IntWalk.i64_in _ (by omega)
            have l2 : (0 : Int) < k := by omega
            have l2' : 0 < k := by omega
            have l3 : (j : Int) < nr := by omega
            have l4 : j < nr := by omega
            have h8' : decide (fb k ≤ fb j) = false := decide_eq_false h8
            clear hx hx' h5 hj
            go_wp2_with fail
            go_quiet ((first | (go_at_call 26; exact Calls.quiet_of_same ((spec_l02Cents_any _ _).mono (fun _ _ h => ⟨h.1, h.2.symm⟩))) | (go_at_call 47; exact Calls.quiet_of_same ((spec_l02Rate_any _ _).mono (fun _ _ h => ⟨h.1, h.2.symm⟩))))); go_wp2
            go_ret
            exact ⟨ret_bool HF.out.symm, Below.drewN' hb _⟩
      · have HF := Lib.hid (allB_succ ha.out hx)
        obtain ⟨h1, h5, h6⟩ := all_yes3 hx
        rcases hj with ⟨hk0, _⟩ | hj
        · have l2 : decide ((0 : Int) < (k : Int)) = false := decide_eq_false (by omega)
          have l2' : decide (0 < k) = false := decide_eq_false (by omega)
          clear hx h5 hk0
          go_wp2_with fail
          go_quiet ((first | (go_at_call 26; exact Calls.quiet_of_same ((spec_l02Cents_any _ _).mono (fun _ _ h => ⟨h.1, h.2.symm⟩))) | (go_at_call 47; exact Calls.quiet_of_same ((spec_l02Rate_any _ _).mono (fun _ _ h => ⟨h.1, h.2.symm⟩))))); go_wp2
          go_roundw
          case rel => exact ⟨k + 1, by omega, by go_num, HF, Below.drewN' hb _⟩
          case measure => simp [intOf]; omega
        · have h8 : ¬ fb k ≤ fb j := by
            have h6' : k = 0 ∨ fb (k - 1) < fb k := by simpa [ascP] using h5
            rw [show k - 1 = j by omega] at h6'
            omega
          have cj := Below.cellOf hb rfl (Ib.at0 j (by omega))
          have e1 : IntKind.i64.wrap ((k : Int) - 1) = j := by rw [show (k : Int) - 1 = j by omega]; exact IntWalk.i64_in _ (by omega)
          have l2 : (0 : Int) < k := by omega
          have l2' : 0 < k := by omega
          have l3 : (j : Int) < nr := by omega
          have l4 : j < nr := by omega
          have h8' : decide (fb k ≤ fb j) = false := decide_eq_false h8
          clear hx h5 hj
          go_wp2_with fail
          go_quiet ((first | (go_at_call 26; exact Calls.quiet_of_same ((spec_l02Cents_any _ _).mono (fun _ _ h => ⟨h.1, h.2.symm⟩))) | (go_at_call 47; exact Calls.quiet_of_same ((spec_l02Rate_any _ _).mono (fun _ _ h => ⟨h.1, h.2.symm⟩))))); go_wp2
          go_roundw
          case rel => exact ⟨k + 1, by omega, by go_num, HF, Below.drewN' hb _⟩
          case measure => simp [intOf]; omega
    · obtain rfl : k = nr := by omega
      have HF := Lib.hid (HY.out ha.out)
      go_wp2
      go_ret
      exact ⟨ret_bool HF.out.symm, hb⟩

theorem can_any (g : Nat) (gb cb gr cr nb nr : Nat) (fb fr : Nat → Int) (c r : Int) (w : World) (k0 : w.cell? ⟨g, 0, none⟩ = some (.slice (some ⟨gb, 0, none⟩) nb cb)) (k1 : w.cell? ⟨g, 1, none⟩ = some (.slice (some ⟨gr, 0, none⟩) nr cr)) (mb : nb < 1000000000) (mr : nr < 1000000000) (Ib : Ints w gb 0 nb fb) (Ir : Ints w gr 0 nr fr) : Calls Try.prog 32 #[.pointer (some ⟨g, 0, none⟩), .int .i64 c, .int .i64 r] w (RetV w (.bool (askOk fb nb fr nr c r))) := by
  cases h : askOk fb nb fr nr c r
  · rcases first_no3 h with h1 | ⟨h1, h2 | ⟨h2, h3⟩⟩
    all_goals
      clear h
      go_enter Try.func32, Try.ntmps32
      go_wp2_with (first | (go_at_call 26; refine (spec_l02Cents_any _ _).mono ?_; rintro e w' ⟨rfl, rfl⟩) | (go_at_call 54; refine (spec_l02Way_any _ _).mono ?_; rintro e w' ⟨rfl, rfl⟩) | (go_at_call 25; refine (is_spec g gb cb gr cr nb nr fb fr _ k0 k1 mb mr Ib Ir).mono ?_; rintro e w1 ⟨rfl, hb⟩))
      go_ret
      exact ⟨rfl, hb⟩
  · obtain ⟨h1, h2, h3⟩ := all_yes3 h
    clear h
    go_enter Try.func32, Try.ntmps32
    go_wp2_with (first | (go_at_call 26; refine (spec_l02Cents_any _ _).mono ?_; rintro e w' ⟨rfl, rfl⟩) | (go_at_call 54; refine (spec_l02Way_any _ _).mono ?_; rintro e w' ⟨rfl, rfl⟩) | (go_at_call 25; refine (is_spec g gb cb gr cr nb nr fb fr _ k0 k1 mb mr Ib Ir).mono ?_; rintro e w1 ⟨rfl, hb⟩))
    go_ret
    exact ⟨rfl, hb⟩
end Go.Proofs.Ytdaijapdfleohaa
