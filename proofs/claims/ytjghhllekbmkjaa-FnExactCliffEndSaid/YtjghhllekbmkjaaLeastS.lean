/-
  spec.l02Gross and spec.l02Grows. Conditions: the scale is valid, the number from which it begins is from 0 to 1000000000001.
-/
import Derived.Test.YtjghhllekbmkjaaLeastP
import Derived.Test.YtjghhllekbmkjaaScaleD
import Derived.Test.YtjghhllekbmkjaaScaleW
namespace Go.Proofs.Ytjghhllekbmkjaa
open Go.RowKit
set_option linter.unusedVariables false

/-- The least, or -1. -/
def lsS (p : Int → Bool) (a : Int) : Int := bif ls1 p a then bs p a 1000000000000 else -1
theorem lsS_no {p : Int → Bool} {a : Int} (h : ls1 p a = false) : lsS p a = -1 := by simp only [lsS, h, cond_false]
theorem lsS_yes {p : Int → Bool} {a : Int} (h : ls1 p a = true) : lsS p a = bs p a 1000000000000 := by simp only [lsS, h, cond_true]
theorem geB_iff {fb fr : Nat → Int} {nb : Nat} {r t c : Int} : geB fb fr nb r t c = true ↔ t ≤ netF fb fr nb c r := by simp [geB]
theorem geB_not {fb fr : Nat → Int} {nb : Nat} {r t c : Int} : geB fb fr nb r t c = false ↔ netF fb fr nb c r < t := by simp [geB]

set_option maxHeartbeats 1600000 in
theorem gross_spec (g : Nat) (gb cb gr cr nb nr : Nat) (fb fr : Nat → Int) (a t r : Int) (w : World) (k0 : w.cell? ⟨g, 0, none⟩ = some (.slice (some ⟨gb, 0, none⟩) nb cb)) (k1 : w.cell? ⟨g, 1, none⟩ = some (.slice (some ⟨gr, 0, none⟩) nr cr)) (mb : nb < 1000000000) (mr : nr < 1000000000) (Ib : Ints w gb 0 nb fb) (Ir : Ints w gr 0 nr fr) (hs : ScaleIs fb nb fr nr) (a0 : 0 ≤ a) (a1 : a ≤ 1000000000001) :
    Calls Try.prog 70 #[.pointer (some ⟨g, 0, none⟩), .int .i64 a, .int .i64 t, .int .i64 r] w (RetV w (.int .i64 (lsS (geB fb fr nb r t) a))) := by
  have HS := Lib.hid hs
  have HN : Hid (∀ c, 0 ≤ c → c ≤ 1000000000000 → -9000000000000 ≤ netF fb fr nb c r ∧ netF fb fr nb c r ≤ 1000000000000) := fun c h0 h1 => netF_bd hs h0 h1 r
  have HC : Hid (∀ w' : World, (∃ m, w' = w.drewN m) → ∀ c, 0 ≤ c → c ≤ 1000000000000 → Calls Try.prog 64 #[.pointer (some ⟨g, 0, none⟩), .int .i64 c, .int .i64 r] w' fun e w'' => e = .returned (.int .i64 (netF fb fr nb c r)) ∧ ∃ m, w'' = w.drewN m) := by
    rintro w' ⟨m, rfl⟩ c h0 h1
    have hb : Below w.heap.size w (w.drewN m) := Below.drewN' (Below.refl _ _) m
    refine (net_spec g gb cb gr cr nb nr fb fr c r _ (Below.cellOf hb rfl k0) (Below.cellOf hb rfl k1) mb mr (Ib.below hb) (Ir.below hb) hs h0 h1).mono ?_
    rintro e w2 ⟨he, m2, rfl⟩
    exact ⟨he, m + m2, by simp⟩
  clear hs
  by_cases h1 : ¬ a ≤ 1000000000000
  · have HF : Hid (ls1 (geB fb fr nb r t) a = false) := by show _ = _; simp only [ls1, decide_eq_false h1, Bool.false_and]
    have HF0 := Lib.hid (lsS_no HF.out)
    go_enter Try.func70, Try.ntmps70
    go_wp2
    go_ret
    exact ⟨ret_int HF0.out.symm, Below.refl _ _⟩
  have h1 := Classical.not_not.1 h1
  by_cases h2 : netF fb fr nb 1000000000000 r < t
  · have HF : Hid (ls1 (geB fb fr nb r t) a = false) := by show _ = _; simp only [ls1, geB_not.2 h2, Bool.and_false]
    have HF0 := Lib.hid (lsS_no HF.out)
    go_enter Try.func70, Try.ntmps70
    go_wp2_with fail
    refine (HC.out _ ⟨0, rfl⟩ _ (by omega) (by omega)).mono ?_
    rintro e w1 ⟨rfl, m, rfl⟩
    go_wp2
    go_ret
    exact ⟨ret_int HF0.out.symm, Below.drewN' (Below.refl _ _) _⟩
  · have HF : Hid (ls1 (geB fb fr nb r t) a = true) := by show _ = _; simp only [ls1, decide_eq_true h1, geB_iff.2 (Int.not_lt.1 h2), Bool.and_true]
    have HF0 := Lib.hid (lsS_yes HF.out)
    go_enter Try.func70, Try.ntmps70
    go_wp2_with fail
    refine (HC.out _ ⟨0, rfl⟩ _ (by omega) (by omega)).mono ?_
    rintro e w1 ⟨rfl, m, hw1⟩
    obtain ⟨m, rfl⟩ : ∃ m, w1 = w.drewN m := ⟨m, hw1⟩
    clear hw1
    go_wp2_with fail
    go_loopw [9, 10] (fun lo hi wr => ∃ l h : Int, 0 ≤ l ∧ l ≤ h ∧ h ≤ 1000000000000 ∧ lo = .int .i64 l ∧ hi = .int .i64 h ∧ Hid (bs (geB fb fr nb r t) a 1000000000000 = bs (geB fb fr nb r t) l h) ∧ ∃ m, wr = w.drewN m) (fun lo hi _ => (intOf hi - intOf lo).toNat)
    case atStart => exact ⟨a, _, a0, h1, Int.le_refl _, rfl, rfl, rfl, m, rfl⟩
    case round =>
      obtain ⟨l, h, l0, lh, h9, rfl, rfl, hbs, m', hwr⟩ := hrel
      by_cases hlt : l < h
      · have nbd := HN.out ((l + h) / 2) (by omega) (by omega)
        have hm : l + h ≤ 2000000000000 := by omega
        have hwr' : ∃ m, wr = w.drewN m := ⟨m', hwr⟩
        clear hwr
        by_cases hp : t ≤ netF fb fr nb ((l + h) / 2) r
        · have HB := Lib.hid (bs_low (p := geB fb fr nb r t) hlt (geB_iff.2 hp))
          go_wp2_with fail
          refine (HC.out _ hwr' _ (by omega) (by omega)).mono ?_
          rintro e w2 ⟨rfl, m2, rfl⟩
          go_wp2
          go_roundw
          case rel => exact ⟨l, (l + h) / 2, by omega, by omega, by omega, rfl, rfl, by show _ = _; rw [hbs.out, HB.out], m2, rfl⟩
          case measure => simp [intOf]; omega
        · have HB := Lib.hid (bs_high (p := geB fb fr nb r t) hlt (geB_not.2 (by omega)))
          go_wp2_with fail
          refine (HC.out _ hwr' _ (by omega) (by omega)).mono ?_
          rintro e w2 ⟨rfl, m2, rfl⟩
          go_wp2
          go_roundw
          case rel => exact ⟨(l + h) / 2 + 1, h, by omega, by omega, by omega, rfl, rfl, by show _ = _; rw [hbs.out, HB.out], m2, rfl⟩
          case measure => simp [intOf]; omega
      · have HB := Lib.hid (bs_end (p := geB fb fr nb r t) hlt)
        go_wp2
        go_ret
        exact ⟨ret_int (by rw [HF0.out, hbs.out, HB.out]), Below.drewN' (Below.refl _ _) _⟩

theorem grows_any (g : Nat) (gb cb gr cr nb nr : Nat) (fb fr : Nat → Int) (w : World) (k0 : w.cell? ⟨g, 0, none⟩ = some (.slice (some ⟨gb, 0, none⟩) nb cb)) (k1 : w.cell? ⟨g, 1, none⟩ = some (.slice (some ⟨gr, 0, none⟩) nr cr)) (mb : nb < 1000000000) (mr : nr < 1000000000) (Ib : Ints w gb 0 nb fb) (Ir : Ints w gr 0 nr fr) (hs : ScaleIs fb nb fr nr) :
    Calls Try.prog 69 #[.pointer (some ⟨g, 0, none⟩)] w fun e w' => e = .returned (.bool (allW fr 0 9999 nr)) ∧ w = w' := by
  have HS := Lib.hid hs.r
  have e : nr = nb := hs.nr
  subst e
  clear hs
  go_enter Try.func69, Try.ntmps69
  go_wp2
  go_loop [3] (fun i => ∃ k : Nat, k ≤ nr ∧ i = .int .i64 k ∧ Hid (allW fr 0 9999 k = true)) (fun i => nr - (intOf i).toNat)
  case atStart => exact ⟨0, Nat.zero_le _, rfl, rfl⟩
  case round =>
    obtain ⟨k, hk, rfl, ha⟩ := hrel
    by_cases hlt : k < nr
    · have d1 := Ir.at0 k hlt
      have r0 := HS.out k hlt
      by_cases hx : fr k = 10000
      · have HF := Lib.hid (allW_false (f := fr) (l := 0) (h := 9999) k hlt (win_not.2 (by omega)))
        have hx' : (fr k == 10000) = true := by simp [hx]
        clear hx
        go_wp2
        go_ret
        exact ⟨ret_bool HF.out.symm, rfl⟩
      · have HF := Lib.hid (allW_succ ha.out (win_iff.2 ⟨r0.1, by omega⟩))
        have hx' : (fr k == 10000) = false := by simp [hx]
        clear hx
        go_wp2
        go_round
        case rel => exact ⟨k + 1, by omega, by go_num, HF⟩
        case measure => simp [intOf]; omega
    · obtain rfl : k = nr := by omega
      have HF := ha
      go_wp2
      go_ret
      exact ⟨ret_bool HF.out.symm, rfl⟩
end Go.Proofs.Ytjghhllekbmkjaa
