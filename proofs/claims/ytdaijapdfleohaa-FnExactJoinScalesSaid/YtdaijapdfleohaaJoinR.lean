/-
  (Scale).rate and spec.l02At give the rate at an amount: every valid scale, every amount that is not negative. No other condition.
-/
import Derived.Test.YtdaijapdfleohaaScaleP
import Derived.Test.YtdaijapdfleohaaSmall
namespace Go.Proofs.Ytdaijapdfleohaa
open Go.RowKit
set_option linter.unusedVariables false

def rtS (fb fr : Nat → Int) (c : Int) : Nat → Int
  | 0 => 0
  | k + 1 => if fb k ≤ c then fr k else rtS fb fr c k
def rateF (fb fr : Nat → Int) (n : Nat) (c : Int) : Int := rtS fb fr c n
theorem rtS_yes {fb fr : Nat → Int} {c : Int} {k : Nat} (h : fb k ≤ c) : rtS fb fr c (k + 1) = fr k := if_pos h
theorem rtS_no {fb fr : Nat → Int} {c : Int} {k : Nat} (h : ¬ fb k ≤ c) : rtS fb fr c (k + 1) = rtS fb fr c k := if_neg h
theorem rtS_bd {fb fr : Nat → Int} {n : Nat} {c : Int} (h : ∀ i, i < n → 0 ≤ fr i ∧ fr i ≤ 10000) : ∀ k, k ≤ n → 0 ≤ rtS fb fr c k ∧ rtS fb fr c k ≤ 10000 := by
  intro k
  induction k with
  | zero => intro _; exact ⟨Int.le_refl _, by show (0 : Int) ≤ 10000; omega⟩
  | succ k ih =>
    intro hk
    by_cases e : fb k ≤ c
    · rw [rtS_yes e]; exact h k (by omega)
    · rw [rtS_no e]; exact ih (by omega)
theorem rtS_stop {fb fr : Nat → Int} {n : Nat} {c : Int} (ha : ∀ i, i + 1 < n → fb i < fb (i + 1)) {k : Nat} (hk : k < n) (h : ¬ fb k ≤ c) : ∀ m, k + m ≤ n → rtS fb fr c (k + m) = rtS fb fr c k := by
  intro m
  induction m with
  | zero => intro _; rfl
  | succ m ih =>
    intro hm
    have hl : fb k ≤ fb (k + m) := asc_le ha k (k + m) (by omega) (by omega)
    rw [← Nat.add_assoc, rtS_no (by omega)]
    exact ih (by omega)

set_option maxHeartbeats 1600000 in
theorem rate_impl (gb cb gr cr nb nr : Nat) (fb fr : Nat → Int) (c : Int) (w : World) (mb : nb < 1000000000) (mr : nr < 1000000000) (Ib : Ints w gb 0 nb fb) (Ir : Ints w gr 0 nr fr) (h : ScaleIs fb nb fr nr) :
    Calls Try.prog 45 #[.agg #[.slice (some ⟨gb, 0, none⟩) nb cb, .slice (some ⟨gr, 0, none⟩) nr cr], .int .i64 c] w (RetV w (.int .i64 (rateF fb fr nb c))) := by
  have bA : Below w.heap.size w (w.alloc (.cells #[.slice (some ⟨gb, 0, none⟩) nb cb, .slice (some ⟨gr, 0, none⟩) nr cr] 29)) := by go_grown
  have HK0 : Hid ((w.alloc (.cells #[.slice (some ⟨gb, 0, none⟩) nb cb, .slice (some ⟨gr, 0, none⟩) nr cr] 29)).cell? ⟨w.heap.size, 0, none⟩ = some (.slice (some ⟨gb, 0, none⟩) nb cb)) := by show (w.alloc (.cells #[.slice (some ⟨gb, 0, none⟩) nb cb, .slice (some ⟨gr, 0, none⟩) nr cr] 29)).cell? _ = _; simp [go_sem]
  have HK1 : Hid ((w.alloc (.cells #[.slice (some ⟨gb, 0, none⟩) nb cb, .slice (some ⟨gr, 0, none⟩) nr cr] 29)).cell? ⟨w.heap.size, 1, none⟩ = some (.slice (some ⟨gr, 0, none⟩) nr cr)) := by show (w.alloc (.cells #[.slice (some ⟨gb, 0, none⟩) nb cb, .slice (some ⟨gr, 0, none⟩) nr cr] 29)).cell? _ = _; simp [go_sem]
  have HNR := Lib.hid h.nr
  have n8 := h.n8
  have HE : Hid (rateF fb fr nb c = rtS fb fr c nb) := rfl
  have jb := Ib.below bA
  have jr := Ir.below bA
  have JB : Hid (∀ w', Below w.heap.size w w' → Ints w' gb 0 nb fb) := fun w' hb => Ib.below hb
  have JR : Hid (∀ w', Below w.heap.size w w' → Ints w' gr 0 nr fr) := fun w' hb => Ir.below hb
  have k0 := HK0.out
  have k1 := HK1.out
  clear h
  go_enter Try.func45, Try.ntmps45
  go_wp2_with fail
  go_loopw [11, 5] (fun i o wr => ∃ k : Nat, k ≤ nb ∧ i = .int .i64 k ∧ o = .int .i64 (rtS fb fr c k) ∧ wr = (w.alloc (.cells #[.slice (some ⟨gb, 0, none⟩) nb cb, .slice (some ⟨gr, 0, none⟩) nr cr] 29))) (fun i _ _ => nb - (intOf i).toNat)
  case atStart => exact ⟨0, Nat.zero_le _, rfl, rfl, rfl⟩
  case round =>
    obtain ⟨k, hk, rfl, rfl, rfl⟩ := hrel
    by_cases hlt : k < nb
    · have x1 := (JB.out _ bA).at0 k hlt
      have x2 := (JR.out _ bA).at0 k (by have := HNR.out; omega)
      have l1 : (k : Int) < nb := by omega
      have l2 : (k : Int) < nr := by have := HNR.out; omega
      by_cases hc : fb k ≤ c
      · have HN := Lib.hid (rtS_yes (fb := fb) (fr := fr) hc)
        go_wp2_with fail
        go_roundw
        case rel => exact ⟨k + 1, by omega, by go_num, by rw [HN.out], trivial⟩
        case measure => simp [intOf]; omega
      · have HN := Lib.hid (rtS_no (fb := fb) (fr := fr) hc)
        have hc2 : c < fb k := by omega
        go_wp2_with fail
        go_roundw
        case rel => exact ⟨k + 1, by omega, by go_num, by rw [HN.out], trivial⟩
        case measure => simp [intOf]; omega
    · obtain rfl : k = nb := by omega
      go_wp2_with fail
      go_ret
      exact ⟨rfl, bA⟩

set_option maxHeartbeats 1600000 in
theorem at_spec (g : Nat) (gb cb gr cr nb nr : Nat) (fb fr : Nat → Int) (c : Int) (w : World) (k0 : w.cell? ⟨g, 0, none⟩ = some (.slice (some ⟨gb, 0, none⟩) nb cb)) (k1 : w.cell? ⟨g, 1, none⟩ = some (.slice (some ⟨gr, 0, none⟩) nr cr)) (mb : nb < 1000000000) (mr : nr < 1000000000) (Ib : Ints w gb 0 nb fb) (Ir : Ints w gr 0 nr fr) (h : ScaleIs fb nb fr nr) (c0 : 0 ≤ c) :
    Calls Try.prog 40 #[.pointer (some ⟨g, 0, none⟩), .int .i64 c] w (fun e w' => e = .returned (.int .i64 (rateF fb fr nb c)) ∧ w' = w) := by
  have HNR := Lib.hid h.nr
  have n1 := h.n1
  have n8 := h.n8
  have HST : Hid (∀ k, k < nb → ¬ fb k ≤ c → rateF fb fr nb c = rtS fb fr c k) := fun k hk hc => by
    have := rtS_stop (fr := fr) h.asc hk hc (nb - k) (by omega)
    rwa [show k + (nb - k) = nb by omega] at this
  have h0 : fb 0 ≤ c := by rw [h.b0]; exact c0
  have HN1 := Lib.hid (rtS_yes (fb := fb) (fr := fr) h0)
  have x0 := Ir.at0 0 (by have := HNR.out; omega)
  have l0 : (0 : Int) < nr := by have := HNR.out; omega
  clear h
  go_enter Try.func40, Try.ntmps40
  go_wp2_with fail
  go_loopw [6, 5] (fun i o wr => ∃ k : Nat, 1 ≤ k ∧ k ≤ nb ∧ i = .int .i64 k ∧ o = .int .i64 (rtS fb fr c k) ∧ wr = w) (fun i _ _ => nb - (intOf i).toNat)
  case atStart => exact ⟨1, Nat.le_refl _, n1, rfl, by rw [HN1.out], rfl⟩
  case round =>
    obtain ⟨k, hk1, hk, rfl, rfl, rfl⟩ := hrel
    by_cases hlt : k < nb
    · have x1 := Ib.at0 k hlt
      have x2 := Ir.at0 k (by have := HNR.out; omega)
      have l1 : (k : Int) < nb := by omega
      have l2 : (k : Int) < nr := by have := HNR.out; omega
      by_cases hc : fb k ≤ c
      · have HN := Lib.hid (rtS_yes (fb := fb) (fr := fr) hc)
        go_wp2_with fail
        go_roundw
        case rel => exact ⟨k + 1, by omega, by omega, by go_num, by rw [HN.out], trivial⟩
        case measure => simp [intOf]; omega
      · have HN := Lib.hid (HST.out k hlt (by omega))
        have hc2 : c < fb k := by omega
        go_wp2_with fail
        go_ret
        exact ⟨by rw [HN.out]; rfl, rfl⟩
    · obtain rfl : k = nb := by omega
      go_wp2_with fail
      go_ret
      exact ⟨rfl, rfl⟩
end Go.Proofs.Ytdaijapdfleohaa
