/-
  The comparison that impl.parted hands to the sort. Conditions: two places that lie in the row; rests of 64 bits.
-/
import Derived.Test.YtcpjbnfmkhaadaaPartP
import Derived.Test.YtcpjbnfmkhaadaaSortF
import Derived.Test.YtcpjbnfmkhaadaaAppV
import Derived.Deep.QuietTactic
import Derived.BigQuiet
namespace Go.Proofs.Ytcpjbnfmkhaadaa
open Go.RowKit
set_option linter.unusedVariables false

set_option maxHeartbeats 1600000 in
theorem pt_at (n gR cR pB : Nat) (r : Nat → Int) (w : World) (hn : n < 1000000) (kB : w.cell? ⟨pB, 0, none⟩ = some (.slice (some ⟨gR, 0, none⟩) n cR)) (hc : ∀ i, i < n → w.cell? ⟨gR, i, none⟩ = some (.int .u64 (r i))) (i j : Nat) (hi : i < n) (hj : j < n) :
    Calls Try.prog 39 #[.int .i64 i, .int .i64 j, .pointer (some ⟨pB, 0, none⟩)] w (fun e w' => ∃ q : Int, e = .returned (.int .i64 q) ∧ decide (q < 0) = decide (r j < r i) ∧ Below w.heap.size w w') := by
  have x1 := hc i hi
  have x2 := hc j hj
  have l1 : (i : Int) < n := by omega
  have l2 : (j : Int) < n := by omega
  rcases Int.lt_trichotomy (r i) (r j) with h | h | h
  · have h1 : ¬ r j < r i := by omega
    have HD : Hid (decide (r j < r i) = false) := decide_eq_false h1
    go_enter Try.func39, Try.ntmps39
    go_wp2_with fail
    go_quiet (fail)
    go_wp2_with fail
    go_quiet (fail)
    go_wp2
    go_ret
    exact ⟨1, rfl, by rw [HD.out]; rfl, by first | exact Below.drewN' (Below.refl _ _) _ | exact Below.drewN' (Below.drewN' (Below.refl _ _) _) _⟩
  · have h1 : ¬ r j < r i := by omega
    have h2 : ¬ r i < r j := by omega
    have HD : Hid (decide (r j < r i) = false) := decide_eq_false h1
    go_enter Try.func39, Try.ntmps39
    go_wp2_with fail
    go_quiet (fail)
    go_wp2_with fail
    go_quiet (fail)
    go_wp2
    go_ret
    exact ⟨0, rfl, by rw [HD.out]; rfl, by first | exact Below.drewN' (Below.refl _ _) _ | exact Below.drewN' (Below.drewN' (Below.refl _ _) _) _⟩
  · have HD : Hid (decide (r j < r i) = true) := decide_eq_true h
    go_enter Try.func39, Try.ntmps39
    go_wp2_with fail
    go_quiet (fail)
    go_wp2
    go_ret
    exact ⟨-1, rfl, by rw [HD.out]; rfl, Below.drewN' (Below.refl _ _) _⟩

theorem pt_cmp (n g gR cR pB : Nat) (r : Nat → Int) (w : World) (hn : n < 1000000) (kB : w.cell? ⟨pB, 0, none⟩ = some (.slice (some ⟨gR, 0, none⟩) n cR)) (hc : ∀ i, i < n → w.cell? ⟨gR, i, none⟩ = some (.int .u64 (r i))) (d1 : pB ≠ g) (d2 : gR ≠ g) :
    Cmp_pt w g n (pkey r) (.pointer (some ⟨pB, 0, none⟩)) := by
  intro w' hk x y hx hy
  obtain ⟨i, rfl⟩ := Int.eq_ofNat_of_zero_le hx.1
  obtain ⟨j, rfl⟩ := Int.eq_ofNat_of_zero_le hy.1
  refine (pt_at n gR cR pB r w' hn (hk.cellOf d1 kB) (fun i hi => hk.cellOf d2 (hc i hi)) i j (by omega) (by omega)).mono ?_
  rintro e w'' ⟨q, he, hd, hb⟩
  refine ⟨q, he, ?_, hb⟩
  rw [hd]
  unfold pkey
  have e1 : ((i : Nat) : Int).toNat = i := by omega
  have e2 : ((j : Nat) : Int).toNat = j := by omega
  rw [e1, e2]
  by_cases h : r j < r i
  · rw [decide_eq_true h, decide_eq_true (by omega)]
  · rw [decide_eq_false h, decide_eq_false (by omega)]
end Go.Proofs.Ytcpjbnfmkhaadaa
