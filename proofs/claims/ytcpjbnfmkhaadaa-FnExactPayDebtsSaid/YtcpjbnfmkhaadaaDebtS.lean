/-
  eqDebtS of two copies of the same records is true; szDebtS. Condition: fewer than 1000000000 records.
-/
import Derived.Test.YtcpjbnfmkhaadaaProg
import Derived.Test.YtcpjbnfmkhaadaaRec
import Derived.Test.YtcpjbnfmkhaadaaRecOpen
import Derived.Deep.RegionHeld3
namespace Go.Proofs.Ytcpjbnfmkhaadaa
open Go.RowKit
set_option linter.unusedVariables false

theorem eqDebt_any (a b c : Int) (w : World) :
    Calls Try.prog 33 #[.agg #[.int .i64 a, .int .i64 b, .int .i64 c], .agg #[.int .i64 a, .int .i64 b, .int .i64 c]] w (RetV w (.bool true)) := by
  go_enter Try.func33, Try.ntmps33
  go_wp2
  go_ret
  exact ⟨rfl, by go_grown⟩

set_option maxHeartbeats 800000 in
theorem eqDebtS_core (n g1 g2 : Nat) (f : Nat → Int) (w : World) (hn : n < 1000000000) (hn0 : 0 < n) (I1 : RowC w g1 0 n 3 f) (I2 : RowC w g2 0 n 3 f) :
    Calls Try.prog 15 #[.slice (some ⟨g1, 0, none⟩) n n, .slice (some ⟨g2, 0, none⟩) n n] w (RetV w (.bool true)) := by
  go_enter Try.func15, Try.ntmps15
  go_wp2
  go_loopw [5] (fun i wr => ∃ k : Nat, k ≤ n ∧ i = .int .i64 k ∧ Below w.heap.size w wr) (fun i _ => n - (intOf i).toNat)
  case atStart => exact ⟨0, Nat.zero_le _, rfl, Below.refl _ _⟩
  case round =>
    obtain ⟨k, hk, rfl, hb⟩ := hrel
    by_cases hlt : k < n
    · have c10 : wr.cell? ⟨g1, k * 3, none⟩ = some (.int .i64 (f (k * 3))) := Below.cellOf hb rfl (by have := I1 k hlt 0 (by decide); simpa only [Nat.zero_add, Nat.add_zero] using this)
      have c11 : wr.cell? ⟨g1, k * 3 + 1, none⟩ = some (.int .i64 (f (k * 3 + 1))) := Below.cellOf hb rfl (by have := I1 k hlt 1 (by decide); simpa only [Nat.zero_add, Nat.add_zero] using this)
      have c12 : wr.cell? ⟨g1, k * 3 + 2, none⟩ = some (.int .i64 (f (k * 3 + 2))) := Below.cellOf hb rfl (by have := I1 k hlt 2 (by decide); simpa only [Nat.zero_add, Nat.add_zero] using this)
      have c20 : wr.cell? ⟨g2, k * 3, none⟩ = some (.int .i64 (f (k * 3))) := Below.cellOf hb rfl (by have := I2 k hlt 0 (by decide); simpa only [Nat.zero_add, Nat.add_zero] using this)
      have c21 : wr.cell? ⟨g2, k * 3 + 1, none⟩ = some (.int .i64 (f (k * 3 + 1))) := Below.cellOf hb rfl (by have := I2 k hlt 1 (by decide); simpa only [Nat.zero_add, Nat.add_zero] using this)
      have c22 : wr.cell? ⟨g2, k * 3 + 2, none⟩ = some (.int .i64 (f (k * 3 + 2))) := Below.cellOf hb rfl (by have := I2 k hlt 2 (by decide); simpa only [Nat.zero_add, Nat.add_zero] using this)
      have e1 : (k : Int) < n := by omega
      go_wp2_with fail
      go_region_held3 (fun w' => w'.cell? ⟨g1, k * 3, none⟩ = some (.int .i64 (f (k * 3))) ∧ w'.cell? ⟨g1, k * 3 + 1, none⟩ = some (.int .i64 (f (k * 3 + 1))) ∧ w'.cell? ⟨g1, k * 3 + 2, none⟩ = some (.int .i64 (f (k * 3 + 2))) ∧ w'.cell? ⟨g2, k * 3, none⟩ = some (.int .i64 (f (k * 3))) ∧ w'.cell? ⟨g2, k * 3 + 1, none⟩ = some (.int .i64 (f (k * 3 + 1))) ∧ w'.cell? ⟨g2, k * 3 + 2, none⟩ = some (.int .i64 (f (k * 3 + 2))))
        (first | go_keep | (go_split_ands; refine ⟨?_, ?_, ?_, ?_, ?_, ?_⟩ <;> (apply Below.cellOf (by assumption) rfl; assumption)))
        ((first | (go_at_call 33; refine (eqDebt_any _ _ _ _).mono ?_; rintro e w3 ⟨rfl, hb3⟩)))
      go_wp2
      go_roundw
      case rel => exact ⟨k + 1, by omega, by go_num, hb.drew.trans (hb3.mono hb.size)⟩
      case measure => simp [intOf]; omega
    · obtain rfl : k = n := by omega
      go_wp2
      go_ret
      exact ⟨rfl, hb⟩

theorem eqDebtS_none (a1 a2 : Option Addr) (c1 c2 : Nat) (w : World) : Calls Try.prog 15 #[.slice a1 0 c1, .slice a2 0 c2] w (RetV w (.bool true)) := by
  go_enter Try.func15, Try.ntmps15
  go_wp2
  go_rounds 1
  go_ret
  exact ⟨rfl, Below.refl _ _⟩

theorem eq_d {w : World} {B1 B2 : Nat} {v1 v2 : Value} {X : Rec} (h1 : RowR 3 w B1 v1 X) (h2 : RowR 3 w B2 v2 X) (hn : X.length < 1000000000) :
    Calls Try.prog 15 #[v1, v2] w (RetV w (.bool true)) := by
  obtain ⟨g1, rfl, _, _, _, I1, _⟩ := h1
  obtain ⟨g2, rfl, _, _, _, I2, _⟩ := h2
  by_cases h0 : X.length = 0
  · rw [h0]; exact eqDebtS_none _ _ _ _ w
  · exact eqDebtS_core X.length g1 g2 X.f w hn (by omega) I1 I2

theorem sz_d_no {w : World} {v : Value} {X : Rec} (h : InR 3 w v X) {L : Int} (hs : L < X.length) (hL : 0 ≤ L ∧ L ≤ 1048576) : Calls Try.prog 11 #[v, .int .i64 L] w (RetV w (.int .i64 (-1))) := by
  obtain ⟨a, cap, rfl, hm, _⟩ := h
  unfold maxLen at hm
  generalize X.length = n at *
  go_enter Try.func11, Try.ntmps11
  go_wp2
  go_ret
  exact ⟨rfl, Below.refl _ _⟩
theorem sz_d_yes {w : World} {v : Value} {X : Rec} (h : InR 3 w v X) {L : Int} (hs : (X.length : Int) ≤ L) (hL : 0 ≤ L ∧ L ≤ 1048576) : Calls Try.prog 11 #[v, .int .i64 L] w (RetV w (.int .i64 (L - X.length))) := by
  obtain ⟨a, cap, rfl, hm, _⟩ := h
  unfold maxLen at hm
  generalize X.length = n at *
  go_enter Try.func11, Try.ntmps11
  go_wp2
  go_ret
  exact ⟨rfl, Below.refl _ _⟩

set_option maxRecDepth 100000 in
theorem Try.openDebtS {H : Type} {enc : TypeId × Value → H} {w : World} {v : Value} {d : DataW H} {p : List MemPlace} {r : Reach} {b0 : Nat} (hv : Value.okWide Try.prog w r b0 29 v) (h : DataW.Trod enc Try.prog w 0 (fun _ => true) true 29 v d p) :
    ∃ (X : Rec) (ad : Option Addr) (cap : Nat), v = .slice ad X.length cap ∧ InR 3 w (.slice ad X.length cap) X :=
  openRec Try.underlying29 Try.underlying53 (by kernel_rfl) (by kernel_rfl) (of_decide_eq_true (by kernel_rfl)) (by kernel_rfl) hv h
end Go.Proofs.Ytcpjbnfmkhaadaa
