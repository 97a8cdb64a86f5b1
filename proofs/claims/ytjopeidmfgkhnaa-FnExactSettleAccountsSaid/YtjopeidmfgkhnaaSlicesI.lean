/-
  slices.Min, Max, Index and Clone at int64 by their contracts. Conditions: fewer than 1000000000 integers; at least one for Min and Max; the number sought is there.
-/
import Derived.Test.YtjopeidmfgkhnaaSettleP
import Derived.Test.YtjopeidmfgkhnaaSmall
import Derived.Test.YtjopeidmfgkhnaaMoreApp
import Derived.Lib.LazyBuf
namespace Go.Proofs.Ytjopeidmfgkhnaa
open Go.RowKit
set_option linter.unusedVariables false

theorem slices_Min (n g c : Nat) (f : Nat → Int) (w : World) (n0 : 0 < n) (hn : n < 1000000000) (hI : Ints w g 0 n f) :
    Calls Try.prog 66 #[.slice (some ⟨g, 0, none⟩) n c] w fun e w' => e = .returned (.int .i64 (f (amn f n))) ∧ w = w' := by
  have d0 := hI.at0 0 n0
  have l0 : (0 : Int) < n := by omega
  have H1 : Hid (f (amn f 1) = f 0) := by show _ = _; simp [amn]
  go_enter Try.func66, Try.ntmps66
  go_wp2_with fail
  go_loop [4, 3] (fun i m => ∃ k : Nat, 1 ≤ k ∧ k ≤ n ∧ i = .int .i64 k ∧ m = .int .i64 (f (amn f k))) (fun i _ => n - (intOf i).toNat)
  case atStart => exact ⟨1, Nat.le_refl _, n0, rfl, by rw [H1.out]⟩
  case round =>
    obtain ⟨k, hk1, hk, rfl, rfl⟩ := hrel
    by_cases hlt : k < n
    · have hc := hI.at0 k hlt
      have HE := Lib.hid (amn_min f k)
      obtain ⟨z, hz⟩ : ∃ z, f (amn f (k + 1)) = z := ⟨_, rfl⟩
      have e1 : min (f (amn f k)) (f k) = z := by rw [← hz]; exact HE.out
      have e2 : (if f k < f (amn f k) then f k else f (amn f k)) = z := by rw [← e1]; split <;> omega
      have HZ := Lib.hid hz
      clear hz
      go_wp2
      go_round
      case rel => exact ⟨k + 1, by omega, by omega, by go_num, by rw [HZ.out]⟩
      case measure => simp [intOf]; omega
    · obtain rfl : k = n := by omega
      go_wp2
      go_ret
      exact ⟨rfl, rfl⟩

theorem slices_Max (n g c : Nat) (f : Nat → Int) (w : World) (n0 : 0 < n) (hn : n < 1000000000) (hI : Ints w g 0 n f) :
    Calls Try.prog 67 #[.slice (some ⟨g, 0, none⟩) n c] w fun e w' => e = .returned (.int .i64 (f (amx f n))) ∧ w = w' := by
  have d0 := hI.at0 0 n0
  have l0 : (0 : Int) < n := by omega
  have H1 : Hid (f (amx f 1) = f 0) := by show _ = _; simp [amx]
  go_enter Try.func67, Try.ntmps67
  go_wp2_with fail
  go_loop [4, 3] (fun i m => ∃ k : Nat, 1 ≤ k ∧ k ≤ n ∧ i = .int .i64 k ∧ m = .int .i64 (f (amx f k))) (fun i _ => n - (intOf i).toNat)
  case atStart => exact ⟨1, Nat.le_refl _, n0, rfl, by rw [H1.out]⟩
  case round =>
    obtain ⟨k, hk1, hk, rfl, rfl⟩ := hrel
    by_cases hlt : k < n
    · have hc := hI.at0 k hlt
      have HE := Lib.hid (amx_max f k)
      obtain ⟨z, hz⟩ : ∃ z, f (amx f (k + 1)) = z := ⟨_, rfl⟩
      have e1 : max (f (amx f k)) (f k) = z := by rw [← hz]; exact HE.out
      have e2 : (if f (amx f k) < f k then f k else f (amx f k)) = z := by rw [← e1]; split <;> omega
      have HZ := Lib.hid hz
      clear hz
      go_wp2
      go_round
      case rel => exact ⟨k + 1, by omega, by omega, by go_num, by rw [HZ.out]⟩
      case measure => simp [intOf]; omega
    · obtain rfl : k = n := by omega
      go_wp2
      go_ret
      exact ⟨rfl, rfl⟩

theorem slices_Index (n g c p : Nat) (f : Nat → Int) (x : Int) (w : World) (hn : n < 1000000000) (hI : Ints w g 0 n f) (hp : p < n) (hx : f p = x) (hb : Hid (∀ j, j < p → f j ≠ x)) :
    Calls Try.prog 68 #[.slice (some ⟨g, 0, none⟩) n c, .int .i64 x] w fun e w' => e = .returned (.int .i64 p) ∧ w = w' := by
  have HX := Lib.hid hx
  clear hx
  go_enter Try.func68, Try.ntmps68
  go_wp2
  go_loop [8] (fun i => ∃ k : Nat, k ≤ p ∧ i = .int .i64 k) (fun i => n - (intOf i).toNat)
  case atStart => exact ⟨0, Nat.zero_le _, rfl⟩
  case round =>
    obtain ⟨k, hk, rfl⟩ := hrel
    have hc := hI.at0 k (by omega)
    have l0 : (k : Int) < n := by omega
    by_cases hlt : k < p
    · have h1 := hb.out k hlt
      have h2 : (x == f k) = false := by simp; omega
      clear h1
      go_wp2
      go_round
      case rel => exact ⟨k + 1, by omega, by go_num⟩
      case measure => simp [intOf]; omega
    · obtain rfl : k = p := by omega
      have h2 : (x == f k) = true := by rw [HX.out]; simp
      go_wp2
      go_ret
      exact ⟨rfl, rfl⟩

set_option maxRecDepth 100000 in
theorem slices_Clone (n g c : Nat) (f : Nat → Int) (w : World) (hn : n < 1000000000) (hI : Ints w g 0 n f) :
    Calls Try.prog 65 #[.slice (some ⟨g, 0, none⟩) n c] w
      fun e w' => ∃ g' c', e = .returned (.slice (some ⟨g', 0, none⟩) n c') ∧ Own 2 w' w.heap.size (.slice (some ⟨g', 0, none⟩) n c') (tab f n) ∧ Below w.heap.size w w' := by
  have hnil : ∀ w' : World, (binOp .eql 29 (.slice (some ⟨g, 0, none⟩) n c) (.slice none 0 0)).run Try.prog w' = .ok (.bool false) w' := fun w' => Go.run_eql_slice_nil w' 29 2 (some ⟨g, 0, none⟩) n c Try.underlying29
  go_enter Try.func65, Try.ntmps65
  go_wp2_with (first | (at_builtin; refine wpList_cloneI _ rfl _ _ 29 rfl 2 Try.infoI Try.underlying29 n g c f rfl rfl hn hI ?_; intro g' c' w1 hown hb))
  go_ret
  exact ⟨g', c', rfl, hown, hb⟩
end Go.Proofs.Ytjopeidmfgkhnaa
