/-
  impl.rateDues and spec.l04RateDues give the dues of each rate. Conditions: lines, kinds and rates that are such.
-/
import Derived.Test.YtnikfcaloielaaaLines
import Derived.Test.YtnikfcaloielaaaDueI
import Derived.Test.YtnikfcaloielaaaDueS
import Derived.Test.YtnikfcaloielaaaRegApp
import Derived.Test.YtnikfcaloielaaaTab
import Derived.StillTailTactics
namespace Go.Proofs.Ytnikfcaloielaaa
open Go.RowKit
set_option linter.unusedVariables false

/-- The lines' sum by kind. -/
def ksum (f1 f2 : Nat → Int) : Nat → Nat → Int
  | 0, _ => 0
  | k + 1, j => ksum f1 f2 k j + (if f2 k = (j : Int) then f1 k else 0)
theorem ksum_at (f1 f2 : Nat → Int) (k j : Nat) (h : f2 k = (j : Int)) : ksum f1 f2 (k + 1) j = ksum f1 f2 k j + f1 k := by simp [ksum, h]
theorem ksum_off (f1 f2 : Nat → Int) (k j i : Nat) (h : f2 k = (j : Int)) (hi : i ≠ j) : ksum f1 f2 k i = ksum f1 f2 (k + 1) i := by
  have : ¬ f2 k = (i : Int) := by omega
  simp [ksum, this]
theorem ksum_bd {f1 f2 : Nat → Int} {n : Nat} (h : ∀ i, i < n → 0 ≤ f1 i) (j : Nat) : ∀ k, k ≤ n → 0 ≤ ksum f1 f2 k j ∧ ksum f1 f2 k j ≤ sumTo f1 k := by
  intro k hk
  induction k with
  | zero => exact ⟨Int.le_refl _, Int.le_refl _⟩
  | succ k ih =>
    have h0 := h k (by omega)
    obtain ⟨i0, i1⟩ := ih (by omega)
    have e : sumTo f1 (k + 1) = sumTo f1 k + f1 k := rfl
    by_cases hf : f2 k = (j : Int)
    · rw [ksum_at f1 f2 k j hf, e]; omega
    · have : ksum f1 f2 (k + 1) j = ksum f1 f2 k j := by simp [ksum, hf]
      rw [this, e]; omega
theorem ksum_bd2 {f1 f2 : Nat → Int} {n : Nat} (h : ∀ i, i < n → 0 ≤ f1 i) (hs : sumTo f1 n ≤ 1000000000000) : ∀ k, k ≤ n → ∀ j, 0 ≤ ksum f1 f2 k j ∧ ksum f1 f2 k j ≤ 1000000000000 := by
  intro k hk j
  obtain ⟨a, b⟩ := ksum_bd (f2 := f2) h j k hk
  have : ∀ m, k + m ≤ n → sumTo f1 k ≤ sumTo f1 (k + m) := by
    intro m
    induction m with
    | zero => intro _; exact Int.le_refl _
    | succ m ih =>
      intro hm
      have e : sumTo f1 (k + (m + 1)) = sumTo f1 (k + m) + f1 (k + m) := rfl
      have := h (k + m) (by omega)
      have := ih (by omega)
      omega
  have := this (n - k) (by omega)
  rw [show k + (n - k) = n by omega] at this
  omega

def rateAt (f1 f2 f3 : Nat → Int) (n : Nat) (r : Int) (j : Nat) : Int := rnd (ksum f1 f2 n j * f3 j) 10000 r
def rateL (f1 : Nat → Int) (n1 : Nat) (f2 : Nat → Int) (n2 : Nat) (f3 : Nat → Int) (n3 : Nat) (r : Int) : List Int := if linesOk f1 n1 f2 n2 f3 n3 r then tab (rateAt f1 f2 f3 n1 r) n3 else []
section
variable {f1 f2 f3 : Nat → Int} {n1 n2 n3 : Nat} {r : Int}
theorem rateL_no (h : linesOk f1 n1 f2 n2 f3 n3 r = false) : rateL f1 n1 f2 n2 f3 n3 r = [] := by simp [rateL, h]
theorem rateL_yes (h : linesOk f1 n1 f2 n2 f3 n3 r = true) : rateL f1 n1 f2 n2 f3 n3 r = tab (rateAt f1 f2 f3 n1 r) n3 := by simp [rateL, h]
end
set_option maxHeartbeats 1600000 in
theorem rates_row_impl (n g1 c1 : Nat) (f1 : Nat → Int) (g2 c2 : Nat) (f2 : Nat → Int) (n3 g3 c3 : Nat) (f3 : Nat → Int) (r : Int) (w : World) (m1 : n < 1000000000) (m3 : n3 < 1000000000)
    (I1 : Ints w g1 0 n f1) (I2 : Ints w g2 0 n f2) (I3 : Ints w g3 0 n3 f3) (h : linesOk f1 n f2 n f3 n3 r = true) :
    Calls Try.prog 44 #[.slice (some ⟨g1, 0, none⟩) n c1, .slice (some ⟨g2, 0, none⟩) n c2, .slice (some ⟨g3, 0, none⟩) n3 c3, .int .i64 r] w (fun e w' => ∃ v, e = .returned v ∧ Own 2 w' w.heap.size v (tab (rateAt f1 f2 f3 n r) n3) ∧ Below w.heap.size w w') := by
  obtain ⟨p1, p2, p3, _, q1, q2, q4, q5, q6⟩ := lines_is h
  have HI := Lib.hid p1
  have HJ := Lib.hid p2
  have HK := Lib.hid p3
  have HS : Hid (∀ k, k ≤ n → ∀ j, 0 ≤ ksum f1 f2 k j ∧ ksum f1 f2 k j ≤ 1000000000000) := ksum_bd2 (fun i hi => (p1 i hi).1) q6
  clear p1 p2 p3 h q6
  have g1lt := World.block_lt_of_cell? w _ (I1.at0 0 (by omega))
  have g2lt := World.block_lt_of_cell? w _ (I2.at0 0 (by omega))
  have g3lt := World.block_lt_of_cell? w _ (I3.at0 0 (by omega))
  have T0 : Hid (List.replicate n3 0 = tab (ksum f1 f2 0) n3) := tab_rep n3 _ (fun _ => rfl)
  go_enter Try.func44, Try.ntmps44
  go_wp2_with (first | (at_make; refine wpList_mk _ rfl _ _ 22 rfl w.heap.size 2 Try.infoI Try.underlying22 _ _ _ _ n3 rfl rfl rfl rfl (by omega) (Nat.le_refl _) ?_; intro w4 hown4 hb4))
  have hlt4 := (hown4.lt _ rfl).2
  have hown0 := hown4
  rw [T0.out] at hown0
  clear hown4
  go_loopw [21] (fun i wr => ∃ k : Nat, k ≤ n ∧ i = .int .i64 k ∧ Own 2 wr w.heap.size (.slice (some ⟨w.heap.size, 0, none⟩) n3 n3) (tab (ksum f1 f2 k) n3) ∧ Below w.heap.size w wr ∧ Own 2 wr w4.heap.size (.slice (some ⟨w4.heap.size, 0, none⟩) 0 0) []) (fun i _ => n + 1 - (intOf i).toNat)
  case atStart => exact ⟨0, Nat.zero_le _, rfl, hown0.below ((Below.refl _ _).alloc (Nat.le_refl _) _), hb4.alloc hb4.size _, Own.made _ _ (Nat.le_refl _)⟩
  case round =>
    obtain ⟨k, hk, rfl, hown, hbr, hout⟩ := hrel
    by_cases hlt : k < n
    · obtain ⟨a0, a1⟩ := HI.out k hlt
      obtain ⟨b0, b1⟩ := HJ.out k hlt
      obtain ⟨j, hj⟩ : ∃ j : Nat, f2 k = j := ⟨(f2 k).toNat, by omega⟩
      have hj3 : j < n3 := by omega
      have d2 := Below.cellOf hbr rfl (I2.at0 k hlt)
      have d3 := Below.cellOf hbr rfl (I1.at0 k hlt)
      rw [hj] at d2
      have HT := Lib.hid (tab_length (ksum f1 f2 k) n3)
      have d4 := hown.cellAt j (by rw [HT.out]; exact hj3)
      rw [tab_get _ _ _ hj3] at d4
      have d5 := hown.freeAt j
      obtain ⟨s0, s1⟩ := HS.out k hk j
      have e1 : IntKind.i64.wrap (ksum f1 f2 k j + f1 k) = ksum f1 f2 k j + f1 k := IntWalk.i64_in _ (by omega)
      have HN : Hid ((tab (ksum f1 f2 k) n3).set j (ksum f1 f2 k j + f1 k) = tab (ksum f1 f2 (k + 1)) n3) := by
        show _ = _
        rw [← ksum_at f1 f2 k j hj]
        exact tab_set _ _ n3 j hj3 (fun i _ hi => ksum_off f1 f2 k j i hj hi)
      clear hj b0 b1
      go_wp2
      have hout2 : Own 2 (wr.setCell ⟨w.heap.size, j, none⟩ (.int .i64 (ksum f1 f2 k j + f1 k))) w4.heap.size (.slice (some ⟨w4.heap.size, 0, none⟩) 0 0) [] := hout.block (fun b hb => Below.heap_setCell _ _ _ _ (by cases hb; exact Nat.ne_of_gt hlt4))
      have hown2 := hown.set HT.out.symm j (ksum f1 f2 k j + f1 k)
      rw [HN.out] at hown2
      go_roundw
      case rel => exact ⟨k + 1, by omega, by go_num, hown2, hbr.setCell (Nat.le_refl _) _, hout2⟩
      case measure => simp [intOf]; omega
    · obtain rfl : k = n := by omega
      clear HI HJ
      have hAs : w4.heap.size ≤ wr.heap.size := Nat.le_of_lt (hout.lt _ rfl).2
      go_wp2
      generalize hwA : wr = wA at *
      clear hwA
      go_loopw [10, 39] (fun v i wr => ∃ j : Nat, j ≤ n3 ∧ i = .int .i64 j ∧ Own 2 wr w4.heap.size v (tab (rateAt f1 f2 f3 k r) j) ∧ Below w4.heap.size wA wr) (fun _ i _ => n3 + 1 - (intOf i).toNat)
      case atStart => exact ⟨0, Nat.zero_le _, rfl, hout, Below.refl _ _⟩
      case round =>
        obtain ⟨j, hj, rfl, ho, hb2⟩ := hrel
        have hbw := hbr.trans (hb2.mono hb4.size)
        by_cases hlt2 : j < n3
        · have hd3 := Below.cellOf hbw rfl (I3.at0 j hlt2)
          have hd4 := hown.cellAt j (by rw [tab_length]; exact hlt2)
          rw [tab_get _ _ _ hlt2] at hd4
          have hd5 := (hb2.cell hlt4).trans hd4
          obtain ⟨s0, s1⟩ := HS.out k (Nat.le_refl _) j
          obtain ⟨u0, u1⟩ := HK.out j hlt2
          have HE : Hid (rateAt f1 f2 f3 k r j = rnd (ksum f1 f2 k j * f3 j) 10000 r) := rfl
          have HL := Lib.hid (tab_length (rateAt f1 f2 f3 k r) j)
          clear hd4
          have hbs : w4.heap.size ≤ wr.heap.size := Nat.le_trans hAs hb2.size
          go_wp2_with (first | (go_at_call 45; refine (impl_dueBy' _ _ _ _ (by omega) (by omega) (by omega) (by omega)).mono ?_; rintro e w3 ⟨rfl, hb3⟩; have ho3 := ho.below hb3) | (at_builtin; refine wpList_app1 _ rfl _ _ 22 rfl (w4.heap.size) 2 Try.infoI Try.underlying22 _ _ rfl ho3 _ rfl (by have := HL.out; omega) (Nat.le_trans hbs hb3.size) ?_; intro v' w5 ho5 hb5))
          go_roundw
          case rel => exact ⟨j + 1, by omega, by go_num, by rw [tab, HE.out]; exact ho5, (hb2.trans (hb3.mono hbs)).trans hb5⟩
          case measure => simp [intOf]; omega
        · obtain rfl : j = n3 := by omega
          go_wp2
          go_ret
          exact ⟨_, rfl, ho.mono hb4.size, hbw⟩

set_option maxHeartbeats 1600000 in
theorem rates_row_spec (n g1 c1 : Nat) (f1 : Nat → Int) (g2 c2 : Nat) (f2 : Nat → Int) (n3 g3 c3 : Nat) (f3 : Nat → Int) (r : Int) (w : World) (m1 : n < 1000000000) (m3 : n3 < 1000000000)
    (I1 : Ints w g1 0 n f1) (I2 : Ints w g2 0 n f2) (I3 : Ints w g3 0 n3 f3) (h : linesOk f1 n f2 n f3 n3 r = true) :
    Calls Try.prog 41 #[.slice (some ⟨g1, 0, none⟩) n c1, .slice (some ⟨g2, 0, none⟩) n c2, .slice (some ⟨g3, 0, none⟩) n3 c3, .int .i64 r] w (fun e w' => ∃ v, e = .returned v ∧ Own 2 w' w.heap.size v (tab (rateAt f1 f2 f3 n r) n3) ∧ Below w.heap.size w w') := by
  obtain ⟨p1, p2, p3, _, q1, q2, q4, q5, q6⟩ := lines_is h
  have HI := Lib.hid p1
  have HJ := Lib.hid p2
  have HK := Lib.hid p3
  have HS : Hid (∀ k, k ≤ n → ∀ j, 0 ≤ ksum f1 f2 k j ∧ ksum f1 f2 k j ≤ 1000000000000) := ksum_bd2 (fun i hi => (p1 i hi).1) q6
  clear p1 p2 p3 h q6
  have g1lt := World.block_lt_of_cell? w _ (I1.at0 0 (by omega))
  have g2lt := World.block_lt_of_cell? w _ (I2.at0 0 (by omega))
  have g3lt := World.block_lt_of_cell? w _ (I3.at0 0 (by omega))
  have T0 : Hid (List.replicate n3 0 = tab (ksum f1 f2 0) n3) := tab_rep n3 _ (fun _ => rfl)
  go_enter Try.func41, Try.ntmps41
  go_wp2_with (first | (at_make; refine wpList_mk _ rfl _ _ 22 rfl w.heap.size 2 Try.infoI Try.underlying22 _ _ _ _ n3 rfl rfl rfl rfl (by omega) (Nat.le_refl _) ?_; intro w4 hown4 hb4))
  have hlt4 := (hown4.lt _ rfl).2
  have hown0 := hown4
  rw [T0.out] at hown0
  clear hown4
  go_loopw [10] (fun i wr => ∃ k : Nat, k ≤ n ∧ i = .int .i64 k ∧ Own 2 wr w.heap.size (.slice (some ⟨w.heap.size, 0, none⟩) n3 n3) (tab (ksum f1 f2 k) n3) ∧ Below w.heap.size w wr ∧ w4.heap.size ≤ wr.heap.size) (fun i _ => n + 1 - (intOf i).toNat)
  case atStart => exact ⟨0, Nat.zero_le _, rfl, hown0, hb4, Nat.le_refl _⟩
  case round =>
    obtain ⟨k, hk, rfl, hown, hbr, hAs⟩ := hrel
    by_cases hlt : k < n
    · obtain ⟨a0, a1⟩ := HI.out k hlt
      obtain ⟨b0, b1⟩ := HJ.out k hlt
      obtain ⟨j, hj⟩ : ∃ j : Nat, f2 k = j := ⟨(f2 k).toNat, by omega⟩
      have hj3 : j < n3 := by omega
      have d2 := Below.cellOf hbr rfl (I2.at0 k hlt)
      have d3 := Below.cellOf hbr rfl (I1.at0 k hlt)
      rw [hj] at d2
      have HT := Lib.hid (tab_length (ksum f1 f2 k) n3)
      have d4 := hown.cellAt j (by rw [HT.out]; exact hj3)
      rw [tab_get _ _ _ hj3] at d4
      have d5 := hown.freeAt j
      obtain ⟨s0, s1⟩ := HS.out k hk j
      have e1 : IntKind.i64.wrap (ksum f1 f2 k j + f1 k) = ksum f1 f2 k j + f1 k := IntWalk.i64_in _ (by omega)
      have HN : Hid ((tab (ksum f1 f2 k) n3).set j (ksum f1 f2 k j + f1 k) = tab (ksum f1 f2 (k + 1)) n3) := by
        show _ = _
        rw [← ksum_at f1 f2 k j hj]
        exact tab_set _ _ n3 j hj3 (fun i _ hi => ksum_off f1 f2 k j i hj hi)
      clear hj b0 b1
      have e6 : (k : Int) < (n : Int) := by omega
      have e9 : (j : Int) < (n3 : Int) := by omega
      go_wp2_with fail
      go_still_tail 13, (by kernel_rfl)
      change wpList _ _ _ _ _ wr.drew
      go_wp2
      have hown2 := (Own.below hown (Below.drew (Below.refl _ wr))).set HT.out.symm j (ksum f1 f2 k j + f1 k)
      rw [HN.out] at hown2
      go_roundw
      case rel => exact ⟨k + 1, by omega, by go_num, hown2, hbr.drew.setCell (Nat.le_refl _) _, by simpa using hAs⟩
      case measure => simp [intOf]; omega
    · obtain rfl : k = n := by omega
      clear HI HJ
      generalize hwA : wr = wA at *
      clear hwA
      go_wp2
      go_loopw [11, 12] (fun v i wr => ∃ j : Nat, j ≤ n3 ∧ i = .int .i64 j ∧ Own 2 wr w4.heap.size v (tab (rateAt f1 f2 f3 k r) j) ∧ Below w4.heap.size wA wr) (fun _ i _ => n3 + 1 - (intOf i).toNat)
      case atStart => exact ⟨0, Nat.zero_le _, rfl, Own.made _ _ hAs, (Below.refl _ _).alloc hAs _⟩
      case round =>
        obtain ⟨j, hj, rfl, ho, hb2⟩ := hrel
        have hbw := hbr.trans (hb2.mono hb4.size)
        by_cases hlt2 : j < n3
        · have hd3 := Below.cellOf hbw rfl (I3.at0 j hlt2)
          have hd4 := hown.cellAt j (by rw [tab_length]; exact hlt2)
          rw [tab_get _ _ _ hlt2] at hd4
          have hd5 := (hb2.cell hlt4).trans hd4
          obtain ⟨s0, s1⟩ := HS.out k (Nat.le_refl _) j
          obtain ⟨u0, u1⟩ := HK.out j hlt2
          have HE : Hid (rateAt f1 f2 f3 k r j = rnd (ksum f1 f2 k j * f3 j) 10000 r) := rfl
          have HL := Lib.hid (tab_length (rateAt f1 f2 f3 k r) j)
          clear hd4
          have hbs : w4.heap.size ≤ wr.heap.size := Nat.le_trans hAs hb2.size
          have e6 : (j : Int) < (n3 : Int) := by omega
          have t3 : g3 < w4.heap.size := by omega
          go_wp2_with fail
          go_region_held3 (fun w' => w'.cell? ⟨w.heap.size, j, none⟩ = some (.int .i64 (ksum f1 f2 k j)) ∧ w'.cell? ⟨g3, j, none⟩ = some (.int .i64 (f3 j)))
            (first | go_keep | (go_split_ands; refine ⟨?_, ?_⟩ <;> (apply Below.cellOf (by assumption) rfl; assumption)) | (go_split_ands; refine ⟨?_, ?_⟩ <;> (refine (hb5.cell (by assumption)).trans ?_; assumption)))
            ((first | (go_at_call 42; refine (spec_l04Due' _ _ _ _ (by omega) (by omega) (by omega) (by omega)).mono ?_; rintro e w3 ⟨rfl, hb3⟩; have ho3 := (Own.below ho (Below.drew (Below.refl _ wr))).below hb3) | (refine step_app1 _ rfl _ _ 22 rfl w4.heap.size 2 Try.infoI Try.underlying22 _ _ rfl ho3 _ rfl (by have := HL.out; omega) (Nat.le_trans hbs hb3.size) ?_; intro v' w5 ho5 hb4' hb5)))
          go_wp2
          go_roundw
          case rel => exact ⟨j + 1, by omega, by go_num, by rw [tab, HE.out]; exact ho5, (hb2.drew.trans (hb3.mono hbs)).trans hb4'⟩
          case measure => simp [intOf]; omega
        · obtain rfl : j = n3 := by omega
          go_wp2
          go_ret
          exact ⟨_, rfl, ho.mono hb4.size, hbw⟩

end Go.Proofs.Ytnikfcaloielaaa
