/-
  The comparison that impl.SpreadDues hands to the sort. Conditions: two places that lie in the row; kinds that lie among the rates.
-/
import Derived.Test.YtnikfcaloielaaaSpreadR
import Derived.Test.YtnikfcaloielaaaSortFSd
import Derived.Deep.QuietTactic
import Derived.BigQuiet
namespace Go.Proofs.Ytnikfcaloielaaa
open Go.RowKit
set_option linter.unusedVariables false

/-- What the comparison reads. -/
structure SdIn (w : World) (n g1 c1 g2 c2 m g3 c3 pL pR pK : Nat) (f1 f2 f3 : Nat → Int) : Prop where
  l : w.cell? ⟨pL, 0, none⟩ = some (.slice (some ⟨g1, 0, none⟩) n c1)
  k : w.cell? ⟨pK, 0, none⟩ = some (.slice (some ⟨g2, 0, none⟩) n c2)
  r : w.cell? ⟨pR, 0, none⟩ = some (.slice (some ⟨g3, 0, none⟩) m c3)
  i1 : ∀ i, i < n → w.cell? ⟨g1, i, none⟩ = some (.int .i64 (f1 i))
  i2 : ∀ i, i < n → w.cell? ⟨g2, i, none⟩ = some (.int .i64 (f2 i))
  i3 : ∀ i, i < m → w.cell? ⟨g3, i, none⟩ = some (.int .i64 (f3 i))
theorem SdIn.kept {S : Nat → Prop} {w w' : World} {n g1 c1 g2 c2 m g3 c3 pL pR pK : Nat} {f1 f2 f3 : Nat → Int} (h : SdIn w n g1 c1 g2 c2 m g3 c3 pL pR pK f1 f2 f3) (hk : Kept S w w') (h1 : ¬ S pL) (h2 : ¬ S pR) (h3 : ¬ S pK) (h4 : ¬ S g1) (h5 : ¬ S g2) (h6 : ¬ S g3) : SdIn w' n g1 c1 g2 c2 m g3 c3 pL pR pK f1 f2 f3 :=
  ⟨hk.cellOf h1 h.l, hk.cellOf h3 h.k, hk.cellOf h2 h.r, fun i hi => hk.cellOf h4 (h.i1 i hi), fun i hi => hk.cellOf h5 (h.i2 i hi), fun i hi => hk.cellOf h6 (h.i3 i hi)⟩
set_option maxHeartbeats 1600000 in
theorem sd_rest {w : World} {n g1 c1 g2 c2 m g3 c3 pL pR pK : Nat} {f1 f2 f3 : Nat → Int} (h : SdIn w n g1 c1 g2 c2 m g3 c3 pL pR pK f1 f2 f3) (h1 : ∀ i, i < n → 0 ≤ f1 i ∧ f1 i ≤ 1000000000000) (h2 : ∀ i, i < n → 0 ≤ f2 i ∧ f2 i < m) (h3 : ∀ i, i < m → 0 ≤ f3 i ∧ f3 i ≤ 10000) (i : Nat) (hi : i < n) :
    Calls Try.prog 46 #[.int .i64 i, .pointer (some ⟨pL, 0, none⟩), .pointer (some ⟨pR, 0, none⟩), .pointer (some ⟨pK, 0, none⟩)] w (fun e w' => e = .returned (.int .i64 (sdR f1 f2 f3 i)) ∧ ∃ q, w' = w.drewN q) := by
  obtain ⟨b0, b1⟩ := h2 i hi
  obtain ⟨j, hj⟩ : ∃ j : Nat, f2 i = j := ⟨(f2 i).toNat, by omega⟩
  have hjm : j < m := by omega
  have x1 := h.l
  have x2 := h.k
  have x3 := h.r
  have x4 := h.i1 i hi
  have x5 := h.i2 i hi
  have x6 := h.i3 j hjm
  have a1 := h1 i hi
  have a3 := h3 j hjm
  rw [hj] at x5
  have HE : Hid (sdR f1 f2 f3 i = f1 i * f3 j % 10000) := by show f1 i * f3 (f2 i).toNat % 10000 = _; rw [hj]; rfl
  obtain ⟨X, hX⟩ : ∃ X, f1 i = X := ⟨_, rfl⟩
  obtain ⟨Y, hY⟩ : ∃ Y, f3 j = Y := ⟨_, rfl⟩
  rw [hX] at x4 a1 HE
  rw [hY] at x6 a3 HE
  have p0 : 0 ≤ X * Y := Int.mul_nonneg a1.1 a3.1
  have p1 : X * Y ≤ 1000000000000 * 10000 := Int.mul_le_mul a1.2 a3.2 a3.1 (by omega)
  have e1 : IntKind.i64.wrap (X * Y) = X * Y := IntWalk.i64_in _ (by omega)
  have l1 : (i : Int) < n := by omega
  have l2 : (j : Int) < m := by omega
  have t1 : (X * Y).tmod 10000 = X * Y % 10000 := by rw [Int.tmod_eq_emod_of_nonneg p0]
  have r0 := Int.emod_nonneg (X * Y) (show (10000 : Int) ≠ 0 by omega)
  have r1 := Int.emod_lt_of_pos (X * Y) (show (0 : Int) < 10000 by omega)
  clear h hj hX hY h1 h2 h3 b0 b1
  go_enter Try.func46, Try.ntmps46
  go_wp2_with fail
  go_quiet (fail)
  go_wp2
  go_ret
  exact ⟨by rw [HE.out]; first | rfl | (rw [t1]) | (simp only [t1]), _, rfl⟩

set_option maxHeartbeats 1600000 in
theorem sd_cmp {w : World} {n g g1 c1 g2 c2 m g3 c3 pL pR pK pF : Nat} {f1 f2 f3 : Nat → Int} (h : SdIn w n g1 c1 g2 c2 m g3 c3 pL pR pK f1 f2 f3) (kF : w.cell? ⟨pF, 0, none⟩ = some (.func (.func 46) #[] #[.pointer (some ⟨pL, 0, none⟩), .pointer (some ⟨pR, 0, none⟩), .pointer (some ⟨pK, 0, none⟩)]))
    (h1 : ∀ i, i < n → 0 ≤ f1 i ∧ f1 i ≤ 1000000000000) (h2 : ∀ i, i < n → 0 ≤ f2 i ∧ f2 i < m) (h3 : ∀ i, i < m → 0 ≤ f3 i ∧ f3 i ≤ 10000) (d : pL ≠ g ∧ pR ≠ g ∧ pK ≠ g ∧ pF ≠ g ∧ g1 ≠ g ∧ g2 ≠ g ∧ g3 ≠ g) :
    Cmp_sd w g n (pkey (sdR f1 f2 f3)) (.pointer (some ⟨pF, 0, none⟩)) := by
  intro w' hk x y hx hy
  obtain ⟨d1, d2, d3, d4, d5, d6, d7⟩ := d
  have h' := h.kept hk d1 d2 d3 d5 d6 d7
  have kF' := hk.cellOf d4 kF
  obtain ⟨i, rfl⟩ := Int.eq_ofNat_of_zero_le hx.1
  obtain ⟨j, rfl⟩ := Int.eq_ofNat_of_zero_le hy.1
  have HI : Hid (∀ q, Calls Try.prog 46 #[.int .i64 i, .pointer (some ⟨pL, 0, none⟩), .pointer (some ⟨pR, 0, none⟩), .pointer (some ⟨pK, 0, none⟩)] (w'.drewN q) (fun e w'' => e = .returned (.int .i64 (sdR f1 f2 f3 i)) ∧ ∃ p, w'' = w'.drewN p)) := fun q => by
    have hq := h'.kept (S := fun _ => False) (Kept.drewN' (Kept.refl _ _) q) id id id id id id
    refine (sd_rest hq h1 h2 h3 i (by omega)).mono ?_
    rintro e w'' ⟨he, p, hp⟩
    exact ⟨he, q + p, by rw [hp]; simp⟩
  have HJ : Hid (∀ q, Calls Try.prog 46 #[.int .i64 j, .pointer (some ⟨pL, 0, none⟩), .pointer (some ⟨pR, 0, none⟩), .pointer (some ⟨pK, 0, none⟩)] (w'.drewN q) (fun e w'' => e = .returned (.int .i64 (sdR f1 f2 f3 j)) ∧ ∃ p, w'' = w'.drewN p)) := fun q => by
    have hq := h'.kept (S := fun _ => False) (Kept.drewN' (Kept.refl _ _) q) id id id id id id
    refine (sd_rest hq h1 h2 h3 j (by omega)).mono ?_
    rintro e w'' ⟨he, p, hp⟩
    exact ⟨he, q + p, by rw [hp]; simp⟩
  have b1 : ∀ i, 0 ≤ sdR f1 f2 f3 i ∧ sdR f1 f2 f3 i < 10000 := fun i => ⟨Int.emod_nonneg _ (by omega), Int.emod_lt_of_pos _ (by omega)⟩
  have v1 := b1 i
  have v2 := b1 j
  have HK : Hid (pkey (sdR f1 f2 f3) (i : Int) = -(sdR f1 f2 f3 i) ∧ pkey (sdR f1 f2 f3) (j : Int) = -(sdR f1 f2 f3 j)) := ⟨rfl, rfl⟩
  obtain ⟨X, hX⟩ : ∃ X, sdR f1 f2 f3 i = X := ⟨_, rfl⟩
  obtain ⟨Y, hY⟩ : ∃ Y, sdR f1 f2 f3 j = Y := ⟨_, rfl⟩
  rw [hX] at HI v1 HK
  rw [hY] at HJ v2 HK
  clear h h' hk hX hY b1 h1 h2 h3 kF
  go_enter Try.func48, Try.ntmps48
  go_wp2_with fail
  go_quiet ((first | (go_at_call 46; (with_reducible exact HI.out _)) | (go_at_call 46; (with_reducible exact HJ.out _))))
  go_wp2
  go_ret
  refine ⟨Y - X, by first | rfl | go_num, ?_, Go.Proofs.Ytnikfcaloielaaa.Below.drewN' (Below.refl _ _) _⟩
  rw [HK.out.1, HK.out.2]
  by_cases hlt : Y < X
  · rw [decide_eq_true (show Y - X < 0 by omega), decide_eq_true (show -X < -Y by omega)]
  · rw [decide_eq_false (show ¬ Y - X < 0 by omega), decide_eq_false (show ¬ -X < -Y by omega)]
end Go.Proofs.Ytnikfcaloielaaa
