/-
  A drawn row of bytes: how it is opened, and what laws.b10Long and laws.b10At tell of it. Conditions: an index of 0 to 1000, a bound of 2 to 100000.
-/
import Derived.Test.YtnikfcaloielaaaSmall
import Derived.Test.YtnikfcaloielaaaOpen
namespace Go.Proofs.Ytnikfcaloielaaa
open Go.ChangeShapes Go.WideShapes Go.RowKit
set_option linter.unusedVariables false

/-- A slice of bytes. -/
def InB (w : World) (v : Value) (n : Nat) : Prop := ∃ (ad : Option Addr) (cap : Nat), v = .slice ad n cap ∧ (0 < n → ∃ g off, ad = some ⟨g, off, none⟩ ∧ ∀ i, i < n → ∃ z : Int, w.cell? ⟨g, off + i, none⟩ = some (.int .u8 z) ∧ 0 ≤ z ∧ z ≤ 255)
theorem InB.below {w w' : World} {v : Value} {n : Nat} (h : InB w v n) (hb : Below w.heap.size w w') : InB w' v n := by
  obtain ⟨ad, cap, rfl, h2⟩ := h
  refine ⟨ad, cap, rfl, fun h0 => ?_⟩
  obtain ⟨g, off, e, hc⟩ := h2 h0
  refine ⟨g, off, e, fun i hi => ?_⟩
  obtain ⟨z, h3, h4⟩ := hc i hi
  exact ⟨z, Below.cellOf hb rfl h3, h4⟩

theorem openB {H : Type} {enc : TypeId × Value → H} {P : Program} {w : World} {fuel : Nat} {t e : TypeId} {v : Value} {x : DataW H × List MemPlace} (ht : P.underlying t = some (.slice e)) (he : P.underlying e = some (.int .u8)) (hc : P.cellsOf e = 1)
    (h : DataW.trod enc P w 0 (fun _ => true) true fuel t [v] = some x) : ∃ (n : Nat) (ad : Option Addr) (cap : Nat), v = .slice ad n cap ∧ InB w (.slice ad n cap) n := by
  rcases open_ints ht he hc h with ⟨hcs, _⟩ | ⟨a, len, cap, zs, hcs, _, hl, hm, hz, hx, hcell, hwz⟩
  · simp at hcs
    subst hcs
    exact ⟨0, none, 0, rfl, none, 0, rfl, fun h => absurd h (Nat.lt_irrefl _)⟩
  · simp at hcs
    subst hcs
    have hz' : zs.length = cap := by simpa using hz
    refine ⟨len, some a, cap, rfl, some a, cap, rfl, fun h0 => ?_⟩
    obtain ⟨b, off, spot⟩ := a
    have hspot : spot = none := by simpa [Addr.add] using World.cell?_spot (hcell 0 (by omega))
    subst hspot
    refine ⟨b, off, rfl, fun i hi => ?_⟩
    have := hcell i (by omega)
    have e1 : (⟨b, off, none⟩ : Addr).add i = ⟨b, off + i, none⟩ := by unfold Addr.add; split <;> simp_all
    rw [e1] at this
    have hm : zs.getD i 0 ∈ zs := by
      have : i < zs.length := by omega
      simp [List.getD, this]
    have hb := Go.bounds_u8 (hwz _ hm)
    exact ⟨_, this, by omega, by omega⟩
theorem openB' {H : Type} {enc : TypeId × Value → H} {P : Program} {w : World} {t e : TypeId} {v : Value} {d : DataW H} {p : List MemPlace} (ht : P.underlying t = some (.slice e)) (he : P.underlying e = some (.int .u8)) (hc : P.cellsOf e = 1)
    {r : Reach} {b0 : Nat} (hv : Value.okWide P w r b0 t v) (h : DataW.Trod enc P w 0 (fun _ => true) true t v d p) : ∃ (n : Nat) (ad : Option Addr) (cap : Nat), v = .slice ad n cap ∧ InB w (.slice ad n cap) n := by
  obtain ⟨a, len, cap, rfl⟩ := okWide_slice ht hv
  obtain ⟨fuel, hf⟩ := h
  exact openB ht he hc (by simpa [Value.cells] using hf)

theorem b10Long_any (n m : Nat) (a1 a2 : Option Addr) (c1 c2 : Nat) (w : World) :
    Calls Try.prog 21 #[.slice a1 n c1, .slice a2 m c2] w fun e w' => e = .returned (.bool (decide (1048576 < (n : Int)) || decide (1048576 < (m : Int)))) ∧ w = w' := by
  by_cases h : 1048576 < (n : Int)
  · have h2 := decide_eq_true h
    go_enter Try.func21, Try.ntmps21
    go_wp2
    go_ret
    exact ⟨by first | rfl | (rw [h2]; rfl), rfl⟩
  · have h2 := decide_eq_false h
    go_enter Try.func21, Try.ntmps21
    go_wp2
    go_ret
    exact ⟨by first | rfl | (rw [h2]; rfl) | (simp only [h2, Bool.false_or]; rfl), rfl⟩

/-- A number from 0 on below a bound. -/
theorem b10At_any {w : World} {v : Value} {n : Nat} (h : InB w v n) (i b : Int) (i0 : 0 ≤ i) (i1 : i ≤ 1000) (b0 : 1 < b) (b1 : b ≤ 100000) :
    Calls Try.prog 22 #[v, .int .i64 i, .int .i64 b] w fun e w' => ∃ x : Int, e = .returned (.int .i64 x) ∧ 0 ≤ x ∧ x < b ∧ w = w' := by
  obtain ⟨ad, cap, rfl, h2⟩ := h
  have n1 : ¬ b ≤ 1 := by omega
  have n2 : (b == 0) = false := by simp; omega
  by_cases hl : i < n
  · obtain ⟨g, off, rfl, hc⟩ := h2 (by omega)
    obtain ⟨z, hz, z0, z1⟩ := hc i.toNat (by omega)
    have t0 : z.tmod b = z % b := by rw [Int.tmod_eq_emod_of_nonneg z0]
    have t1 := Int.emod_nonneg z (show b ≠ 0 by omega)
    have t2 := Int.emod_lt_of_pos z (show 0 < b by omega)
    have t3 : IntKind.i64.wrap z = z := IntWalk.i64_in _ (by omega)
    clear h2 hc
    go_enter Try.func22, Try.ntmps22
    go_wp2
    go_ret
    exact ⟨z % b, by first | rfl | (rw [t0]) | (simp only [t0]), t1, t2, rfl⟩
  · have p0 : 0 ≤ i * 37 + 11 := by omega
    have t0 : (i * 37 + 11).tmod b = (i * 37 + 11) % b := by rw [Int.tmod_eq_emod_of_nonneg p0]
    have t1 := Int.emod_nonneg (i * 37 + 11) (show b ≠ 0 by omega)
    have t2 := Int.emod_lt_of_pos (i * 37 + 11) (show 0 < b by omega)
    clear h2
    go_enter Try.func22, Try.ntmps22
    go_wp2
    go_ret
    exact ⟨(i * 37 + 11) % b, by first | rfl | (rw [t0]) | (simp only [t0]), t1, t2, rfl⟩
end Go.Proofs.Ytnikfcaloielaaa
