/-
  What factors give: plain law. No program in sight. Conditions as the laws say.
-/
import Derived.Test.YtmkijibfgdeidaaPlaces
import Derived.Test.YtmkijibfgdeidaaToInt64SS
import Derived.Test.YtmkijibfgdeidaaTab
import Derived.Test.YtmkijibfgdeidaaKept
namespace Go.Proofs.Ytmkijibfgdeidaa
open Go.RowKit
set_option linter.unusedVariables false

def fwk (N : Nat → Nat) (F : Nat → Nat → Int) (k : Nat) : Bool := plcOk (F k) (N k) && (decide (N k = N 0) && decide (sumTo (F k) (N k) ≤ 1000))
def fwOk (n : Nat) (N : Nat → Nat) (F : Nat → Nat → Int) (m : Nat) (f2 : Nat → Int) : Bool := win n 1 4 && (decide (m = n) && (allW f2 0 9 m && (!decide (sumTo f2 m = 0) && allB (fwk N F) n)))
def pr (a : Int) (S : Nat → Int) : Nat → Int
  | 0 => a
  | k + 1 => pr a S k * S k
def fterm (f2 : Nat → Int) (F : Nat → Nat → Int) (P A : Int) (S : Nat → Int) (k i : Nat) : Int := f2 k * F k i * (P / A / S k)
def fW (f2 : Nat → Int) (F : Nat → Nat → Int) (P A : Int) (S : Nat → Int) : Nat → Nat → Int
  | 0, _ => 0
  | k + 1, i => fW f2 F P A S k i + fterm f2 F P A S k i
def fS (N : Nat → Nat) (F : Nat → Nat → Int) (k : Nat) : Int := sumTo (F k) (N k)
def fP (n : Nat) (N : Nat → Nat) (F : Nat → Nat → Int) (f2 : Nat → Int) : Int := pr (sumTo f2 n) (fS N F) n
def fwL (n : Nat) (N : Nat → Nat) (F : Nat → Nat → Int) (m : Nat) (f2 : Nat → Int) : List Int := if fwOk n N F m f2 then tab (fW f2 F (fP n N F f2) (sumTo f2 n) (fS N F) n) (N 0) else []
def fwA (n : Nat) (N : Nat → Nat) (F : Nat → Nat → Int) (m : Nat) (f2 : Nat → Int) : Int := if fwOk n N F m f2 then fP n N F f2 else 0
section
variable {n m : Nat} {N : Nat → Nat} {F : Nat → Nat → Int} {f2 : Nat → Int}
theorem fwL_no (h : fwOk n N F m f2 = false) : fwL n N F m f2 = [] := by simp [fwL, h]
theorem fwA_no (h : fwOk n N F m f2 = false) : fwA n N F m f2 = 0 := by simp [fwA, h]
theorem fwL_yes (h : fwOk n N F m f2 = true) : fwL n N F m f2 = tab (fW f2 F (fP n N F f2) (sumTo f2 n) (fS N F) n) (N 0) := by simp [fwL, h]
theorem fwA_yes (h : fwOk n N F m f2 = true) : fwA n N F m f2 = fP n N F f2 := by simp [fwA, h]
theorem fw_no1 (h : win n 1 4 = false) : fwOk n N F m f2 = false := by simp [fwOk, h]
theorem fw_no2 (h : m ≠ n) : fwOk n N F m f2 = false := by simp [fwOk, h]
theorem fw_no3 (h : allW f2 0 9 m = false) : fwOk n N F m f2 = false := by simp [fwOk, h]
theorem fw_no4 (h : sumTo f2 m = 0) : fwOk n N F m f2 = false := by simp [fwOk, h]
theorem fw_no5 {k : Nat} (hk : k < n) (h : fwk N F k = false) : fwOk n N F m f2 = false := by simp [fwOk, allB_false k hk h]
theorem fw_yes (h1 : win n 1 4 = true) (h2 : m = n) (h3 : allW f2 0 9 m = true) (h4 : ¬ sumTo f2 m = 0) (h5 : allB (fwk N F) n = true) : fwOk n N F m f2 = true := by simp [fwOk, h1, h2 ▸ h3, h5, h2]; rw [← h2]; exact h4
theorem fwk_no1 {k : Nat} (h : plcOk (F k) (N k) = false) : fwk N F k = false := by simp [fwk, h]
theorem fwk_no2 {k : Nat} (h : ¬ N k = N 0) : fwk N F k = false := by simp [fwk, h]
theorem fwk_no3 {k : Nat} (h : ¬ sumTo (F k) (N k) ≤ 1000) : fwk N F k = false := by simp [fwk]; intro _ _; omega
theorem fwk_yes {k : Nat} (h1 : plcOk (F k) (N k) = true) (h2 : N k = N 0) (h3 : sumTo (F k) (N k) ≤ 1000) : fwk N F k = true := by simp [fwk, h1, h3]; rw [← h2]
theorem plc_each {f : Nat → Int} {n : Nat} (h : plcOk f n = true) {i : Nat} (hi : i < n) : f i ≤ sumTo f n := by
  obtain ⟨_, _, hf, _, hm⟩ := plc_is h
  have a := hm (i + 1) hi
  have b := hm i (by omega)
  have e : sumTo f (i + 1) = sumTo f i + f i := rfl
  omega
theorem fwk_is {k : Nat} (h : fwk N F k = true) : plcOk (F k) (N k) = true ∧ N k = N 0 ∧ (0 < fS N F k ∧ fS N F k ≤ 1000) ∧ (1 ≤ N k ∧ N k ≤ 12) ∧ ∀ i, i < N k → 0 ≤ F k i ∧ F k i ≤ 1000 := by
  simp only [fwk, Bool.and_eq_true, decide_eq_true_eq] at h
  obtain ⟨h1, h2, h3⟩ := h
  obtain ⟨a, b, c, d, e⟩ := plc_is h1
  exact ⟨h1, h2, ⟨d.1, h3⟩, ⟨a, b⟩, fun i hi => ⟨(c i hi).1, by have := plc_each h1 hi; omega⟩⟩
theorem fw_is (h : fwOk n N F m f2 = true) : (1 ≤ n ∧ n ≤ 4) ∧ m = n ∧ (∀ i, i < n → 0 ≤ f2 i ∧ f2 i ≤ 9) ∧ (0 < sumTo f2 n ∧ sumTo f2 n ≤ 36) ∧ ∀ k, k < n → fwk N F k = true := by
  simp only [fwOk, Bool.and_eq_true, decide_eq_true_eq, Bool.not_eq_true', decide_eq_false_iff_not] at h
  obtain ⟨h1, h2, h3, h4, h5⟩ := h
  subst h2
  have a := win_iff.1 h1
  have b := allW_iff.1 h3
  have s := sumTo_bd b (by omega) (by omega) m (Nat.le_refl _)
  exact ⟨by omega, rfl, b, by omega, allB_iff.1 h5⟩
theorem allW_sum {f : Nat → Int} {n : Nat} (hn : n ≤ 4) (h : allW f 0 9 n = true) : ∀ k, k ≤ n → 0 ≤ sumTo f k ∧ sumTo f k ≤ 36 := fun k hk => by
  have b := allW_iff.1 h
  have s := sumTo_bd b (by omega) (by omega) k hk
  omega
theorem pr_bd {a : Int} {S : Nat → Int} {n : Nat} (a0 : 0 < a) (a1 : a ≤ 36) (hS : ∀ k, k < n → 0 < S k ∧ S k ≤ 1000) : ∀ k, k ≤ n → 0 < pr a S k ∧ pr a S k ≤ 36 * 1000 ^ k := by
  intro k
  induction k with
  | zero => intro _; exact ⟨a0, by show a ≤ _; omega⟩
  | succ k ih =>
    intro hk
    obtain ⟨i0, i1⟩ := ih (by omega)
    obtain ⟨s0, s1⟩ := hS k (by omega)
    have p : pr a S k * S k ≤ (36 * 1000 ^ k) * 1000 := Int.mul_le_mul i1 s1 (by omega) (Int.le_trans (Int.le_of_lt i0) i1)
    refine ⟨Int.mul_pos i0 s0, ?_⟩
    show pr a S k * S k ≤ _
    rw [Int.pow_succ, ← Int.mul_assoc]
    exact p
theorem pr_bd4 {a : Int} {S : Nat → Int} {n : Nat} (hn : n ≤ 4) (a0 : 0 < a) (a1 : a ≤ 36) (hS : ∀ k, k < n → 0 < S k ∧ S k ≤ 1000) : ∀ k, k ≤ n → 0 < pr a S k ∧ pr a S k ≤ 36000000000000 := fun k hk => by
  obtain ⟨h0, h1⟩ := pr_bd a0 a1 hS k hk
  refine ⟨h0, Int.le_trans h1 ?_⟩
  have : k = 0 ∨ k = 1 ∨ k = 2 ∨ k = 3 ∨ k = 4 := by omega
  rcases this with rfl | rfl | rfl | rfl | rfl <;> decide
/-- The bounds of a share. -/
theorem share_bd {P A s : Int} (p0 : 0 < P) (p1 : P ≤ 36000000000000) (a0 : 0 < A) (s0 : 0 < s) : (0 ≤ P / A ∧ P / A ≤ 36000000000000) ∧ (0 ≤ P / A / s ∧ P / A / s ≤ 36000000000000) := by
  have h1 : 0 ≤ P / A := Int.ediv_nonneg (by omega) (by omega)
  have h2 : P / A ≤ P := Int.ediv_le_self _ (by omega)
  have h3 : 0 ≤ P / A / s := Int.ediv_nonneg h1 (by omega)
  have h4 : P / A / s ≤ P / A := Int.ediv_le_self _ h1
  omega
theorem prod_bd {x y d : Int} (x0 : 0 ≤ x) (x1 : x ≤ 9) (y0 : 0 ≤ y) (y1 : y ≤ 1000) (d0 : 0 ≤ d) (d1 : d ≤ 36000000000000) : (0 ≤ x * y ∧ x * y ≤ 9000) ∧ (0 ≤ x * y * d ∧ x * y * d ≤ 324000000000000000) ∧ (0 ≤ d * x ∧ d * x ≤ 324000000000000) := by
  have h1 : 0 ≤ x * y := Int.mul_nonneg x0 y0
  have h2 : x * y ≤ 9 * 1000 := Int.mul_le_mul x1 y1 y0 (by omega)
  have h3 : 0 ≤ x * y * d := Int.mul_nonneg h1 d0
  have h4 : x * y * d ≤ 9000 * 36000000000000 := Int.mul_le_mul (by omega) d1 d0 (by omega)
  have h5 : 0 ≤ d * x := Int.mul_nonneg d0 x0
  have h6 : d * x ≤ 36000000000000 * 9 := Int.mul_le_mul d1 x1 x0 (by omega)
  omega
theorem fW_bd {P A : Int} {S : Nat → Int} (hn : n ≤ 4) (ht : ∀ k, k < n → ∀ i, i < m → 0 ≤ fterm f2 F P A S k i ∧ fterm f2 F P A S k i ≤ 324000000000000000) {i : Nat} (hi : i < m) : ∀ k, k ≤ n → 0 ≤ fW f2 F P A S k i ∧ fW f2 F P A S k i ≤ 324000000000000000 * k := by
  intro k
  induction k with
  | zero => intro _; exact ⟨Int.le_refl _, Int.le_refl _⟩
  | succ k ih =>
    intro hk
    have a := ih (by omega)
    have b := ht k (by omega) i hi
    show 0 ≤ fW f2 F P A S k i + fterm f2 F P A S k i ∧ fW f2 F P A S k i + fterm f2 F P A S k i ≤ _
    omega
/-- All that the walks lean on. -/
structure FwF (n : Nat) (N : Nat → Nat) (F : Nat → Nat → Int) (f2 : Nat → Int) : Prop where
  n4 : 1 ≤ n ∧ n ≤ 4
  m : ∀ i, i < n → 0 ≤ f2 i ∧ f2 i ≤ 9
  a : 0 < sumTo f2 n ∧ sumTo f2 n ≤ 36
  k : ∀ k, k < n → fwk N F k = true
  p : ∀ k, k ≤ n → 0 < pr (sumTo f2 n) (fS N F) k ∧ pr (sumTo f2 n) (fS N F) k ≤ 36000000000000
  t : ∀ k, k < n → ∀ i, i < N 0 → 0 ≤ fterm f2 F (fP n N F f2) (sumTo f2 n) (fS N F) k i ∧ fterm f2 F (fP n N F f2) (sumTo f2 n) (fS N F) k i ≤ 324000000000000000
  w : ∀ k, k ≤ n → ∀ i, i < N 0 → 0 ≤ fW f2 F (fP n N F f2) (sumTo f2 n) (fS N F) k i ∧ fW f2 F (fP n N F f2) (sumTo f2 n) (fS N F) k i ≤ 1296000000000000000
theorem fw_facts (h : fwOk n N F m f2 = true) : FwF n N F f2 := by
  obtain ⟨h1, h2, h3, h4, h5⟩ := fw_is h
  have hS : ∀ k, k < n → 0 < fS N F k ∧ fS N F k ≤ 1000 := fun k hk => (fwk_is (h5 k hk)).2.2.1
  have hp := pr_bd4 h1.2 h4.1 h4.2 hS
  have ht : ∀ k, k < n → ∀ i, i < N 0 → 0 ≤ fterm f2 F (fP n N F f2) (sumTo f2 n) (fS N F) k i ∧ fterm f2 F (fP n N F f2) (sumTo f2 n) (fS N F) k i ≤ 324000000000000000 := fun k hk i hi => by
    obtain ⟨_, e, s, _, hf⟩ := fwk_is (h5 k hk)
    have b := hf i (by omega)
    have c := h3 k hk
    have pn := hp n (Nat.le_refl _)
    have d := share_bd pn.1 pn.2 h4.1 s.1
    exact (prod_bd c.1 c.2 b.1 b.2 d.2.1 d.2.2).2.1
  refine ⟨h1, h3, h4, h5, hp, ht, fun k hk i hi => ?_⟩
  have := fW_bd (m := N 0) h1.2 ht hi k hk
  have : (k : Int) ≤ 4 := by omega
  omega
theorem share_eq {P A s : Int} (a0 : 0 < A) (x y : Int) : P / (A * s) * x * y = x * y * (P / A / s) := by
  rw [Int.ediv_ediv, if_neg (by omega), Int.sub_zero]
  generalize P / (A * s) = d
  rw [Int.mul_assoc, Int.mul_comm]
end

def blkOf : Value → Nat
  | .slice (some a) _ _ => a.block
  | _ => 0
def capOf : Value → Nat
  | .slice _ _ c => c
  | _ => 0
/-- Lists that lie in memory. -/
structure LsIn (w : World) (g n : Nat) (b N c : Nat → Nat) (F : Nat → Nat → Int) : Prop where
  cell : ∀ k, k < n → w.cell? ⟨g, k, none⟩ = some (.slice (some ⟨b k, 0, none⟩) (N k) (c k))
  ints : ∀ k, k < n → Ints w (b k) 0 (N k) (F k)
  len : ∀ k, k < n → N k < 1000000000
theorem LsIn.below {w w' : World} {g n : Nat} {b N c : Nat → Nat} {F : Nat → Nat → Int} (h : LsIn w g n b N c F) (hb : Below w.heap.size w w') : LsIn w' g n b N c F :=
  ⟨fun k hk => Below.cellOf hb rfl (h.cell k hk), fun k hk => (h.ints k hk).below hb, h.len⟩
theorem RowII.ls {E : TypeId} {w : World} {B T : Nat} {v : Value} {X : RecL} (h : RowII E w B T v X) : ∃ g b c, v = .slice (some ⟨g, 0, none⟩) X.length X.length ∧ X.length < 1000000000 ∧ LsIn w g X.length b (fun k => (X.f k).length) c (fun k i => (X.f k).getD i 0) := by
  obtain ⟨g, vs, rfl, _, _, _, hn, h5, _⟩ := h
  refine ⟨g, fun k => blkOf (vs k), fun k => capOf (vs k), rfl, hn, ⟨fun k hk => ?_, fun k hk => ?_, fun k hk => (h5 k hk).2.1.2.2⟩⟩
  · obtain ⟨a, r, _⟩ := h5 k hk
    obtain ⟨g', c', hv⟩ := r.2.1
    rw [a, hv]
    rfl
  · obtain ⟨a, r, _⟩ := h5 k hk
    obtain ⟨g1, c1, hv, _, _, _, _, I1, _, m1⟩ := r.form
    rw [hv]
    exact I1
end Go.Proofs.Ytmkijibfgdeidaa
