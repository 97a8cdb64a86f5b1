/-
  Two ascending lists joined: by merging, or by sorting and striking what is twice: plain. No program in sight. No condition but what each law says.
-/
import Derived.Test.YtdaijapdfleohaaScaleP
import Derived.Test.YtdaijapdfleohaaTab
import Derived.Lib.SlicesCompact
namespace Go.Proofs.Ytdaijapdfleohaa
open Go.RowKit
set_option linter.unusedVariables false

def xv (A : Nat → Int) (n1 : Nat) (B : Nat → Int) (n2 i k : Nat) : Int := if i = n1 then B k else if k = n2 then A i else min (A i) (B k)
def nxA (A : Nat → Int) (n1 : Nat) (B : Nat → Int) (n2 i k : Nat) : Nat := if i < n1 ∧ A i = xv A n1 B n2 i k then i + 1 else i
def nxB (A : Nat → Int) (n1 : Nat) (B : Nat → Int) (n2 i k : Nat) : Nat := if k < n2 ∧ B k = xv A n1 B n2 i k then k + 1 else k
def mrg (A : Nat → Int) (n1 : Nat) (B : Nat → Int) (n2 : Nat) : Nat → Nat → Nat → List Int
  | 0, _, _ => []
  | f + 1, i, k => if i < n1 ∨ k < n2 then xv A n1 B n2 i k :: mrg A n1 B n2 f (nxA A n1 B n2 i k) (nxB A n1 B n2 i k) else []
def jM (A : Nat → Int) (n1 : Nat) (B : Nat → Int) (n2 : Nat) : List Int := mrg A n1 B n2 (n1 + n2) 0 0
section
variable {A B : Nat → Int} {n1 n2 : Nat}
theorem mrg_go {f i k : Nat} (h : i < n1 ∨ k < n2) : mrg A n1 B n2 (f + 1) i k = xv A n1 B n2 i k :: mrg A n1 B n2 f (nxA A n1 B n2 i k) (nxB A n1 B n2 i k) := if_pos h
theorem mrg_end (f : Nat) : mrg A n1 B n2 f n1 n2 = [] := by
  cases f with
  | zero => rfl
  | succ f => exact if_neg (by omega)
/-- One step of the merging takes something. -/
theorem nx_lt {i k : Nat} (hi : i ≤ n1) (hk : k ≤ n2) (h : i < n1 ∨ k < n2) : i ≤ nxA A n1 B n2 i k ∧ k ≤ nxB A n1 B n2 i k ∧ nxA A n1 B n2 i k ≤ n1 ∧ nxB A n1 B n2 i k ≤ n2 ∧ i + k < nxA A n1 B n2 i k + nxB A n1 B n2 i k := by
  have hx : xv A n1 B n2 i k = (if i = n1 then B k else if k = n2 then A i else min (A i) (B k)) := rfl
  by_cases h1 : i = n1
  · have h2 : k < n2 := by omega
    rw [if_pos h1] at hx
    have e1 : nxA A n1 B n2 i k = i := if_neg (by omega)
    have e2 : nxB A n1 B n2 i k = k + 1 := if_pos ⟨h2, hx.symm⟩
    omega
  · have h3 : i < n1 := by omega
    rw [if_neg h1] at hx
    by_cases h2 : k = n2
    · rw [if_pos h2] at hx
      have e1 : nxA A n1 B n2 i k = i + 1 := if_pos ⟨h3, hx.symm⟩
      have e2 : nxB A n1 B n2 i k = k := if_neg (by omega)
      omega
    · rw [if_neg h2] at hx
      have h4 : k < n2 := by omega
      by_cases h5 : A i ≤ B k
      · have e1 : nxA A n1 B n2 i k = i + 1 := if_pos ⟨h3, by rw [hx]; omega⟩
        by_cases h6 : B k = xv A n1 B n2 i k
        · have e2 : nxB A n1 B n2 i k = k + 1 := if_pos ⟨h4, h6⟩
          omega
        · have e2 : nxB A n1 B n2 i k = k := if_neg (fun h => h6 h.2)
          omega
      · have e2 : nxB A n1 B n2 i k = k + 1 := if_pos ⟨h4, by rw [hx]; omega⟩
        have e1 : nxA A n1 B n2 i k = i := if_neg (fun h => by have := h.2; rw [hx] at this; omega)
        omega
/-- What is taken, and what is left, is what there was. -/
theorem xv_is {i k : Nat} (hi : i ≤ n1) (hk : k ≤ n2) (h : i < n1 ∨ k < n2) :
    (∀ x, ((∃ p, i ≤ p ∧ p < n1 ∧ A p = x) ∨ (∃ q, k ≤ q ∧ q < n2 ∧ B q = x)) ↔ (x = xv A n1 B n2 i k ∨ (∃ p, nxA A n1 B n2 i k ≤ p ∧ p < n1 ∧ A p = x) ∨ (∃ q, nxB A n1 B n2 i k ≤ q ∧ q < n2 ∧ B q = x))) := by
  intro x
  have hn := nx_lt (A := A) (B := B) hi hk h
  have hx : xv A n1 B n2 i k = (if i = n1 then B k else if k = n2 then A i else min (A i) (B k)) := rfl
  constructor
  · rintro (⟨p, p1, p2, rfl⟩ | ⟨q, q1, q2, rfl⟩)
    · by_cases e : nxA A n1 B n2 i k ≤ p
      · exact .inr (.inl ⟨p, e, p2, rfl⟩)
      · left
        by_cases h1 : i < n1 ∧ A i = xv A n1 B n2 i k
        · have e1 : nxA A n1 B n2 i k = i + 1 := if_pos h1
          obtain rfl : p = i := by omega
          exact h1.2
        · have e1 : nxA A n1 B n2 i k = i := if_neg h1
          omega
    · by_cases e : nxB A n1 B n2 i k ≤ q
      · exact .inr (.inr ⟨q, e, q2, rfl⟩)
      · left
        by_cases h1 : k < n2 ∧ B k = xv A n1 B n2 i k
        · have e1 : nxB A n1 B n2 i k = k + 1 := if_pos h1
          obtain rfl : q = k := by omega
          exact h1.2
        · have e1 : nxB A n1 B n2 i k = k := if_neg h1
          omega
  · rintro (rfl | ⟨p, p1, p2, rfl⟩ | ⟨q, q1, q2, rfl⟩)
    · by_cases h1 : i = n1
      · rw [if_pos h1] at hx
        exact .inr ⟨k, Nat.le_refl _, by omega, hx.symm⟩
      · rw [if_neg h1] at hx
        by_cases h2 : k = n2
        · rw [if_pos h2] at hx
          exact .inl ⟨i, Nat.le_refl _, by omega, hx.symm⟩
        · rw [if_neg h2] at hx
          by_cases h5 : A i ≤ B k
          · exact .inl ⟨i, Nat.le_refl _, by omega, by rw [hx]; omega⟩
          · exact .inr ⟨k, Nat.le_refl _, by omega, by rw [hx]; omega⟩
    · exact .inl ⟨p, by omega, p2, rfl⟩
    · exact .inr ⟨q, by omega, q2, rfl⟩
theorem mrg_mem : ∀ (f i k : Nat), i ≤ n1 → k ≤ n2 → (n1 - i) + (n2 - k) ≤ f → ∀ x, x ∈ mrg A n1 B n2 f i k ↔ ((∃ p, i ≤ p ∧ p < n1 ∧ A p = x) ∨ (∃ q, k ≤ q ∧ q < n2 ∧ B q = x)) := by
  intro f
  induction f with
  | zero =>
    intro i k hi hk hf x
    constructor
    · intro h; cases h
    · rintro (⟨p, _, _, _⟩ | ⟨q, _, _, _⟩) <;> omega
  | succ f ih =>
    intro i k hi hk hf x
    by_cases h : i < n1 ∨ k < n2
    · have hn := nx_lt (A := A) (B := B) hi hk h
      rw [mrg_go h, List.mem_cons, ih _ _ hn.2.2.1 hn.2.2.2.1 (by omega) x, xv_is hi hk h x]
    · have e : mrg A n1 B n2 (f + 1) i k = [] := if_neg h
      rw [e]
      constructor
      · intro h; cases h
      · rintro (⟨p, _, _, _⟩ | ⟨q, _, _, _⟩) <;> omega
/-- What is left is greater than what is taken. -/
theorem xv_low (hA : ∀ i, i + 1 < n1 → A i < A (i + 1)) (hB : ∀ i, i + 1 < n2 → B i < B (i + 1)) {i k : Nat} (hi : i ≤ n1) (hk : k ≤ n2) (h : i < n1 ∨ k < n2) :
    (∀ p, nxA A n1 B n2 i k ≤ p → p < n1 → xv A n1 B n2 i k < A p) ∧ (∀ q, nxB A n1 B n2 i k ≤ q → q < n2 → xv A n1 B n2 i k < B q) := by
  have hx : xv A n1 B n2 i k = (if i = n1 then B k else if k = n2 then A i else min (A i) (B k)) := rfl
  have hle : (i < n1 → xv A n1 B n2 i k ≤ A i) ∧ (k < n2 → xv A n1 B n2 i k ≤ B k) := by
    rw [hx]
    by_cases h1 : i = n1
    · rw [if_pos h1]; exact ⟨fun _ => by omega, fun _ => by omega⟩
    · rw [if_neg h1]
      by_cases h2 : k = n2
      · rw [if_pos h2]; exact ⟨fun _ => by omega, fun _ => by omega⟩
      · rw [if_neg h2]; exact ⟨fun _ => by omega, fun _ => by omega⟩
  constructor
  · intro p hp hp2
    by_cases h1 : i < n1 ∧ A i = xv A n1 B n2 i k
    · have e1 : nxA A n1 B n2 i k = i + 1 := if_pos h1
      have := asc_le hA (i + 1) p (by omega) hp2
      have := hA i (by omega)
      omega
    · have e1 : nxA A n1 B n2 i k = i := if_neg h1
      have h2 : i < n1 := by omega
      have := asc_le hA i p (by omega) hp2
      have := hle.1 h2
      have : A i ≠ xv A n1 B n2 i k := fun e => h1 ⟨h2, e⟩
      omega
  · intro q hq hq2
    by_cases h1 : k < n2 ∧ B k = xv A n1 B n2 i k
    · have e1 : nxB A n1 B n2 i k = k + 1 := if_pos h1
      have := asc_le hB (k + 1) q (by omega) hq2
      have := hB k (by omega)
      omega
    · have e1 : nxB A n1 B n2 i k = k := if_neg h1
      have h2 : k < n2 := by omega
      have := asc_le hB k q (by omega) hq2
      have := hle.2 h2
      have : B k ≠ xv A n1 B n2 i k := fun e => h1 ⟨h2, e⟩
      omega
theorem mrg_asc (hA : ∀ i, i + 1 < n1 → A i < A (i + 1)) (hB : ∀ i, i + 1 < n2 → B i < B (i + 1)) : ∀ (f i k : Nat), i ≤ n1 → k ≤ n2 → (n1 - i) + (n2 - k) ≤ f → (mrg A n1 B n2 f i k).Pairwise (· < ·) := by
  intro f
  induction f with
  | zero => intro _ _ _ _ _; exact List.Pairwise.nil
  | succ f ih =>
    intro i k hi hk hf
    by_cases h : i < n1 ∨ k < n2
    · have hn := nx_lt (A := A) (B := B) hi hk h
      have hl := xv_low hA hB hi hk h
      rw [mrg_go h]
      refine List.pairwise_cons.2 ⟨fun y hy => ?_, ih _ _ hn.2.2.1 hn.2.2.2.1 (by omega)⟩
      rcases (mrg_mem f _ _ hn.2.2.1 hn.2.2.2.1 (by omega) y).1 hy with ⟨p, p1, p2, rfl⟩ | ⟨q, q1, q2, rfl⟩
      · exact hl.1 p p1 p2
      · exact hl.2 q q1 q2
    · have e : mrg A n1 B n2 (f + 1) i k = [] := if_neg h
      rw [e]
      exact List.Pairwise.nil
theorem mrg_length : ∀ (f i k : Nat), (mrg A n1 B n2 f i k).length ≤ f := by
  intro f
  induction f with
  | zero => intro _ _; exact Nat.le_refl _
  | succ f ih =>
    intro i k
    by_cases h : i < n1 ∨ k < n2
    · rw [mrg_go h, List.length_cons]
      have := ih (nxA A n1 B n2 i k) (nxB A n1 B n2 i k)
      omega
    · have e : mrg A n1 B n2 (f + 1) i k = [] := if_neg h
      rw [e]
      exact Nat.zero_le _
end
/-- An ascending list is told by what is in it. -/
theorem asc_uniq : ∀ {xs ys : List Int}, xs.Pairwise (· < ·) → ys.Pairwise (· < ·) → (∀ x, x ∈ xs ↔ x ∈ ys) → xs = ys := by
  intro xs
  induction xs with
  | nil =>
    intro ys _ _ h
    cases ys with
    | nil => rfl
    | cons y ys => exact absurd ((h y).2 (List.mem_cons_self ..)) (by simp)
  | cons x xs ih =>
    intro ys h1 h2 h
    cases ys with
    | nil => exact absurd ((h x).1 (List.mem_cons_self ..)) (by simp)
    | cons y ys =>
      obtain ⟨a1, a2⟩ := List.pairwise_cons.1 h1
      obtain ⟨b1, b2⟩ := List.pairwise_cons.1 h2
      have e : x = y := by
        rcases List.mem_cons.1 ((h x).1 (List.mem_cons_self ..)) with e | e
        · exact e
        · rcases List.mem_cons.1 ((h y).2 (List.mem_cons_self ..)) with e' | e'
          · exact e'.symm
          · have := b1 x e
            have := a1 y e'
            omega
      subst e
      congr 1
      refine ih a2 b2 fun z => ?_
      constructor
      · intro hz
        rcases List.mem_cons.1 ((h z).1 (List.mem_cons_of_mem _ hz)) with e | e
        · have := a1 z hz; omega
        · exact e
      · intro hz
        rcases List.mem_cons.1 ((h z).2 (List.mem_cons_of_mem _ hz)) with e | e
        · have := b1 z hz; omega
        · exact e
end Go.Proofs.Ytdaijapdfleohaa
