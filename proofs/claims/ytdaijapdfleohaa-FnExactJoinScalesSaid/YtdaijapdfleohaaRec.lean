/-
  Slices of structs of integers: a list of records is its length and its cells, one after another. No program in sight. No condition.
-/
import Derived.Test.YtdaijapdfleohaaBase
import Derived.Laws.OwnMore
import Derived.Laws.IdiomCopy
namespace Go.Proofs.Ytdaijapdfleohaa
open Go.RowKit
set_option linter.unusedVariables false

/-- So many records; their fields in a row. -/
structure Rec where
  length : Nat
  f : Nat → Int

/-- The cells of a slice of records of k integers. -/
def RowC (w : World) (g off n k : Nat) (f : Nat → Int) : Prop := ∀ i, i < n → ∀ j, j < k → w.cell? ⟨g, off + i * k + j, none⟩ = some (.int .i64 (f (i * k + j)))
theorem RowC.below {w w' : World} {g off n k : Nat} {f : Nat → Int} (h : RowC w g off n k f) (hb : Below w.heap.size w w') : RowC w' g off n k f :=
  fun i hi j hj => Below.cellOf hb rfl (h i hi j hj)
theorem RowC.c0 {w : World} {g n k : Nat} {f : Nat → Int} (h : RowC w g 0 n k f) (i : Nat) (hi : i < n) (hk : 0 < k) : w.cell? ⟨g, i * k, none⟩ = some (.int .i64 (f (i * k))) := by
  have := h i hi 0 hk; rwa [Nat.zero_add, Nat.add_zero] at this
theorem RowC.cs {w : World} {g n k : Nat} {f : Nat → Int} (h : RowC w g 0 n k f) (i j : Nat) (hi : i < n) (hj : j < k) : w.cell? ⟨g, i * k + j, none⟩ = some (.int .i64 (f (i * k + j))) := by
  have := h i hi j hj; rwa [Nat.zero_add] at this
/-- Whether all of the first n are so. -/
def allB (P : Nat → Bool) : Nat → Bool
  | 0 => true
  | k + 1 => allB P k && P k
theorem allB_false {P : Nat → Bool} {n : Nat} (k : Nat) (hk : k < n) (h : P k = false) : allB P n = false := by
  induction n with
  | zero => omega
  | succ n ih =>
    by_cases e : k < n
    · simp [allB, ih e]
    · obtain rfl : k = n := by omega
      simp [allB, h]
theorem allB_succ {P : Nat → Bool} {k : Nat} (h1 : allB P k = true) (h2 : P k = true) : allB P (k + 1) = true := by simp [allB, h1, h2]
theorem allB_iff {P : Nat → Bool} {n : Nat} : allB P n = true ↔ ∀ i, i < n → P i = true := by
  induction n with
  | zero => simp [allB]
  | succ n ih =>
    simp only [allB, Bool.and_eq_true, ih]
    constructor
    · rintro ⟨h1, h2⟩ i hi
      rcases Nat.lt_succ_iff_lt_or_eq.1 hi with h3 | rfl
      · exact h1 i h3
      · exact h2
    · exact fun h => ⟨fun i hi => h i (by omega), h n (by omega)⟩
/-- A slice of records that came in. -/
def InR (k : Nat) (w : World) (v : Value) (X : Rec) : Prop :=
  ∃ a cap, v = .slice a X.length cap ∧ X.length ≤ maxLen ∧ (X.length ≠ 0 → ∃ g off, a = some ⟨g, off, none⟩ ∧ RowC w g off X.length k X.f)
theorem InR.below {k : Nat} {w w' : World} {v : Value} {X : Rec} (h : InR k w v X) (hb : Below w.heap.size w w') : InR k w' v X := by
  obtain ⟨a, cap, hv, hm, h⟩ := h
  exact ⟨a, cap, hv, hm, fun hx => by obtain ⟨g, off, ha, hi⟩ := h hx; exact ⟨g, off, ha, hi.below hb⟩⟩
/-- A slice of records in the call's own memory, not nil. -/
def RowR (k : Nat) (w : World) (B : Nat) (v : Value) (X : Rec) : Prop :=
  ∃ g, v = .slice (some ⟨g, 0, none⟩) X.length X.length ∧ B ≤ g ∧ g < w.heap.size ∧ X.length < 1000000000 ∧ RowC w g 0 X.length k X.f ∧ ∀ i, w.frozen? ⟨g, i, none⟩ = false
theorem RowR.lt {k : Nat} {w : World} {B : Nat} {v : Value} {X : Rec} (h : RowR k w B v X) : ∀ b, v.ownBlock = some b → B ≤ b ∧ b < w.heap.size := by
  obtain ⟨g, rfl, h1, h2, _⟩ := h
  intro b hb
  cases hb
  exact ⟨h1, h2⟩
theorem RowR.below {k : Nat} {w w' : World} {B : Nat} {v : Value} {X : Rec} (h : RowR k w B v X) (hb : Below w.heap.size w w') : RowR k w' B v X := by
  obtain ⟨g, rfl, h1, h2, h3, h4, h5⟩ := h
  refine ⟨g, rfl, h1, Nat.lt_of_lt_of_le h2 hb.size, h3, h4.below hb, fun i => ?_⟩
  rw [hb.frozen h2]
  exact h5 i

/-- Cells that are there and may be written. -/
def There (w : World) (g m : Nat) : Prop := g < w.heap.size ∧ (∀ i, i < m → (w.cell? ⟨g, i, none⟩).isSome = true) ∧ ∀ i, w.frozen? ⟨g, i, none⟩ = false
theorem There.below {w w' : World} {g m : Nat} (h : There w g m) (hb : Below w.heap.size w w') : There w' g m :=
  ⟨Nat.lt_of_lt_of_le h.1 hb.size, fun i hi => by rw [hb.cell h.1]; exact h.2.1 i hi, fun i => by rw [hb.frozen h.1]; exact h.2.2 i⟩
theorem There.set {w : World} {g m : Nat} (h : There w g m) (i : Nat) (v : Value) : There (w.setCell ⟨g, i, none⟩ v) g m := by
  refine ⟨by simpa using h.1, fun j hj => ?_, fun j => by rw [World.frozen?_setCell]; exact h.2.2 j⟩
  obtain ⟨x, hx⟩ := Option.isSome_iff_exists.1 (h.2.1 j hj)
  by_cases e : i = j
  · subst e; rw [World.cell?_setCell_same _ _ _ hx]; rfl
  · rw [World.cell?_setCell_other _ _ _ _ (by intro h; cases h; exact e rfl)]; exact h.2.1 j hj
/-- The first m cells of a block. -/
def CellsTo (w : World) (g m : Nat) (f : Nat → Int) : Prop := ∀ i, i < m → w.cell? ⟨g, i, none⟩ = some (.int .i64 (f i))
theorem CellsTo.below {w w' : World} {g m : Nat} {f : Nat → Int} (h : CellsTo w g m f) (hb : Below w.heap.size w w') : CellsTo w' g m f := fun i hi => Below.cellOf hb rfl (h i hi)
theorem CellsTo.set {w : World} {g v M : Nat} {f : Nat → Int} (h : CellsTo w g v f) (ht : There w g M) (hv : v < M) : CellsTo (w.setCell ⟨g, v, none⟩ (.int .i64 (f v))) g (v + 1) f := by
  intro i hi
  by_cases e : v = i
  · subst e
    obtain ⟨x, hx⟩ := Option.isSome_iff_exists.1 (ht.2.1 v hv)
    rw [World.cell?_setCell_same _ _ _ hx]
  · rw [World.cell?_setCell_other _ _ _ _ (by intro h; cases h; exact e rfl)]; exact h i (by omega)
theorem CellsTo.row {w : World} {g n k : Nat} {f : Nat → Int} (h : CellsTo w g (n * k) f) : RowC w g 0 n k f := by
  intro i hi j hj
  have : i * k + j < n * k := by
    have : (i + 1) * k ≤ n * k := Nat.mul_le_mul_right k (by omega)
    rw [Nat.add_mul] at this
    omega
  have := h (i * k + j) this
  rwa [← Nat.zero_add (i * k + j), ← Nat.add_assoc] at this ⊢
theorem There.at {w : World} {g m : Nat} (h : There w g m) (i : Nat) (hi : i < m) : ∃ x, w.cell? ⟨g, i, none⟩ = some x := Option.isSome_iff_exists.1 (h.2.1 i hi)
theorem wpList_mkR {P : Program} (w : World) {ops : Array Oper} {rest : List Oper} {o : Oper} {a : Act} {Q : Exit → Act → World → Prop}
    (hg : o.guard = none) (l c : Operand) (t : TypeId) (hop : o.op = Op.makeSlice t l c)
    (E : TypeId) (z : Value) (size bytes : Nat) (hi : (P.info? E).map (fun i => (i.zero, i.size, i.bytes)) = some (some z, size, bytes)) (hby : bytes ≤ 100) (ht : P.underlying t = some (.slice E))
    (kl kc : IntKind) (L C : Int) (n : Nat) (hl : a.eval l = .int kl L) (hc : a.eval c = .int kc C) (hL : L = (n : Int)) (hC : C = (n : Int)) (hn : n < 1000000000)
    (hK : ∀ w', There w' w.heap.size (n * size) → Below w.heap.size w w' → wpList P ops Q rest (a.put o.dst (.slice (some ⟨w.heap.size, 0, none⟩) n n)) w') :
    wpList P ops Q (o :: rest) a w := by
  obtain ⟨i0, hi0, hz0, hz1, hz2⟩ := info_parts hi
  have hb : i0.bytes * n ≤ 281474976710656 := by
    rw [hz2]
    have : bytes * n ≤ 100 * n := Nat.mul_le_mul_right n hby
    omega
  refine wpList_make_full w hg l c t hop w.heap.size E i0 z size ht hi0 hz0 hz1 kl kc L C n hl hc hL hC hb (by unfold maxLen; omega) (Nat.le_refl _) fun w' hown hgr => hK w' ⟨(World.ownsRow.lt hown _ rfl).2, fun i hi => ?_, fun i => World.ownsRow.frozenAt hown i⟩ ((Below.refl _ _).grown hgr (Nat.le_refl _) (fun k hk => by cases hk))
  have hlen := hown.1
  have := World.ownsRow.cells hown rfl i _ (List.getElem?_eq_getElem (by omega))
  have e1 : (⟨w.heap.size, 0, none⟩ : Addr).add i = ⟨w.heap.size, i, none⟩ := by unfold Addr.add; split <;> simp_all
  rw [e1] at this
  rw [this]
  rfl
end Go.Proofs.Ytdaijapdfleohaa
