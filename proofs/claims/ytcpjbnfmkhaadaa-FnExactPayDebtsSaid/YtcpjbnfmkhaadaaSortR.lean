/-
  A row of integers that is written: two cells exchanged. No program in sight. No condition.
-/
import Derived.Test.YtcpjbnfmkhaadaaSortQ
import Derived.Test.YtcpjbnfmkhaadaaKept
namespace Go.Proofs.Ytcpjbnfmkhaadaa
open Go.RowKit
set_option linter.unusedVariables false

/-- A row of integers that may be written. -/
def RowAt (w : World) (g n : Nat) (h : Nat → Int) : Prop := Ints w g 0 n h ∧ ∀ i, w.frozen? ⟨g, i, none⟩ = false
theorem RowAt.at {w : World} {g n : Nat} {h : Nat → Int} (r : RowAt w g n h) (i : Nat) (hi : i < n) : w.cell? ⟨g, i, none⟩ = some (.int .i64 (h i)) := r.1.at0 i hi
theorem RowAt.below {w w' : World} {g n : Nat} {h : Nat → Int} (r : RowAt w g n h) (hg : g < w.heap.size) (hb : Below w.heap.size w w') : RowAt w' g n h :=
  ⟨r.1.below hb, fun i => (hb.frozen (p := ⟨g, i, none⟩) hg).trans (r.2 i)⟩
theorem RowAt.drewN {w : World} {g n : Nat} {h : Nat → Int} (r : RowAt w g n h) (hg : g < w.heap.size) (q : Nat) : RowAt (w.drewN q) g n h := r.below hg (Below.drewN' (Below.refl _ _) q)
theorem RowAt.set {w : World} {g n : Nat} {h : Nat → Int} (r : RowAt w g n h) (j : Nat) (hj : j < n) (y : Int) : RowAt (w.setCell ⟨g, j, none⟩ (.int .i64 y)) g n (upd h j y) := by
  refine ⟨fun i hi => ?_, fun i => by rw [World.frozen?_setCell]; exact r.2 i⟩
  rw [Nat.zero_add]
  by_cases e : i = j
  · subst e
    rw [World.cell?_setCell_same _ _ _ (r.at i hi), upd_at]
  · rw [World.cell?_setCell_other _ _ _ _ (by intro h; cases h; exact e rfl), upd_ne _ _ e]
    exact r.at i hi
theorem RowAt.swap {w : World} {g n : Nat} {h : Nat → Int} (r : RowAt w g n h) {i j : Nat} (hi : i < n) (hj : j < n) (hij : i ≠ j) : RowAt ((w.setCell ⟨g, i, none⟩ (.int .i64 (h j))).setCell ⟨g, j, none⟩ (.int .i64 (h i))) g n (swp h i j) := by
  have := (r.set i hi (h j)).set j hj (h i)
  have e : upd (upd h i (h j)) j (h i) = swp h i j := by
    funext k
    unfold upd swp
    by_cases c1 : k = j
    · subst c1
      rw [if_pos rfl, if_neg (Ne.symm hij), if_pos rfl]
    · rw [if_neg c1]
      by_cases c2 : k = i
      · rw [if_pos c2, if_pos c2]
      · rw [if_neg c2, if_neg c2, if_neg c1]
  rwa [e] at this
theorem RowAt.lt {w : World} {g n : Nat} {h : Nat → Int} (r : RowAt w g n h) (hn : 0 < n) : g < w.heap.size := World.block_lt_of_cell? w _ (r.at 0 hn)
theorem RowAt.swapD {w : World} {g n : Nat} {h : Nat → Int} (r : RowAt w g n h) {i j : Nat} (hi : i < n) (hj : j < n) (hij : i ≠ j) : RowAt (((w.setCell ⟨g, i, none⟩ (.int .i64 (h j))).setCell ⟨g, j, none⟩ (.int .i64 (h i))).drew) g n (swp h i j) := by
  have := r.swap hi hj hij
  exact this.below (this.lt (by omega)) (Below.refl _ _).drew
theorem Kept.swapD {S : Nat → Prop} {w0 w : World} {g : Nat} (k : Kept S w0 w) (hg : S g) (i j : Nat) (u v : Value) : Kept S w0 (((w.setCell ⟨g, i, none⟩ u).setCell ⟨g, j, none⟩ v).drew) :=
  ((k.setCell (p := ⟨g, i, none⟩) hg u).setCell (p := ⟨g, j, none⟩) hg v).next (Below.refl _ _).drew
end Go.Proofs.Ytcpjbnfmkhaadaa
