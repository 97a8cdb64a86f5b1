/-
  What a call leaves as it was: all blocks but some. Rows of a call's own told by their rule. No program in sight. No condition.
-/
import Derived.Test.YtdaijapdfleohaaBase
import Derived.Test.YtdaijapdfleohaaTab
namespace Go.Proofs.Ytdaijapdfleohaa
open Go.RowKit
set_option linter.unusedVariables false

/-- A call that changes no block but those of S, and new ones. -/
structure Kept (S : Nat → Prop) (w w' : World) : Prop where
  os : w'.os = w.os
  tape : w'.tape = w.tape
  output : w'.output = w.output
  size : w.heap.size ≤ w'.heap.size
  block : ∀ k, k < w.heap.size → ¬ S k → w'.heap[k]? = w.heap[k]?
theorem Kept.refl (S : Nat → Prop) (w : World) : Kept S w w := ⟨rfl, rfl, rfl, Nat.le_refl _, fun _ _ _ => rfl⟩
theorem Kept.trans {S : Nat → Prop} {w w1 w2 : World} (h : Kept S w w1) (h' : Kept S w1 w2) : Kept S w w2 :=
  ⟨h'.os.trans h.os, h'.tape.trans h.tape, h'.output.trans h.output, Nat.le_trans h.size h'.size, fun k hk hd => (h'.block k (Nat.lt_of_lt_of_le hk h.size) hd).trans (h.block k hk hd)⟩
theorem Kept.more {S S' : Nat → Prop} {w w' : World} (h : Kept S w w') (hs : ∀ k, S k → S' k) : Kept S' w w' :=
  ⟨h.os, h.tape, h.output, h.size, fun k hk hd => h.block k hk (fun e => hd (hs k e))⟩
theorem Kept.setCell {S : Nat → Prop} {a w : World} (h : Kept S a w) {p : Addr} (h1 : S p.block) (u : Value) : Kept S a (w.setCell p u) :=
  ⟨h.os, h.tape, h.output, by simpa using h.size, fun k hk hd => (Below.heap_setCell _ _ _ _ (by intro e; exact hd (e ▸ h1))).trans (h.block k hk hd)⟩
theorem Kept.drewN' {S : Nat → Prop} {a w : World} (h : Kept S a w) (n : Nat) : Kept S a (w.drewN n) := by
  induction n with
  | zero => exact h
  | succ n ih => exact ⟨ih.os, ih.tape, ih.output, ih.size, ih.block⟩
theorem Kept.quiet {S : Nat → Prop} {a w w' : World} (h : Kept S a w) (hq : ∃ n, w' = w.drewN n) : Kept S a w' := by
  obtain ⟨n, rfl⟩ := hq
  exact Kept.drewN' h n
theorem Below.kept {S : Nat → Prop} {w w' : World} (h : Below w.heap.size w w') : Kept S w w' := ⟨h.os, h.tape, h.output, h.size, fun k hk _ => h.block k hk⟩
theorem Kept.next {S : Nat → Prop} {a w w' : World} (h : Kept S a w) (hb : Below w.heap.size w w') : Kept S a w' := h.trans (Below.kept hb)
theorem Kept.toBelow {S : Nat → Prop} {B : Nat} {w w' : World} (h : Kept S w w') (hB : ∀ k, S k → B ≤ k) (hs : B ≤ w.heap.size) : Below B w w' :=
  ⟨h.os, h.tape, h.output, h.size, fun k hk => h.block k (by omega) (fun e => by have := hB k e; omega)⟩
theorem Kept.cellOf {S : Nat → Prop} {g i : Nat} {w w' : World} {v : Value} (ho : Kept S w w') (hd : ¬ S g) (h : w.cell? ⟨g, i, none⟩ = some v) : w'.cell? ⟨g, i, none⟩ = some v := by
  have hlt := World.block_lt_of_cell? w _ h
  have hb := ho.block g hlt hd
  unfold World.cell? at h ⊢
  rw [hb]
  exact h
theorem Kept.ints {S : Nat → Prop} {w w' : World} {g off n : Nat} {f : Nat → Int} (ho : Kept S w w') (hd : ¬ S g) (h : Ints w g off n f) : Ints w' g off n f := fun i hi => ho.cellOf hd (h i hi)
theorem Kept.own {S : Nat → Prop} {E : TypeId} {w w' : World} {B : Nat} {v : Value} {xs : List Int} (ho : Kept S w w') (h : Own E w B v xs) (hd : ∀ k, v.ownBlock = some k → ¬ S k) : Own E w' B v xs :=
  h.block fun k hk => ho.block k (h.lt k hk).2 (hd k hk)

/-- A row told by its rule: its cells, a write into it. -/
theorem Own.cellTab {E : TypeId} {w : World} {B g n c : Nat} {h : Nat → Int} (ho : Own E w B (.slice (some ⟨g, 0, none⟩) n c) (tab h n)) (i : Nat) (hi : i < n) : w.cell? ⟨g, i, none⟩ = some (.int .i64 (h i)) := by
  have := ho.cellAt i (by rw [tab_length]; exact hi)
  rwa [tab_get _ _ _ hi] at this
theorem Own.tabSet {E : TypeId} {w : World} {B g n c : Nat} {h : Nat → Int} (ho : Own E w B (.slice (some ⟨g, 0, none⟩) n c) (tab h n)) (h' : Nat → Int) (j : Nat) (hj : j < n) (y : Int) (hy : h' j = y) (e : ∀ i, i < n → i ≠ j → h i = h' i) :
    Own E (w.setCell ⟨g, j, none⟩ (.int .i64 y)) B (.slice (some ⟨g, 0, none⟩) n c) (tab h' n) := by
  have := ho.set (tab_length h n).symm j y
  rw [← hy] at this ⊢
  rwa [tab_set h h' n j hj e] at this
theorem Own.keep {E : TypeId} {w : World} {B g n c : Nat} {xs : List Int} (ho : Own E w B (.slice (some ⟨g, 0, none⟩) n c) xs) (p : Addr) (hp : p.block ≠ g) (u : Value) : Own E (w.setCell p u) B (.slice (some ⟨g, 0, none⟩) n c) xs :=
  ho.block fun k hk => Below.heap_setCell _ _ _ _ (by intro e; cases hk; exact hp e.symm)
theorem Own.lt0 {E : TypeId} {w : World} {B g n c : Nat} {xs : List Int} (ho : Own E w B (.slice (some ⟨g, 0, none⟩) n c) xs) : B ≤ g ∧ g < w.heap.size := ho.lt g rfl
/-- One number put in the place of another. -/
def upd (f : Nat → Int) (k : Nat) (y : Int) : Nat → Int := fun i => if i = k then y else f i
theorem upd_self (f : Nat → Int) (k : Nat) : upd f k (f k) = f := by
  funext i
  unfold upd
  split
  · rename_i h; rw [h]
  · rfl
theorem upd_at (f : Nat → Int) (k : Nat) (y : Int) : upd f k y k = y := if_pos rfl
theorem upd_ne (f : Nat → Int) {k i : Nat} (y : Int) (h : i ≠ k) : upd f k y i = f i := if_neg h
end Go.Proofs.Ytdaijapdfleohaa
