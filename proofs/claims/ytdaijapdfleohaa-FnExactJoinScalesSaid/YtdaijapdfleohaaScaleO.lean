/-
  A scale in memory: two slices, as it came in or in memory of a call's own. No program in sight. No condition.
-/
import Derived.Test.YtdaijapdfleohaaBase
import Derived.Test.YtdaijapdfleohaaTwo
import Derived.Test.YtdaijapdfleohaaScaleP
namespace Go.Proofs.Ytdaijapdfleohaa
open Go.RowKit
set_option linter.unusedVariables false

/-- Whether a block is one of a scale's two. -/
def inS (v : Value) (k : Nat) : Prop := ∃ vb vr, v = .agg #[vb, vr] ∧ (vb.ownBlock = some k ∨ vr.ownBlock = some k)
/-- A scale that came in. -/
def InS (w : World) (v : Value) (b r : List Int) : Prop :=
  ∃ ab cb ar cr, v = .agg #[.slice ab b.length cb, .slice ar r.length cr] ∧ b.length ≤ maxLen ∧ r.length ≤ maxLen ∧ InI w (.slice ab b.length cb) b ∧ InI w (.slice ar r.length cr) r
theorem InS.below {w w' : World} {v : Value} {b r : List Int} (h : InS w v b r) (hb : Below w.heap.size w w') : InS w' v b r := by
  obtain ⟨ab, cb, ar, cr, hv, h1, h2, h3, h4⟩ := h
  exact ⟨ab, cb, ar, cr, hv, h1, h2, h3.below hb, h4.below hb⟩
/-- A scale in the call's own memory. -/
def OwnS (E : TypeId) (w : World) (B : Nat) (v : Value) (b r : List Int) : Prop := ∃ vb vr, v = .agg #[vb, vr] ∧ Own E w B vb b ∧ Own E w B vr r ∧ Apart vb vr
theorem OwnS.lt {E : TypeId} {w : World} {B : Nat} {v : Value} {b r : List Int} (h : OwnS E w B v b r) : ∀ k, inS v k → B ≤ k ∧ k < w.heap.size := by
  obtain ⟨vb, vr, rfl, h1, h2, _⟩ := h
  rintro k ⟨ub, ur, he, hk⟩
  cases he
  rcases hk with hk | hk
  · exact h1.lt k hk
  · exact h2.lt k hk
theorem OwnS.below {E : TypeId} {w w' : World} {B : Nat} {v : Value} {b r : List Int} (h : OwnS E w B v b r) (hb : Below w.heap.size w w') : OwnS E w' B v b r := by
  obtain ⟨vb, vr, hv, h1, h2, d⟩ := h
  exact ⟨vb, vr, hv, h1.below hb, h2.below hb, d⟩
theorem OwnS.only {E : TypeId} {w w' : World} {B lo hi : Nat} {v : Value} {b r : List Int} (h : OwnS E w B v b r) (ho : Only lo hi w w') (hd : ∀ k, inS v k → k < lo ∨ hi ≤ k) : OwnS E w' B v b r := by
  obtain ⟨vb, vr, rfl, h1, h2, d⟩ := h
  exact ⟨vb, vr, rfl, h1.only ho (fun k hk => hd k ⟨vb, vr, rfl, .inl hk⟩), h2.only ho (fun k hk => hd k ⟨vb, vr, rfl, .inr hk⟩), d⟩
/-- A scale in the call's own memory whose lists are not nil. -/
def RowS (E : TypeId) (w : World) (B : Nat) (v : Value) (b r : List Int) : Prop := ∃ vb vr, v = .agg #[vb, vr] ∧ RowI E w B vb b ∧ RowI E w B vr r ∧ Apart vb vr
theorem RowS.own {E : TypeId} {w : World} {B : Nat} {v : Value} {b r : List Int} (h : RowS E w B v b r) : OwnS E w B v b r := by
  obtain ⟨vb, vr, hv, h1, h2, d⟩ := h
  exact ⟨vb, vr, hv, h1.own, h2.own, d⟩
theorem RowS.lt {E : TypeId} {w : World} {B : Nat} {v : Value} {b r : List Int} (h : RowS E w B v b r) : ∀ k, inS v k → B ≤ k ∧ k < w.heap.size := h.own.lt
theorem RowS.below {E : TypeId} {w w' : World} {B : Nat} {v : Value} {b r : List Int} (h : RowS E w B v b r) (hb : Below w.heap.size w w') : RowS E w' B v b r := by
  obtain ⟨vb, vr, hv, h1, h2, d⟩ := h
  exact ⟨vb, vr, hv, h1.below hb, h2.below hb, d⟩
theorem RowS.only {E : TypeId} {w w' : World} {B lo hi : Nat} {v : Value} {b r : List Int} (h : RowS E w B v b r) (ho : Only lo hi w w') (hd : ∀ k, inS v k → k < lo ∨ hi ≤ k) : RowS E w' B v b r := by
  obtain ⟨vb, vr, rfl, h1, h2, d⟩ := h
  exact ⟨vb, vr, rfl, h1.only ho (fun k hk => hd k ⟨vb, vr, rfl, .inl hk⟩), h2.only ho (fun k hk => hd k ⟨vb, vr, rfl, .inr hk⟩), d⟩
theorem RowS.form {E : TypeId} {w : World} {B : Nat} {v : Value} {b r : List Int} (h : RowS E w B v b r) :
    ∃ gb cb gr cr, v = .agg #[.slice (some ⟨gb, 0, none⟩) b.length cb, .slice (some ⟨gr, 0, none⟩) r.length cr] ∧ b.length < 1000000000 ∧ r.length < 1000000000 ∧ Ints w gb 0 b.length (fun i => b.getD i 0) ∧ Ints w gr 0 r.length (fun i => r.getD i 0) := by
  obtain ⟨vb, vr, rfl, h1, h2, _⟩ := h
  obtain ⟨gb, cb, rfl, _, _, _, _, I1, _, m1⟩ := h1.form
  obtain ⟨gr, cr, rfl, _, _, _, _, I2, _, m2⟩ := h2.form
  exact ⟨gb, cb, gr, cr, rfl, m1, m2, I1, I2⟩
theorem RowS.form2 {E : TypeId} {w : World} {B : Nat} {v : Value} {b r : List Int} (h : RowS E w B v b r) :
    ∃ gb cb gr cr, v = .agg #[.slice (some ⟨gb, 0, none⟩) b.length cb, .slice (some ⟨gr, 0, none⟩) r.length cr] ∧ b.length < 1000000000 ∧ r.length < 1000000000 ∧ Ints w gb 0 b.length (fun i => b.getD i 0) ∧ Ints w gr 0 r.length (fun i => r.getD i 0) ∧ gb < w.heap.size ∧ gr < w.heap.size := by
  obtain ⟨vb, vr, rfl, h1, h2, _⟩ := h
  obtain ⟨gb, cb, rfl, _, l1, _, _, I1, _, m1⟩ := h1.form
  obtain ⟨gr, cr, rfl, _, l2, _, _, I2, _, m2⟩ := h2.form
  exact ⟨gb, cb, gr, cr, rfl, m1, m2, I1, I2, l1, l2⟩
/-- A row, and a cell, in a block below that from which on a world has changed. -/
theorem Ints.belowAt {w w' : World} {B g off n : Nat} {f : Nat → Int} (h : Ints w g off n f) (hb : Below B w w') (hg : g < B) : Ints w' g off n f := fun i hi => (hb.cell (p := ⟨g, off + i, none⟩) hg).trans (h i hi)
theorem cellAtB {w w' : World} {B : Nat} {p : Addr} {v : Value} (h : w.cell? p = some v) (hb : Below B w w') (hg : p.block < B) : w'.cell? p = some v := (hb.cell hg).trans h
theorem RowS.shape {E : TypeId} {w : World} {B : Nat} {v : Value} {b r : List Int} (h : RowS E w B v b r) :
    ∃ gb cb gr cr, v = .agg #[.slice (some ⟨gb, 0, none⟩) b.length cb, .slice (some ⟨gr, 0, none⟩) r.length cr] := by
  obtain ⟨gb, cb, gr, cr, hv, _⟩ := h.form
  exact ⟨gb, cb, gr, cr, hv⟩
/-- A cell that such a call does not reach. -/
theorem Only.cellOf {lo hi g i : Nat} {w w' : World} {v : Value} (ho : Only lo hi w w') (hd : g < lo ∨ hi ≤ g) (h : w.cell? ⟨g, i, none⟩ = some v) : w'.cell? ⟨g, i, none⟩ = some v := by
  have hlt := World.block_lt_of_cell? w _ h
  have hb := ho.block g hlt hd
  unfold World.cell? at h ⊢
  rw [hb]
  exact h
/-- A scale, and whether it is one. -/
def RetS (E : TypeId) (w : World) (b r : List Int) (ok : Bool) (e : Ending) (w' : World) : Prop :=
  ∃ v, e = .returned (.tuple #[v, .bool ok]) ∧ OwnS E w' w.heap.size v b r ∧ (b.length < 1000000000 ∧ r.length < 1000000000) ∧ Below w.heap.size w w'
theorem RetS.no (E : TypeId) {w w' : World} (hb : Below w.heap.size w w') : RetS E w [] [] false (.returned (.tuple #[.agg #[.slice none 0 0, .slice none 0 0], .bool false])) w' :=
  ⟨_, rfl, ⟨_, _, rfl, Own.nil _ _ _, Own.nil _ _ _, fun k h _ => by cases h⟩, ⟨by decide, by decide⟩, hb⟩
end Go.Proofs.Ytdaijapdfleohaa
