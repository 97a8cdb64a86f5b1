/-
  Slices of records of integers that came to be by append: they may have room to spare. No program in sight. No condition.
-/
import Derived.Test.YtjopeidmfgkhnaaBase
import Derived.Test.YtjopeidmfgkhnaaRec
import Derived.Maps.AppendAt
namespace Go.Proofs.Ytjopeidmfgkhnaa
open Go.RowKit
set_option linter.unusedVariables false

/-- The cells of so many integers. -/
def cl (f : Nat → Int) (m : Nat) : List Value := (List.range m).map fun i => Value.int .i64 (f i)
theorem cl_len (f : Nat → Int) (m : Nat) : (cl f m).length = m := by simp [cl]
theorem cl_get {f : Nat → Int} {m i : Nat} (hi : i < m) : (cl f m)[i]? = some (.int .i64 (f i)) := by simp [cl, hi]
theorem cl_snoc (f : Nat → Int) (m : Nat) : cl f (m + 1) = cl f m ++ [.int .i64 (f m)] := by simp [cl, List.range_succ]
theorem cl_congr {f h : Nat → Int} {m : Nat} (e : ∀ i, i < m → f i = h i) : cl f m = cl h m := by
  unfold cl
  exact List.map_congr_left fun i hi => by rw [e i (by simpa using hi)]

/-- A slice of records in the call's own memory, nil or with room to spare. -/
def OwnR (k : Nat) (w : World) (B : Nat) (v : Value) (X : Rec) : Prop :=
  (v = .slice none 0 0 ∧ X.length = 0) ∨ ∃ g cap, v = .slice (some ⟨g, 0, none⟩) X.length cap ∧ B ≤ g ∧ g < w.heap.size ∧ X.length < 1000000000 ∧ RowC w g 0 X.length k X.f ∧ ∀ i, w.frozen? ⟨g, i, none⟩ = false
theorem OwnR.lt {k : Nat} {w : World} {B : Nat} {v : Value} {X : Rec} (h : OwnR k w B v X) : ∀ b, v.ownBlock = some b → B ≤ b ∧ b < w.heap.size := by
  rcases h with ⟨rfl, _⟩ | ⟨g, cap, rfl, h1, h2, _⟩
  · intro b hb; cases hb
  · intro b hb
    cases hb
    exact ⟨h1, h2⟩
theorem OwnR.block {k : Nat} {w w' : World} {B : Nat} {v : Value} {X : Rec} (h : OwnR k w B v X) (hs : w.heap.size ≤ w'.heap.size) (hb : ∀ b, v.ownBlock = some b → w'.heap[b]? = w.heap[b]?) : OwnR k w' B v X := by
  rcases h with h | ⟨g, cap, rfl, h1, h2, h3, h4, h5⟩
  · exact .inl h
  · have hg := hb g rfl
    refine .inr ⟨g, cap, rfl, h1, Nat.lt_of_lt_of_le h2 hs, h3, fun i hi j hj => ?_, fun i => ?_⟩
    · have := h4 i hi j hj
      unfold World.cell? at this ⊢
      rw [hg]
      exact this
    · have := h5 i
      unfold World.frozen? at this ⊢
      rw [hg]
      exact this
theorem OwnR.below {k : Nat} {w w' : World} {B : Nat} {v : Value} {X : Rec} (h : OwnR k w B v X) (hb : Below w.heap.size w w') : OwnR k w' B v X := h.block hb.size fun b e => hb.block b (h.lt b e).2
theorem OwnR.only {k : Nat} {w w' : World} {B lo hi : Nat} {v : Value} {X : Rec} (h : OwnR k w B v X) (ho : Only lo hi w w') (hd : ∀ b, v.ownBlock = some b → b < lo ∨ hi ≤ b) : OwnR k w' B v X := h.block ho.size fun b e => ho.block b (h.lt b e).2 (hd b e)
theorem OwnR.mono {k : Nat} {w : World} {B B' : Nat} {v : Value} {X : Rec} (h : OwnR k w B v X) (hB : B' ≤ B) : OwnR k w B' v X := by
  rcases h with h | ⟨g, cap, h0, h1, h2⟩
  · exact .inl h
  · exact .inr ⟨g, cap, h0, Nat.le_trans hB h1, h2⟩
/-- A list of records, and whether it is one. -/
def RetR (k : Nat) (w : World) (X : Rec) (ok : Bool) (e : Ending) (w' : World) : Prop :=
  ∃ v, e = .returned (.tuple #[v, .bool ok]) ∧ OwnR k w' w.heap.size v X ∧ X.length < 1000000000 ∧ Below w.heap.size w w'
theorem RetR.no {k : Nat} {w w' : World} {X : Rec} (hX : X.length = 0) (hb : Below w.heap.size w w') : RetR k w X false (.returned (.tuple #[.slice none 0 0, .bool false])) w' := ⟨_, rfl, .inl ⟨rfl, hX⟩, by omega, hb⟩
theorem OwnR.of {k n : Nat} {w : World} {B g cap : Nat} {E : TypeId} {f : Nat → Int} (h : w.ownsRow B E k (.slice (some ⟨g, 0, none⟩) n cap) n (cl f (n * k))) (hn : n < 1000000000) : OwnR k w B (.slice (some ⟨g, 0, none⟩) n cap) ⟨n, f⟩ := by
  have hl := World.ownsRow.lt h g rfl
  refine .inr ⟨g, cap, rfl, hl.1, hl.2, hn, fun i hi j hj => ?_, fun i => World.ownsRow.frozenAt h i⟩
  have hlt : i * k + j < n * k := by
    have : (i + 1) * k ≤ n * k := Nat.mul_le_mul_right k (by show i + 1 ≤ n; exact hi)
    rw [Nat.add_mul] at this
    omega
  have := World.ownsRow.cellAt h (i * k + j) hlt
  rw [Nat.add_assoc, Nat.zero_add, this]
  exact cl_get hlt
end Go.Proofs.Ytjopeidmfgkhnaa
