/-
  Words that the walks of this claim share: a row of integers in memory, a slice of the call's own, and what a call leaves as it was. No program in sight. No condition.
-/
import Derived.WalkKit
import Derived.ProofKit
import Derived.Handy
import Derived.WalkLawsBesides
import Derived.Deep.QuietTactic
import Derived.BigQuiet
import Derived.Lib.Hide
import Derived.Laws.CopyOwn

namespace Go.Proofs.Ytpigjhagdpeofaa
open Go.RowKit

/-- A row of integers that begins at a place. -/
def Ints (w : World) (g off n : Nat) (f : Nat → Int) : Prop := ∀ i, i < n → w.cell? ⟨g, off + i, none⟩ = some (.int .i64 (f i))

/-- A slice that is nil or a row of the call's own, and the integers in it. -/
def Own (E : TypeId) (w : World) (B : Nat) (v : Value) (xs : List Int) : Prop := w.ownsRow B E 1 v xs.length (xs.map (Value.int .i64))

/-- A call that changes no block but those from lo on below hi. -/
structure Only (lo hi : Nat) (w w' : World) : Prop where
  os : w'.os = w.os
  tape : w'.tape = w.tape
  output : w'.output = w.output
  size : w.heap.size ≤ w'.heap.size
  block : ∀ k, k < w.heap.size → (k < lo ∨ hi ≤ k) → w'.heap[k]? = w.heap[k]?

theorem Ints.at {w : World} {g off n : Nat} {f : Nat → Int} (h : Ints w g off n f) (i : Nat) (hi : i < n) : w.cell? ⟨g, off + i, none⟩ = some (.int .i64 (f i)) := h i hi
theorem Ints.at0 {w : World} {g n : Nat} {f : Nat → Int} (h : Ints w g 0 n f) (i : Nat) (hi : i < n) : w.cell? ⟨g, i, none⟩ = some (.int .i64 (f i)) := by
  have := h i hi
  rwa [Nat.zero_add] at this

theorem Below.cellOf {B : Nat} {w w' : World} (hb : Below B w w') {p : Addr} {v : Value} (hB : B = w.heap.size) (h : w.cell? p = some v) : w'.cell? p = some v :=
  (hb.cell (by rw [hB]; exact World.block_lt_of_cell? w p h)).trans h

theorem Ints.below {w w' : World} {g off n : Nat} {f : Nat → Int} (h : Ints w g off n f) (hb : Below w.heap.size w w') : Ints w' g off n f :=
  fun i hi => Below.cellOf hb rfl (h i hi)

theorem Below.drewN' {B : Nat} {a w : World} (h : Below B a w) (n : Nat) : Below B a (w.drewN n) := by
  induction n with
  | zero => exact h
  | succ n ih => exact ⟨ih.os, ih.tape, ih.output, ih.size, ih.block⟩
theorem Below.quiet {B : Nat} {a w w' : World} (h : Below B a w) (hq : ∃ n, w' = w.drewN n) : Below B a w' := by
  obtain ⟨n, rfl⟩ := hq
  exact Below.drewN' h n

/-- Two calls, one behind the other. -/
theorem bnext {w w1 w2 : World} (h : Below w.heap.size w w1) (h' : Below w1.heap.size w1 w2) : Below w.heap.size w w2 := h.trans (h'.mono h.size)

theorem Own.nil (E : TypeId) (w : World) (B : Nat) : Own E w B (.slice none 0 0) [] := World.ownsRow_nil w B E 1
theorem Own.lt {E : TypeId} {w : World} {B : Nat} {v : Value} {xs : List Int} (h : Own E w B v xs) : ∀ k, v.ownBlock = some k → B ≤ k ∧ k < w.heap.size := World.ownsRow.lt h
theorem Own.mono {E : TypeId} {w : World} {B B' : Nat} {v : Value} {xs : List Int} (h : Own E w B v xs) (hB : B' ≤ B) : Own E w B' v xs := by
  obtain ⟨h1, h2⟩ := h
  refine ⟨h1, ?_⟩
  rcases h2 with h2 | ⟨g, cap, cur, hv, hg, r⟩
  · exact .inl h2
  · exact .inr ⟨g, cap, cur, hv, Nat.le_trans hB hg, r⟩
theorem Own.block {E : TypeId} {w w' : World} {B : Nat} {v : Value} {xs : List Int} (h : Own E w B v xs) (hb : ∀ k, v.ownBlock = some k → w'.heap[k]? = w.heap[k]?) : Own E w' B v xs := by
  obtain ⟨h1, h2⟩ := h
  refine ⟨h1, ?_⟩
  rcases h2 with h2 | ⟨g, cap, cur, rfl, hg, hh, r⟩
  · exact .inl h2
  · exact .inr ⟨g, cap, cur, rfl, hg, by rw [hb g rfl]; exact hh, r⟩
theorem Own.below {E : TypeId} {w w' : World} {B : Nat} {v : Value} {xs : List Int} (h : Own E w B v xs) (hb : Below w.heap.size w w') : Own E w' B v xs :=
  h.block fun k hk => hb.block k (h.lt k hk).2
theorem Own.only {E : TypeId} {w w' : World} {B lo hi : Nat} {v : Value} {xs : List Int} (h : Own E w B v xs) (ho : Only lo hi w w') (hd : ∀ k, v.ownBlock = some k → k < lo ∨ hi ≤ k) : Own E w' B v xs :=
  h.block fun k hk => ho.block k (h.lt k hk).2 (hd k hk)
/-- What marking another slice of the same call leaves of this one. -/
theorem Own.onlyOf {E : TypeId} {w w' : World} {B : Nat} {v u : Value} {xs : List Int} (h : Own E w B v xs) (ho : ∀ lo hi, (∀ b, u.ownBlock = some b → lo ≤ b ∧ b < hi) → Only lo hi w w') (hd : ∀ k, v.ownBlock = some k → u.ownBlock = some k → False) : Own E w' B v xs := by
  cases hu : u.ownBlock with
  | none => exact h.only (ho 0 0 (fun b hb => by rw [hu] at hb; cases hb)) (fun k hk => .inr (Nat.zero_le _))
  | some g => exact h.only (ho g (g + 1) (fun b hb => by rw [hu] at hb; cases hb; exact ⟨Nat.le_refl _, Nat.lt_succ_self _⟩)) (fun k hk => by have : k ≠ g := fun e => hd k hk (by rw [e]; exact hu); omega)
theorem Own.drewN {E : TypeId} {w : World} {B : Nat} {v : Value} {xs : List Int} (h : Own E w B v xs) (n : Nat) : Own E (w.drewN n) B v xs := h.below (Below.drewN' (Below.refl _ _) n)

/-- What a slice of the call's own looks like. -/
theorem Own.form {E : TypeId} {w : World} {B : Nat} {v : Value} {xs : List Int} (h : Own E w B v xs) :
    (v = .slice none 0 0 ∧ xs = []) ∨ ∃ g cap, v = .slice (some ⟨g, 0, none⟩) xs.length cap ∧ B ≤ g ∧ g < w.heap.size ∧ xs.length ≤ cap ∧ cap ≤ maxLen ∧ Ints w g 0 xs.length (fun i => xs.getD i 0) ∧ ∀ i, w.frozen? ⟨g, i, none⟩ = false := by
  have h0 := h
  have hlt := h.lt
  obtain ⟨h1, h2⟩ := h
  rcases h2 with ⟨rfl, hn⟩ | ⟨g, cap, cur, rfl, hg, hh, hn, hm, hs, ht⟩
  · exact .inl ⟨rfl, List.eq_nil_of_length_eq_zero hn⟩
  · refine .inr ⟨g, cap, rfl, hg, (hlt g rfl).2, hn, hm, fun i hi => ?_, fun i => World.ownsRow.frozenAt h0 i⟩
    have := World.ownsRow.cellAt h0 i (by omega)
    rw [Nat.zero_add, this]
    simp [List.getD, hi]

/-- A slice that is nil, or empty, or a row. -/
theorem Own.shape {E : TypeId} {w : World} {B : Nat} {v : Value} {xs : List Int} (h : Own E w B v xs) :
    ∃ a cap, v = .slice a xs.length cap ∧ (xs ≠ [] → ∃ g, a = some ⟨g, 0, none⟩ ∧ B ≤ g ∧ g < w.heap.size ∧ xs.length ≤ cap ∧ cap ≤ maxLen ∧ Ints w g 0 xs.length (fun i => xs.getD i 0) ∧ ∀ i, w.frozen? ⟨g, i, none⟩ = false) := by
  rcases h.form with ⟨rfl, rfl⟩ | ⟨g, cap, rfl, r⟩
  · exact ⟨none, 0, rfl, fun h => absurd rfl h⟩
  · exact ⟨_, cap, rfl, fun _ => ⟨g, rfl, r⟩⟩

theorem Only.refl (lo hi : Nat) (w : World) : Only lo hi w w := ⟨rfl, rfl, rfl, Nat.le_refl _, fun _ _ _ => rfl⟩
theorem Only.setCell {lo hi : Nat} {a w : World} (h : Only lo hi a w) {p : Addr} (h1 : lo ≤ p.block) (h2 : p.block < hi) (u : Value) : Only lo hi a (w.setCell p u) :=
  ⟨h.os, h.tape, h.output, by simpa using h.size, fun k hk hd => (Below.heap_setCell _ _ _ _ (by omega)).trans (h.block k hk hd)⟩
theorem Only.drewN' {lo hi : Nat} {a w : World} (h : Only lo hi a w) (n : Nat) : Only lo hi a (w.drewN n) := by
  induction n with
  | zero => exact h
  | succ n ih => exact ⟨ih.os, ih.tape, ih.output, ih.size, ih.block⟩
/-- What is changed above the world's end of old is no old block. -/
theorem Only.toBelow {lo hi B : Nat} {w w' : World} (h : Only lo hi w w') (hB : B ≤ lo) (hs : B ≤ w.heap.size) : Below B w w' :=
  ⟨h.os, h.tape, h.output, h.size, fun k hk => h.block k (by omega) (by omega)⟩

/-- An integer is stored into a slice of the call's own. -/
theorem Own.set {E : TypeId} {w : World} {B g n cap : Nat} {xs : List Int} (h : Own E w B (.slice (some ⟨g, 0, none⟩) n cap) xs) (hn : n = xs.length) (j : Nat) (y : Int) :
    Own E (w.setCell ⟨g, j, none⟩ (.int .i64 y)) B (.slice (some ⟨g, 0, none⟩) n cap) (xs.set j y) := by
  subst hn
  have := (World.ownsRow.stored h j (.int .i64 y)).1
  unfold Own
  rw [List.length_set, List.map_set]
  exact this

/-- A new empty slice. -/
theorem Own.made (E : TypeId) (w : World) {B : Nat} (hB : B ≤ w.heap.size) : Own E (w.alloc (.cells #[] E)) B (.slice (some ⟨w.heap.size, 0, none⟩) 0 0) [] :=
  World.ownsRow_made w #[] 0 hB (Nat.zero_le _) rfl

/-- A list of integers in memory of the call's own, and whether it is one. -/
def RetL1 (E : TypeId) (w : World) (xs : List Int) (ok : Bool) (e : Ending) (w' : World) : Prop :=
  ∃ v, e = .returned (.tuple #[v, .bool ok]) ∧ Own E w' w.heap.size v xs ∧ xs.length < 1000000000 ∧ Below w.heap.size w w'
theorem RetL1.no (E : TypeId) {w w' : World} (hb : Below w.heap.size w w') : RetL1 E w [] false (.returned (.tuple #[.slice none 0 0, .bool false])) w' := ⟨_, rfl, Own.nil _ _ _, by decide, hb⟩
/-- A list, an integer, and whether there are such. -/
def RetL1i (E : TypeId) (w : World) (xs : List Int) (y : Int) (ok : Bool) (e : Ending) (w' : World) : Prop :=
  ∃ v, e = .returned (.tuple #[v, .int .i64 y, .bool ok]) ∧ Own E w' w.heap.size v xs ∧ xs.length < 1000000000 ∧ Below w.heap.size w w'
theorem RetL1i.no (E : TypeId) {w w' : World} (hb : Below w.heap.size w w') : RetL1i E w [] 0 false (.returned (.tuple #[.slice none 0 0, .int .i64 0, .bool false])) w' := ⟨_, rfl, Own.nil _ _ _, by decide, hb⟩
/-- Two lists that share no memory, and whether there are such. -/
def RetL2 (E : TypeId) (w : World) (xs ys : List Int) (ok : Bool) (e : Ending) (w' : World) : Prop :=
  ∃ v u, e = .returned (.tuple #[v, u, .bool ok]) ∧ Own E w' w.heap.size v xs ∧ xs.length < 1000000000 ∧ Own E w' w.heap.size u ys ∧ ys.length < 1000000000 ∧ Hid (∀ k, v.ownBlock = some k → u.ownBlock = some k → False) ∧ Below w.heap.size w w'
theorem RetL2.no (E : TypeId) {w w' : World} (hb : Below w.heap.size w w') : RetL2 E w [] [] false (.returned (.tuple #[.slice none 0 0, .slice none 0 0, .bool false])) w' :=
  ⟨_, _, rfl, Own.nil _ _ _, by decide, Own.nil _ _ _, by decide, (fun _ h => by cases h), hb⟩
/-- Plain results. -/
def RetV (w : World) (v : Value) (e : Ending) (w' : World) : Prop := e = .returned v ∧ Below w.heap.size w w'

/-- Within the int64s. -/
def I64 (x : Int) : Prop := -9223372036854775808 ≤ x ∧ x ≤ 9223372036854775807
theorem i64_of_wf {n : Int} (h : (Lit.int .i64 n).wf = true) : -9223372036854775808 ≤ n ∧ n ≤ 9223372036854775807 := by
  have := Go.bounds_i64 h
  omega

/-- One integer is appended. -/
theorem wpList_app1 {P : Program} (w0 : World) {ops : Array Oper} {rest : List Oper} {o : Oper} {a : Act} {Q : Exit → Act → World → Prop} (hgd : o.guard = none) (s x : Operand) (t : TypeId)
    (ho : o.op = .call { callee := .builtin .append, args := #[s, x], argTypes := #[t, t] })
    (B : Nat) (E : TypeId) (hi : (P.info? E).map (fun i => (i.zero, i.size, i.bytes)) = some (some (.int .i64 0), 1, 8)) (ht : P.underlying t = some (.slice E))
    (v : Value) (xs : List Int) (hs : a.eval s = v) (hown : Own E w0 B v xs) (y : Int) (hx : a.eval x = .slice (some ⟨w0.heap.size, 0, none⟩) 1 1)
    (hlen : xs.length < 1000000000) (hB : B ≤ w0.heap.size)
    (h : ∀ v' w', Own E w' B v' (xs ++ [y]) → Below B w0 w' → wpList P ops Q rest (a.put o.dst v') w') : wpList P ops Q (o :: rest) a (w0.alloc (.cells #[.int .i64 y] E)) := by
  obtain ⟨i0, hi0, hz0, hz1, hz2⟩ := info_parts hi
  have hb0 : Below B w0 (w0.alloc (.cells #[.int .i64 y] E)) := (Below.refl _ _).alloc hB _
  refine wpList_append_own _ hgd s x t ho B E i0 (.int .i64 0) 1 8 ht hi0 hz0 hz1 hz2 rfl (by decide) v xs.length (xs.map (Value.int .i64)) hs (World.ownsRow.alloc hown _) ⟨w0.heap.size, 0, none⟩ 1 1 [.int .i64 y] hx rfl ?c1 ?c2 ?c3 ?c4 ?c5 ?_
  case c1 =>
    intro j u hj
    match j, hj with
    | 0, hj => simp at hj; subst hj; simp [Addr.add]
  case c2 => intro u hu; simp at hu; subst hu; rfl
  case c3 => unfold maxLen; omega
  case c4 => omega
  case c5 => simp; omega
  intro v' w' hown' hg _
  refine h v' w' ?_ (hb0.grown hg (by simp; omega) (fun k hk => (hown.lt k hk).1))
  have e1 : (xs ++ [y]).length = xs.length + 1 := by simp
  unfold Own
  rw [e1, List.map_append]
  exact hown'

/-- A new row of zeros. -/
theorem wpList_mk {P : Program} (w : World) {ops : Array Oper} {rest : List Oper} {o : Oper} {a : Act} {Q : Exit → Act → World → Prop}
    (hg : o.guard = none) (l c : Operand) (t : TypeId) (hop : o.op = Op.makeSlice t l c)
    (B : Nat) (E : TypeId) (hi : (P.info? E).map (fun i => (i.zero, i.size, i.bytes)) = some (some (.int .i64 0), 1, 8)) (ht : P.underlying t = some (.slice E))
    (kl kc : IntKind) (L C : Int) (n : Nat) (hl : a.eval l = .int kl L) (hc : a.eval c = .int kc C) (hL : L = (n : Int)) (hC : C = (n : Int)) (hn : n < 1000000000) (hB : B ≤ w.heap.size)
    (hK : ∀ w', Own E w' B (.slice (some ⟨w.heap.size, 0, none⟩) n n) (List.replicate n 0) → Below B w w' → wpList P ops Q rest (a.put o.dst (.slice (some ⟨w.heap.size, 0, none⟩) n n)) w') :
    wpList P ops Q (o :: rest) a w := by
  obtain ⟨i0, hi0, hz0, hz1, hz2⟩ := info_parts hi
  refine wpList_make_full w hg l c t hop B E i0 (.int .i64 0) 1 ht hi0 hz0 hz1 kl kc L C n hl hc hL hC (by rw [hz2]; omega) (by unfold maxLen; omega) hB fun w' hown hgr => hK w' ?_ ((Below.refl _ _).grown hgr hB (fun k hk => by cases hk))
  unfold Own
  rw [List.length_replicate, List.map_replicate]
  have e : (madeCells (Value.int .i64 0).cells (n * 1)).toList = List.replicate n (Value.int .i64 0) := by
    rw [Nat.mul_one]
    exact toList_madeCells_one (.int .i64 0) n
  rw [e] at hown
  exact hown

/-- A slice of integers that came in, and the integers in it. -/
def InI (w : World) (v : Value) (xs : List Int) : Prop :=
  ∃ a cap, v = .slice a xs.length cap ∧ (xs ≠ [] → ∃ g off, a = some ⟨g, off, none⟩ ∧ Ints w g off xs.length (fun i => xs.getD i 0))
theorem InI.below {w w' : World} {v : Value} {xs : List Int} (h : InI w v xs) (hb : Below w.heap.size w w') : InI w' v xs := by
  obtain ⟨a, cap, hv, h⟩ := h
  exact ⟨a, cap, hv, fun hx => by obtain ⟨g, off, ha, hi⟩ := h hx; exact ⟨g, off, ha, hi.below hb⟩⟩

/-- A slice of the call's own that is not nil. -/
def RowI (E : TypeId) (w : World) (B : Nat) (v : Value) (xs : List Int) : Prop := Own E w B v xs ∧ (∃ g cap, v = .slice (some ⟨g, 0, none⟩) xs.length cap) ∧ xs.length < 1000000000
theorem RowI.own {E : TypeId} {w : World} {B : Nat} {v : Value} {xs : List Int} (h : RowI E w B v xs) : Own E w B v xs := h.1
theorem RowI.below {E : TypeId} {w w' : World} {B : Nat} {v : Value} {xs : List Int} (h : RowI E w B v xs) (hb : Below w.heap.size w w') : RowI E w' B v xs := ⟨h.1.below hb, h.2⟩
theorem RowI.form {E : TypeId} {w : World} {B : Nat} {v : Value} {xs : List Int} (h : RowI E w B v xs) :
    ∃ g cap, v = .slice (some ⟨g, 0, none⟩) xs.length cap ∧ B ≤ g ∧ g < w.heap.size ∧ xs.length ≤ cap ∧ cap ≤ maxLen ∧ Ints w g 0 xs.length (fun i => xs.getD i 0) ∧ (∀ i, w.frozen? ⟨g, i, none⟩ = false) ∧ xs.length < 1000000000 := by
  obtain ⟨h, ⟨g, cap, hv⟩, hn⟩ := h
  rcases h.form with ⟨h0, _⟩ | ⟨g', cap', hv', r1, r2, r3, r4, r5, r6⟩
  · rw [h0] at hv; cases hv
  · exact ⟨g', cap', hv', r1, r2, r3, r4, r5, r6, hn⟩
theorem RowI.lt {E : TypeId} {w : World} {B : Nat} {v : Value} {xs : List Int} (h : RowI E w B v xs) : ∀ k, v.ownBlock = some k → B ≤ k ∧ k < w.heap.size := h.1.lt
theorem RowI.only {E : TypeId} {w w' : World} {B lo hi : Nat} {v : Value} {xs : List Int} (h : RowI E w B v xs) (ho : Only lo hi w w') (hd : ∀ k, v.ownBlock = some k → k < lo ∨ hi ≤ k) : RowI E w' B v xs := ⟨h.1.only ho hd, h.2⟩

/-- What a cell of an own row holds. -/
theorem Own.cellAt {E : TypeId} {w : World} {B g n cap : Nat} {xs : List Int} (h : Own E w B (.slice (some ⟨g, 0, none⟩) n cap) xs) (i : Nat) (hi : i < xs.length) : w.cell? ⟨g, i, none⟩ = some (.int .i64 (xs.getD i 0)) := by
  rcases h.form with ⟨h0, _⟩ | ⟨g', c', hv, _, _, _, _, hh, _⟩
  · cases h0
  · simp only [Value.slice.injEq, Option.some.injEq, Addr.mk.injEq, and_true] at hv
    obtain ⟨rfl, _, rfl⟩ := hv
    exact hh.at0 i hi
theorem Own.freeAt {E : TypeId} {w : World} {B g n cap : Nat} {xs : List Int} (h : Own E w B (.slice (some ⟨g, 0, none⟩) n cap) xs) (i : Nat) : w.frozen? ⟨g, i, none⟩ = false := by
  rcases h.form with ⟨h0, _⟩ | ⟨g', c', hv, _, _, _, _, _, hf⟩
  · cases h0
  · simp only [Value.slice.injEq, Option.some.injEq, Addr.mk.injEq, and_true] at hv
    obtain ⟨rfl, _, rfl⟩ := hv
    exact hf i

/-- Whether a number lies in a range. -/
def win (n l h : Int) : Bool := decide (l ≤ n) && decide (n ≤ h)
theorem win_iff {n l h : Int} : win n l h = true ↔ l ≤ n ∧ n ≤ h := by simp [win]
theorem win_not {n l h : Int} : win n l h = false ↔ n < l ∨ h < n := by
  have := @win_iff n l h
  cases hw : win n l h <;> simp [hw] at this ⊢ <;> omega
abbrev isAmount (n : Int) : Bool := win n 0 1000000000000
abbrev isRate (n : Int) : Bool := win n 0 10000
abbrev isRound (n : Int) : Bool := win n 0 3
abbrev isWorkers (n : Int) : Bool := win n 1 8
abbrev isDay (n : Int) : Bool := win n 0 36524
abbrev isAccount (n : Int) : Bool := win n 0 11
abbrev isSum (n : Int) : Bool := win n 0 1000000000
abbrev isHigh (n : Int) : Bool := win n 0 100000
def isRatedB (a b : Int) : Bool := isRate a && isRound b
def isTimeB (k a b : Int) : Bool := win k 0 2 && isDay a && isDay b && decide (a ≤ b)
def isLoanB (a b c : Int) : Bool := isSum a && isHigh b && isSum c
def isTaperB (a b c : Int) : Bool := isAmount a && isAmount b && isRate c
def isImportB (a b c : Int) : Bool := isAmount a && win b 0 100000 && isRound c

/-! Which of some tests fails first, and that all hold. -/
theorem first_no2 {a b : Bool} (z : (a && b) = false) : a = false ∨ a = true ∧ (b = false) := by revert z; cases a <;> cases b <;> simp
theorem all_yes2 {a b : Bool} (z : (a && b) = true) : a = true ∧ b = true := by revert z; cases a <;> cases b <;> simp
theorem first_no3 {a b c : Bool} (z : (a && b && c) = false) : a = false ∨ a = true ∧ (b = false ∨ b = true ∧ (c = false)) := by revert z; cases a <;> cases b <;> cases c <;> simp
theorem all_yes3 {a b c : Bool} (z : (a && b && c) = true) : a = true ∧ b = true ∧ c = true := by revert z; cases a <;> cases b <;> cases c <;> simp
theorem first_no4 {a b c d : Bool} (z : (a && b && c && d) = false) : a = false ∨ a = true ∧ (b = false ∨ b = true ∧ (c = false ∨ c = true ∧ (d = false))) := by revert z; cases a <;> cases b <;> cases c <;> cases d <;> simp
theorem all_yes4 {a b c d : Bool} (z : (a && b && c && d) = true) : a = true ∧ b = true ∧ c = true ∧ d = true := by revert z; cases a <;> cases b <;> cases c <;> cases d <;> simp
theorem first_no5 {a b c d e : Bool} (z : (a && b && c && d && e) = false) : a = false ∨ a = true ∧ (b = false ∨ b = true ∧ (c = false ∨ c = true ∧ (d = false ∨ d = true ∧ (e = false)))) := by revert z; cases a <;> cases b <;> cases c <;> cases d <;> cases e <;> simp
theorem all_yes5 {a b c d e : Bool} (z : (a && b && c && d && e) = true) : a = true ∧ b = true ∧ c = true ∧ d = true ∧ e = true := by revert z; cases a <;> cases b <;> cases c <;> cases d <;> cases e <;> simp
theorem first_no6 {a b c d e f : Bool} (z : (a && b && c && d && e && f) = false) : a = false ∨ a = true ∧ (b = false ∨ b = true ∧ (c = false ∨ c = true ∧ (d = false ∨ d = true ∧ (e = false ∨ e = true ∧ (f = false))))) := by revert z; cases a <;> cases b <;> cases c <;> cases d <;> cases e <;> cases f <;> simp
theorem all_yes6 {a b c d e f : Bool} (z : (a && b && c && d && e && f) = true) : a = true ∧ b = true ∧ c = true ∧ d = true ∧ e = true ∧ f = true := by revert z; cases a <;> cases b <;> cases c <;> cases d <;> cases e <;> cases f <;> simp
theorem first_no7 {a b c d e f g : Bool} (z : (a && b && c && d && e && f && g) = false) : a = false ∨ a = true ∧ (b = false ∨ b = true ∧ (c = false ∨ c = true ∧ (d = false ∨ d = true ∧ (e = false ∨ e = true ∧ (f = false ∨ f = true ∧ (g = false)))))) := by revert z; cases a <;> cases b <;> cases c <;> cases d <;> cases e <;> cases f <;> cases g <;> simp
theorem all_yes7 {a b c d e f g : Bool} (z : (a && b && c && d && e && f && g) = true) : a = true ∧ b = true ∧ c = true ∧ d = true ∧ e = true ∧ f = true ∧ g = true := by revert z; cases a <;> cases b <;> cases c <;> cases d <;> cases e <;> cases f <;> cases g <;> simp

theorem ret_int {k : IntKind} {a b : Int} (h : a = b) : Ending.returned (.int k a) = .returned (.int k b) := by rw [h]
theorem ret_ib {k : IntKind} {a b : Int} {t : Bool} (h : a = b) : Ending.returned (.tuple #[.int k a, .bool t]) = .returned (.tuple #[.int k b, .bool t]) := by rw [h]
theorem ret_ib2 {k : IntKind} {a b : Int} {t u : Bool} (h : a = b) (h' : t = u) : Ending.returned (.tuple #[.int k a, .bool t]) = .returned (.tuple #[.int k b, .bool u]) := by rw [h, h']
theorem ret_bool {a b : Bool} (h : a = b) : Ending.returned (.bool a) = .returned (.bool b) := by rw [h]
end Go.Proofs.Ytpigjhagdpeofaa
