/-
  Several integers appended to a slice of the call's own; a row copied. No program in sight. Conditions as the laws say.
-/
import Derived.Test.YtdaijapdfleohaaBoolRow
import Derived.Test.YtdaijapdfleohaaKept
namespace Go.Proofs.Ytdaijapdfleohaa
open Go.RowKit
set_option linter.unusedVariables false

theorem wpList_appS {P : Program} (w : World) {ops : Array Oper} {rest : List Oper} {o : Oper} {a : Act} {Q : Exit → Act → World → Prop} (hgd : o.guard = none) (s x : Operand) (t : TypeId)
    (ho : o.op = .call { callee := .builtin .append, args := #[s, x], argTypes := #[t, t] })
    (B : Nat) (E : TypeId) (hi : (P.info? E).map (fun i => (i.zero, i.size, i.bytes)) = some (some (.int .i64 0), 1, 8)) (ht : P.underlying t = some (.slice E))
    (v : Value) (xs : List Int) (hs : a.eval s = v) (hown : Own E w B v xs) (ys : List Int) (g c : Nat) (hx : a.eval x = .slice (some ⟨g, 0, none⟩) ys.length c) (hI : Ints w g 0 ys.length (fun i => ys.getD i 0))
    (hlen : xs.length + ys.length < 1000000000) (hB : B ≤ w.heap.size)
    (h : ∀ v' w', Own E w' B v' (xs ++ ys) → Below B w w' → Kept3 w v w' v' → (v' = .slice none 0 0 ↔ v = .slice none 0 0 ∧ ys.length = 0) → wpList P ops Q rest (a.put o.dst v') w') : wpList P ops Q (o :: rest) a w := by
  obtain ⟨i0, hi0, hz0, hz1, hz2⟩ := info_parts hi
  refine wpList_append_own_at _ hgd s x t ho B E i0 (.int .i64 0) 1 8 ht hi0 hz0 hz1 hz2 rfl (by decide) v xs.length (xs.map (Value.int .i64)) hs hown ⟨g, 0, none⟩ ys.length c (ys.map (Value.int .i64)) hx (by simp) ?c1 ?c2 ?c3 ?c4 hB ?_
  case c1 =>
    intro j u hj
    have hlt : j < ys.length := by
      have := (List.getElem?_eq_some_iff.1 hj).1
      simpa using this
    have h2 := hI.at0 j hlt
    have e1 : (⟨g, 0, none⟩ : Addr).add j = ⟨g, j, none⟩ := by unfold Addr.add; split <;> simp_all
    rw [e1, h2]
    simp [hlt] at hj
    rw [← hj]
    simp [List.getD, hlt]
  case c2 =>
    intro u hu
    obtain ⟨i, _, rfl⟩ := List.mem_map.1 hu
    rfl
  case c3 => unfold maxLen; omega
  case c4 => omega
  intro v' w' hown' hg hnil hv'
  have hbb := (Below.refl B w).grown hg hB (fun k hk => (hown.lt k hk).1)
  refine h v' w' ?_ hbb ⟨fun k hk hd => hg.block k hk (fun e => hd e.symm), fun k h1 => ?_, hbb.size⟩ hnil
  · unfold Own
    rw [List.length_append, List.map_append]
    exact hown'
  · rcases hv' with e | e
    · exact .inl (e ▸ h1)
    · rw [e] at h1
      cases h1
      exact .inr (Nat.le_refl _)

/-- A row copied into new memory. -/
theorem wpList_cloneI {P : Program} (w : World) {ops : Array Oper} {rest : List Oper} {o : Oper} {a : Act} {Q : Exit → Act → World → Prop} (hgd : o.guard = none) (s x : Operand) (t : TypeId)
    (ho : o.op = .call { callee := .builtin .append, args := #[s, x], argTypes := #[t, t] })
    (E : TypeId) (hi : (P.info? E).map (fun i => (i.zero, i.size, i.bytes)) = some (some (.int .i64 0), 1, 8)) (ht : P.underlying t = some (.slice E))
    (n g c : Nat) (f : Nat → Int) (hs : a.eval s = .slice (some ⟨w.heap.size, 0, none⟩) 0 0) (hx : a.eval x = .slice (some ⟨g, 0, none⟩) n c) (hn : n < 1000000000) (hI : Ints w g 0 n f)
    (h : ∀ g' c' w', Own E w' w.heap.size (.slice (some ⟨g', 0, none⟩) n c') (tab f n) → Below w.heap.size w w' → wpList P ops Q rest (a.put o.dst (.slice (some ⟨g', 0, none⟩) n c')) w') : wpList P ops Q (o :: rest) a (w.alloc (.cells #[] E)) := by
  have hl := tab_length f n
  have hb0 : Below w.heap.size w (w.alloc (.cells #[] E)) := (Below.refl _ _).alloc (Nat.le_refl _) _
  refine wpList_appS _ hgd s x t ho w.heap.size E hi ht _ [] hs (Own.made E w (Nat.le_refl _)) (tab f n) g c (by rw [hl]; exact hx) (fun i hi => ?_) (by simp [hl]; omega) (by simp) ?_
  · rw [hl] at hi
    rw [hI.below hb0 i hi]
    show _ = some (Value.int .i64 ((tab f n).getD i 0))
    rw [tab_get _ _ _ hi]
  intro v' w' hown hb _ hnil
  rw [List.nil_append] at hown
  rcases hown.2 with ⟨h1, h2⟩ | ⟨g', c', _, h1, _⟩
  · have := (hnil.1 h1).1
    cases this
  · rw [hl] at h1
    subst h1
    exact h g' c' w' hown (hb0.trans hb)

/-- Three integers appended. -/
theorem wpList_app33 {P : Program} (w0 : World) {ops : Array Oper} {rest : List Oper} {o : Oper} {a : Act} {Q : Exit → Act → World → Prop} (hgd : o.guard = none) (s x : Operand) (t : TypeId)
    (ho : o.op = .call { callee := .builtin .append, args := #[s, x], argTypes := #[t, t] })
    (B : Nat) (E : TypeId) (hi : (P.info? E).map (fun i => (i.zero, i.size, i.bytes)) = some (some (.int .i64 0), 1, 8)) (ht : P.underlying t = some (.slice E))
    (v : Value) (xs : List Int) (hs : a.eval s = v) (hown : Own E w0 B v xs) (y0 y1 y2 : Int) (hx : a.eval x = .slice (some ⟨w0.heap.size, 0, none⟩) 3 3)
    (hlen : xs.length < 100000000) (hB : B ≤ w0.heap.size)
    (h : ∀ v' w', Own E w' B v' (xs ++ [y0, y1, y2]) → Below B w0 w' → Kept3 w0 v w' v' → wpList P ops Q rest (a.put o.dst v') w') : wpList P ops Q (o :: rest) a (w0.alloc (.cells #[.int .i64 y0, .int .i64 y1, .int .i64 y2] E)) := by
  have hb0 : Below B w0 (w0.alloc (.cells #[.int .i64 y0, .int .i64 y1, .int .i64 y2] E)) := (Below.refl _ _).alloc hB _
  have hb1 : Below w0.heap.size w0 (w0.alloc (.cells #[.int .i64 y0, .int .i64 y1, .int .i64 y2] E)) := (Below.refl _ _).alloc (Nat.le_refl _) _
  have hs1 : (w0.alloc (.cells #[.int .i64 y0, .int .i64 y1, .int .i64 y2] E)).heap.size = w0.heap.size + 1 := by simp
  refine wpList_appS _ hgd s x t ho B E hi ht v xs hs (hown.below hb1) [y0, y1, y2] w0.heap.size 3 hx (fun i hi => ?_) (by simp; omega) (by rw [hs1]; omega) ?_
  · match i, hi with
    | 0, _ => simp [go_sem]
    | 1, _ => simp [go_sem]
    | 2, _ => simp [go_sem]
  intro v' w' hown' hb hk _
  exact h v' w' hown' (hb0.trans hb) ⟨fun k hk1 hd => (hk.1 k (by omega) hd).trans (hb1.block k hk1), fun k h1 => by rcases hk.2.1 k h1 with h2 | h2; exact .inl h2; exact .inr (by omega), Nat.le_trans hb1.size hk.2.2⟩
theorem Own.keepV {E : TypeId} {w : World} {B : Nat} {v : Value} {xs : List Int} (ho : Own E w B v xs) (p : Addr) (hp : v.ownBlock = some p.block → False) (u : Value) : Own E (w.setCell p u) B v xs :=
  ho.block fun k hk => Below.heap_setCell _ _ _ _ (by intro e; exact hp (by rw [hk, e]))
end Go.Proofs.Ytdaijapdfleohaa
