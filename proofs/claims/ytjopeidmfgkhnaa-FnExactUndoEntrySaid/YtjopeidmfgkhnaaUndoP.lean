/-
  An entry undone: a ledger with one entry more, in plain numbers; records appended to a slice of the call's own, in a region whose order is open. No program in sight. Conditions as the laws say.
-/
import Derived.Test.YtjopeidmfgkhnaaRecO
import Derived.Test.YtjopeidmfgkhnaaKept
import Derived.Deep.RegionHeld3
namespace Go.Proofs.Ytjopeidmfgkhnaa
open Go.RowKit
set_option linter.unusedVariables false

theorem step_appRS {P : Program} (w : World) {ops : Array Oper} {o : Oper} {a : Act} {K : Act → World → Prop} {Q : Exit → Act → World → Prop} {F : Prop} (hgd : o.guard = none) (s x : Operand) (t : TypeId)
    (ho : o.op = .call { callee := .builtin .append, args := #[s, x], argTypes := #[t, t] })
    (B : Nat) (E : TypeId) (z : Value) (bytes : Nat) (hi : (P.info? E).map (fun i => (i.zero, i.size, i.bytes)) = some (some z, 4, bytes)) (hz : z.cells.size = 4) (hby : bytes ≤ 100) (ht : P.underlying t = some (.slice E))
    (v : Value) (n : Nat) (xs : List Value) (hs : a.eval s = v) (hown : w.ownsRow B E 4 v n xs) (m g c : Nat) (f : Nat → Int) (hx : a.eval x = .slice (some ⟨g, 0, none⟩) m c) (hI : RowC w g 0 m 4 f)
    (hlen : n + m < 1000000000) (hB : B ≤ w.heap.size)
    (h : ∀ v' w', w'.ownsRow B E 4 v' (n + m) (xs ++ cl f (m * 4)) → Below B w w' → Kept (fun b => v.ownBlock = some b) w w' → (v' = .slice none 0 0 ↔ v = .slice none 0 0 ∧ m = 0) → K (a.put o.dst v') w') :
    if Region.wanted o (yielded ops a.tmps) = true then Oper.wp P o a w K Q else F := by
  have hw : Region.wanted o (yielded ops a.tmps) = true := by simp [Region.wanted, hgd]
  rw [if_pos hw]
  obtain ⟨i0, hi0, hz0, hz1, hz2⟩ := info_parts hi
  refine wp_append_own _ s x t ho B E i0 z 4 bytes ht hi0 hz0 hz1 hz2 hz (by decide) v n xs hs hown ⟨g, 0, none⟩ m c (cl f (m * 4)) hx (cl_len _ _) ?c1 ?c2 ?c3 ?c4 hB ?_
  case c1 =>
    intro j u hj
    have hlt : j < m * 4 := by
      have := (List.getElem?_eq_some_iff.1 hj).1
      rwa [cl_len] at this
    rw [cl_get hlt] at hj
    cases hj
    have h1 : j / 4 < m := by omega
    have h2 := hI (j / 4) h1 (j % 4) (by omega)
    have h3 : 0 + j / 4 * 4 + j % 4 = j := by omega
    have h4 : j / 4 * 4 + j % 4 = j := by omega
    rw [h3, h4] at h2
    have e1 : (⟨g, 0, none⟩ : Addr).add j = ⟨g, j, none⟩ := by unfold Addr.add; split <;> simp_all
    rw [e1]
    exact h2
  case c2 =>
    intro u hu
    obtain ⟨i, _, rfl⟩ := List.mem_map.1 hu
    rfl
  case c3 => unfold maxLen; omega
  case c4 =>
    have : (n + m) * bytes ≤ (n + m) * 100 := Nat.mul_le_mul_left _ hby
    omega
  intro v' w' hown' hg hnil
  have hbb := (Below.refl B w).grown hg hB (fun k hk => (hown.lt k hk).1)
  exact h v' w' hown' hbb ⟨hbb.os, hbb.tape, hbb.output, hbb.size, fun k hk hd => hg.block k hk (fun e => hd e.symm)⟩ hnil

theorem ownsRow_mono {w : World} {B B' k n : Nat} {E : TypeId} {v : Value} {xs : List Value} (h : w.ownsRow B E k v n xs) (hB : B' ≤ B) : w.ownsRow B' E k v n xs := by
  obtain ⟨h1, h2⟩ := h
  refine ⟨h1, ?_⟩
  rcases h2 with h2 | ⟨g, cap, cur, hv, hg, r⟩
  · exact .inl h2
  · exact .inr ⟨g, cap, cur, hv, Nat.le_trans hB hg, r⟩
theorem rowC_new (w : World) (E : TypeId) (y : Nat → Int) : RowC (w.alloc (.cells #[.int .i64 (y 0), .int .i64 (y 1), .int .i64 (y 2), .int .i64 (y 3)] E)) w.heap.size 0 1 4 y := fun i hi j hj => by
  obtain rfl : i = 0 := by omega
  match j, hj with
  | 0, _ => simp [go_sem]
  | 1, _ => simp [go_sem]
  | 2, _ => simp [go_sem]
  | 3, _ => simp [go_sem]
theorem RowC.belowAt {w w' : World} {B g off n k : Nat} {f : Nat → Int} (h : RowC w g off n k f) (hb : Below B w w') (hg : g < B) : RowC w' g off n k f := fun i hi j hj => (hb.cell (p := ⟨g, off + i * k + j, none⟩) hg).trans (h i hi j hj)

/-- The ledger with one entry more. -/
def undoE (f : Nat → Int) (i : Nat) (day : Int) : Nat → Int := fun j => if j = 0 then day else if j = 1 then f (i * 4 + 2) else if j = 2 then f (i * 4 + 1) else f (i * 4 + 3)
def undoF (f : Nat → Int) (n i : Nat) (day : Int) : Nat → Int := fun j => if j < n * 4 then f j else undoE f i day (j - n * 4)
theorem cl_app (f h : Nat → Int) (n m : Nat) : cl f n ++ cl h m = cl (fun j => if j < n then f j else h (j - n)) (n + m) := by
  induction m with
  | zero =>
    have : cl h 0 = [] := rfl
    rw [this, List.append_nil, Nat.add_zero]
    exact cl_congr fun i hi => (if_pos hi).symm
  | succ m ih =>
    rw [cl_snoc, ← List.append_assoc, ih, ← Nat.add_assoc, cl_snoc, if_neg (by omega), show n + m - n = m by omega]
theorem undo_cells (f : Nat → Int) (n i : Nat) (day : Int) : cl f (n * 4) ++ cl (undoE f i day) (1 * 4) = cl (undoF f n i day) ((n + 1) * 4) := by
  rw [cl_app, show (n + 1) * 4 = n * 4 + 1 * 4 by omega]
  rfl
end Go.Proofs.Ytjopeidmfgkhnaa
