/-
  slices.Clone of entries: new memory, nil never for a list in a block. Condition: fewer than 1000000000 entries.
-/
import Derived.Test.YtjopeidmfgkhnaaProg
import Derived.Test.YtjopeidmfgkhnaaRecO
import Derived.Lib.LazyBuf
namespace Go.Proofs.Ytjopeidmfgkhnaa
open Go.RowKit
set_option linter.unusedVariables false

theorem wpList_cloneR {P : Program} (w : World) {ops : Array Oper} {rest : List Oper} {o : Oper} {a : Act} {Q : Exit → Act → World → Prop} (hgd : o.guard = none) (s x : Operand) (t : TypeId)
    (ho : o.op = .call { callee := .builtin .append, args := #[s, x], argTypes := #[t, t] })
    (E : TypeId) (z : Value) (k bytes : Nat) (hi : (P.info? E).map (fun i => (i.zero, i.size, i.bytes)) = some (some z, k, bytes)) (hz : z.cells.size = k) (hk : 0 < k) (hby : bytes ≤ 100) (ht : P.underlying t = some (.slice E))
    (n g c : Nat) (f : Nat → Int) (hs : a.eval s = .slice (some ⟨w.heap.size, 0, none⟩) 0 0) (hx : a.eval x = .slice (some ⟨g, 0, none⟩) n c) (hn : n < 1000000000) (hI : RowC w g 0 n k f)
    (h : ∀ g' c' w', w'.ownsRow w.heap.size E k (.slice (some ⟨g', 0, none⟩) n c') n (cl f (n * k)) → Below w.heap.size w w' → wpList P ops Q rest (a.put o.dst (.slice (some ⟨g', 0, none⟩) n c')) w') : wpList P ops Q (o :: rest) a (w.alloc (.cells #[] E)) := by
  obtain ⟨i0, hi0, hz0, hz1, hz2⟩ := info_parts hi
  have hb0 : Below w.heap.size w (w.alloc (.cells #[] E)) := (Below.refl _ _).alloc (Nat.le_refl _) _
  refine wpList_append_own_at _ hgd s x t ho w.heap.size E i0 z k bytes ht hi0 hz0 hz1 hz2 hz hk _ 0 [] hs (World.ownsRow_made w #[] 0 (Nat.le_refl _) (Nat.zero_le _) (by simp)) ⟨g, 0, none⟩ n c (cl f (n * k)) hx (cl_len _ _) ?c1 ?c2 ?c3 ?c4 ?c5 ?_
  case c1 =>
    intro j u hj
    have hlt : j < n * k := by
      have := (List.getElem?_eq_some_iff.1 hj).1
      rwa [cl_len] at this
    rw [cl_get hlt] at hj
    cases hj
    have h1 : j / k < n := Nat.div_lt_of_lt_mul (by rwa [Nat.mul_comm] at hlt)
    have h2 := hI (j / k) h1 (j % k) (Nat.mod_lt _ hk)
    have h3 : 0 + j / k * k + j % k = j := by rw [Nat.zero_add, Nat.mul_comm]; exact Nat.div_add_mod j k
    have h4 : j / k * k + j % k = j := by rw [Nat.mul_comm]; exact Nat.div_add_mod j k
    rw [h3, h4] at h2
    have e1 : (⟨g, 0, none⟩ : Addr).add j = ⟨g, j, none⟩ := by unfold Addr.add; split <;> simp_all
    rw [e1]
    exact Below.cellOf hb0 rfl h2
  case c2 =>
    intro u hu
    obtain ⟨i, _, rfl⟩ := List.mem_map.1 hu
    rfl
  case c3 => unfold maxLen; omega
  case c4 =>
    have : (0 + n) * bytes ≤ (0 + n) * 100 := Nat.mul_le_mul_left _ hby
    omega
  case c5 => simp
  intro v' w' hown hg hnil _
  rw [Nat.zero_add, List.nil_append] at hown
  have hb := hb0.grown hg (by simp) (fun b hb => by cases hb; exact Nat.le_refl _)
  rcases hown.2 with ⟨h1, h2⟩ | ⟨g', c', _, h1, _⟩
  · have := (hnil.1 h1).1
    cases this
  · subst h1
    exact h g' c' w' hown hb

set_option maxRecDepth 100000 in
theorem clone_e (n g c : Nat) (f : Nat → Int) (w : World) (hn : n < 1000000000) (hI : RowC w g 0 n 4 f) :
    Calls Try.prog 62 #[.slice (some ⟨g, 0, none⟩) n c] w
      fun e w' => ∃ g' c', e = .returned (.slice (some ⟨g', 0, none⟩) n c') ∧ w'.ownsRow w.heap.size 82 4 (.slice (some ⟨g', 0, none⟩) n c') n (cl f (n * 4)) ∧ Below w.heap.size w w' := by
  have hnil : ∀ w' : World, (binOp .eql 46 (.slice (some ⟨g, 0, none⟩) n c) (.slice none 0 0)).run Try.prog w' = .ok (.bool false) w' := fun w' => Go.run_eql_slice_nil w' 46 82 (some ⟨g, 0, none⟩) n c Try.underlying46
  go_enter Try.func62, Try.ntmps62
  go_wp2_with (first | (at_builtin; refine wpList_cloneR _ rfl _ _ 46 rfl 82 (.agg #[.int .i64 0, .int .i64 0, .int .i64 0, .int .i64 0]) 4 32 (by kernel_rfl) rfl (by decide) (by decide) Try.underlying46 n g c f rfl rfl hn hI ?_; intro g' c' w1 hown hb))
  go_ret
  exact ⟨g', c', rfl, hown, hb⟩
end Go.Proofs.Ytjopeidmfgkhnaa
