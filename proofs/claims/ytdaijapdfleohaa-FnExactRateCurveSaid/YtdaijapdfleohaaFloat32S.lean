/-
  The laws' helpers on slices of floats, by contracts. Condition: fewer than 1000000000 floats, none of them a NaN.
-/
import Derived.Test.YtdaijapdfleohaaProg
import Derived.Test.YtdaijapdfleohaaBase
import Derived.Test.YtdaijapdfleohaaFloatP
import Derived.Test.YtdaijapdfleohaaAppV
import Derived.WalkLawsBesides
import Derived.Deep.QuietTactic
import Derived.BigQuiet
namespace Go.Proofs.Ytdaijapdfleohaa
open Go.RowKit
set_option linter.unusedVariables false

/-- Floats in memory of the call's own. -/
def OwnF (E : TypeId) (w : World) (B : Nat) (v : Value) (xs : List Nat) : Prop := w.ownsRow B E 1 v xs.length (xs.map (Value.float .f32)) ∧ ∀ x ∈ xs, x ≤ 2139095040
theorem OwnF.lt {E : TypeId} {w : World} {B : Nat} {v : Value} {xs : List Nat} (h : OwnF E w B v xs) : ∀ k, v.ownBlock = some k → B ≤ k ∧ k < w.heap.size := World.ownsRow.lt h.1
theorem OwnF.block {E : TypeId} {w w' : World} {B : Nat} {v : Value} {xs : List Nat} (h : OwnF E w B v xs) (hb : ∀ k, v.ownBlock = some k → w'.heap[k]? = w.heap[k]?) : OwnF E w' B v xs := by
  obtain ⟨⟨h1, h2⟩, h3⟩ := h
  refine ⟨⟨h1, ?_⟩, h3⟩
  rcases h2 with h2 | ⟨g, cap, cur, rfl, hg, hh, r⟩
  · exact .inl h2
  · exact .inr ⟨g, cap, cur, rfl, hg, by rw [hb g rfl]; exact hh, r⟩
theorem OwnF.below {E : TypeId} {w w' : World} {B : Nat} {v : Value} {xs : List Nat} (h : OwnF E w B v xs) (hb : Below w.heap.size w w') : OwnF E w' B v xs := h.block fun k hk => hb.block k (h.lt k hk).2
theorem OwnF.only {E : TypeId} {w w' : World} {B lo hi : Nat} {v : Value} {xs : List Nat} (h : OwnF E w B v xs) (ho : Only lo hi w w') (hd : ∀ k, v.ownBlock = some k → k < lo ∨ hi ≤ k) : OwnF E w' B v xs :=
  h.block fun k hk => ho.block k (h.lt k hk).2 (hd k hk)
theorem OwnF.mono {E : TypeId} {w : World} {B B' : Nat} {v : Value} {xs : List Nat} (h : OwnF E w B v xs) (hB : B' ≤ B) : OwnF E w B' v xs := by
  obtain ⟨⟨h1, h2⟩, h3⟩ := h
  refine ⟨⟨h1, ?_⟩, h3⟩
  rcases h2 with h2 | ⟨g, cap, cur, hv, hg, r⟩
  · exact .inl h2
  · exact .inr ⟨g, cap, cur, hv, Nat.le_trans hB hg, r⟩
theorem OwnF.nil (E : TypeId) (w : World) (B : Nat) : OwnF E w B (.slice none 0 0) [] := ⟨World.ownsRow_nil w B E 1, fun _ h => by cases h⟩
theorem OwnF.made (E : TypeId) (w : World) {B : Nat} (hB : B ≤ w.heap.size) : OwnF E (w.alloc (.cells #[] E)) B (.slice (some ⟨w.heap.size, 0, none⟩) 0 0) [] :=
  ⟨World.ownsRow_made w #[] 0 hB (Nat.zero_le _) rfl, fun _ h => by cases h⟩
def Flts (w : World) (g n : Nat) (f : Nat → Nat) : Prop := ∀ i, i < n → w.cell? ⟨g, i, none⟩ = some (.float .f32 (f i))
theorem OwnF.form {E : TypeId} {w : World} {B : Nat} {v : Value} {xs : List Nat} (h : OwnF E w B v xs) :
    ∃ a cap, v = .slice a xs.length cap ∧ (xs ≠ [] → ∃ g, a = some ⟨g, 0, none⟩ ∧ B ≤ g ∧ g < w.heap.size ∧ Flts w g xs.length (fun i => xs.getD i 0) ∧ ∀ i, w.frozen? ⟨g, i, none⟩ = false) := by
  obtain ⟨h0, h3⟩ := h
  have h0' := h0
  obtain ⟨h1, h2⟩ := h0
  rcases h2 with ⟨rfl, hn⟩ | ⟨g, cap, cur, rfl, hg, hh, hn, hm, hs, ht⟩
  · exact ⟨none, 0, by rw [hn], fun h => absurd (List.eq_nil_of_length_eq_zero hn) h⟩
  · refine ⟨_, cap, rfl, fun _ => ⟨g, rfl, hg, (World.ownsRow.lt h0' g rfl).2, fun i hi => ?_, fun i => World.ownsRow.frozenAt h0' i⟩⟩
    rw [World.ownsRow.cellAt h0' i (by omega)]
    simp [List.getD, hi]
theorem OwnF.set {E : TypeId} {w : World} {B g n cap : Nat} {xs : List Nat} (h : OwnF E w B (.slice (some ⟨g, 0, none⟩) n cap) xs) (hn : n = xs.length) (j y : Nat) (hy : y ≤ 2139095040) :
    OwnF E (w.setCell ⟨g, j, none⟩ (.float .f32 y)) B (.slice (some ⟨g, 0, none⟩) n cap) (xs.set j y) := by
  subst hn
  have := (World.ownsRow.stored h.1 j (.float .f32 y)).1
  refine ⟨?_, fun x hx => ?_⟩
  · rw [List.length_set, List.map_set]
    exact this
  · rcases List.mem_or_eq_of_mem_set hx with h1 | h1
    · exact h.2 x h1
    · omega
theorem OwnF.app {E : TypeId} {w : World} {B : Nat} {v : Value} {xs : List Nat} {y : Nat} (h : ∀ x ∈ xs, x ≤ 2139095040) (hy : y ≤ 2139095040) (ho : w.ownsRow B E 1 v (xs.length + 1) (xs.map (Value.float .f32) ++ [.float .f32 y])) : OwnF E w B v (xs ++ [y]) := by
  refine ⟨?_, fun x hx => ?_⟩
  · rw [List.length_append, List.map_append]
    exact ho
  · rcases List.mem_append.1 hx with h1 | h1
    · exact h x h1
    · simp at h1; omega

/-- A float is appended. -/
theorem wpList_appF {P : Program} (w0 : World) {ops : Array Oper} {rest : List Oper} {o : Oper} {a : Act} {Q : Exit → Act → World → Prop} (hgd : o.guard = none) (s x : Operand) (t : TypeId)
    (ho : o.op = .call { callee := .builtin .append, args := #[s, x], argTypes := #[t, t] })
    (B : Nat) (E : TypeId) (hi : (P.info? E).map (fun i => (i.zero, i.size, i.bytes)) = some (some (.float .f32 0), 1, 4)) (ht : P.underlying t = some (.slice E))
    (v : Value) (xs : List Nat) (hs : a.eval s = v) (hown : OwnF E w0 B v xs) (y : Nat) (hy : y ≤ 2139095040) (hx : a.eval x = .slice (some ⟨w0.heap.size, 0, none⟩) 1 1)
    (hlen : xs.length < 1000000000) (hB : B ≤ w0.heap.size)
    (h : ∀ v' w', OwnF E w' B v' (xs ++ [y]) → Below B w0 w' → wpList P ops Q rest (a.put o.dst v') w') : wpList P ops Q (o :: rest) a (w0.alloc (.cells #[.float .f32 y] E)) := by
  obtain ⟨i0, hi0, hz0, hz1, hz2⟩ := info_parts hi
  have hb0 : Below B w0 (w0.alloc (.cells #[.float .f32 y] E)) := (Below.refl _ _).alloc hB _
  refine wpList_append_own _ hgd s x t ho B E i0 (.float .f32 0) 1 4 ht hi0 hz0 hz1 hz2 rfl (by decide) v xs.length (xs.map (Value.float .f32)) hs (World.ownsRow.alloc hown.1 _) ⟨w0.heap.size, 0, none⟩ 1 1 [.float .f32 y] hx rfl ?c1 ?c2 ?c3 ?c4 ?c5 ?_
  case c1 =>
    intro j u hj
    match j, hj with
    | 0, hj => simp at hj; subst hj; simp [Addr.add]
  case c2 => intro u hu; simp at hu; subst hu; rfl
  case c3 => unfold maxLen; omega
  case c4 => omega
  case c5 => simp; omega
  intro v' w' hown' hg _
  exact h v' w' (OwnF.app hown.2 hy hown') (hb0.grown hg (by simp; omega) (fun k hk => (hown.lt k hk).1))
theorem step_appF {P : Program} (W : World) {ops : Array Oper} {o : Oper} {a : Act} {K : Act → World → Prop} {Q : Exit → Act → World → Prop} {F : Prop} (hgd : o.guard = none) (s x : Operand) (t : TypeId)
    (ho : o.op = .call { callee := .builtin .append, args := #[s, x], argTypes := #[t, t] })
    (B : Nat) (E : TypeId) (hi : (P.info? E).map (fun i => (i.zero, i.size, i.bytes)) = some (some (.float .f32 0), 1, 4)) (ht : P.underlying t = some (.slice E))
    (v : Value) (xs : List Nat) (hs : a.eval s = v) (hown : OwnF E W B v xs) (y : Nat) (hy : y ≤ 2139095040) (hx : a.eval x = .slice (some ⟨W.heap.size, 0, none⟩) 1 1)
    (hlen : xs.length < 100000000) (hB : B ≤ W.heap.size)
    (h : ∀ v' w', OwnF E w' B v' (xs ++ [y]) → Below B W w' → Below B (W.alloc (.cells #[.float .f32 y] E)) w' → K (a.put o.dst v') w') :
    if Region.wanted o (yielded ops a.tmps) = true then Oper.wp P o a (W.alloc (.cells #[.float .f32 y] E)) K Q else F := by
  have hb0 : Below B W (W.alloc (.cells #[.float .f32 y] E)) := (Below.refl _ _).alloc hB _
  obtain ⟨i0, hi0, hz0, hz1, hz2⟩ := info_parts hi
  have hw : Region.wanted o (yielded ops a.tmps) = true := by simp [Region.wanted, hgd]
  rw [if_pos hw]
  obtain ⟨v', w', hr, h2, h3, h4, h5⟩ := run_append_own_at (P := P) (W.alloc (.cells #[.float .f32 y] E)) B t o.type E i0 (.float .f32 0) 1 4 ht hi0 hz0 hz1 hz2 rfl (by decide) v xs.length (xs.map (Value.float .f32)) (World.ownsRow.alloc hown.1 _) ⟨W.heap.size, 0, none⟩ 1 1 [.float .f32 y] rfl
    (fun j u hj => by
      match j, hj with
      | 0, hj => simp at hj; subst hj; simp [Addr.add])
    (fun u hu => by simp at hu; subst hu; rfl) (by unfold maxLen; omega) (by omega) (by simp; omega)
  unfold Oper.wp execOp
  simp only [ho, resolve, invoke, builtin, Sem.run_bind, Sem.run_pure, Result.andThen_ok, List.map_toArray, List.map_cons, List.map_nil, hs, hx, hr]
  exact h v' w' (OwnF.app hown.2 hy h2) (hb0.grown h3 (by simp; omega) (fun k hk => (hown.lt k hk).1)) ((Below.refl B _).grown h3 (by simp; omega) (fun k hk => (hown.lt k hk).1))

/-- A list of floats in memory of the call's own, and whether it is one. -/
def RetF (E : TypeId) (w : World) (xs : List Nat) (ok : Bool) (e : Ending) (w' : World) : Prop :=
  ∃ v, e = .returned (.tuple #[v, .bool ok]) ∧ OwnF E w' w.heap.size v xs ∧ xs.length < 1000000000 ∧ Below w.heap.size w w'
theorem RetF.no (E : TypeId) {w w' : World} (hb : Below w.heap.size w w') : RetF E w [] false (.returned (.tuple #[.slice none 0 0, .bool false])) w' := ⟨_, rfl, OwnF.nil _ _ _, by decide, hb⟩

set_option maxHeartbeats 800000 in
theorem sameF (q : Nat) (hq : q ≤ 9218868437227405312) (w : World) : Calls Try.prog 31 #[.float .f64 q, .float .f64 q] w fun e w' => e = .returned (.bool true) ∧ w' = w := by
  have h1 := ord_self q hq
  by_cases h0 : q = 0
  · subst h0
    have hop : ∀ t w, (binOp .quo t (.float .f64 4607182418800017408) (.float .f64 0)).run Try.prog w = .ok (.float .f64 9218868437227405312) w := fun t w => run_float_arith w .quo t .f64 _ _ _ (by kernel_rfl)
    have h2 : FloatKind.f64.format.order 9218868437227405312 0 = some .gt := by kernel_rfl
    go_enter Try.func31, Try.ntmps31
    go_wp2_with (simp only [hop])
    go_ret
    exact ⟨ret_bool (by simp), rfl⟩
  · have h2 := ord_zero q h0 hq
    go_enter Try.func31, Try.ntmps31
    go_wp2
    go_ret
    exact ⟨ret_bool (by simp), rfl⟩

set_option maxHeartbeats 1600000 in
theorem eqF_core (n g1 g2 c1 c2 : Nat) (f : Nat → Nat) (w : World) (hn : n < 1000000000) (hf : ∀ i, i < n → f i ≤ 2139095040) (H1 : Flts w g1 n f) (H2 : Flts w g2 n f) :
    Calls Try.prog 11 #[.slice (some ⟨g1, 0, none⟩) n c1, .slice (some ⟨g2, 0, none⟩) n c2] w (RetV w (.bool true)) := by
  go_enter Try.func11, Try.ntmps11
  go_wp2
  go_loopw [5] (fun i wr => ∃ k : Nat, k ≤ n ∧ i = .int .i64 k ∧ Below w.heap.size w wr) (fun i _ => n - (intOf i).toNat)
  case atStart => exact ⟨0, Nat.zero_le _, rfl, Below.refl _ _⟩
  case round =>
    obtain ⟨k, hk, rfl, hb⟩ := hrel
    by_cases hlt : k < n
    · have x1 := Below.cellOf hb rfl (H1 k hlt)
      have x2 := Below.cellOf hb rfl (H2 k hlt)
      obtain ⟨q, h1, _, h3⟩ := widen (f k) (hf k hlt)
      generalize f k = X at *
      have hc : ∀ w, (convert 48 54 (.float .f32 X)).run Try.prog w = .ok (.float .f64 q) w := fun w => run_convert_float_float w 48 54 .f32 .f64 X q (by rw [Try.underlying48]; rfl) Try.underlying54 h1
      have HS : Hid (∀ m, Calls Try.prog 31 #[.float .f64 q, .float .f64 q] (wr.drewN m) fun e w' => e = .returned (.bool true) ∧ w' = wr.drewN m) := fun m => sameF q h3 _
      have l1 : (k : Int) < n := by omega
      clear h1
      go_wp2_with fail
      go_quiet ((go_at_call 31; exact Calls.quiet_of_same (HS.out _)))
      go_wp2
      go_roundw
      case rel => exact ⟨k + 1, by omega, by go_num, Go.Proofs.Ytdaijapdfleohaa.Below.drewN' hb _⟩
      case measure => simp [intOf]; omega
    · go_wp2
      go_ret
      exact ⟨rfl, hb⟩
theorem eqF_none (a1 a2 : Option Addr) (c1 c2 : Nat) (w : World) : Calls Try.prog 11 #[.slice a1 0 c1, .slice a2 0 c2] w (RetV w (.bool true)) := by
  go_enter Try.func11, Try.ntmps11
  go_wp2
  go_rounds 1
  go_ret
  exact ⟨rfl, Below.refl _ _⟩
theorem eq_f {E : TypeId} {w : World} {B1 B2 : Nat} {v1 v2 : Value} {xs : List Nat} (h1 : OwnF E w B1 v1 xs) (h2 : OwnF E w B2 v2 xs) (hn : xs.length < 1000000000) : Calls Try.prog 11 #[v1, v2] w (RetV w (.bool true)) := by
  obtain ⟨a1, c1, rfl, k1⟩ := h1.form
  obtain ⟨a2, c2, rfl, k2⟩ := h2.form
  by_cases hx : xs = []
  · subst hx
    exact eqF_none a1 a2 c1 c2 w
  · obtain ⟨g1, rfl, _, _, i1, _⟩ := k1 hx
    obtain ⟨g2, rfl, _, _, i2, _⟩ := k2 hx
    exact eqF_core xs.length g1 g2 c1 c2 _ w hn (fun i hi => by
      have : xs.getD i 0 ∈ xs := by simp [List.getD, hi]
      exact h1.2 _ this) i1 i2

/-- k, k + 1, .. as floats. -/
def marksF (k : Int) : Nat → List Nat
  | 0 => []
  | n + 1 => marksF k n ++ [floatOfInt .f32 (k + n)]
theorem marksF_length (k : Int) (n : Nat) : (marksF k n).length = n := by
  induction n with
  | zero => rfl
  | succ n ih => simp [marksF, ih]
theorem marksF_get (k : Int) (n i : Nat) (h : i < n) : (marksF k n).getD i 0 = floatOfInt .f32 (k + i) := by
  induction n with
  | zero => omega
  | succ n ih =>
    have hl := marksF_length k n
    by_cases hi : i < n
    · have := ih hi
      simp only [marksF, List.getD, List.getElem?_append, hl, hi, if_true] at this ⊢
      exact this
    · obtain rfl : i = n := by omega
      simp [marksF, List.getD, hl]
theorem marksF_set (k : Int) (xs : List Nat) (j : Nat) (h : j < xs.length) : (marksF k j ++ xs.drop j).set j (floatOfInt .f32 (k + j)) = marksF k (j + 1) ++ xs.drop (j + 1) := by
  have hl := marksF_length k j
  rw [List.set_append]
  simp only [hl, Nat.lt_irrefl, if_false, Nat.sub_self]
  rw [List.drop_eq_getElem_cons h]
  simp only [List.set_cons_zero, marksF, List.append_assoc, List.singleton_append]

set_option maxHeartbeats 1600000 in
theorem markF_core {E : TypeId} (g c B : Nat) (xs : List Nat) (k0 : Int) (w : World) (hn : xs.length < 1000000000) (hk0 : 0 ≤ k0) (hk1 : k0 < 100000000000) (h : OwnF E w B (.slice (some ⟨g, 0, none⟩) xs.length c) xs) (hne : xs ≠ []) :
    Calls Try.prog 16 #[.slice (some ⟨g, 0, none⟩) xs.length c, .int .i64 k0] w fun e w' =>
      e = .returned (.int .i64 (k0 + xs.length)) ∧ OwnF E w' B (.slice (some ⟨g, 0, none⟩) xs.length c) (marksF k0 xs.length) ∧ Only g (g + 1) w w' := by
  obtain ⟨n, hN⟩ : ∃ n, n = xs.length := ⟨_, rfl⟩
  have HN := Lib.hid hN
  rw [← hN] at h hn ⊢
  clear hN
  have HFL : Hid (∀ j, j ≤ n → ∀ wr, OwnF E wr B (.slice (some ⟨g, 0, none⟩) n c) (marksF k0 j ++ xs.drop j) → j < n → (∃ x, wr.cell? ⟨g, j, none⟩ = some x) ∧ wr.frozen? ⟨g, j, none⟩ = false) := fun j hj wr ho hlt => by
    have hl : (marksF k0 j ++ xs.drop j).length = n := by rw [List.length_append, marksF_length, List.length_drop]; have := HN.out; omega
    obtain ⟨a, cap, hv, hh⟩ := ho.form
    obtain ⟨g', ha, _, _, hi, hz⟩ := hh (fun e => by rw [e] at hl; simp at hl; omega)
    subst ha
    simp only [Value.slice.injEq, Option.some.injEq, Addr.mk.injEq, and_true] at hv
    obtain ⟨rfl, _, rfl⟩ := hv
    exact ⟨⟨_, hi j (by omega)⟩, hz j⟩
  go_enter Try.func16, Try.ntmps16
  go_wp2
  go_loopw [1, 5] (fun kv i wr => ∃ j : Nat, j ≤ n ∧ i = .int .i64 j ∧ kv = .int .i64 (k0 + j) ∧ OwnF E wr B (.slice (some ⟨g, 0, none⟩) n c) (marksF k0 j ++ xs.drop j) ∧ Only g (g + 1) w wr) (fun _ i _ => n - (intOf i).toNat)
  case atStart => exact ⟨0, Nat.zero_le _, rfl, by go_num, by simpa [marksF] using h, Only.refl _ _ _⟩
  case round =>
    obtain ⟨j, hj, rfl, rfl, ho, hb⟩ := hrel
    have hl : (marksF k0 j ++ xs.drop j).length = n := by rw [HN.out, List.length_append, marksF_length, List.length_drop]; rw [HN.out] at hj; omega
    by_cases hlt : j < n
    · obtain ⟨⟨x, hx⟩, hf⟩ := HFL.out j hj _ ho hlt
      have R := ho.set hl.symm j (floatOfInt .f32 (k0 + j)) (Nat.le_of_lt (ofInt_fin (by omega) (by omega)).1)
      rw [marksF_set k0 xs j (by rw [← HN.out]; exact hlt)] at R
      have HR := Lib.hid R
      have HL := Lib.hid hl
      have hst : ∀ a b m w, (store a (.float .f32 b) m).run Try.prog w = stored Try.prog w a (.float .f32 b) m := fun a b m w => run_store Try.prog w a _ m rfl
      clear R hl ho
      go_wp2
      go_roundw
      case rel => exact ⟨j + 1, by omega, by go_num, by go_num, HR.out, hb.setCell (Nat.le_refl _) (Nat.lt_succ_self _) _⟩
      case measure => simp [intOf]; omega
    · obtain rfl : j = n := by omega
      have R : OwnF E wr B (.slice (some ⟨g, 0, none⟩) j c) (marksF k0 j) := by
        have := ho
        rwa [List.drop_of_length_le (by rw [HN.out]; exact Nat.le_refl _), List.append_nil] at this
      have HR := Lib.hid R
      have HL := Lib.hid hl
      clear R hl ho
      go_wp2
      go_ret
      exact ⟨rfl, HR.out, hb⟩
theorem markF_none (a : Option Addr) (c : Nat) (k0 : Int) (w : World) : Calls Try.prog 16 #[.slice a 0 c, .int .i64 k0] w fun e w' => e = .returned (.int .i64 k0) ∧ w = w' := by
  go_enter Try.func16, Try.ntmps16
  go_wp2
  go_rounds 1
  go_ret
  exact ⟨rfl, rfl⟩
def MarkedF (E : TypeId) (w : World) (B : Nat) (v : Value) (n : Nat) (k0 : Int) (e : Ending) (w' : World) : Prop :=
  e = .returned (.int .i64 (k0 + n)) ∧ OwnF E w' B v (marksF k0 n) ∧ ∀ lo hi, (∀ b, v.ownBlock = some b → lo ≤ b ∧ b < hi) → Only lo hi w w'
theorem mark_f {E : TypeId} {w : World} {B : Nat} {v : Value} {xs : List Nat} (k0 : Int) (h : OwnF E w B v xs) (hn : xs.length < 1000000000) (hk0 : 0 ≤ k0) (hk1 : k0 < 100000000000) :
    Calls Try.prog 16 #[v, .int .i64 k0] w (MarkedF E w B v xs.length k0) := by
  have h0 := h
  obtain ⟨a, c, rfl, k⟩ := h.form
  by_cases hx : xs = []
  · subst hx
    refine (markF_none a c k0 w).mono fun e w' ⟨he, hw⟩ => ?_
    subst hw
    exact ⟨by rw [he]; simp, h0, fun _ _ _ => Only.refl _ _ _⟩
  · obtain ⟨g, rfl, _⟩ := k hx
    refine (markF_core g c B xs k0 w hn hk0 hk1 h0 hx).mono fun e w' ⟨he, ho, hb⟩ => ⟨he, ho, fun lo hi hr => ?_⟩
    obtain ⟨h1, h2⟩ := hr g rfl
    exact ⟨hb.os, hb.tape, hb.output, hb.size, fun k hk hd => hb.block k hk (by omega)⟩

set_option maxHeartbeats 1600000 in
theorem heldF_core (n g c : Nat) (k0 : Int) (w : World) (hn : n < 1000000000) (hk0 : 0 ≤ k0) (hk1 : k0 < 100000000000) (H : Flts w g n (fun i => floatOfInt .f32 (k0 + i))) :
    Calls Try.prog 17 #[.slice (some ⟨g, 0, none⟩) n c, .int .i64 k0] w fun e w' => e = .returned (.int .i64 (k0 + n)) ∧ Below w.heap.size w w' := by
  go_enter Try.func17, Try.ntmps17
  go_wp2
  go_loopw [1, 5] (fun kv i wr => ∃ j : Nat, j ≤ n ∧ i = .int .i64 j ∧ kv = .int .i64 (k0 + j) ∧ Below w.heap.size w wr) (fun _ i _ => n - (intOf i).toNat)
  case atStart => exact ⟨0, Nat.zero_le _, rfl, by go_num, Below.refl _ _⟩
  case round =>
    obtain ⟨j, hj, rfl, rfl, hb⟩ := hrel
    by_cases hlt : j < n
    · have c1 := Below.cellOf hb rfl (H j hlt)
      have h1 := ord32 (floatOfInt .f32 (k0 + j)) (ofInt_fin (by omega) (by omega)).1
      go_wp2
      go_roundw
      case rel => exact ⟨j + 1, by omega, by go_num, by go_num, hb⟩
      case measure => simp [intOf]; omega
    · obtain rfl : j = n := by omega
      go_wp2
      go_ret
      exact ⟨rfl, hb⟩
theorem heldF_none (a : Option Addr) (c : Nat) (k0 : Int) (w : World) : Calls Try.prog 17 #[.slice a 0 c, .int .i64 k0] w fun e w' => e = .returned (.int .i64 k0) ∧ w = w' := by
  go_enter Try.func17, Try.ntmps17
  go_wp2
  go_rounds 1
  go_ret
  exact ⟨rfl, rfl⟩
theorem held_f {E : TypeId} {w : World} {B : Nat} {v : Value} {n : Nat} (k0 : Int) (h : OwnF E w B v (marksF k0 n)) (hn : n < 1000000000) (hk0 : 0 ≤ k0) (hk1 : k0 < 100000000000) :
    Calls Try.prog 17 #[v, .int .i64 k0] w fun e w' => e = .returned (.int .i64 (k0 + n)) ∧ Below w.heap.size w w' := by
  obtain ⟨a, c, rfl, k⟩ := h.form
  have hl := marksF_length k0 n
  by_cases hx : n = 0
  · subst hx
    refine (heldF_none a c k0 w).mono fun e w' ⟨he, hw⟩ => ?_
    subst hw
    exact ⟨by rw [he]; simp, Below.refl _ _⟩
  · obtain ⟨g, rfl, _, _, hi, _⟩ := k (fun e => by rw [e] at hl; simp at hl; omega)
    rw [hl] at hi ⊢
    refine heldF_core n g c k0 w hn hk0 hk1 fun i h => ?_
    rw [hi i h]
    exact congrArg (fun x => some (Value.float .f32 x)) (marksF_get k0 n i h)
end Go.Proofs.Ytdaijapdfleohaa
