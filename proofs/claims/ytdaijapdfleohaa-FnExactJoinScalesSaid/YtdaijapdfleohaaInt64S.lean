/-
  The laws' helpers on slices of integers, by contracts: eqInt64S of two slices that hold the same integers is true; markInt64S writes k, k + 1, ..; heldInt64S of what was so marked is k + its length. Condition: fewer than 1000000000 integers.
-/
import Derived.Test.YtdaijapdfleohaaProg
import Derived.Test.YtdaijapdfleohaaBase
namespace Go.Proofs.Ytdaijapdfleohaa
open Go.RowKit
set_option linter.unusedVariables false

/-- k, k + 1, .. -/
def marks (k : Int) : Nat → List Int
  | 0 => []
  | n + 1 => marks k n ++ [k + n]
theorem marks_length (k : Int) (n : Nat) : (marks k n).length = n := by
  induction n with
  | zero => rfl
  | succ n ih => simp [marks, ih]
theorem marks_get (k : Int) (n i : Nat) (h : i < n) : (marks k n).getD i 0 = k + i := by
  induction n with
  | zero => omega
  | succ n ih =>
    have hl := marks_length k n
    by_cases hi : i < n
    · have := ih hi
      simp only [marks, List.getD, List.getElem?_append, hl, hi, if_true] at this ⊢
      exact this
    · obtain rfl : i = n := by omega
      simp [marks, List.getD, hl]

set_option maxHeartbeats 400000 in
theorem eq_core (n g1 g2 c1 c2 : Nat) (f : Nat → Int) (w : World) (hn : n < 1000000000) (H1 : Ints w g1 0 n f) (H2 : Ints w g2 0 n f) :
    Calls Try.prog 13 #[.slice (some ⟨g1, 0, none⟩) n c1, .slice (some ⟨g2, 0, none⟩) n c2] w fun e w' => e = .returned (.bool true) ∧ Below w.heap.size w w' := by
  go_enter Try.func13, Try.ntmps13
  go_wp2
  go_loopw [5] (fun i wr => ∃ k : Nat, k ≤ n ∧ i = .int .i64 k ∧ Below w.heap.size w wr) (fun i _ => n - (intOf i).toNat)
  case atStart => exact ⟨0, Nat.zero_le _, rfl, Below.refl _ _⟩
  case round =>
    obtain ⟨k, hk, rfl, hb⟩ := hrel
    by_cases hlt : k < n
    · have c1 := Below.cellOf hb rfl (H1.at0 k hlt)
      have c2 := Below.cellOf hb rfl (H2.at0 k hlt)
      go_wp2
      go_quiet (fail)
      go_wp2
      go_roundw
      case rel => exact ⟨k + 1, by omega, by go_num, Below.drewN' hb _⟩
      case measure => simp [intOf]; omega
    · go_wp2
      go_ret
      exact ⟨rfl, hb⟩

theorem eq_none (a1 a2 : Option Addr) (c1 c2 : Nat) (w : World) :
    Calls Try.prog 13 #[.slice a1 0 c1, .slice a2 0 c2] w fun e w' => e = .returned (.bool true) ∧ Below w.heap.size w w' := by
  go_enter Try.func13, Try.ntmps13
  go_wp2
  go_rounds 1
  go_ret
  exact ⟨rfl, Below.refl _ _⟩

theorem eq_i {E : TypeId} {w : World} {B1 B2 : Nat} {v1 v2 : Value} {xs : List Int} (h1 : Own E w B1 v1 xs) (h2 : Own E w B2 v2 xs) (hn : xs.length < 1000000000) :
    Calls Try.prog 13 #[v1, v2] w fun e w' => e = .returned (.bool true) ∧ Below w.heap.size w w' := by
  obtain ⟨a1, c1, rfl, k1⟩ := h1.shape
  obtain ⟨a2, c2, rfl, k2⟩ := h2.shape
  by_cases hx : xs = []
  · subst hx
    exact eq_none a1 a2 c1 c2 w
  · obtain ⟨g1, rfl, _, _, _, _, i1, _⟩ := k1 hx
    obtain ⟨g2, rfl, _, _, _, _, i2, _⟩ := k2 hx
    exact eq_core xs.length g1 g2 c1 c2 _ w hn i1 i2
theorem marks_set (k : Int) (xs : List Int) (j : Nat) (h : j < xs.length) : (marks k j ++ xs.drop j).set j (k + j) = marks k (j + 1) ++ xs.drop (j + 1) := by
  have hl := marks_length k j
  rw [List.set_append]
  simp only [hl, Nat.lt_irrefl, if_false, Nat.sub_self]
  rw [List.drop_eq_getElem_cons h]
  simp only [List.set_cons_zero, marks, List.append_assoc, List.singleton_append]

set_option maxHeartbeats 400000 in
theorem mark_core {E : TypeId} (g c B : Nat) (xs : List Int) (k0 : Int) (w : World) (hn : xs.length < 1000000000) (hk0 : 0 ≤ k0) (hk1 : k0 < 100000000000) (h : Own E w B (.slice (some ⟨g, 0, none⟩) xs.length c) xs) :
    Calls Try.prog 15 #[.slice (some ⟨g, 0, none⟩) xs.length c, .int .i64 k0] w fun e w' =>
      e = .returned (.int .i64 (k0 + xs.length)) ∧ Own E w' B (.slice (some ⟨g, 0, none⟩) xs.length c) (marks k0 xs.length) ∧ Only g (g + 1) w w' := by
  obtain ⟨n, hN⟩ : ∃ n, n = xs.length := ⟨_, rfl⟩
  have HN := Lib.hid hN
  rw [← hN] at h hn ⊢
  clear hN
  go_enter Try.func15, Try.ntmps15
  go_wp2
  go_loopw [1, 5] (fun kv i wr => ∃ j : Nat, j ≤ n ∧ i = .int .i64 j ∧ kv = .int .i64 (k0 + j) ∧ Own E wr B (.slice (some ⟨g, 0, none⟩) n c) (marks k0 j ++ xs.drop j) ∧ Only g (g + 1) w wr) (fun _ i _ => n - (intOf i).toNat)
  case atStart => exact ⟨0, Nat.zero_le _, rfl, by go_num, by simpa [marks] using h, Only.refl _ _ _⟩
  case round =>
    obtain ⟨j, hj, rfl, rfl, ho, hb⟩ := hrel
    have hl : (marks k0 j ++ xs.drop j).length = n := by rw [HN.out, List.length_append, marks_length, List.length_drop]; rw [HN.out] at hj; omega
    by_cases hlt : j < n
    · obtain ⟨x, hx⟩ : ∃ x, wr.cell? ⟨g, j, none⟩ = some x := by
        rcases ho.form with ⟨h0, _⟩ | ⟨g', c', hv, _, _, _, _, hi, _⟩
        · cases h0
        · simp only [Value.slice.injEq, Option.some.injEq, Addr.mk.injEq, and_true] at hv
          obtain ⟨rfl, _, rfl⟩ := hv
          exact ⟨_, hi.at0 j (by omega)⟩
      have hf : wr.frozen? ⟨g, j, none⟩ = false := by
        rcases ho.form with ⟨h0, _⟩ | ⟨g', c', hv, _, _, _, _, _, hfz⟩
        · cases h0
        · simp only [Value.slice.injEq, Option.some.injEq, Addr.mk.injEq, and_true] at hv
          obtain ⟨rfl, _, rfl⟩ := hv
          exact hfz j
      have R := ho.set hl.symm j (k0 + j)
      rw [marks_set k0 xs j (by rw [← HN.out]; exact hlt)] at R
      have HR := Lib.hid R
      have HL := Lib.hid hl
      clear R hl ho
      go_wp2
      go_roundw
      case rel => exact ⟨j + 1, by omega, by go_num, by go_num, HR.out, hb.setCell (Nat.le_refl _) (Nat.lt_succ_self _) _⟩
      case measure => simp [intOf]; omega
    · obtain rfl : j = n := by omega
      have R : Own E wr B (.slice (some ⟨g, 0, none⟩) j c) (marks k0 j) := by
        have := ho
        rwa [List.drop_of_length_le (by rw [HN.out]; exact Nat.le_refl _), List.append_nil] at this
      have HR := Lib.hid R
      have HL := Lib.hid hl
      clear R hl ho
      go_wp2
      go_ret
      exact ⟨rfl, HR.out, hb⟩

theorem mark_none (a : Option Addr) (c : Nat) (k0 : Int) (w : World) :
    Calls Try.prog 15 #[.slice a 0 c, .int .i64 k0] w fun e w' => e = .returned (.int .i64 k0) ∧ w = w' := by
  go_enter Try.func15, Try.ntmps15
  go_wp2
  go_rounds 1
  go_ret
  exact ⟨rfl, rfl⟩

/-- What marking leaves. -/
def Marked (E : TypeId) (w : World) (B : Nat) (v : Value) (n : Nat) (k0 : Int) (e : Ending) (w' : World) : Prop :=
  e = .returned (.int .i64 (k0 + n)) ∧ Own E w' B v (marks k0 n) ∧ ∀ lo hi, (∀ b, v.ownBlock = some b → lo ≤ b ∧ b < hi) → Only lo hi w w'

theorem mark_i {E : TypeId} {w : World} {B : Nat} {v : Value} {xs : List Int} (k0 : Int) (h : Own E w B v xs) (hn : xs.length < 1000000000) (hk0 : 0 ≤ k0) (hk1 : k0 < 100000000000) :
    Calls Try.prog 15 #[v, .int .i64 k0] w (Marked E w B v xs.length k0) := by
  have h0 := h
  obtain ⟨a, c, rfl, k⟩ := h.shape
  by_cases hx : xs = []
  · subst hx
    refine (mark_none a c k0 w).mono fun e w' ⟨he, hw⟩ => ?_
    subst hw
    exact ⟨by rw [he]; simp, h0, fun _ _ _ => Only.refl _ _ _⟩
  · obtain ⟨g, rfl, _⟩ := k hx
    refine (mark_core g c B xs k0 w hn hk0 hk1 h0).mono fun e w' ⟨he, ho, hb⟩ => ⟨he, ho, fun lo hi hr => ?_⟩
    obtain ⟨h1, h2⟩ := hr g rfl
    exact ⟨hb.os, hb.tape, hb.output, hb.size, fun k hk hd => hb.block k hk (by omega)⟩

set_option maxHeartbeats 400000 in
theorem held_core (n g c : Nat) (k0 : Int) (w : World) (hn : n < 1000000000) (hk0 : 0 ≤ k0) (hk1 : k0 < 100000000000) (H : Ints w g 0 n (fun i => k0 + i)) :
    Calls Try.prog 20 #[.slice (some ⟨g, 0, none⟩) n c, .int .i64 k0] w fun e w' => e = .returned (.int .i64 (k0 + n)) ∧ Below w.heap.size w w' := by
  go_enter Try.func20, Try.ntmps20
  go_wp2
  go_loopw [1, 5] (fun kv i wr => ∃ j : Nat, j ≤ n ∧ i = .int .i64 j ∧ kv = .int .i64 (k0 + j) ∧ Below w.heap.size w wr) (fun _ i _ => n - (intOf i).toNat)
  case atStart => exact ⟨0, Nat.zero_le _, rfl, by go_num, Below.refl _ _⟩
  case round =>
    obtain ⟨j, hj, rfl, rfl, hb⟩ := hrel
    by_cases hlt : j < n
    · have c1 := Below.cellOf hb rfl (H.at0 j hlt)
      go_wp2
      go_roundw
      case rel => exact ⟨j + 1, by omega, by go_num, by go_num, hb⟩
      case measure => simp [intOf]; omega
    · obtain rfl : j = n := by omega
      go_wp2
      go_ret
      exact ⟨rfl, hb⟩

theorem held_none (a : Option Addr) (c : Nat) (k0 : Int) (w : World) :
    Calls Try.prog 20 #[.slice a 0 c, .int .i64 k0] w fun e w' => e = .returned (.int .i64 k0) ∧ w = w' := by
  go_enter Try.func20, Try.ntmps20
  go_wp2
  go_rounds 1
  go_ret
  exact ⟨rfl, rfl⟩

theorem held_i {E : TypeId} {w : World} {B : Nat} {v : Value} {n : Nat} (k0 : Int) (h : Own E w B v (marks k0 n)) (hn : n < 1000000000) (hk0 : 0 ≤ k0) (hk1 : k0 < 100000000000) :
    Calls Try.prog 20 #[v, .int .i64 k0] w fun e w' => e = .returned (.int .i64 (k0 + n)) ∧ Below w.heap.size w w' := by
  obtain ⟨a, c, rfl, k⟩ := h.shape
  have hl := marks_length k0 n
  by_cases hx : n = 0
  · subst hx
    refine (held_none a c k0 w).mono fun e w' ⟨he, hw⟩ => ?_
    subst hw
    exact ⟨by rw [he]; simp, Below.refl _ _⟩
  · obtain ⟨g, rfl, _, _, _, _, hi, _⟩ := k (fun e => by rw [e] at hl; simp at hl; omega)
    rw [hl] at hi ⊢
    refine held_core n g c k0 w hn hk0 hk1 fun i h => ?_
    rw [hi i h]
    exact congrArg (fun x => some (Value.int .i64 x)) (marks_get k0 n i h)
end Go.Proofs.Ytdaijapdfleohaa
