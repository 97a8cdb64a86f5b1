/-
  slices.Sort, slices.Compact, slices.Grow and slices.Concat on rows of the call's own. Conditions: lists of 1 to 1000000 integers.
-/
import Derived.Test.YtdaijapdfleohaaJoinL
import Derived.Test.YtdaijapdfleohaaJoinP
import Derived.Test.YtdaijapdfleohaaMoreApp
import Derived.Test.YtdaijapdfleohaaToInt64S
import Derived.Sort.OwnSortedInts
import Derived.Lib.OwnBridge
namespace Go.Proofs.Ytdaijapdfleohaa
open Go.RowKit
set_option linter.unusedVariables false

def srt (zs : List Int) : List Int := zs.mergeSort fun x y => decide (x ≤ y)
theorem srt_length (zs : List Int) : (srt zs).length = zs.length := List.length_mergeSort _
theorem Own.blk {E : TypeId} {w : World} {B g n c : Nat} {zs : List Int} (h : Own E w B (.slice (some ⟨g, 0, none⟩) n c) zs) :
    zs.length = n ∧ B ≤ g ∧ n ≤ c ∧ c ≤ maxLen ∧ ∃ cur, w.heap[g]? = some (.cells cur E (0, 0)) ∧ cur.size = c * 1 ∧ cur.toList.take (n * 1) = zs.map (Value.int .i64) := by
  obtain ⟨h1, h2⟩ := h
  rcases h2 with ⟨e, _⟩ | ⟨g', cap, cur, e, hg, hh, hn, hm, hs, ht⟩
  · cases e
  · injection e with e1 e2 e3
    injection e1 with e1
    injection e1 with e1
    subst e1 e3
    exact ⟨e2.symm, hg, by omega, hm, cur, hh, hs, by rw [e2]; exact ht⟩
theorem kept_of {w w' : World} {g : Nat} (h : w.grownBy w' (some g)) : Kept (fun k => k = g) w w' := by
  obtain ⟨a, b, c, d, e⟩ := h
  exact ⟨a, b, c, d, fun k hk hd => e k hk (fun e' => hd (Option.some.inj e'))⟩
theorem sort_own {w : World} {B g n c : Nat} {zs : List Int} (h : Own 2 w B (.slice (some ⟨g, 0, none⟩) n c) zs) (hn : n < 1000000) :
    Calls Try.prog 43 #[.slice (some ⟨g, 0, none⟩) n c] w fun e w' => e = .returned (.tuple #[]) ∧ Own 2 w' B (.slice (some ⟨g, 0, none⟩) n c) (srt zs) ∧ Kept (fun k => k = g) w w' := by
  obtain ⟨hl, hB, h1, h2, cur, hh, hs, ht⟩ := h.blk
  subst hl
  have hg : g < w.heap.size := (Array.getElem?_eq_some_iff.1 hh).1
  refine (AnyM.slices_Sort_int laysS g 0 c zs w (holds_of_blockI hh (by rw [Nat.mul_one] at ht; exact ht)) hg (by omega)).mono ?_
  rintro e w' ⟨he, q, os, rfl⟩
  refine ⟨he, ?_, kept_of (grownBy_sortedI _)⟩
  have := ownsRow_sortedI (n := q) (os := os) (ts := srt zs) (srt_length zs) hB hh h1 h2 hs
  unfold Own
  rw [srt_length]
  exact this

def cmpct (zs : List Int) : List Int := Lib.compactUpTo zs.toArray zs.toArray.size
theorem cmpct_length (zs : List Int) : (cmpct zs).length ≤ zs.length := by
  unfold cmpct Lib.compactUpTo
  rw [List.length_map]
  refine Nat.le_trans (List.length_filter_le _ _) ?_
  simp
theorem below_ahead {w : World} {g q : Nat} {d : Array Int} : w.grownBy (Sort.putRow (Value.int .i64) (Sort.ahead w q) g 0 d) (some g) := by
  refine ⟨rfl, rfl, rfl, by simp [Sort.putRow, Sort.mapBlock, Sort.ahead], fun k hk hne => ?_⟩
  have : g ≠ k := fun e => hne (by rw [e])
  simp [Sort.putRow, Sort.mapBlock, Sort.ahead, Array.getElem?_modify, this]
theorem compact_own {w : World} {B g n c : Nat} {zs : List Int} (h : Own 2 w B (.slice (some ⟨g, 0, none⟩) n c) zs) (hn : n < 1000000) :
    Calls Try.prog 44 #[.slice (some ⟨g, 0, none⟩) n c] w fun e w' => e = .returned (.slice (some ⟨g, 0, none⟩) (cmpct zs).length c) ∧ Own 2 w' B (.slice (some ⟨g, 0, none⟩) (cmpct zs).length c) (cmpct zs) ∧ Kept (fun k => k = g) w w' := by
  have h0 := h
  obtain ⟨hl, hB, h1, h2, cur, hh, hs, ht⟩ := h.blk
  subst hl
  have hH := holds_of_blockI (ss := zs) hh (by rw [Nat.mul_one] at ht; exact ht)
  have hc := cmpct_length zs
  have hsz : zs.toArray.size = zs.length := by simp
  have key := AnyE.slices_Compact laysC (Value.int .i64) (fun _ => rfl) (EqlAt.intD _ _ _) (NeqAt.intD _ _ _) 0 Try.zeroValue2 g 0 c zs.toArray w hH (by omega) (by omega)
  rw [hsz] at key
  refine key.mono ?_
  rintro e w' ⟨he, q, rfl⟩
  have e0 : Lib.compactUpTo zs.toArray zs.length = cmpct zs := by unfold cmpct; rw [hsz]
  rw [e0] at he ⊢
  refine ⟨he, ?_, kept_of below_ahead⟩
  have := Lib.ownsRow_putRow (q := q) (k := (cmpct zs).length) (ys := cmpct zs ++ List.replicate (zs.length - (cmpct zs).length) 0) h0 (by simp; omega) hc
  rw [List.take_left] at this
  exact this

theorem grow_own (n : Nat) (w : World) (n0 : 1 ≤ n) (hn : n < 1000000) :
    Calls Try.prog 61 #[.slice none 0 0, .int .i64 n] w fun e w' => ∃ c, e = .returned (.slice (some ⟨w.heap.size, 0, none⟩) 0 c) ∧ Own 2 w' w.heap.size (.slice (some ⟨w.heap.size, 0, none⟩) 0 c) [] ∧ Below w.heap.size w w' := by
  obtain ⟨i0, hi0, hz0, hz1, hz2⟩ := info_parts Try.infoI
  have key := Any8.slices_Grow_grow laysG i0 (.int .i64 0) hi0 hz0 (by omega) none 0 0 n [] w (Nat.le_refl _) (by omega) (by rw [hz2]; omega) (by omega) (by simp) (fun _ => rfl) (fun _ h => by cases h)
  refine key.mono ?_
  rintro e w' ⟨he, rfl⟩
  have hcm := grownCap_le_maxLen w (0 + n) 0 (laysG_ren.t 25) (by unfold maxLen; omega)
  have hcg := grownCap_ge w (0 + n) 0 (laysG_ren.t 25)
  generalize hC : grownCap w (0 + n) 0 (laysG_ren.t 25) = C at *
  have hb : Below w.heap.size w w.drew := (Below.refl _ _).drew
  refine ⟨C, he, ?_, hb.alloc (Nat.le_refl _) _⟩
  have hsz : w.drew.heap.size = w.heap.size := rfl
  rw [← hsz]
  have := World.ownsRow_made (base := w.drew.heap.size) (e := 2) (size := 1) w.drew ((#[] : Array Value) ++ Builtin.zeroCells (Value.int .i64 0).cells (0 + n - 0) ++ Builtin.zeroCells (Value.int .i64 0).cells (C - (0 + n))) C (Nat.le_refl _) hcm (by
    have hz : (Value.int .i64 0).cells.size = 1 := rfl
    simp [Builtin.zeroCells, hz]
    omega)
  exact this

set_option maxHeartbeats 3200000 in
set_option maxRecDepth 100000 in
theorem concat_own (n1 g1 c1 n2 g2 c2 gs : Nat) (f1 f2 : Nat → Int) (w : World) (h1 : 1 ≤ n1 ∧ n1 < 1000) (h2 : 1 ≤ n2 ∧ n2 < 1000) (I1 : Ints w g1 0 n1 f1) (I2 : Ints w g2 0 n2 f2)
    (k0 : w.cell? ⟨gs, 0, none⟩ = some (.slice (some ⟨g1, 0, none⟩) n1 c1)) (k1 : w.cell? ⟨gs, 1, none⟩ = some (.slice (some ⟨g2, 0, none⟩) n2 c2)) :
    Calls Try.prog 42 #[.slice (some ⟨gs, 0, none⟩) 2 2] w fun e w' => ∃ g c, e = .returned (.slice (some ⟨g, 0, none⟩) (n1 + n2) c) ∧ Own 2 w' w.heap.size (.slice (some ⟨g, 0, none⟩) (n1 + n2) c) (tab f1 n1 ++ tab f2 n2) ∧ Below w.heap.size w w' := by
  obtain ⟨a1, a2⟩ := h1
  obtain ⟨b1, b2⟩ := h2
  have HG : Hid (Calls Try.prog 61 #[.slice none 0 0, .int .i64 ((n1 : Int) + n2)] w fun e w' => ∃ c, e = .returned (.slice (some ⟨w.heap.size, 0, none⟩) 0 c) ∧ Own 2 w' w.heap.size (.slice (some ⟨w.heap.size, 0, none⟩) 0 c) [] ∧ Below w.heap.size w w') := by
    have := grow_own (n1 + n2) w (by omega) (by omega)
    rwa [Int.natCast_add] at this
  have L1 := Lib.hid (tab_length f1 n1)
  have L2 := Lib.hid (tab_length f2 n2)
  have J1 : Hid (∀ w', Below w.heap.size w w' → Ints w' g1 0 (tab f1 n1).length (fun i => (tab f1 n1).getD i 0)) := fun w' hb i hi => by
    rw [L1.out] at hi
    rw [I1.below hb i hi]
    show _ = some (Value.int .i64 ((tab f1 n1).getD i 0))
    rw [tab_get _ _ _ hi]
  have J2 : Hid (∀ w', Below w.heap.size w w' → Ints w' g2 0 (tab f2 n2).length (fun i => (tab f2 n2).getD i 0)) := fun w' hb i hi => by
    rw [L2.out] at hi
    rw [I2.below hb i hi]
    show _ = some (Value.int .i64 ((tab f2 n2).getD i 0))
    rw [tab_get _ _ _ hi]
  go_enter Try.func42, Try.ntmps42
  go_wp2
  refine wp_loop_rounds 3 ?_
  repeat any_goals (rw [rounds_succ]; go_wp2_with (first | (go_at_call 61; refine HG.out.mono ?_; rintro e w1 ⟨c, rfl, hO1, B1⟩)))
  have kk0 := Below.cellOf B1 rfl k0
  have kk1 := Below.cellOf B1 rfl k1
  have L3 := Lib.hid (show (tab f1 n1 ++ tab f2 n2).length = n1 + n2 by simp [L1.out, L2.out])
  refine wp_loop_rounds 3 ?_
  repeat any_goals (rw [rounds_succ]; go_wp2_with (first | (at_builtin; refine wpList_appS _ rfl _ _ 22 rfl w.heap.size 2 Try.infoI Try.underlying22 _ _ rfl hO1 (tab f1 n1) g1 c1 (by rw [L1.out]; rfl) (J1.out _ B1) (by rw [L1.out]; simp; omega) B1.size ?_; intro v2 w2 hO2 b2 _ _; rw [List.nil_append] at hO2; have B2 := B1.trans b2; have kk2 := Below.cellOf B2 rfl k1) | (at_builtin; refine wpList_appS _ rfl _ _ 22 rfl w.heap.size 2 Try.infoI Try.underlying22 _ _ rfl hO2 (tab f2 n2) g2 c2 (by rw [L2.out]; rfl) (J2.out _ B2) (by rw [L1.out, L2.out]; omega) B2.size ?_; intro v3 w3 hO3 b3 _ _; have B3 := B2.trans b3)))
  go_ret
  obtain ⟨a, c', hv, hh⟩ := hO3.shape
  rw [L3.out] at hv
  obtain ⟨g', rfl, _⟩ := hh (fun e => by have := L3.out; rw [e] at this; simp at this; omega)
  subst hv
  exact ⟨g', c', rfl, hO3, B3⟩
end Go.Proofs.Ytdaijapdfleohaa
