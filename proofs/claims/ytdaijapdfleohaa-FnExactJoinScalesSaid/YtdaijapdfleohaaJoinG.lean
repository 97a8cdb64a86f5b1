/-
  impl.scale and spec.l02Give hand back a scale, if it is valid. Condition: fewer than 1000000000 integers in each list.
-/
import Derived.Test.YtdaijapdfleohaaScaleV
import Derived.Test.YtdaijapdfleohaaScaleW
import Derived.Test.YtdaijapdfleohaaScaleO
import Derived.Laws.ResultCell
namespace Go.Proofs.Ytdaijapdfleohaa
open Go.RowKit
set_option linter.unusedVariables false

/-- A scale, if it is one. -/
def GiveS (v : Value) (ok : Bool) : Value := .tuple #[if ok then v else .agg #[.slice none 0 0, .slice none 0 0], .bool ok]
set_option maxHeartbeats 1600000 in
theorem scale_impl (gb cb gr cr nb nr : Nat) (fb fr : Nat → Int) (w : World) (mb : nb < 1000000000) (mr : nr < 1000000000) (Ib : Ints w gb 0 nb fb) (Ir : Ints w gr 0 nr fr) : Calls Try.prog 46 #[.agg #[.slice (some ⟨gb, 0, none⟩) nb cb, .slice (some ⟨gr, 0, none⟩) nr cr]] w (RetV w (GiveS (.agg #[.slice (some ⟨gb, 0, none⟩) nb cb, .slice (some ⟨gr, 0, none⟩) nr cr]) (scaleOk fb nb fr nr))) := by
  have bA : Below w.heap.size w ((w.alloc (.cells #[.slice (some ⟨gb, 0, none⟩) nb cb, .slice (some ⟨gr, 0, none⟩) nr cr] 29)).alloc (.cells #[.slice none 0 0, .slice none 0 0] 29)) := by go_grown
  have HK0 : Hid (((w.alloc (.cells #[.slice (some ⟨gb, 0, none⟩) nb cb, .slice (some ⟨gr, 0, none⟩) nr cr] 29)).alloc (.cells #[.slice none 0 0, .slice none 0 0] 29)).cell? ⟨w.heap.size, 0, none⟩ = some (.slice (some ⟨gb, 0, none⟩) nb cb)) := by show World.cell? _ _ = _; simp [go_sem]
  have HK1 : Hid (((w.alloc (.cells #[.slice (some ⟨gb, 0, none⟩) nb cb, .slice (some ⟨gr, 0, none⟩) nr cr] 29)).alloc (.cells #[.slice none 0 0, .slice none 0 0] 29)).cell? ⟨w.heap.size, 1, none⟩ = some (.slice (some ⟨gr, 0, none⟩) nr cr)) := by show World.cell? _ _ = _; simp [go_sem]
  have HZ0 : Hid (((w.alloc (.cells #[.slice (some ⟨gb, 0, none⟩) nb cb, .slice (some ⟨gr, 0, none⟩) nr cr] 29)).alloc (.cells #[.slice none 0 0, .slice none 0 0] 29)).cell? ⟨w.heap.size + 1, 0, none⟩ = some (.slice none 0 0)) := by show World.cell? _ _ = _; simp [go_sem]
  have HZ1 : Hid (((w.alloc (.cells #[.slice (some ⟨gb, 0, none⟩) nb cb, .slice (some ⟨gr, 0, none⟩) nr cr] 29)).alloc (.cells #[.slice none 0 0, .slice none 0 0] 29)).cell? ⟨w.heap.size + 1, 1, none⟩ = some (.slice none 0 0)) := by show World.cell? _ _ = _; simp [go_sem]
  have hz : w.heap.size + 1 < ((w.alloc (.cells #[.slice (some ⟨gb, 0, none⟩) nb cb, .slice (some ⟨gr, 0, none⟩) nr cr] 29)).alloc (.cells #[.slice none 0 0, .slice none 0 0] 29)).heap.size := by simp
  have HF : Hid (∀ i, ((w.alloc (.cells #[.slice (some ⟨gb, 0, none⟩) nb cb, .slice (some ⟨gr, 0, none⟩) nr cr] 29)).alloc (.cells #[.slice none 0 0, .slice none 0 0] 29)).frozen? ⟨w.heap.size + 1, i, none⟩ = false) := fun i => by show World.frozen? _ _ = _; simp [go_sem]
  have HV : Hid (∀ w', Below w.heap.size w w' → Calls Try.prog 28 #[.agg #[.slice (some ⟨gb, 0, none⟩) nb cb, .slice (some ⟨gr, 0, none⟩) nr cr]] w' (RetV w' (.bool (scaleOk fb nb fr nr)))) := fun w' hb => valid_impl gb cb gr cr nb nr fb fr w' mb mr (Ib.below hb) (Ir.below hb)
  cases h : scaleOk fb nb fr nr
  all_goals
    rw [h] at HV
    clear h
    go_enter Try.func46, Try.ntmps46
    go_wp2_with (first | (go_at_call 28; refine (HV.out _ bA).mono ?_; rintro e w1 ⟨rfl, b1⟩; have C1 := bnext bA b1; have k0 := Below.cellOf b1 rfl HK0.out; have k1 := Below.cellOf b1 rfl HK1.out; have z0 := Below.cellOf b1 rfl HZ0.out; have z1 := Below.cellOf b1 rfl HZ1.out; have f0 := (b1.frozen (p := ⟨w.heap.size + 1, 0, none⟩) hz).trans (HF.out 0); have f1 := (b1.frozen (p := ⟨w.heap.size + 1, 1, none⟩) hz).trans (HF.out 1)))
    (try simp only [Exit.inBlock, Exit.then])
  · refine bodyPost_ret (v := .tuple #[.agg #[.slice none 0 0, .slice none 0 0], .bool false]) ?_ rfl ?_
    · rw [results_cell_tmp rfl]
      go_simp
    · exact ⟨rfl, (C1.setCell (Nat.le_succ _) _).setCell (Nat.le_succ _) _⟩
  · refine bodyPost_ret (v := .tuple #[.agg #[.slice (some ⟨gb, 0, none⟩) nb cb, .slice (some ⟨gr, 0, none⟩) nr cr], .bool true]) ?_ rfl ?_
    · rw [results_cell_tmp rfl]
      go_simp
    · exact ⟨rfl, (C1.setCell (Nat.le_succ _) _).setCell (Nat.le_succ _) _⟩

set_option maxHeartbeats 1600000 in
theorem give_spec (gb cb gr cr nb nr : Nat) (fb fr : Nat → Int) (w : World) (mb : nb < 1000000000) (mr : nr < 1000000000) (Ib : Ints w gb 0 nb fb) (Ir : Ints w gr 0 nr fr) : Calls Try.prog 41 #[.agg #[.slice (some ⟨gb, 0, none⟩) nb cb, .slice (some ⟨gr, 0, none⟩) nr cr]] w (RetV w (GiveS (.agg #[.slice (some ⟨gb, 0, none⟩) nb cb, .slice (some ⟨gr, 0, none⟩) nr cr]) (scaleOk fb nb fr nr))) := by
  have bA : Below w.heap.size w ((w.alloc (.cells #[.slice (some ⟨gb, 0, none⟩) nb cb, .slice (some ⟨gr, 0, none⟩) nr cr] 29)).alloc (.cells #[.slice none 0 0, .slice none 0 0] 29)) := by go_grown
  have HK0 : Hid (((w.alloc (.cells #[.slice (some ⟨gb, 0, none⟩) nb cb, .slice (some ⟨gr, 0, none⟩) nr cr] 29)).alloc (.cells #[.slice none 0 0, .slice none 0 0] 29)).cell? ⟨w.heap.size, 0, none⟩ = some (.slice (some ⟨gb, 0, none⟩) nb cb)) := by show World.cell? _ _ = _; simp [go_sem]
  have HK1 : Hid (((w.alloc (.cells #[.slice (some ⟨gb, 0, none⟩) nb cb, .slice (some ⟨gr, 0, none⟩) nr cr] 29)).alloc (.cells #[.slice none 0 0, .slice none 0 0] 29)).cell? ⟨w.heap.size, 1, none⟩ = some (.slice (some ⟨gr, 0, none⟩) nr cr)) := by show World.cell? _ _ = _; simp [go_sem]
  have HZ0 : Hid (((w.alloc (.cells #[.slice (some ⟨gb, 0, none⟩) nb cb, .slice (some ⟨gr, 0, none⟩) nr cr] 29)).alloc (.cells #[.slice none 0 0, .slice none 0 0] 29)).cell? ⟨w.heap.size + 1, 0, none⟩ = some (.slice none 0 0)) := by show World.cell? _ _ = _; simp [go_sem]
  have HZ1 : Hid (((w.alloc (.cells #[.slice (some ⟨gb, 0, none⟩) nb cb, .slice (some ⟨gr, 0, none⟩) nr cr] 29)).alloc (.cells #[.slice none 0 0, .slice none 0 0] 29)).cell? ⟨w.heap.size + 1, 1, none⟩ = some (.slice none 0 0)) := by show World.cell? _ _ = _; simp [go_sem]
  have hz : w.heap.size + 1 < ((w.alloc (.cells #[.slice (some ⟨gb, 0, none⟩) nb cb, .slice (some ⟨gr, 0, none⟩) nr cr] 29)).alloc (.cells #[.slice none 0 0, .slice none 0 0] 29)).heap.size := by simp
  have HF : Hid (∀ i, ((w.alloc (.cells #[.slice (some ⟨gb, 0, none⟩) nb cb, .slice (some ⟨gr, 0, none⟩) nr cr] 29)).alloc (.cells #[.slice none 0 0, .slice none 0 0] 29)).frozen? ⟨w.heap.size + 1, i, none⟩ = false) := fun i => by show World.frozen? _ _ = _; simp [go_sem]
  have HV : Hid (∀ w', w'.cell? ⟨w.heap.size, 0, none⟩ = some (.slice (some ⟨gb, 0, none⟩) nb cb) → w'.cell? ⟨w.heap.size, 1, none⟩ = some (.slice (some ⟨gr, 0, none⟩) nr cr) → Below w.heap.size w w' → Calls Try.prog 25 #[.pointer (some ⟨w.heap.size, 0, none⟩)] w' (RetV w' (.bool (scaleOk fb nb fr nr)))) := fun w' a b hb => is_spec w.heap.size gb cb gr cr nb nr fb fr w' a b mb mr (Ib.below hb) (Ir.below hb)
  cases h : scaleOk fb nb fr nr
  all_goals
    rw [h] at HV
    clear h
    go_enter Try.func41, Try.ntmps41
    go_wp2_with (first | (go_at_call 25; refine (HV.out _ HK0.out HK1.out bA).mono ?_; rintro e w1 ⟨rfl, b1⟩; have C1 := bnext bA b1; have k0 := Below.cellOf b1 rfl HK0.out; have k1 := Below.cellOf b1 rfl HK1.out; have z0 := Below.cellOf b1 rfl HZ0.out; have z1 := Below.cellOf b1 rfl HZ1.out; have f0 := (b1.frozen (p := ⟨w.heap.size + 1, 0, none⟩) hz).trans (HF.out 0); have f1 := (b1.frozen (p := ⟨w.heap.size + 1, 1, none⟩) hz).trans (HF.out 1)))
    (try simp only [Exit.inBlock, Exit.then])
  · refine bodyPost_ret (v := .tuple #[.agg #[.slice none 0 0, .slice none 0 0], .bool false]) ?_ rfl ?_
    · rw [results_cell_tmp rfl]
      go_simp
    · exact ⟨rfl, (C1.setCell (Nat.le_succ _) _).setCell (Nat.le_succ _) _⟩
  · refine bodyPost_ret (v := .tuple #[.agg #[.slice (some ⟨gb, 0, none⟩) nb cb, .slice (some ⟨gr, 0, none⟩) nr cr], .bool true]) ?_ rfl ?_
    · rw [results_cell_tmp rfl]
      go_simp
    · exact ⟨rfl, (C1.setCell (Nat.le_succ _) _).setCell (Nat.le_succ _) _⟩
end Go.Proofs.Ytdaijapdfleohaa
