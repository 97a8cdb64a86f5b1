/-
  impl.UndoEntry answers as the plain law tells. Condition: fewer than 100000000 entries.
-/
import Derived.Test.YtjopeidmfgkhnaaUndoP
import Derived.Test.YtjopeidmfgkhnaaCloneE
import Derived.Test.YtjopeidmfgkhnaaEntriesC
import Derived.Deep.RegionHeld3
import Derived.StillTailTactics
import Derived.Deep.QuietTactic
import Derived.BigQuiet
namespace Go.Proofs.Ytjopeidmfgkhnaa
open Go.RowKit
set_option linter.unusedVariables false

def undoOk (f : Nat → Int) (n : Nat) (i day : Int) : Bool := entriesOk f n && win i 0 ((n : Int) - 1) && entriesOk (undoF f n i.toNat day) (n + 1)
def undoX (f : Nat → Int) (n : Nat) (i day : Int) : Rec := bif undoOk f n i day then ⟨n + 1, undoF f n i.toNat day⟩ else ⟨0, fun _ => 0⟩
theorem undo_no {f : Nat → Int} {n : Nat} {i day : Int} (h : undoOk f n i day = false) : undoX f n i day = ⟨0, fun _ => 0⟩ := by simp only [undoX, h, cond_false]
theorem undo_yes {f : Nat → Int} {n : Nat} {i day : Int} (h : undoOk f n i day = true) : undoX f n i day = ⟨n + 1, undoF f n i.toNat day⟩ := by simp only [undoX, h, cond_true]
def UndoEntry_r0 (X : Rec) (i day : Int) : Rec := undoX X.f X.length i day
def UndoEntry_r1 (X : Rec) (i day : Int) : Bool := undoOk X.f X.length i day

theorem OwnsR_form {w : World} {B : Nat} {E : TypeId} {v : Value} {n : Nat} {f : Nat → Int} (h : w.ownsRow B E 4 v (n + 1) (cl f ((n + 1) * 4))) : ∃ g c, v = .slice (some ⟨g, 0, none⟩) (n + 1) c := by
  rcases h.2 with ⟨_, h0⟩ | ⟨g, c, cur, rfl, _⟩
  · omega
  · exact ⟨g, c, rfl⟩

set_option maxHeartbeats 3200000 in
set_option maxRecDepth 100000 in
theorem undo_impl (n g cp : Nat) (f : Nat → Int) (i day : Int) (w : World) (hn : n < 100000000) (hI : RowC w g 0 n 4 f) :
    Calls Try.prog 28 #[.slice (some ⟨g, 0, none⟩) n cp, .int .i64 i, .int .i64 day] w (RetR 4 w (undoX f n i day) (undoOk f n i day)) := by
  have HA : Hid (∀ w', RowC w' g 0 n 4 f → Calls Try.prog 61 #[.slice (some ⟨g, 0, none⟩) n cp] w' (RetV w' (.bool (entriesOk f n)))) := fun w' i => entriesC_impl n g cp f w' (by omega) i
  cases h1 : entriesOk f n
  · have h : undoOk f n i day = false := by simp only [undoOk, h1, Bool.false_and]
    rw [undo_no h, h]
    rw [h1] at HA
    clear h
    go_enter Try.func28, Try.ntmps28
    go_wp2_with fail
    refine (HA.out _ hI).mono ?_
    rintro e w1 ⟨rfl, b1⟩
    go_wp2_with fail
    go_ret2
    exact RetR.no rfl b1
  rw [h1] at HA
  cases h2 : win i 0 ((n : Int) - 1)
  · have h : undoOk f n i day = false := by simp only [undoOk, h2, Bool.false_and, Bool.and_false]
    rw [undo_no h, h]
    clear h
    go_enter Try.func28, Try.ntmps28
    go_wp2_with fail
    refine (HA.out _ hI).mono ?_
    rintro e w1 ⟨rfl, b1⟩
    go_wp2_with (first | (go_at_call 42; refine (impl_within_any _ _ _ _).mono ?_; rintro e w' ⟨rfl, rfl⟩))
    go_ret2
    exact RetR.no rfl b1
  obtain ⟨i0, i1⟩ := win_iff.1 h2
  obtain ⟨I, rfl⟩ : ∃ I : Nat, i = I := ⟨i.toNat, by omega⟩
  have hlt : I < n := by omega
  have HO : Hid (undoOk f n I day = entriesOk (undoF f n I day) (n + 1)) := by
    show _ = _
    simp only [undoOk, h1, h2, Bool.true_and, Int.toNat_natCast]
  have e0 := hI.c0 I hlt (by decide)
  have e1 := hI.cs I 1 hlt (by decide)
  have e2 := hI.cs I 2 hlt (by decide)
  have e3 := hI.cs I 3 hlt (by decide)
  clear h1
  go_enter Try.func28, Try.ntmps28
  go_wp2_with fail
  refine (HA.out _ hI).mono ?_
  rintro e w1 ⟨rfl, b1⟩
  have d0 := Below.cellOf b1 rfl e0
  have d1 := Below.cellOf b1 rfl e1
  have d2 := Below.cellOf b1 rfl e2
  have d3 := Below.cellOf b1 rfl e3
  clear e0 e1 e2 e3
  go_wp2_with (first | (go_at_call 42; refine (impl_within_any _ _ _ _).mono ?_; rintro e w' ⟨rfl, rfl⟩))
  obtain ⟨W1, hW1⟩ : ∃ W1, W1 = w1.alloc (.cells #[.int .i64 (f (I * 4)), .int .i64 (f (I * 4 + 1)), .int .i64 (f (I * 4 + 2)), .int .i64 (f (I * 4 + 3))] 82) := ⟨_, rfl⟩
  have q1 : Below w1.heap.size w1 W1 := by rw [hW1]; go_grown
  have k1 : W1.cell? ⟨w1.heap.size, 1, none⟩ = some (.int .i64 (f (I * 4 + 1))) := by rw [hW1]; simp [go_sem]
  have k2 : W1.cell? ⟨w1.heap.size, 2, none⟩ = some (.int .i64 (f (I * 4 + 2))) := by rw [hW1]; simp [go_sem]
  have k3 : W1.cell? ⟨w1.heap.size, 3, none⟩ = some (.int .i64 (f (I * 4 + 3))) := by rw [hW1]; simp [go_sem]
  rw [← hW1]
  have C1 := bnext b1 q1
  have r1 := hI.below C1
  have HZ : Hid (w.heap.size ≤ W1.heap.size) := C1.size
  have HLT : Hid (w1.heap.size < W1.heap.size ∧ g < W1.heap.size) := by
    have h0 : g < w1.heap.size := World.block_lt_of_cell? w1 _ d0
    have h1 : w1.heap.size < W1.heap.size := World.block_lt_of_cell? W1 _ k1
    have h2 := q1.size
    exact ⟨h1, by omega⟩
  clear hW1 d0 d1 d2 d3
  go_region_held3 (fun w' => w'.cell? ⟨w1.heap.size, 1, none⟩ = some (.int .i64 (f (I * 4 + 1))) ∧ w'.cell? ⟨w1.heap.size, 2, none⟩ = some (.int .i64 (f (I * 4 + 2))) ∧ w'.cell? ⟨w1.heap.size, 3, none⟩ = some (.int .i64 (f (I * 4 + 3))) ∧ RowC w' g 0 n 4 f ∧ Below W1.heap.size W1 w')
    (first | (exact ⟨Below.cellOf ((Below.refl _ _).drew) rfl k1, Below.cellOf ((Below.refl _ _).drew) rfl k2, Below.cellOf ((Below.refl _ _).drew) rfl k3, r1.below ((Below.refl _ _).drew), (Below.refl _ _).drew⟩) | (go_split_ands; refine ⟨Below.cellOf hb5 rfl (by assumption), Below.cellOf hb5 rfl (by assumption), Below.cellOf hb5 rfl (by assumption), RowC.below (by assumption) hb5, bnext (by assumption) hb5⟩) | (go_split_ands; refine ⟨Below.cellOf ((Below.refl _ _).alloc (Nat.le_refl _) _) rfl (by assumption), Below.cellOf ((Below.refl _ _).alloc (Nat.le_refl _) _) rfl (by assumption), Below.cellOf ((Below.refl _ _).alloc (Nat.le_refl _) _) rfl (by assumption), RowC.below (by assumption) ((Below.refl _ _).alloc (Nat.le_refl _) _), bnext (by assumption) ((Below.refl _ _).alloc (Nat.le_refl _) _)⟩) | (go_split_ands; refine ⟨(hb6.cell (p := ⟨w1.heap.size, 1, none⟩) HLT.out.1).trans (by assumption), (hb6.cell (p := ⟨w1.heap.size, 2, none⟩) HLT.out.1).trans (by assumption), (hb6.cell (p := ⟨w1.heap.size, 3, none⟩) HLT.out.1).trans (by assumption), RowC.belowAt (by assumption) hb6 HLT.out.2, Below.trans (by assumption) hb6⟩))
    ((first | (go_at_call 62; (try go_split_ands); refine (clone_e n g cp f _ (by omega) (by assumption)).mono ?_; rintro e w5 ⟨g', c', rfl, hO5, hb5⟩; have hO5' := ownsRow_mono hO5 (show W1.heap.size ≤ _ by have hq : Below W1.heap.size W1 _ := (by assumption); exact hq.size)) | ((try go_split_ands); refine step_appRS _ rfl _ _ 46 rfl W1.heap.size 82 (.agg #[.int .i64 0, .int .i64 0, .int .i64 0, .int .i64 0]) 32 (by kernel_rfl) rfl (by decide) Try.underlying46 _ n _ rfl (World.ownsRow.alloc hO5' _) 1 _ 1 (undoE f I day) rfl (rowC_new _ _ (undoE f I day)) (by omega) (by have hq : Below W1.heap.size W1 (w5.alloc _) := (by assumption); exact hq.size) ?_; intro v6 w6 hO6 hb6 k6 n6; have HO6 := Lib.hid hO6; clear hO6 k6 n6) | ((try go_split_ands); refine step_appRS _ rfl _ _ 46 rfl W1.heap.size 82 (.agg #[.int .i64 0, .int .i64 0, .int .i64 0, .int .i64 0]) 32 (by kernel_rfl) rfl (by decide) Try.underlying46 _ n _ rfl hO5' 1 _ 1 (undoE f I day) rfl (((rowC_new _ _ (undoE f I day)).below ((Below.refl _ _).drew)).below hb5) (by omega) (by have hq : Below W1.heap.size W1 w5 := (by assumption); exact hq.size) ?_; intro v6 w6 hO6 hb6 k6 n6; have HO6 := Lib.hid hO6; clear hO6 k6 n6)))
  all_goals
    rename_i hH
    have hfin := hH.2.2.2.2
    clear hH
    have C6 := bnext C1 hfin
    have hO7 := HO6.out
    rw [undo_cells] at hO7
    obtain ⟨g7, c7, rfl⟩ := OwnsR_form hO7
    have R7 := (OwnR.of hO7 (by omega)).mono HZ.out
    have I7 : RowC w6 g7 0 (n + 1) 4 (undoF f n I day) := by
      rcases R7 with ⟨h, _⟩ | ⟨_, _, h, _, _, _, hR, _⟩
      · cases h
      · cases h; exact hR
    have HR7 := Lib.hid R7
    clear hO7 R7 HO6
    cases h9 : entriesOk (undoF f n I day) (n + 1)
    · have hc := entriesC_impl (n + 1) g7 c7 _ w6 (by omega) I7
      rw [h9] at hc
      have HF : Hid (undoOk f n I day = false) := HO.out.trans h9
      clear h9
      go_wp2_with fail
      refine hc.mono ?_
      rintro e w8 ⟨rfl, b8⟩
      go_wp2_with fail
      go_ret2
      rw [undo_no HF.out, HF.out]
      exact RetR.no rfl (bnext C6 b8)
    · have hc := entriesC_impl (n + 1) g7 c7 _ w6 (by omega) I7
      rw [h9] at hc
      have HF : Hid (undoOk f n I day = true) := HO.out.trans h9
      clear h9
      go_wp2_with fail
      refine hc.mono ?_
      rintro e w8 ⟨rfl, b8⟩
      go_wp2_with fail
      go_ret2
      rw [undo_yes HF.out, HF.out]
      exact ⟨_, rfl, HR7.out.below b8, by show n + 1 < _; omega, bnext C6 b8⟩
end Go.Proofs.Ytjopeidmfgkhnaa
