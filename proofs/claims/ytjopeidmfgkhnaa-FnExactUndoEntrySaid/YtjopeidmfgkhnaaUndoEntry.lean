/-
  impl.UndoEntry and spec.UndoEntry answer alike: every list of fewer than 100000000 entries, every number. No other condition.
-/
import Derived.Test.YtjopeidmfgkhnaaUndoI
namespace Go.Proofs.Ytjopeidmfgkhnaa
open Go.RowKit
set_option linter.unusedVariables false

theorem ownsRow_below {w w' : World} {B k n : Nat} {E : TypeId} {v : Value} {xs : List Value} (h : w.ownsRow B E k v n xs) (hb : Below w.heap.size w w') : w'.ownsRow B E k v n xs := by
  have hl := World.ownsRow.lt h
  obtain ⟨h1, h2⟩ := h
  refine ⟨h1, ?_⟩
  rcases h2 with h2 | ⟨g, cap, cur, rfl, hg, hh, r⟩
  · exact .inl h2
  · exact .inr ⟨g, cap, cur, rfl, hg, by rw [hb.block g (hl g rfl).2]; exact hh, r⟩
theorem Kept.rowC {S : Nat → Prop} {w w' : World} {g off n k : Nat} {f : Nat → Int} (h : RowC w g off n k f) (hb : Kept S w w') (hg : ¬ S g) : RowC w' g off n k f := fun i hi j hj => hb.cellOf hg (h i hi j hj)

theorem made4 {B : Nat} {E : TypeId} (w : World) (b : Nat) (hb : w.heap.size = b) (hB : B ≤ b) : (w.alloc (.cells #[] E)).ownsRow B E 4 (.slice (some ⟨b, 0, none⟩) 0 0) 0 [] := by
  subst hb
  exact World.ownsRow_made w #[] 0 hB (Nat.zero_le _) (by simp)
theorem newAt (w : World) (b : Nat) (E : TypeId) (y : Nat → Int) (hb : w.heap.size = b) : RowC (w.alloc (.cells #[.int .i64 (y 0), .int .i64 (y 1), .int .i64 (y 2), .int .i64 (y 3)] E)) b 0 1 4 y := by
  subst hb
  exact rowC_new w E y

theorem newE (w : World) (b : Nat) (E : TypeId) (f : Nat → Int) (I : Nat) (day : Int) (hb : w.heap.size = b) : RowC (w.alloc (.cells #[.int .i64 day, .int .i64 (f (I * 4 + 2)), .int .i64 (f (I * 4 + 1)), .int .i64 (f (I * 4 + 3))] E)) b 0 1 4 (undoE f I day) := newAt w b E (undoE f I day) hb

set_option maxHeartbeats 3200000 in
set_option maxRecDepth 100000 in
theorem undo_spec (n g cp : Nat) (f : Nat → Int) (i day : Int) (w : World) (hn : n < 100000000) (hI : RowC w g 0 n 4 f) :
    Calls Try.prog 26 #[.slice (some ⟨g, 0, none⟩) n cp, .int .i64 i, .int .i64 day] w (RetR 4 w (undoX f n i day) (undoOk f n i day)) := by
  have HA : Hid (∀ w', RowC w' g 0 n 4 f → Calls Try.prog 59 #[.slice (some ⟨g, 0, none⟩) n cp] w' (RetV w' (.bool (entriesOk f n)))) := fun w' i => entriesC_spec n g cp f w' (by omega) i
  cases h1 : entriesOk f n
  · have h : undoOk f n i day = false := by simp only [undoOk, h1, Bool.false_and]
    rw [undo_no h, h]
    rw [h1] at HA
    clear h
    go_enter Try.func26, Try.ntmps26
    go_wp2_with fail
    refine (HA.out _ hI).mono ?_
    rintro e w1 ⟨rfl, b1⟩
    go_wp2_with fail
    go_ret2
    exact RetR.no rfl b1
  rw [h1] at HA
  cases h2 : win i 0 ((n : Int) - 1)
  · have h : undoOk f n i day = false := by simp only [undoOk, h2, Bool.false_and, Bool.and_false]
    rw [undo_no h, h]
    clear h
    go_enter Try.func26, Try.ntmps26
    go_wp2_with fail
    refine (HA.out _ hI).mono ?_
    rintro e w1 ⟨rfl, b1⟩
    go_wp2_with (first | (go_at_call 51; refine (spec_l00In_any _ _ _ _).mono ?_; rintro e w' ⟨rfl, rfl⟩))
    go_ret2
    exact RetR.no rfl b1
  obtain ⟨i0, i1⟩ := win_iff.1 h2
  obtain ⟨I, rfl⟩ : ∃ I : Nat, i = I := ⟨i.toNat, by omega⟩
  have hlt : I < n := by omega
  have l1 : (I : Int) < n := by omega
  have HO : Hid (undoOk f n I day = entriesOk (undoF f n I day) (n + 1)) := by
    show _ = _
    simp only [undoOk, h1, h2, Bool.true_and, Int.toNat_natCast]
  have e1 := hI.cs I 1 hlt (by decide)
  have e2 := hI.cs I 2 hlt (by decide)
  have e3 := hI.cs I 3 hlt (by decide)
  clear h1
  go_enter Try.func26, Try.ntmps26
  go_wp2_with fail
  refine (HA.out _ hI).mono ?_
  rintro e w1 ⟨rfl, b1⟩
  have d1 := Below.cellOf b1 rfl e1
  have d2 := Below.cellOf b1 rfl e2
  have d3 := Below.cellOf b1 rfl e3
  have hg1 : g < w1.heap.size := World.block_lt_of_cell? w1 _ d1
  clear e1 e2 e3
  go_wp2_with (first | (go_at_call 51; refine (spec_l00In_any _ _ _ _).mono ?_; rintro e w' ⟨rfl, rfl⟩))
  have r0 := hI.below b1
  go_region_held3 (fun w' => w'.cell? ⟨g, I * 4 + 1, none⟩ = some (.int .i64 (f (I * 4 + 1))) ∧ w'.cell? ⟨g, I * 4 + 2, none⟩ = some (.int .i64 (f (I * 4 + 2))) ∧ w'.cell? ⟨g, I * 4 + 3, none⟩ = some (.int .i64 (f (I * 4 + 3))) ∧ Below w1.heap.size w1 w')
    (first | (exact ⟨Below.cellOf ((Below.refl _ _).drew) rfl d1, Below.cellOf ((Below.refl _ _).drew) rfl d2, Below.cellOf ((Below.refl _ _).drew) rfl d3, (Below.refl _ _).drew⟩) | (refine ⟨Below.cellOf (show Below w1.heap.size w1 _ by go_grown) rfl d1, Below.cellOf (show Below w1.heap.size w1 _ by go_grown) rfl d2, Below.cellOf (show Below w1.heap.size w1 _ by go_grown) rfl d3, by go_grown⟩))
    ((first | fail))
  rename_i hH1
  clear hH1
  go_wp2_with fail
  obtain ⟨W1, hW1⟩ : ∃ W1, W1 = (w1.alloc (.cells #[.int .i64 day, .int .i64 (f (I * 4 + 2)), .int .i64 (f (I * 4 + 1)), .int .i64 (f (I * 4 + 3))] 82)).drew := ⟨_, rfl⟩
  have q1 : Below w1.heap.size w1 W1 := by rw [hW1]; go_grown
  have k0 : W1.cell? ⟨w1.heap.size, 0, none⟩ = some (.int .i64 day) := by rw [hW1]; simp [go_sem]
  have k1 : W1.cell? ⟨w1.heap.size, 1, none⟩ = some (.int .i64 (f (I * 4 + 2))) := by rw [hW1]; simp [go_sem]
  have k2 : W1.cell? ⟨w1.heap.size, 2, none⟩ = some (.int .i64 (f (I * 4 + 1))) := by rw [hW1]; simp [go_sem]
  have k3 : W1.cell? ⟨w1.heap.size, 3, none⟩ = some (.int .i64 (f (I * 4 + 3))) := by rw [hW1]; simp [go_sem]
  rw [← hW1]
  have C1 := bnext b1 q1
  have r1 := hI.below C1
  have HZ : Hid (w.heap.size ≤ W1.heap.size) := C1.size
  have HLT : Hid (w1.heap.size < W1.heap.size ∧ g < W1.heap.size) := by
    have h1 : w1.heap.size < W1.heap.size := World.block_lt_of_cell? W1 _ k1
    exact ⟨h1, by omega⟩
  clear hW1 d1 d2 d3 r0
  go_region_held3 (fun w' => w'.cell? ⟨w1.heap.size, 0, none⟩ = some (.int .i64 day) ∧ w'.cell? ⟨w1.heap.size, 1, none⟩ = some (.int .i64 (f (I * 4 + 2))) ∧ w'.cell? ⟨w1.heap.size, 2, none⟩ = some (.int .i64 (f (I * 4 + 1))) ∧ w'.cell? ⟨w1.heap.size, 3, none⟩ = some (.int .i64 (f (I * 4 + 3))) ∧ RowC w' g 0 n 4 f ∧ Below W1.heap.size W1 w')
    (first | (exact ⟨Below.cellOf ((Below.refl _ _).drew) rfl k0, Below.cellOf ((Below.refl _ _).drew) rfl k1, Below.cellOf ((Below.refl _ _).drew) rfl k2, Below.cellOf ((Below.refl _ _).drew) rfl k3, r1.below ((Below.refl _ _).drew), (Below.refl _ _).drew⟩) | (go_split_ands; refine ⟨Below.cellOf ((Below.refl _ _).alloc (Nat.le_refl _) _) rfl (by assumption), Below.cellOf ((Below.refl _ _).alloc (Nat.le_refl _) _) rfl (by assumption), Below.cellOf ((Below.refl _ _).alloc (Nat.le_refl _) _) rfl (by assumption), Below.cellOf ((Below.refl _ _).alloc (Nat.le_refl _) _) rfl (by assumption), RowC.below (by assumption) ((Below.refl _ _).alloc (Nat.le_refl _) _), bnext (by assumption) ((Below.refl _ _).alloc (Nat.le_refl _) _)⟩) | (go_split_ands; refine ⟨(hb6.cell (p := ⟨w1.heap.size, 0, none⟩) HLT.out.1).trans (by assumption), (hb6.cell (p := ⟨w1.heap.size, 1, none⟩) HLT.out.1).trans (by assumption), (hb6.cell (p := ⟨w1.heap.size, 2, none⟩) HLT.out.1).trans (by assumption), (hb6.cell (p := ⟨w1.heap.size, 3, none⟩) HLT.out.1).trans (by assumption), RowC.belowAt (by assumption) hb6 HLT.out.2, Below.trans (by assumption) hb6⟩) | (go_split_ands; refine ⟨(hb5.cell (p := ⟨w1.heap.size, 0, none⟩) HLT.out.1).trans (by assumption), (hb5.cell (p := ⟨w1.heap.size, 1, none⟩) HLT.out.1).trans (by assumption), (hb5.cell (p := ⟨w1.heap.size, 2, none⟩) HLT.out.1).trans (by assumption), (hb5.cell (p := ⟨w1.heap.size, 3, none⟩) HLT.out.1).trans (by assumption), RowC.belowAt (by assumption) hb5 HLT.out.2, Below.trans (by assumption) hb5⟩))
    ((first | ((fail_if_success (have hO := hO5)); (try go_split_ands); refine step_appRS _ rfl _ _ 46 rfl W1.heap.size 82 (.agg #[.int .i64 0, .int .i64 0, .int .i64 0, .int .i64 0]) 32 (by kernel_rfl) rfl (by decide) Try.underlying46 _ 0 [] rfl (ownsRow_below (made4 W1 W1.heap.size rfl (Nat.le_refl _)) (by go_grown)) n g cp f rfl (by assumption) (by omega) (by have hq : Below W1.heap.size W1 _ := (by assumption); exact hq.size) ?_; intro v5 w5 hO5 hb5 k5 n5; rw [Nat.zero_add, List.nil_append] at hO5; have HK5 := Lib.hid k5; clear k5 n5) | ((fail_if_success (have hO := hO5)); (try go_split_ands); refine step_appRS _ rfl _ _ 46 rfl W1.heap.size 82 (.agg #[.int .i64 0, .int .i64 0, .int .i64 0, .int .i64 0]) 32 (by kernel_rfl) rfl (by decide) Try.underlying46 _ 0 [] rfl (ownsRow_below (made4 (W1.alloc (.cells #[.int .i64 day, .int .i64 (f (I * 4 + 2)), .int .i64 (f (I * 4 + 1)), .int .i64 (f (I * 4 + 3))] 82)) (W1.heap.size + 1) (by simp) (Nat.le_succ _)) (by go_grown)) n g cp f rfl (by assumption) (by omega) (by have hq : Below W1.heap.size W1 _ := (by assumption); exact hq.size) ?_; intro v5 w5 hO5 hb5 k5 n5; rw [Nat.zero_add, List.nil_append] at hO5; have HK5 := Lib.hid k5; clear k5 n5) | (have hOg := hO5; clear hOg; (try go_split_ands); refine step_appRS _ rfl _ _ 46 rfl W1.heap.size 82 (.agg #[.int .i64 0, .int .i64 0, .int .i64 0, .int .i64 0]) 32 (by kernel_rfl) rfl (by decide) Try.underlying46 _ n _ rfl (ownsRow_below hO5 (by go_grown)) 1 _ 1 (undoE f I day) rfl (RowC.below (newE w5 w5.heap.size 82 f I day rfl) (by go_grown)) (by omega) (by have hq : Below W1.heap.size W1 _ := (by assumption); exact hq.size) ?_; intro v6 w6 hO6 hb6 k6 n6; have HO6 := Lib.hid hO6; clear hO6 k6 n6) | (have hOg := hO5; clear hOg; (try go_split_ands); refine step_appRS _ rfl _ _ 46 rfl W1.heap.size 82 (.agg #[.int .i64 0, .int .i64 0, .int .i64 0, .int .i64 0]) 32 (by kernel_rfl) rfl (by decide) Try.underlying46 _ n _ rfl hO5 1 (W1.heap.size + 1) 1 (undoE f I day) rfl (Kept.rowC (RowC.below (newE (W1.alloc (.cells #[] 82)) (W1.heap.size + 1) 82 f I day (by simp)) (by go_grown)) HK5.out (fun h => by have h' : W1.heap.size = W1.heap.size + 1 := Option.some.inj h; omega)) (by omega) (by have hq : Below W1.heap.size W1 _ := (by assumption); exact hq.size) ?_; intro v6 w6 hO6 hb6 k6 n6; have HO6 := Lib.hid hO6; clear hO6 k6 n6) | (have hOg := hO5; clear hOg; (try go_split_ands); refine step_appRS _ rfl _ _ 46 rfl W1.heap.size 82 (.agg #[.int .i64 0, .int .i64 0, .int .i64 0, .int .i64 0]) 32 (by kernel_rfl) rfl (by decide) Try.underlying46 _ n _ rfl hO5 1 W1.heap.size 1 (undoE f I day) rfl (Kept.rowC (RowC.below (newE W1 W1.heap.size 82 f I day rfl) (by go_grown)) HK5.out (fun h => by have h' : W1.heap.size + 1 = W1.heap.size := Option.some.inj h; omega)) (by omega) (by have hq : Below W1.heap.size W1 _ := (by assumption); exact hq.size) ?_; intro v6 w6 hO6 hb6 k6 n6; have HO6 := Lib.hid hO6; clear hO6 k6 n6)))
  all_goals
    rename_i hH
    have hfin := hH.2.2.2.2.2
    clear hH
    have C6 := bnext C1 hfin
    have hO7 := HO6.out
    rw [undo_cells] at hO7
    obtain ⟨g7, c7, rfl⟩ := OwnsR_form hO7
    have R7 := (OwnR.of hO7 (by omega)).mono HZ.out
    have I7 : RowC w6 g7 0 (n + 1) 4 (undoF f n I day) := by
      rcases R7 with ⟨h, _⟩ | ⟨_, _, h, _, _, _, hR, _⟩
      · cases h
      · cases h; exact hR
    have HR7 := Lib.hid R7
    clear hO7 R7 HO6
    cases h9 : entriesOk (undoF f n I day) (n + 1)
    · have hc := entriesC_spec (n + 1) g7 c7 _ w6 (by omega) I7
      rw [h9] at hc
      have HF : Hid (undoOk f n I day = false) := HO.out.trans h9
      clear h9
      go_wp2_with fail
      refine hc.mono ?_
      rintro e w8 ⟨rfl, b8⟩
      go_wp2_with fail
      go_ret2
      rw [undo_no HF.out, HF.out]
      exact RetR.no rfl (bnext C6 b8)
    · have hc := entriesC_spec (n + 1) g7 c7 _ w6 (by omega) I7
      rw [h9] at hc
      have HF : Hid (undoOk f n I day = true) := HO.out.trans h9
      clear h9
      go_wp2_with fail
      refine hc.mono ?_
      rintro e w8 ⟨rfl, b8⟩
      go_wp2_with fail
      go_ret2
      rw [undo_yes HF.out, HF.out]
      exact ⟨_, rfl, HR7.out.below b8, by show n + 1 < _; omega, bnext C6 b8⟩

theorem UndoEntry_impl {w : World} {B : Nat} {v : Value} {X : Rec} (hv : RowR 4 w B v X) (hm : X.length < 100000000) (i day : Int) : Calls Try.prog 28 #[v, .int .i64 i, .int .i64 day] w (RetR 4 w (UndoEntry_r0 X i day) (UndoEntry_r1 X i day)) := by
  obtain ⟨g, rfl, _, _, hn, hI, _⟩ := hv
  exact undo_impl X.length g _ X.f i day w hm hI
theorem UndoEntry_spec {w : World} {B : Nat} {v : Value} {X : Rec} (hv : RowR 4 w B v X) (hm : X.length < 100000000) (i day : Int) : Calls Try.prog 26 #[v, .int .i64 i, .int .i64 day] w (RetR 4 w (UndoEntry_r0 X i day) (UndoEntry_r1 X i day)) := by
  obtain ⟨g, rfl, _, _, hn, hI, _⟩ := hv
  exact undo_spec X.length g _ X.f i day w hm hI
end Go.Proofs.Ytjopeidmfgkhnaa
