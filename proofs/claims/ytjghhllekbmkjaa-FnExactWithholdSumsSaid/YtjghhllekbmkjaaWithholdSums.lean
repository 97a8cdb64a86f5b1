/-
  impl.WithholdSums and spec.WithholdSums answer alike: every scale and every list of fewer than 1000000000 integers each, every way of rounding. No other condition.
-/
import Derived.Test.YtjghhllekbmkjaaScaleO
import Derived.Test.YtjghhllekbmkjaaScaleW
import Derived.Test.YtjghhllekbmkjaaScaleD
import Derived.Test.YtjghhllekbmkjaaPays
import Derived.Test.YtjghhllekbmkjaaTab
import Derived.Test.YtjghhllekbmkjaaRegApp
namespace Go.Proofs.Ytjghhllekbmkjaa
open Go.RowKit
set_option linter.unusedVariables false

def whsOk (fb : Nat → Int) (nb : Nat) (fr : Nat → Int) (nr : Nat) (f : Nat → Int) (n : Nat) (r : Int) : Bool := askOk fb nb fr nr 0 r && paysOk f n
def whsAt (fb fr : Nat → Int) (nb : Nat) (f : Nat → Int) (r : Int) (k : Nat) : Int := dueF fb fr nb (sumTo f (k + 1)) r - dueF fb fr nb (sumTo f k) r
def whsL (fb : Nat → Int) (nb : Nat) (fr : Nat → Int) (nr : Nat) (f : Nat → Int) (n : Nat) (r : Int) : List Int := bif whsOk fb nb fr nr f n r then tab (whsAt fb fr nb f r) n else []
section
variable {fb fr f : Nat → Int} {nb nr n : Nat} {r : Int}
theorem whs_no (h : whsOk fb nb fr nr f n r = false) : whsL fb nb fr nr f n r = [] := by simp only [whsL, h, cond_false]
theorem whs_yes (h : whsOk fb nb fr nr f n r = true) : whsL fb nb fr nr f n r = tab (whsAt fb fr nb f r) n := by simp only [whsL, h, cond_true]
theorem exS_zero (h : ScaleIs fb nb fr nr) : ∀ k, k ≤ nb → exS fb fr nb 0 k = 0 := by
  intro k
  induction k with
  | zero => intro _; rfl
  | succ k ih =>
    intro hk
    have h1 := h.b k (by omega)
    have h2 : ¬ fb k < 0 := by omega
    simp only [exS, h2, if_false, ih (by omega)]
    rfl
theorem dueF_zero (h : ScaleIs fb nb fr nr) (r : Int) : dueF fb fr nb 0 r = 0 := by
  unfold dueF exF
  rw [exS_zero h nb (Nat.le_refl _), rnd_no]
  · rfl
  · simp [up]
end
def WithholdSums_r0 (xb xr xs : List Int) (r : Int) : List Int := whsL (fun i => xb.getD i 0) xb.length (fun i => xr.getD i 0) xr.length (fun i => xs.getD i 0) xs.length r
def WithholdSums_r1 (xb xr xs : List Int) (r : Int) : Bool := whsOk (fun i => xb.getD i 0) xb.length (fun i => xr.getD i 0) xr.length (fun i => xs.getD i 0) xs.length r
theorem belowNext {B : Nat} {w0 w1 w2 : World} (h : Below B w0 w1) (h0 : B ≤ w0.heap.size) (h' : Below w1.heap.size w1 w2) : Below B w0 w2 := h.trans (h'.mono (Nat.le_trans h0 h.size))
set_option maxHeartbeats 3200000 in
set_option maxRecDepth 100000 in
theorem whs_impl (gb cb gr cr nb nr : Nat) (fb fr : Nat → Int) (n g c : Nat) (f : Nat → Int) (r : Int) (w : World) (mb : nb < 1000000000) (mr : nr < 1000000000) (Ib : Ints w gb 0 nb fb) (Ir : Ints w gr 0 nr fr) (mn : n < 1000000000) (I : Ints w g 0 n f) :
    Calls Try.prog 39 #[.agg #[.slice (some ⟨gb, 0, none⟩) nb cb, .slice (some ⟨gr, 0, none⟩) nr cr], .slice (some ⟨g, 0, none⟩) n c, .int .i64 r] w (RetL1 2 w (whsL fb nb fr nr f n r) (whsOk fb nb fr nr f n r)) := by
  have bA : Below w.heap.size w (w.alloc (.cells #[.slice (some ⟨gb, 0, none⟩) nb cb, .slice (some ⟨gr, 0, none⟩) nr cr] 28)) := by go_grown
  have HK0 : Hid ((w.alloc (.cells #[.slice (some ⟨gb, 0, none⟩) nb cb, .slice (some ⟨gr, 0, none⟩) nr cr] 28)).cell? ⟨w.heap.size, 0, none⟩ = some (.slice (some ⟨gb, 0, none⟩) nb cb)) := by show (w.alloc (.cells #[.slice (some ⟨gb, 0, none⟩) nb cb, .slice (some ⟨gr, 0, none⟩) nr cr] 28)).cell? _ = _; simp [go_sem]
  have HK1 : Hid ((w.alloc (.cells #[.slice (some ⟨gb, 0, none⟩) nb cb, .slice (some ⟨gr, 0, none⟩) nr cr] 28)).cell? ⟨w.heap.size, 1, none⟩ = some (.slice (some ⟨gr, 0, none⟩) nr cr)) := by show (w.alloc (.cells #[.slice (some ⟨gb, 0, none⟩) nb cb, .slice (some ⟨gr, 0, none⟩) nr cr] 28)).cell? _ = _; simp [go_sem]
  cases h : whsOk fb nb fr nr f n r
  · rw [whs_no h]
    rcases first_no2 h with h1 | ⟨h1, h2⟩
    all_goals
      clear h
      go_enter Try.func39, Try.ntmps39
      go_wp2_with (first | (go_at_call 53; refine (isAsked_any gb cb gr cr nb nr fb fr _ _ _ mb mr (Ib.below bA) (Ir.below bA)).mono ?_; rintro e w1 ⟨rfl, hb⟩; have k0 := Below.cellOf hb rfl HK0.out; have k1 := Below.cellOf hb rfl HK1.out; have C1 := bnext bA hb) | (go_at_call 80; refine (pays_impl n g c f _ mn (I.below C1)).mono ?_; rintro e w2 ⟨rfl, hb2⟩; have C2 := bnext C1 hb2))
      go_ret2
      exact RetL1.no _ (by assumption)
  · rw [whs_yes h]
    obtain ⟨h1, h2⟩ := all_yes2 h
    have hs := (ask_is h1).1
    obtain ⟨n1, n60, hf, hsum⟩ := pays_is h2
    have HS := Lib.hid hs
    have HSM := Lib.hid hsum
    have HF := Lib.hid hf
    have glt := World.block_lt_of_cell? w _ (I.at0 0 (by omega))
    have blt := World.block_lt_of_cell? w _ (Ib.at0 0 hs.n1)
    have rlt := World.block_lt_of_cell? w _ (Ir.at0 0 (by rw [hs.nr]; exact hs.n1))
    clear h hs hsum hf
    go_enter Try.func39, Try.ntmps39
    go_wp2_with (first | (go_at_call 53; refine (isAsked_any gb cb gr cr nb nr fb fr _ _ _ mb mr (Ib.below bA) (Ir.below bA)).mono ?_; rintro e w1 ⟨rfl, hb⟩; have k0 := Below.cellOf hb rfl HK0.out; have k1 := Below.cellOf hb rfl HK1.out; have C1 := bnext bA hb) | (go_at_call 80; refine (pays_impl n g c f _ mn (I.below C1)).mono ?_; rintro e w2 ⟨rfl, hb2⟩; have C2 := bnext C1 hb2; have k2 := Below.cellOf hb2 rfl k0; have k3 := Below.cellOf hb2 rfl k1))
    have D1 := Ib.below C2
    have D2 := Ir.below C2
    have D3 := I.below C2
    have wlt : w.heap.size < w2.heap.size := World.block_lt_of_cell? _ _ k2
    have glt' : g < w2.heap.size := by have := C2.size; omega
    have blt' : gb < w2.heap.size := by have := C2.size; omega
    have rlt' : gr < w2.heap.size := by have := C2.size; omega
    have K0 := Lib.hid k2
    have K1 := Lib.hid k3
    have HD : Hid (∀ w' : World, Ints w' gb 0 nb fb → Ints w' gr 0 nr fr → ∀ x : Int, (0 ≤ x ∧ x ≤ 1000000000000) → Calls Try.prog 60 #[.agg #[.slice (some ⟨gb, 0, none⟩) nb cb, .slice (some ⟨gr, 0, none⟩) nr cr], .int .i64 x, .int .i64 r] w' (RetV w' (.int .i64 (dueF fb fr nb x r)))) := fun w' i1 i2 x hx => due_impl gb cb gr cr nb nr fb fr x r w' mb mr i1 i2 HS.out hx.1 hx.2
    have HB : Hid (∀ x : Int, 0 ≤ x → x ≤ 1000000000000 → 0 ≤ dueF fb fr nb x r ∧ dueF fb fr nb x r ≤ 9000000000000) := fun x h0 h1 => by have := dueF_bd HS.out h0 r; omega
    clear k0 k1 k2 k3
    go_loopw [24, 8, 9] (fun i v s wr => ∃ k : Nat, k ≤ n ∧ i = .int .i64 k ∧ s = .int .i64 (sumTo f k) ∧ Own 2 wr w2.heap.size v (tab (whsAt fb fr nb f r) k) ∧ Below w2.heap.size w2 wr) (fun i _ _ _ => n - (intOf i).toNat)
    case atStart => exact ⟨0, Nat.zero_le _, rfl, rfl, Own.made _ _ (Nat.le_refl _), (Below.refl _ _).alloc (Nat.le_refl _) _⟩
    case round =>
      obtain ⟨k, hk, rfl, rfl, hown, hbr⟩ := hrel
      by_cases hlt : k < n
      · have k0 := cellAtB K0.out hbr wlt
        have k1 := cellAtB K1.out hbr wlt
        have d3 := (D3.belowAt hbr glt').at0 k hlt
        have s0 := HSM.out k hk
        have s1 := HSM.out (k + 1) (by omega)
        have hE : sumTo f (k + 1) = sumTo f k + f k := rfl
        rw [hE] at s1
        have HE := Lib.hid hE
        have hA : whsAt fb fr nb f r k = dueF fb fr nb (sumTo f k + f k) r - dueF fb fr nb (sumTo f k) r := rfl
        have HA := Lib.hid hA
        have HT := Lib.hid (tab_length (whsAt fb fr nb f r) k)
        have b1 := HB.out _ s0.1 s0.2
        have b2 := HB.out _ s1.1 s1.2
        have f1 := HF.out k hlt
        have e1 : IntKind.i64.wrap (sumTo f k + f k) = sumTo f k + f k := IntWalk.i64_in _ (by omega)
        have e2 : IntKind.i64.wrap (dueF fb fr nb (sumTo f k + f k) r - dueF fb fr nb (sumTo f k) r) = dueF fb fr nb (sumTo f k + f k) r - dueF fb fr nb (sumTo f k) r := IntWalk.i64_in _ (by omega)
        have hdr : Below wr.heap.size wr wr.drew := (Below.refl _ _).drew
        have Db0 := (D1.belowAt hbr blt').below hdr
        have Dr0 := (D2.belowAt hbr rlt').below hdr
        have hown0 := hown.below hdr
        have hb0 : Below w2.heap.size w2 wr.drew := hbr.drew
        clear hE hA hdr
        go_wp2_with fail
        go_region_held3 (fun w' => w'.cell? ⟨w.heap.size, 0, none⟩ = some (.slice (some ⟨gb, 0, none⟩) nb cb) ∧ w'.cell? ⟨w.heap.size, 1, none⟩ = some (.slice (some ⟨gr, 0, none⟩) nr cr))
          (first | go_keep | (go_split_ands; refine ⟨?_, ?_⟩ <;> (apply Below.cellOf (by assumption) rfl; assumption)) | (go_split_ands; refine ⟨?_, ?_⟩ <;> (refine (hb5.cell (by assumption)).trans ?_; assumption)))
          ((first | (go_at_call 60; (first | (refine (HD.out _ DbX DrX _ (by first | assumption | exact ⟨by assumption, by assumption⟩)).mono ?_; rintro e w3 ⟨rfl, hb3⟩; have DbX := DbX.below hb3; have DrX := DrX.below hb3; have hownX := hownX.below hb3; have hbX := belowNext hbX (Nat.le_refl _) hb3) | (refine (HD.out _ Db0 Dr0 _ (by first | assumption | exact ⟨by assumption, by assumption⟩)).mono ?_; rintro e w3 ⟨rfl, hb3⟩; have DbX := Db0.below hb3; have DrX := Dr0.below hb3; have hownX := hown0.below hb3; have hbX := belowNext hb0 (Nat.le_refl _) hb3))) | (refine step_app1 _ rfl _ _ 22 rfl w2.heap.size 2 Try.infoI Try.underlying22 _ _ rfl hownX _ rfl (by have := HT.out; omega) hbX.size ?_; intro v' w4 hown4 hb4 hb5)))
        clear e1 e2
        go_wp2
        go_roundw
        case rel => exact ⟨k + 1, by omega, by go_num, by rw [HE.out], by rw [tab, HA.out]; exact hown4, hbX.trans hb4⟩
        case measure => simp [intOf]; omega
      · obtain rfl : k = n := by omega
        go_wp2
        go_ret2
        exact ⟨_, rfl, hown.mono (Nat.le_of_lt wlt), by rw [tab_length]; omega, C2.trans (hbr.mono (Nat.le_of_lt wlt))⟩

set_option maxHeartbeats 3200000 in
set_option maxRecDepth 100000 in
theorem whs_spec (gb cb gr cr nb nr : Nat) (fb fr : Nat → Int) (n g c : Nat) (f : Nat → Int) (r : Int) (w : World) (mb : nb < 1000000000) (mr : nr < 1000000000) (Ib : Ints w gb 0 nb fb) (Ir : Ints w gr 0 nr fr) (mn : n < 1000000000) (I : Ints w g 0 n f) :
    Calls Try.prog 38 #[.agg #[.slice (some ⟨gb, 0, none⟩) nb cb, .slice (some ⟨gr, 0, none⟩) nr cr], .slice (some ⟨g, 0, none⟩) n c, .int .i64 r] w (RetL1 2 w (whsL fb nb fr nr f n r) (whsOk fb nb fr nr f n r)) := by
  have bA : Below w.heap.size w (w.alloc (.cells #[.slice (some ⟨gb, 0, none⟩) nb cb, .slice (some ⟨gr, 0, none⟩) nr cr] 28)) := by go_grown
  have HK0 : Hid ((w.alloc (.cells #[.slice (some ⟨gb, 0, none⟩) nb cb, .slice (some ⟨gr, 0, none⟩) nr cr] 28)).cell? ⟨w.heap.size, 0, none⟩ = some (.slice (some ⟨gb, 0, none⟩) nb cb)) := by show (w.alloc (.cells #[.slice (some ⟨gb, 0, none⟩) nb cb, .slice (some ⟨gr, 0, none⟩) nr cr] 28)).cell? _ = _; simp [go_sem]
  have HK1 : Hid ((w.alloc (.cells #[.slice (some ⟨gb, 0, none⟩) nb cb, .slice (some ⟨gr, 0, none⟩) nr cr] 28)).cell? ⟨w.heap.size, 1, none⟩ = some (.slice (some ⟨gr, 0, none⟩) nr cr)) := by show (w.alloc (.cells #[.slice (some ⟨gb, 0, none⟩) nb cb, .slice (some ⟨gr, 0, none⟩) nr cr] 28)).cell? _ = _; simp [go_sem]
  cases h : whsOk fb nb fr nr f n r
  · rw [whs_no h]
    rcases first_no2 h with h1 | ⟨h1, h2⟩
    all_goals
      clear h
      go_enter Try.func38, Try.ntmps38
      go_wp2_with (first | (go_at_call 49; refine (can_any w.heap.size gb cb gr cr nb nr fb fr _ _ _ HK0.out HK1.out mb mr (Ib.below bA) (Ir.below bA)).mono ?_; rintro e w1 ⟨rfl, hb⟩; have k0 := Below.cellOf hb rfl HK0.out; have k1 := Below.cellOf hb rfl HK1.out; have C1 := bnext bA hb) | (go_at_call 79; refine (pays_spec n g c f _ mn (I.below C1)).mono ?_; rintro e w2 ⟨rfl, hb2⟩; have C2 := bnext C1 hb2))
      go_ret2
      exact RetL1.no _ (by assumption)
  · rw [whs_yes h]
    obtain ⟨h1, h2⟩ := all_yes2 h
    have hs := (ask_is h1).1
    obtain ⟨n1, n60, hf, hsum⟩ := pays_is h2
    have HS := Lib.hid hs
    have HSM := Lib.hid hsum
    have HF := Lib.hid hf
    have glt := World.block_lt_of_cell? w _ (I.at0 0 (by omega))
    have blt := World.block_lt_of_cell? w _ (Ib.at0 0 hs.n1)
    have rlt := World.block_lt_of_cell? w _ (Ir.at0 0 (by rw [hs.nr]; exact hs.n1))
    have HZ := Lib.hid (dueF_zero hs r)
    clear h hs hsum hf
    go_enter Try.func38, Try.ntmps38
    go_wp2_with (first | (go_at_call 49; refine (can_any w.heap.size gb cb gr cr nb nr fb fr _ _ _ HK0.out HK1.out mb mr (Ib.below bA) (Ir.below bA)).mono ?_; rintro e w1 ⟨rfl, hb⟩; have k0 := Below.cellOf hb rfl HK0.out; have k1 := Below.cellOf hb rfl HK1.out; have C1 := bnext bA hb) | (go_at_call 79; refine (pays_spec n g c f _ mn (I.below C1)).mono ?_; rintro e w2 ⟨rfl, hb2⟩; have C2 := bnext C1 hb2; have k2 := Below.cellOf hb2 rfl k0; have k3 := Below.cellOf hb2 rfl k1))
    have D1 := Ib.below C2
    have D2 := Ir.below C2
    have D3 := I.below C2
    have wlt : w.heap.size < w2.heap.size := World.block_lt_of_cell? _ _ k2
    have glt' : g < w2.heap.size := by have := C2.size; omega
    have blt' : gb < w2.heap.size := by have := C2.size; omega
    have rlt' : gr < w2.heap.size := by have := C2.size; omega
    have K0 := Lib.hid k2
    have K1 := Lib.hid k3
    have HB : Hid (∀ x : Int, 0 ≤ x → x ≤ 1000000000000 → 0 ≤ dueF fb fr nb x r ∧ dueF fb fr nb x r ≤ 9000000000000) := fun x h0 h1 => by have := dueF_bd HS.out h0 r; omega
    clear k0 k1 k2 k3
    go_loopw [11, 9, 8, 10] (fun i s v b wr => ∃ k : Nat, k ≤ n ∧ i = .int .i64 k ∧ s = .int .i64 (sumTo f k) ∧ b = .int .i64 (dueF fb fr nb (sumTo f k) r) ∧ Own 2 wr w2.heap.size v (tab (whsAt fb fr nb f r) k) ∧ Below w2.heap.size w2 wr) (fun i _ _ _ _ => n - (intOf i).toNat)
    case atStart => exact ⟨0, Nat.zero_le _, rfl, rfl, by rw [show sumTo f 0 = 0 from rfl, HZ.out], Own.made _ _ (Nat.le_refl _), (Below.refl _ _).alloc (Nat.le_refl _) _⟩
    case round =>
      obtain ⟨k, hk, rfl, rfl, rfl, hown, hbr⟩ := hrel
      by_cases hlt : k < n
      · have k0 := cellAtB K0.out hbr wlt
        have k1 := cellAtB K1.out hbr wlt
        have d3 := (D3.belowAt hbr glt').at0 k hlt
        have Db0 := D1.belowAt hbr blt'
        have Dr0 := D2.belowAt hbr rlt'
        have s0 := HSM.out k hk
        have s1 := HSM.out (k + 1) (by omega)
        have hE : sumTo f (k + 1) = sumTo f k + f k := rfl
        rw [hE] at s1
        have HE := Lib.hid hE
        have hA : whsAt fb fr nb f r k = dueF fb fr nb (sumTo f k + f k) r - dueF fb fr nb (sumTo f k) r := rfl
        have HA := Lib.hid hA
        have HT := Lib.hid (tab_length (whsAt fb fr nb f r) k)
        have b1 := HB.out _ s0.1 s0.2
        have b2 := HB.out _ s1.1 s1.2
        have f1 := HF.out k hlt
        have hsz := hbr.size
        clear hE hA
        go_wp2_with (first | (go_at_call 58; refine (due_spec w.heap.size gb cb gr cr nb nr fb fr _ _ _ k0 k1 mb mr Db0 Dr0 HS.out s1.1 s1.2).mono ?_; rintro e w3 ⟨rfl, m, hw3⟩; have hb3 : Below wr.heap.size wr w3 := (by rw [hw3]; exact Below.drewN' (Below.refl _ _) m); clear hw3; have hown3 := hown.below hb3) | (at_builtin; refine wpList_app1 _ rfl _ _ 22 rfl (w2.heap.size) 2 Try.infoI Try.underlying22 _ _ rfl hown3 _ rfl (by have := HT.out; omega) (Nat.le_trans hsz hb3.size) ?_; intro v' w5 hown5 hb5))
        go_roundw
        case rel => exact ⟨k + 1, by omega, by go_num, by rw [HE.out], by rw [HE.out], by rw [tab, HA.out]; exact hown5, (belowNext hbr (Nat.le_refl _) hb3).trans hb5⟩
        case measure => simp [intOf]; omega
      · obtain rfl : k = n := by omega
        go_wp2
        go_ret2
        exact ⟨_, rfl, hown.mono (Nat.le_of_lt wlt), by rw [tab_length]; omega, C2.trans (hbr.mono (Nat.le_of_lt wlt))⟩

theorem WithholdSums_impl {w : World} {B B2 : Nat} {v u : Value} {xb xr xs : List Int} (h : RowS 2 w B v xb xr) (h2 : RowI 2 w B2 u xs) (r : Int) : Calls Try.prog 39 #[v, u, .int .i64 r] w (RetL1 2 w (WithholdSums_r0 xb xr xs r) (WithholdSums_r1 xb xr xs r)) := by
  obtain ⟨gb, cb, gr, cr, rfl, mb, mr, Ib, Ir, l1, l2⟩ := h.form2
  obtain ⟨g, c, rfl, _, _, _, _, I1, _, m1⟩ := h2.form
  exact whs_impl gb cb gr cr _ _ _ _ _ g c _ r w mb mr Ib Ir m1 I1

theorem WithholdSums_spec {w : World} {B B2 : Nat} {v u : Value} {xb xr xs : List Int} (h : RowS 2 w B v xb xr) (h2 : RowI 2 w B2 u xs) (r : Int) : Calls Try.prog 38 #[v, u, .int .i64 r] w (RetL1 2 w (WithholdSums_r0 xb xr xs r) (WithholdSums_r1 xb xr xs r)) := by
  obtain ⟨gb, cb, gr, cr, rfl, mb, mr, Ib, Ir, l1, l2⟩ := h.form2
  obtain ⟨g, c, rfl, _, _, _, _, I1, _, m1⟩ := h2.form
  exact whs_spec gb cb gr cr _ _ _ _ _ g c _ r w mb mr Ib Ir m1 I1
end Go.Proofs.Ytjghhllekbmkjaa
