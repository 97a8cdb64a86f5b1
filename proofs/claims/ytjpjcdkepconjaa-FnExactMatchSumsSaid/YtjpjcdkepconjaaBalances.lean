/-
  impl.balances and spec.l03Balances give the accounts' balances. Conditions: the list is a ledger of at most 64 entries.
-/
import Derived.Test.YtjpjcdkepconjaaEntries
import Derived.Test.YtjpjcdkepconjaaTab
import Derived.StillTailTactics
namespace Go.Proofs.Ytjpjcdkepconjaa
open Go.RowKit
set_option linter.unusedVariables false

/-- An account's balance behind the first entries, of those up to a day. -/
def balF (f : Nat → Int) (d : Int) : Nat → Nat → Int
  | 0, _ => 0
  | k + 1, a => balF f d k a + (if f (k * 4) ≤ d then (if f (k * 4 + 1) = (a : Int) then f (k * 4 + 3) else 0) - (if f (k * 4 + 2) = (a : Int) then f (k * 4 + 3) else 0) else 0)
section
variable {f : Nat → Int} {d : Int} {k x y : Nat}
theorem bal_skip (h : ¬ f (k * 4) ≤ d) : tab (balF f d (k + 1)) 12 = tab (balF f d k) 12 := tab_congr _ _ _ fun i _ => by simp [balF, h]
/-- The balances with one of them raised. -/
def balH (f : Nat → Int) (d : Int) (k x : Nat) (a : Nat) : Int := if a = x then balF f d k x + f (k * 4 + 3) else balF f d k a
theorem balH_at : balH f d k x x = balF f d k x + f (k * 4 + 3) := by simp [balH]
theorem balH_off (h : y ≠ x) : balH f d k x y = balF f d k y := by simp [balH, h]
theorem bal_one (hx : x < 12) : (tab (balF f d k) 12).set x (balF f d k x + f (k * 4 + 3)) = tab (balH f d k x) 12 := by
  rw [← balH_at]; exact tab_set _ _ 12 x hx (fun i _ hi => (balH_off hi).symm)
theorem bal_two (h : f (k * 4) ≤ d) (h1 : f (k * 4 + 1) = (x : Int)) (h2 : f (k * 4 + 2) = (y : Int)) (hxy : x ≠ y) (hy : y < 12) :
    (tab (balH f d k x) 12).set y (balF f d k y - f (k * 4 + 3)) = tab (balF f d (k + 1)) 12 := by
  have e : balF f d (k + 1) y = balF f d k y - f (k * 4 + 3) := by
    have : ¬ (x : Int) = (y : Int) := by omega
    simp only [balF, h, h1, h2, if_true, this, if_false]; omega
  rw [← e]
  refine tab_set _ _ 12 y hy (fun i _ hi => ?_)
  have n2 : ¬ (y : Int) = (i : Int) := by omega
  by_cases hix : i = x
  · subst hix
    rw [balH_at]
    simp only [balF, h, h1, h2, if_true, n2, if_false]; omega
  · rw [balH_off hix]
    have n1 : ¬ (x : Int) = (i : Int) := by omega
    simp only [balF, h, h1, h2, if_true, n1, n2, if_false]; omega
theorem bal_bd {n : Nat} (hc : ∀ i, i < n → 0 ≤ f (i * 4 + 3) ∧ f (i * 4 + 3) ≤ 1000000000) : ∀ k, k ≤ n → ∀ a, -1000000000 * (k : Int) ≤ balF f d k a ∧ balF f d k a ≤ 1000000000 * (k : Int) := by
  intro k
  induction k with
  | zero => intro _ a; simp [balF]
  | succ k ih =>
    intro hk a
    have h1 := ih (by omega) a
    have h2 := hc k (by omega)
    simp only [balF]
    split
    · split <;> split <;> omega
    · omega
end
theorem entries_is {f : Nat → Int} {n : Nat} (h : entriesOk f n = true) : n ≤ 64 ∧ ∀ i, i < n → (0 ≤ f (i * 4 + 1) ∧ f (i * 4 + 1) ≤ 11) ∧ (0 ≤ f (i * 4 + 2) ∧ f (i * 4 + 2) ≤ 11) ∧ f (i * 4 + 1) ≠ f (i * 4 + 2) ∧ 0 ≤ f (i * 4 + 3) ∧ f (i * 4 + 3) ≤ 1000000000 := by
  obtain ⟨h1, h2⟩ := all_yes2 h
  refine ⟨of_decide_eq_true h2, fun i hi => ?_⟩
  obtain ⟨a, b, c, e, g, _⟩ := all_yes6 (allB_iff.1 h1 i hi)
  have e' : ¬ f (i * 4 + 1) = f (i * 4 + 2) := by simpa using e
  exact ⟨win_iff.1 b, win_iff.1 c, e', by have := (win_iff.1 g).1; omega, (win_iff.1 g).2⟩

def BalOf (E : TypeId) (w : World) (xs : List Int) (e : Ending) (w' : World) : Prop := ∃ v, e = .returned v ∧ Own E w' w.heap.size v xs ∧ Below w.heap.size w w'

set_option maxRecDepth 4000 in
set_option maxHeartbeats 3200000 in
theorem bal_impl (n c g : Nat) (f : Nat → Int) (d : Int) (w : World) (hI : RowC w g 0 n 4 f) (h : entriesOk f n = true) :
    Calls Try.prog 68 #[.slice (some ⟨g, 0, none⟩) n c, .int .i64 d] w (BalOf 2 w (tab (balF f d n) 12)) := by
  obtain ⟨hn, he⟩ := entries_is h
  have HE := Lib.hid he
  have HS : Hid (∀ k, k ≤ n → ∀ a, -64000000000 ≤ balF f d k a ∧ balF f d k a ≤ 64000000000) := fun k hk a => by
    have := bal_bd (d := d) (fun i hi => (he i hi).2.2.2) k hk a
    omega
  clear he h
  have T0 : Hid (List.replicate 12 0 = tab (balF f d 0) 12) := tab_rep 12 _ (fun _ => rfl)
  go_enter Try.func68, Try.ntmps68
  go_wp2_with (first | (at_make; refine wpList_mk _ rfl _ _ 29 rfl w.heap.size 2 Try.infoI Try.underlying29 _ _ _ _ 12 rfl rfl rfl rfl (by omega) (Nat.le_refl _) ?_; intro w4 hown4 hb4))
  have hown0 := hown4
  rw [T0.out] at hown0
  clear hown4
  go_loopw [11] (fun i wr => ∃ k : Nat, k ≤ n ∧ i = .int .i64 k ∧ Own 2 wr w.heap.size (.slice (some ⟨w.heap.size, 0, none⟩) 12 12) (tab (balF f d k) 12) ∧ Below w.heap.size w wr) (fun i _ => n - (intOf i).toNat)
  case atStart => exact ⟨0, Nat.zero_le _, rfl, hown0, hb4⟩
  case round =>
    obtain ⟨k, hk, rfl, hown, hbr⟩ := hrel
    by_cases hlt : k < n
    · have c0 := Below.cellOf hbr rfl (hI.c0 k hlt (by decide))
      have c1 := Below.cellOf hbr rfl (hI.cs k 1 hlt (by decide))
      have c2 := Below.cellOf hbr rfl (hI.cs k 2 hlt (by decide))
      have c3 := Below.cellOf hbr rfl (hI.cs k 3 hlt (by decide))
      have l1 : (k : Int) < n := by omega
      by_cases hd : f (k * 4) ≤ d
      · obtain ⟨⟨x0, x1⟩, ⟨y0, y1⟩, hne, q0, q1⟩ := HE.out k hlt
        obtain ⟨x, hx⟩ : ∃ x : Nat, f (k * 4 + 1) = x := ⟨(f (k * 4 + 1)).toNat, by omega⟩
        obtain ⟨y, hy⟩ : ∃ y : Nat, f (k * 4 + 2) = y := ⟨(f (k * 4 + 2)).toNat, by omega⟩
        have hx12 : x < 12 := by omega
        have hy12 : y < 12 := by omega
        have hxy : x ≠ y := by omega
        have H1 := Lib.hid (bal_one (f := f) (d := d) (k := k) hx12)
        have H2 := Lib.hid (bal_two hd hx hy hxy hy12)
        have H3 := Lib.hid (balH_off (f := f) (d := d) (k := k) (Ne.symm hxy))
        rw [hx] at c1
        rw [hy] at c2
        have s1 := HS.out k hk x
        have s2 := HS.out k hk y
        have HT := Lib.hid (tab_length (balF f d k) 12)
        have HT2 := Lib.hid (tab_length (balH f d k x) 12)
        have hb1 : Below wr.heap.size wr (wr.alloc (.cells #[.int .i64 (f (k * 4)), .int .i64 (x : Int), .int .i64 (y : Int), .int .i64 (f (k * 4 + 3))] 84)) := by go_grown
        have hownA := hown.below hb1
        have b1 : (wr.alloc (.cells #[.int .i64 (f (k * 4)), .int .i64 (x : Int), .int .i64 (y : Int), .int .i64 (f (k * 4 + 3))] 84)).cell? ⟨wr.heap.size, 1, none⟩ = some (.int .i64 (x : Int)) := by simp [go_sem]
        have b2 : (wr.alloc (.cells #[.int .i64 (f (k * 4)), .int .i64 (x : Int), .int .i64 (y : Int), .int .i64 (f (k * 4 + 3))] 84)).cell? ⟨wr.heap.size, 2, none⟩ = some (.int .i64 (y : Int)) := by simp [go_sem]
        have b3 : (wr.alloc (.cells #[.int .i64 (f (k * 4)), .int .i64 (x : Int), .int .i64 (y : Int), .int .i64 (f (k * 4 + 3))] 84)).cell? ⟨wr.heap.size, 3, none⟩ = some (.int .i64 (f (k * 4 + 3))) := by simp [go_sem]
        have hlo := (hown.lt _ rfl).2
        have d4 := hownA.cellAt x (by rw [HT.out]; exact hx12)
        rw [tab_get _ _ _ hx12] at d4
        have d5 := hownA.freeAt x
        have HR := Lib.hid hown
        have HRA := Lib.hid hownA
        have e1 : IntKind.i64.wrap (balF f d k x + f (k * 4 + 3)) = balF f d k x + f (k * 4 + 3) := IntWalk.i64_in _ (by omega)
        have e2 : IntKind.i64.wrap (balF f d k y - f (k * 4 + 3)) = balF f d k y - f (k * 4 + 3) := IntWalk.i64_in _ (by omega)
        have x2 : (x : Int) < 12 := by omega
        have y2 : (y : Int) < 12 := by omega
        clear hx hy x0 x1 y0 y1 hne hown hownA hxy
        go_wp2_with fail
        generalize hW1 : (wr.alloc (.cells #[.int .i64 (f (k * 4)), .int .i64 (x : Int), .int .i64 (y : Int), .int .i64 (f (k * 4 + 3))] 84)) = W1 at *
        clear hW1
        go_still_tail 9, (by kernel_rfl)
        change wpList _ _ _ _ _ W1.drew
        go_wp2
        have hb2 : Below wr.heap.size wr (W1.drew) := hb1.drew
        have hown2 : Own 2 ((W1.setCell ⟨w.heap.size, x, none⟩ (.int .i64 (balF f d k x + f (k * 4 + 3)))).drew) w.heap.size (.slice (some ⟨w.heap.size, 0, none⟩) 12 12) ((tab (balF f d k) 12).set x (balF f d k x + f (k * 4 + 3))) := (HRA.out.below ((Below.refl W1.heap.size W1).drew)).set HT.out.symm x (balF f d k x + f (k * 4 + 3))
        rw [H1.out] at hown2
        have k4 := hown2.cellAt y (by rw [HT2.out]; exact hy12)
        rw [tab_get _ _ _ hy12, H3.out] at k4
        have k5 := hown2.freeAt y
        have hbW : Below w.heap.size w ((W1.setCell ⟨w.heap.size, x, none⟩ (.int .i64 (balF f d k x + f (k * 4 + 3)))).drew) := (hbr.trans (hb2.mono hbr.size)).setCell (Nat.le_refl _) _
        have k2 : ((W1.setCell ⟨w.heap.size, x, none⟩ (.int .i64 (balF f d k x + f (k * 4 + 3)))).drew).cell? ⟨wr.heap.size, 2, none⟩ = some (.int .i64 (y : Int)) := (World.cell?_setCell_other W1 _ _ _ (by intro e; have e1 : w.heap.size = wr.heap.size := congrArg Addr.block e; omega)).trans b2
        have k3 : ((W1.setCell ⟨w.heap.size, x, none⟩ (.int .i64 (balF f d k x + f (k * 4 + 3)))).drew).cell? ⟨wr.heap.size, 3, none⟩ = some (.int .i64 (f (k * 4 + 3))) := (World.cell?_setCell_other W1 _ _ _ (by intro e; have e1 : w.heap.size = wr.heap.size := congrArg Addr.block e; omega)).trans b3
        have HR2 := Lib.hid hown2
        clear hown2 d4 d5
        generalize hW2 : (W1.setCell ⟨w.heap.size, x, none⟩ (.int .i64 (balF f d k x + f (k * 4 + 3)))).drew = W2 at *
        clear hW2
        go_still_tail 9, (by kernel_rfl)
        change wpList _ _ _ _ _ W2.drew
        go_wp2
        have hown3 := (HR2.out.below ((Below.refl W2.heap.size W2).drew)).set HT2.out.symm y (balF f d k y - f (k * 4 + 3))
        rw [H2.out] at hown3
        go_roundw
        case rel => exact ⟨k + 1, by omega, by go_num, hown3, hbW.drew.setCell (Nat.le_refl _) _⟩
        case measure => simp [intOf]; omega
      · have H1 := Lib.hid (bal_skip (f := f) (d := d) (k := k) hd)
        have HR := Lib.hid hown
        clear hown
        go_wp2
        go_roundw
        case rel => exact ⟨k + 1, by omega, by go_num, by rw [H1.out]; exact HR.out.below (by first | go_grown | exact Below.refl _ _), hbr.trans (Below.mono (B := wr.heap.size) (by first | go_grown | exact Below.refl _ _) hbr.size)⟩
        case measure => simp [intOf]; omega
    · obtain rfl : k = n := by omega
      have HR := Lib.hid hown
      clear hown
      go_wp2
      go_ret
      exact ⟨_, rfl, HR.out, hbr⟩

set_option maxRecDepth 4000 in
set_option maxHeartbeats 3200000 in
theorem bal_spec (n c g : Nat) (f : Nat → Int) (d : Int) (w : World) (hI : RowC w g 0 n 4 f) (h : entriesOk f n = true) :
    Calls Try.prog 84 #[.slice (some ⟨g, 0, none⟩) n c, .int .i64 d] w (BalOf 2 w (tab (balF f d n) 12)) := by
  obtain ⟨hn, he⟩ := entries_is h
  have HE := Lib.hid he
  have HS : Hid (∀ k, k ≤ n → ∀ a, -64000000000 ≤ balF f d k a ∧ balF f d k a ≤ 64000000000) := fun k hk a => by
    have := bal_bd (d := d) (fun i hi => (he i hi).2.2.2) k hk a
    omega
  clear he h
  have T0 : Hid (List.replicate 12 0 = tab (balF f d 0) 12) := tab_rep 12 _ (fun _ => rfl)
  go_enter Try.func84, Try.ntmps84
  go_wp2_with (first | (at_make; refine wpList_mk _ rfl _ _ 29 rfl w.heap.size 2 Try.infoI Try.underlying29 _ _ _ _ 12 rfl rfl rfl rfl (by omega) (Nat.le_refl _) ?_; intro w4 hown4 hb4))
  have hown0 := hown4
  rw [T0.out] at hown0
  clear hown4
  go_loopw [10] (fun i wr => ∃ k : Nat, k ≤ n ∧ i = .int .i64 k ∧ Own 2 wr w.heap.size (.slice (some ⟨w.heap.size, 0, none⟩) 12 12) (tab (balF f d k) 12) ∧ Below w.heap.size w wr) (fun i _ => n - (intOf i).toNat)
  case atStart => exact ⟨0, Nat.zero_le _, rfl, hown0, hb4⟩
  case round =>
    obtain ⟨k, hk, rfl, hown, hbr⟩ := hrel
    by_cases hlt : k < n
    · have c0 := Below.cellOf hbr rfl (hI.c0 k hlt (by decide))
      have c1 := Below.cellOf hbr rfl (hI.cs k 1 hlt (by decide))
      have c2 := Below.cellOf hbr rfl (hI.cs k 2 hlt (by decide))
      have c3 := Below.cellOf hbr rfl (hI.cs k 3 hlt (by decide))
      have l1 : (k : Int) < n := by omega
      by_cases hd : f (k * 4) ≤ d
      · obtain ⟨⟨x0, x1⟩, ⟨y0, y1⟩, hne, q0, q1⟩ := HE.out k hlt
        obtain ⟨x, hx⟩ : ∃ x : Nat, f (k * 4 + 1) = x := ⟨(f (k * 4 + 1)).toNat, by omega⟩
        obtain ⟨y, hy⟩ : ∃ y : Nat, f (k * 4 + 2) = y := ⟨(f (k * 4 + 2)).toNat, by omega⟩
        have hx12 : x < 12 := by omega
        have hy12 : y < 12 := by omega
        have hxy : x ≠ y := by omega
        have H1 := Lib.hid (bal_one (f := f) (d := d) (k := k) hx12)
        have H2 := Lib.hid (bal_two hd hx hy hxy hy12)
        have H3 := Lib.hid (balH_off (f := f) (d := d) (k := k) (Ne.symm hxy))
        rw [hx] at c1
        rw [hy] at c2
        have s1 := HS.out k hk x
        have s2 := HS.out k hk y
        have HT := Lib.hid (tab_length (balF f d k) 12)
        have HT2 := Lib.hid (tab_length (balH f d k x) 12)
        have hownA := hown
        have glt : g < w.heap.size := World.block_lt_of_cell? w _ (hI.c0 k hlt (by decide))
        have d4 := hownA.cellAt x (by rw [HT.out]; exact hx12)
        rw [tab_get _ _ _ hx12] at d4
        have d5 := hownA.freeAt x
        have HR := Lib.hid hown
        have HRA := Lib.hid hownA
        have e1 : IntKind.i64.wrap (balF f d k x + f (k * 4 + 3)) = balF f d k x + f (k * 4 + 3) := IntWalk.i64_in _ (by omega)
        have e2 : IntKind.i64.wrap (balF f d k y - f (k * 4 + 3)) = balF f d k y - f (k * 4 + 3) := IntWalk.i64_in _ (by omega)
        have x2 : (x : Int) < 12 := by omega
        have y2 : (y : Int) < 12 := by omega
        clear hx hy x0 x1 y0 y1 hne hown hownA hxy
        go_wp2_with fail
        generalize hW1 : wr = W1 at *
        clear hW1
        go_still_tail 15, (by kernel_rfl)
        change wpList _ _ _ _ _ W1.drew
        go_wp2
        have hb2 : Below W1.heap.size W1 (W1.drew) := (Below.refl _ _).drew
        have hown2 : Own 2 ((W1.setCell ⟨w.heap.size, x, none⟩ (.int .i64 (balF f d k x + f (k * 4 + 3)))).drew) w.heap.size (.slice (some ⟨w.heap.size, 0, none⟩) 12 12) ((tab (balF f d k) 12).set x (balF f d k x + f (k * 4 + 3))) := (HRA.out.below ((Below.refl W1.heap.size W1).drew)).set HT.out.symm x (balF f d k x + f (k * 4 + 3))
        rw [H1.out] at hown2
        have k4 := hown2.cellAt y (by rw [HT2.out]; exact hy12)
        rw [tab_get _ _ _ hy12, H3.out] at k4
        have k5 := hown2.freeAt y
        have hbW : Below w.heap.size w ((W1.setCell ⟨w.heap.size, x, none⟩ (.int .i64 (balF f d k x + f (k * 4 + 3)))).drew) := (hbr.trans (hb2.mono hbr.size)).setCell (Nat.le_refl _) _
        have k2 : ((W1.setCell ⟨w.heap.size, x, none⟩ (.int .i64 (balF f d k x + f (k * 4 + 3)))).drew).cell? ⟨g, k * 4 + 2, none⟩ = some (.int .i64 (y : Int)) := (World.cell?_setCell_other W1 _ _ _ (by intro e; have e1 : w.heap.size = g := congrArg Addr.block e; omega)).trans c2
        have k3 : ((W1.setCell ⟨w.heap.size, x, none⟩ (.int .i64 (balF f d k x + f (k * 4 + 3)))).drew).cell? ⟨g, k * 4 + 3, none⟩ = some (.int .i64 (f (k * 4 + 3))) := (World.cell?_setCell_other W1 _ _ _ (by intro e; have e1 : w.heap.size = g := congrArg Addr.block e; omega)).trans c3
        have HR2 := Lib.hid hown2
        clear hown2 d4 d5
        generalize hW2 : (W1.setCell ⟨w.heap.size, x, none⟩ (.int .i64 (balF f d k x + f (k * 4 + 3)))).drew = W2 at *
        clear hW2
        go_still_tail 15, (by kernel_rfl)
        change wpList _ _ _ _ _ W2.drew
        go_wp2
        have hown3 := (HR2.out.below ((Below.refl W2.heap.size W2).drew)).set HT2.out.symm y (balF f d k y - f (k * 4 + 3))
        rw [H2.out] at hown3
        go_roundw
        case rel => exact ⟨k + 1, by omega, by go_num, hown3, hbW.drew.setCell (Nat.le_refl _) _⟩
        case measure => simp [intOf]; omega
      · have H1 := Lib.hid (bal_skip (f := f) (d := d) (k := k) hd)
        have HR := Lib.hid hown
        clear hown
        go_wp2
        go_roundw
        case rel => exact ⟨k + 1, by omega, by go_num, by rw [H1.out]; exact HR.out.below (by first | go_grown | exact Below.refl _ _), hbr.trans (Below.mono (B := wr.heap.size) (by first | go_grown | exact Below.refl _ _) hbr.size)⟩
        case measure => simp [intOf]; omega
    · obtain rfl : k = n := by omega
      have HR := Lib.hid hown
      clear hown
      go_wp2
      go_ret
      exact ⟨_, rfl, HR.out, hbr⟩
end Go.Proofs.Ytjpjcdkepconjaa
