/-
  impl.BestTariff and spec.BestTariff answer alike: every list of fewer than 1000000000 tariffs, every number. No other condition.
-/
import Derived.Test.YtegfajmhblpcoaaCustomsDue
import Derived.Test.YtegfajmhblpcoaaRec
namespace Go.Proofs.Ytegfajmhblpcoaa
open Go.RowKit
set_option linter.unusedVariables false

def dueAt (f : Nat → Int) (v p r : Int) (k : Nat) : Int := CustomsDue_r0 (f (k * 3)) (f (k * 3 + 1)) (f (k * 3 + 2)) v p r
def dueOk (f : Nat → Int) (v p r : Int) (k : Nat) : Bool := CustomsDue_r1 (f (k * 3)) (f (k * 3 + 1)) (f (k * 3 + 2)) v p r
/-- The best of the first k and its due. -/
def bt (f : Nat → Int) (v p r : Int) : Nat → Int × Int
  | 0 => (-1, 0)
  | k + 1 => bif decide ((bt f v p r k).1 < 0) || decide (dueAt f v p r k < (bt f v p r k).2) then ((k : Int), dueAt f v p r k) else bt f v p r k
def btI (f : Nat → Int) (v p r : Int) (k : Nat) : Int := (bt f v p r k).1
def btL (f : Nat → Int) (v p r : Int) (k : Nat) : Int := (bt f v p r k).2
section
variable {f : Nat → Int} {v p r : Int} {k n : Nat}
theorem bt_new (h : btI f v p r k < 0 ∨ dueAt f v p r k < btL f v p r k) : btI f v p r (k + 1) = k ∧ btL f v p r (k + 1) = dueAt f v p r k := by
  have e : (decide ((bt f v p r k).1 < 0) || decide (dueAt f v p r k < (bt f v p r k).2)) = true := by
    have h' : (bt f v p r k).1 < 0 ∨ dueAt f v p r k < (bt f v p r k).2 := h
    simpa using h'
  unfold btI btL
  simp only [bt, e, cond_true, and_self]
theorem bt_old (h1 : ¬ btI f v p r k < 0) (h2 : ¬ dueAt f v p r k < btL f v p r k) : btI f v p r (k + 1) = btI f v p r k ∧ btL f v p r (k + 1) = btL f v p r k := by
  have e : (decide ((bt f v p r k).1 < 0) || decide (dueAt f v p r k < (bt f v p r k).2)) = false := by
    rw [show decide ((bt f v p r k).1 < 0) = false from decide_eq_false h1, show decide (dueAt f v p r k < (bt f v p r k).2) = false from decide_eq_false h2]; rfl
  unfold btI btL
  simp only [bt, e, cond_false, and_self]
theorem bt_pos (h : 0 < k) : 0 ≤ btI f v p r k := by
  induction k with
  | zero => omega
  | succ k ih =>
    by_cases h1 : btI f v p r k < 0 ∨ dueAt f v p r k < btL f v p r k
    · rw [(bt_new h1).1]; omega
    · rw [(bt_old (fun h => h1 (.inl h)) (fun h => h1 (.inr h))).1]; omega
def bestOk (f : Nat → Int) (n : Nat) (v p r : Int) : Bool := win n 1 12 && isImportB v p r && allB (dueOk f v p r) n
def bestR (f : Nat → Int) (n : Nat) (v p r : Int) : Int × Int × Bool := bif bestOk f n v p r then (btI f v p r n, btL f v p r n, true) else (0, 0, false)
def trip (q : Int × Int × Bool) : Value := .tuple #[.int .i64 q.1, .int .i64 q.2.1, .bool q.2.2]
theorem best_no (h : bestOk f n v p r = false) : trip (bestR f n v p r) = trip (0, 0, false) := by simp only [bestR, h, cond_false]
theorem best_yes (h : bestOk f n v p r = true) : trip (bestR f n v p r) = trip (btI f v p r n, btL f v p r n, true) := by simp only [bestR, h, cond_true]
theorem best_n1 (h : win n 1 12 = false) : bestOk f n v p r = false := by simp only [bestOk, h, Bool.false_and]
theorem best_n2 (h : isImportB v p r = false) : bestOk f n v p r = false := by simp only [bestOk, h, Bool.false_and, Bool.and_false]
theorem best_n3 (h : allB (dueOk f v p r) n = false) : bestOk f n v p r = false := by simp only [bestOk, h, Bool.and_false]
theorem best_y (h1 : win n 1 12 = true) (h2 : isImportB v p r = true) (h3 : allB (dueOk f v p r) n = true) : bestOk f n v p r = true := by simp only [bestOk, h1, h2, h3, Bool.and_true]
theorem due_import (h : dueOk f v p r k = true) : isImportB v p r = true := by
  cases hi : isImportB v p r
  · have : custOk (f (k * 3)) (f (k * 3 + 1)) (f (k * 3 + 2)) v p r = false := by simp only [custOk, hi, Bool.and_false]
    have := (cust_no this).2
    rw [show dueOk f v p r k = false from this] at h
    cases h
  · rfl
end
def BestTariff_r0 (X : Rec) (v p r : Int) : Int := (bestR X.f X.length v p r).1
def BestTariff_r1 (X : Rec) (v p r : Int) : Int := (bestR X.f X.length v p r).2.1
def BestTariff_r2 (X : Rec) (v p r : Int) : Bool := (bestR X.f X.length v p r).2.2
theorem cdue_impl (f : Nat → Int) (k : Nat) (v p r : Int) (w : World) : Calls Try.prog 25 #[.agg #[.int .i64 (f (k * 3)), .int .i64 (f (k * 3 + 1)), .int .i64 (f (k * 3 + 2))], .int .i64 v, .int .i64 p, .int .i64 r] w (RetV w (.tuple #[.int .i64 (dueAt f v p r k), .bool (dueOk f v p r k)])) :=
  CustomsDue_impl _ _ _ v p r w
theorem cdue_spec (f : Nat → Int) (k : Nat) (v p r : Int) (w : World) : Calls Try.prog 23 #[.agg #[.int .i64 (f (k * 3)), .int .i64 (f (k * 3 + 1)), .int .i64 (f (k * 3 + 2))], .int .i64 v, .int .i64 p, .int .i64 r] w (RetV w (.tuple #[.int .i64 (dueAt f v p r k), .bool (dueOk f v p r k)])) :=
  CustomsDue_spec _ _ _ v p r w

set_option maxHeartbeats 1600000 in
theorem best_impl (n g : Nat) (f : Nat → Int) (v p r : Int) (w : World) (hn : n < 1000000000) (hI : RowC w g 0 n 3 f) :
    Calls Try.prog 43 #[.slice (some ⟨g, 0, none⟩) n n, .int .i64 v, .int .i64 p, .int .i64 r] w (RetV w (trip (bestR f n v p r))) := by
  generalize hV : trip (bestR f n v p r) = V
  have HN : Hid (bestOk f n v p r = false → V = trip (0, 0, false)) := fun h => hV ▸ best_no h
  have HY : Hid (bestOk f n v p r = true → V = trip (btI f v p r n, btL f v p r n, true)) := fun h => hV ▸ best_yes h
  clear hV
  by_cases n1 : ¬ (1 : Int) ≤ n
  · have HF := Lib.hid (HN.out (best_n1 (win_not.2 (by omega))))
    go_enter Try.func43, Try.ntmps43
    go_wp2
    go_ret3
    exact ⟨by rw [HF.out]; rfl, Below.refl _ _⟩
  have n1 := Classical.not_not.1 n1
  by_cases n2 : ¬ (n : Int) ≤ 12
  · have HF := Lib.hid (HN.out (best_n1 (win_not.2 (by omega))))
    go_enter Try.func43, Try.ntmps43
    go_wp2
    go_ret3
    exact ⟨by rw [HF.out]; rfl, Below.refl _ _⟩
  have n2 := Classical.not_not.1 n2
  cases hi : isImportB v p r
  · have HF := Lib.hid (HN.out (best_n2 hi))
    go_enter Try.func43, Try.ntmps43
    go_wp2_with (first | (go_at_call 69; refine (impl_isImport_any _ _ _ _).mono ?_; rintro e w' ⟨rfl, rfl⟩))
    go_ret3
    exact ⟨by rw [HF.out]; rfl, Below.refl _ _⟩
  have Hi := Lib.hid hi
  go_enter Try.func43, Try.ntmps43
  go_wp2_with (first | (go_at_call 69; refine (impl_isImport_any _ _ _ _).mono ?_; rintro e w' ⟨rfl, rfl⟩))
  clear hi
  go_loopw [34, 11, 12] (fun i b l wr => ∃ k : Nat, k ≤ n ∧ i = .int .i64 k ∧ b = .int .i64 (btI f v p r k) ∧ l = .int .i64 (btL f v p r k) ∧ Hid (allB (dueOk f v p r) k = true) ∧ Below w.heap.size w wr) (fun i _ _ _ => n - (intOf i).toNat)
  case atStart => exact ⟨0, Nat.zero_le _, rfl, rfl, rfl, rfl, Below.refl _ _⟩
  case round =>
    obtain ⟨k, hk, rfl, rfl, rfl, ha, hb⟩ := hrel
    by_cases hlt : k < n
    · have c0 := Below.cellOf hb rfl (hI.c0 k hlt (by decide))
      have c1 := Below.cellOf hb rfl (hI.cs k 1 hlt (by decide))
      have c2 := Below.cellOf hb rfl (hI.cs k 2 hlt (by decide))
      cases hx : dueOk f v p r k
      · have HF := Lib.hid (HN.out (best_n3 (allB_false k hlt hx)))
        go_wp2_with (first | (go_at_call 25; refine (cdue_impl f k v p r _).mono ?_; rintro e w3 ⟨rfl, hb3⟩))
        go_ret3
        refine ⟨by rw [HF.out]; rfl, hb.trans (Below.mono (B := wr.heap.size) (Below.trans (by go_grown) (hb3.mono (by simp))) hb.size)⟩
      · have HA := Lib.hid (allB_succ ha.out hx)
        by_cases hc : btI f v p r k < 0 ∨ dueAt f v p r k < btL f v p r k
        · have HB := Lib.hid (bt_new hc)
          rcases Classical.em (btI f v p r k < 0) with hc1 | hc1
          all_goals
            try have hc2 : dueAt f v p r k < btL f v p r k := hc.resolve_left hc1
            clear hc
            go_wp2_with (first | (go_at_call 25; refine (cdue_impl f k v p r _).mono ?_; rintro e w3 ⟨rfl, hb3⟩))
            go_roundw
            case rel => exact ⟨k + 1, by omega, by go_num, by rw [HB.out.1], by rw [HB.out.2], HA, hb.trans (Below.mono (B := wr.heap.size) (Below.trans (by go_grown) (hb3.mono (by simp))) hb.size)⟩
            case measure => simp [intOf]; omega
        · have hc1 : ¬ btI f v p r k < 0 := fun h => hc (.inl h)
          have hc2 : ¬ dueAt f v p r k < btL f v p r k := fun h => hc (.inr h)
          have HB := Lib.hid (bt_old hc1 hc2)
          clear hc
          go_wp2_with (first | (go_at_call 25; refine (cdue_impl f k v p r _).mono ?_; rintro e w3 ⟨rfl, hb3⟩))
          go_roundw
          case rel => exact ⟨k + 1, by omega, by go_num, by rw [HB.out.1], by rw [HB.out.2], HA, hb.trans (Below.mono (B := wr.heap.size) (Below.trans (by go_grown) (hb3.mono (by simp))) hb.size)⟩
          case measure => simp [intOf]; omega
    · obtain rfl : k = n := by omega
      have HF := Lib.hid (HY.out (best_y (win_iff.2 ⟨n1, n2⟩) Hi.out ha.out))
      go_wp2
      go_ret3
      exact ⟨by rw [HF.out]; rfl, hb⟩

set_option maxHeartbeats 1600000 in
theorem best_spec (n g : Nat) (f : Nat → Int) (v p r : Int) (w : World) (hn : n < 1000000000) (hI : RowC w g 0 n 3 f) :
    Calls Try.prog 41 #[.slice (some ⟨g, 0, none⟩) n n, .int .i64 v, .int .i64 p, .int .i64 r] w (RetV w (trip (bestR f n v p r))) := by
  generalize hV : trip (bestR f n v p r) = V
  have HN : Hid (bestOk f n v p r = false → V = trip (0, 0, false)) := fun h => hV ▸ best_no h
  have HY : Hid (bestOk f n v p r = true → V = trip (btI f v p r n, btL f v p r n, true)) := fun h => hV ▸ best_yes h
  clear hV
  by_cases n1 : ¬ (1 : Int) ≤ n
  · have HF := Lib.hid (HN.out (best_n1 (win_not.2 (by omega))))
    go_enter Try.func41, Try.ntmps41
    go_wp2
    go_ret3
    exact ⟨by rw [HF.out]; rfl, Below.refl _ _⟩
  have n1 := Classical.not_not.1 n1
  by_cases n2 : ¬ (n : Int) ≤ 12
  · have HF := Lib.hid (HN.out (best_n1 (win_not.2 (by omega))))
    go_enter Try.func41, Try.ntmps41
    go_wp2
    go_ret3
    exact ⟨by rw [HF.out]; rfl, Below.refl _ _⟩
  have n2 := Classical.not_not.1 n2
  go_enter Try.func41, Try.ntmps41
  go_wp2
  go_loopw [13, 11, 12] (fun i b l wr => ∃ (k : Nat) (x y : Int), k ≤ n ∧ i = .int .i64 k ∧ b = .int .i64 x ∧ l = .int .i64 y ∧ Hid ((k = 0 ∧ x = 0) ∨ (0 < k ∧ x = btI f v p r k ∧ y = btL f v p r k)) ∧ Hid (allB (dueOk f v p r) k = true) ∧ Below w.heap.size w wr) (fun i _ _ _ => n - (intOf i).toNat)
  case atStart => exact ⟨0, 0, 0, Nat.zero_le _, rfl, rfl, rfl, .inl ⟨rfl, rfl⟩, rfl, Below.refl _ _⟩
  case round =>
    obtain ⟨k, x, y, hk, rfl, rfl, rfl, hxy, ha, hb⟩ := hrel
    by_cases hlt : k < n
    · have c0 := Below.cellOf hb rfl (hI.c0 k hlt (by decide))
      have c1 := Below.cellOf hb rfl (hI.cs k 1 hlt (by decide))
      have c2 := Below.cellOf hb rfl (hI.cs k 2 hlt (by decide))
      cases hx : dueOk f v p r k
      · have HF := Lib.hid (HN.out (best_n3 (allB_false k hlt hx)))
        go_wp2_with (first | (go_at_call 23; refine (cdue_spec f k v p r _).mono ?_; rintro e w3 ⟨rfl, hb3⟩))
        go_ret3
        exact ⟨by rw [HF.out]; rfl, hb.trans (hb3.mono hb.size)⟩
      · have HA := Lib.hid (allB_succ ha.out hx)
        have HK : Hid (btI f v p r 0 = -1) := rfl
        rcases Nat.eq_zero_or_pos k with h0 | h0
        · have HB : Hid (btI f v p r (k + 1) = k ∧ btL f v p r (k + 1) = dueAt f v p r k) := bt_new (.inl (by rw [h0, HK.out]; decide))
          have k0 : ((k : Int) == 0) = true := by simp [h0]
          have k1 : (k == 0) = true := by simp [h0]
          clear h0
          go_wp2_with (first | (go_at_call 23; refine (cdue_spec f k v p r _).mono ?_; rintro e w3 ⟨rfl, hb3⟩))
          go_roundw
          case rel => exact ⟨k + 1, _, _, by omega, by go_num, rfl, rfl, .inr ⟨by omega, by rw [HB.out.1], by rw [HB.out.2]⟩, HA, hb.trans (hb3.mono hb.size)⟩
          case measure => simp [intOf]; omega
        · obtain ⟨rfl, rfl⟩ : x = btI f v p r k ∧ y = btL f v p r k := by
            rcases hxy.out with ⟨h, _⟩ | ⟨_, h⟩
            · omega
            · exact h
          have k0 : ((k : Int) == 0) = false := by simp; omega
          have k1 : (k == 0) = false := by simp; omega
          have hc1 : ¬ btI f v p r k < 0 := by have := bt_pos (f := f) (v := v) (p := p) (r := r) h0; omega
          by_cases hc2 : dueAt f v p r k < btL f v p r k
          · have HB := Lib.hid (bt_new (Or.inr hc2))
            go_wp2_with (first | (go_at_call 23; refine (cdue_spec f k v p r _).mono ?_; rintro e w3 ⟨rfl, hb3⟩))
            go_roundw
            case rel => exact ⟨k + 1, _, _, by omega, by go_num, rfl, rfl, .inr ⟨by omega, by rw [HB.out.1], by rw [HB.out.2]⟩, HA, hb.trans (hb3.mono hb.size)⟩
            case measure => simp [intOf]; omega
          · have HB := Lib.hid (bt_old hc1 hc2)
            go_wp2_with (first | (go_at_call 23; refine (cdue_spec f k v p r _).mono ?_; rintro e w3 ⟨rfl, hb3⟩))
            go_roundw
            case rel => exact ⟨k + 1, _, _, by omega, by go_num, rfl, rfl, .inr ⟨by omega, by rw [HB.out.1], by rw [HB.out.2]⟩, HA, hb.trans (hb3.mono hb.size)⟩
            case measure => simp [intOf]; omega
    · obtain rfl : k = n := by omega
      obtain ⟨rfl, rfl⟩ : x = btI f v p r k ∧ y = btL f v p r k := by
        rcases hxy.out with ⟨h, _⟩ | ⟨_, h⟩
        · omega
        · exact h
      have HF := Lib.hid (HY.out (best_y (win_iff.2 ⟨n1, n2⟩) (due_import (allB_iff.1 ha.out 0 (by omega))) ha.out))
      go_wp2
      go_ret3
      exact ⟨by rw [HF.out]; rfl, hb⟩

theorem BestTariff_impl {w : World} {B : Nat} {u : Value} {X : Rec} (hv : RowR 3 w B u X) (v p r : Int) : Calls Try.prog 43 #[u, .int .i64 v, .int .i64 p, .int .i64 r] w (RetV w (.tuple #[.int .i64 (BestTariff_r0 X v p r), .int .i64 (BestTariff_r1 X v p r), .bool (BestTariff_r2 X v p r)])) := by
  obtain ⟨g, rfl, _, _, hn, hI, _⟩ := hv
  exact best_impl X.length g X.f v p r w hn hI

theorem BestTariff_spec {w : World} {B : Nat} {u : Value} {X : Rec} (hv : RowR 3 w B u X) (v p r : Int) : Calls Try.prog 41 #[u, .int .i64 v, .int .i64 p, .int .i64 r] w (RetV w (.tuple #[.int .i64 (BestTariff_r0 X v p r), .int .i64 (BestTariff_r1 X v p r), .bool (BestTariff_r2 X v p r)])) := by
  obtain ⟨g, rfl, _, _, hn, hI, _⟩ := hv
  exact best_spec X.length g X.f v p r w hn hI
end Go.Proofs.Ytegfajmhblpcoaa
