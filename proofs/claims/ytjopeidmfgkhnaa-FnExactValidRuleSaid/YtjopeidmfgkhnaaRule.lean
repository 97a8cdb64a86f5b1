/-
  Rules that a law hands on, as copies in memory of the call's own: toRule, eqRule, szRule by their contracts. Condition: fewer than 1000000000 conditions.
-/
import Derived.Test.YtjopeidmfgkhnaaProg
import Derived.Test.YtjopeidmfgkhnaaSzI
import Derived.Test.YtjopeidmfgkhnaaKept
import Derived.Test.YtjopeidmfgkhnaaRuleO
import Derived.Test.YtjopeidmfgkhnaaToInt64S
import Derived.Test.YtjopeidmfgkhnaaInt64S
namespace Go.Proofs.Ytjopeidmfgkhnaa
open Go.RowKit
set_option linter.unusedVariables false

theorem sz_u_no {w : World} {v : Value} {h : Int} {xs : List Int} {a b k : Int} (i : InU w v h xs a b k) {L : Int} (hs : L < (xs.length : Int)) (hL : 0 ≤ L ∧ L ≤ 1048576) : Calls Try.prog 14 #[v, .int .i64 L] w (RetV w (.int .i64 (-1))) := by
  obtain ⟨ad, c, rfl, hm, _⟩ := i
  generalize xs.length = n at *
  go_enter Try.func14, Try.ntmps14
  go_wp2_with fail
  refine (szi_no ad n c L _ hm hL hs).mono ?_
  rintro e w1 ⟨rfl, rfl⟩
  go_wp2_with fail
  go_ret
  exact ⟨rfl, by go_grown⟩
theorem sz_u_yes {w : World} {v : Value} {h : Int} {xs : List Int} {a b k : Int} (i : InU w v h xs a b k) {L : Int} (hs : (xs.length : Int) ≤ L) (hL : 0 ≤ L ∧ L ≤ 1048576) : Calls Try.prog 14 #[v, .int .i64 L] w (RetV w (.int .i64 (L - (xs.length : Int)))) := by
  obtain ⟨ad, c, rfl, hm, _⟩ := i
  generalize xs.length = n at *
  go_enter Try.func14, Try.ntmps14
  go_wp2_with fail
  refine (szi_yes ad n c L _ hm hL hs).mono ?_
  rintro e w1 ⟨rfl, rfl⟩
  go_wp2_with fail
  go_ret
  exact ⟨rfl, by go_grown⟩

set_option maxHeartbeats 800000 in
theorem eq_u {w : World} {B1 B2 : Nat} {v1 v2 : Value} {h : Int} {xs : List Int} {a b k : Int} (h1 : OwnU 2 w B1 v1 h xs a b k) (h2 : OwnU 2 w B2 v2 h xs a b k) (hn : xs.length < 1000000000) :
    Calls Try.prog 18 #[v1, v2] w (RetV w (.bool true)) := by
  obtain ⟨a1, rfl, x1⟩ := h1
  obtain ⟨a2, rfl, x2⟩ := h2
  obtain ⟨W, hW⟩ : ∃ W, W = (w.alloc (.cells #[.int .i64 h, a1, .int .i64 a, .int .i64 b, .int .i64 k] 34)).alloc (.cells #[.int .i64 h, a2, .int .i64 a, .int .i64 b, .int .i64 k] 34) := ⟨_, rfl⟩
  have bA : Below w.heap.size w W := by rw [hW]; go_grown
  have HK : Hid (∀ w1, Below W.heap.size W w1 → (w1.cell? ⟨w.heap.size, 2, none⟩ = some (.int .i64 a) ∧ w1.cell? ⟨w.heap.size, 3, none⟩ = some (.int .i64 b) ∧ w1.cell? ⟨w.heap.size, 4, none⟩ = some (.int .i64 k)) ∧ (w1.cell? ⟨w.heap.size + 1, 2, none⟩ = some (.int .i64 a) ∧ w1.cell? ⟨w.heap.size + 1, 3, none⟩ = some (.int .i64 b) ∧ w1.cell? ⟨w.heap.size + 1, 4, none⟩ = some (.int .i64 k))) := fun w1 hb =>
    ⟨⟨Below.cellOf hb rfl (by rw [hW]; simp [go_sem]), Below.cellOf hb rfl (by rw [hW]; simp [go_sem]), Below.cellOf hb rfl (by rw [hW]; simp [go_sem])⟩, Below.cellOf hb rfl (by rw [hW]; simp [go_sem]), Below.cellOf hb rfl (by rw [hW]; simp [go_sem]), Below.cellOf hb rfl (by rw [hW]; simp [go_sem])⟩
  have hC := eq_i (x1.below bA) (x2.below bA) hn
  rw [hW] at HK hC bA
  clear hW
  go_enter Try.func18, Try.ntmps18
  go_wp2_with fail
  refine hC.mono ?_
  rintro e w1 ⟨rfl, hb⟩
  obtain ⟨⟨k2, k3, k4⟩, k5, k6, k7⟩ := HK.out w1 hb
  go_wp2_with fail
  go_ret
  exact ⟨rfl, bnext bA hb⟩

set_option maxHeartbeats 800000 in
theorem to_u {w : World} {v : Value} {h : Int} {xs : List Int} {a b k : Int} (i : InU w v h xs a b k) (hn : xs.length < 1000000000) :
    Calls Try.prog 16 #[v] w (fun e w' => ∃ v, e = .returned v ∧ RowU 2 w' w.heap.size v h xs a b k ∧ Below w.heap.size w w') := by
  obtain ⟨ad, c, rfl, hm, hi⟩ := i
  generalize hvb : Value.slice ad xs.length c = vb at *
  clear hvb hm
  obtain ⟨W, hW⟩ : ∃ W, W = ((w.alloc (.cells #[.int .i64 h, vb, .int .i64 a, .int .i64 b, .int .i64 k] 31)).alloc (.cells #[.int .i64 0, .slice none 0 0, .int .i64 0, .int .i64 0, .int .i64 0] 34)).alloc (.cells #[.int .i64 h, .slice none 0 0, .int .i64 0, .int .i64 0, .int .i64 0] 34) := ⟨_, rfl⟩
  have bA : Below w.heap.size w W := by rw [hW]; go_grown
  have hC := to_i (hi.below bA) hn
  have hz : W.heap.size = w.heap.size + 3 := by rw [hW]; simp
  have HK : Hid (∀ w1, Below W.heap.size W w1 → (w1.cell? ⟨w.heap.size, 2, none⟩ = some (.int .i64 a) ∧ w1.cell? ⟨w.heap.size, 3, none⟩ = some (.int .i64 b) ∧ w1.cell? ⟨w.heap.size, 4, none⟩ = some (.int .i64 k)) ∧
      (w1.cell? ⟨w.heap.size + 1 + 1, 0, none⟩ = some (.int .i64 h) ∧ w1.cell? ⟨w.heap.size + 1 + 1, 1, none⟩ = some (.slice none 0 0) ∧ w1.cell? ⟨w.heap.size + 1 + 1, 2, none⟩ = some (.int .i64 0) ∧ w1.cell? ⟨w.heap.size + 1 + 1, 3, none⟩ = some (.int .i64 0) ∧ w1.cell? ⟨w.heap.size + 1 + 1, 4, none⟩ = some (.int .i64 0)) ∧
      (w1.cell? ⟨w.heap.size + 1, 0, none⟩ = some (.int .i64 0) ∧ w1.cell? ⟨w.heap.size + 1, 1, none⟩ = some (.slice none 0 0) ∧ w1.cell? ⟨w.heap.size + 1, 2, none⟩ = some (.int .i64 0) ∧ w1.cell? ⟨w.heap.size + 1, 3, none⟩ = some (.int .i64 0) ∧ w1.cell? ⟨w.heap.size + 1, 4, none⟩ = some (.int .i64 0))) := fun w1 hb =>
    ⟨⟨Below.cellOf hb rfl (by rw [hW]; simp [go_sem]), Below.cellOf hb rfl (by rw [hW]; simp [go_sem]), Below.cellOf hb rfl (by rw [hW]; simp [go_sem])⟩, ⟨Below.cellOf hb rfl (by rw [hW]; simp [go_sem]), Below.cellOf hb rfl (by rw [hW]; simp [go_sem]), Below.cellOf hb rfl (by rw [hW]; simp [go_sem]), Below.cellOf hb rfl (by rw [hW]; simp [go_sem]), Below.cellOf hb rfl (by rw [hW]; simp [go_sem])⟩, Below.cellOf hb rfl (by rw [hW]; simp [go_sem]), Below.cellOf hb rfl (by rw [hW]; simp [go_sem]), Below.cellOf hb rfl (by rw [hW]; simp [go_sem]), Below.cellOf hb rfl (by rw [hW]; simp [go_sem]), Below.cellOf hb rfl (by rw [hW]; simp [go_sem])⟩
  have HFR : Hid (∀ w1, Below W.heap.size W w1 → ∀ j, w1.frozen? ⟨w.heap.size + 1, j, none⟩ = false ∧ w1.frozen? ⟨w.heap.size + 1 + 1, j, none⟩ = false) := fun w1 hb j =>
    ⟨(hb.frozen (p := ⟨w.heap.size + 1, j, none⟩) (by show w.heap.size + 1 < _; omega)).trans (by rw [hW]; simp [go_sem]), (hb.frozen (p := ⟨w.heap.size + 1 + 1, j, none⟩) (by show w.heap.size + 1 + 1 < _; omega)).trans (by rw [hW]; simp [go_sem])⟩
  have HZ := Lib.hid hz
  rw [hW] at HK hC bA HFR HZ
  clear hW hz
  go_enter Try.func16, Try.ntmps16
  go_wp2_with fail
  refine hC.mono ?_
  rintro e w1 ⟨u, rfl, hu, hb⟩
  obtain ⟨g1, c1, rfl, q0, q1, _⟩ := hu.form
  obtain ⟨⟨k2, k3, k4⟩, ⟨t0, t1, t2, t3, t4⟩, s0, s1, s2, s3, s4⟩ := HK.out w1 hb
  have f0 := (HFR.out w1 hb 0).1
  have f1 := (HFR.out w1 hb 1).1
  have f2 := (HFR.out w1 hb 2).1
  have f3 := (HFR.out w1 hb 3).1
  have f4 := (HFR.out w1 hb 4).1
  have g0' := (HFR.out w1 hb 1).2
  have g2' := (HFR.out w1 hb 2).2
  have g3' := (HFR.out w1 hb 3).2
  have g4' := (HFR.out w1 hb 4).2
  have HU := Lib.hid hu
  have HQ : Hid (w.heap.size + 3 ≤ g1) := by show _ ≤ _; rw [← HZ.out]; exact q0
  have C1 := bnext bA hb
  clear hu q0
  go_wp2_with fail
  refine bodyPost_ret (v := .agg #[.int .i64 h, .slice (some ⟨g1, 0, none⟩) xs.length c1, .int .i64 a, .int .i64 b, .int .i64 k]) (by simp [results, Try.results16, go_sem, s0, s1, s2, s3, s4]) rfl ?_
  have kq : ∀ u1 u2 u3 u4 u5 u6 u7 u8 u9, Kept (fun b => b = w.heap.size + 1 ∨ b = w.heap.size + 1 + 1) w1 (((((((((w1.setCell ⟨w.heap.size + 1 + 1, 1, none⟩ u1).setCell ⟨w.heap.size + 1 + 1, 2, none⟩ u2).setCell ⟨w.heap.size + 1 + 1, 3, none⟩ u3).setCell ⟨w.heap.size + 1 + 1, 4, none⟩ u4).setCell ⟨w.heap.size + 1, 0, none⟩ u5).setCell ⟨w.heap.size + 1, 1, none⟩ u6).setCell ⟨w.heap.size + 1, 2, none⟩ u7).setCell ⟨w.heap.size + 1, 3, none⟩ u8).setCell ⟨w.heap.size + 1, 4, none⟩ u9) := fun u1 u2 u3 u4 u5 u6 u7 u8 u9 =>
    (((((((((Kept.refl _ w1).setCell (p := ⟨_, _, none⟩) (.inr rfl) u1).setCell (p := ⟨_, _, none⟩) (.inr rfl) u2).setCell (p := ⟨_, _, none⟩) (.inr rfl) u3).setCell (p := ⟨_, _, none⟩) (.inr rfl) u4).setCell (p := ⟨_, _, none⟩) (.inl rfl) u5).setCell (p := ⟨_, _, none⟩) (.inl rfl) u6).setCell (p := ⟨_, _, none⟩) (.inl rfl) u7).setCell (p := ⟨_, _, none⟩) (.inl rfl) u8).setCell (p := ⟨_, _, none⟩) (.inl rfl) u9
  have hz1 : w.heap.size ≤ w1.heap.size := C1.size
  refine ⟨_, rfl, ⟨_, rfl, ((kq _ _ _ _ _ _ _ _ _).own HU.out.1 (fun q hq e => ?_)).mono bA.size, HU.out.2⟩, C1.trans ((kq _ _ _ _ _ _ _ _ _).toBelow (fun q hq => by omega) hz1)⟩
  have h' : g1 = q := Option.some.inj hq
  have e' : q = w.heap.size + 1 ∨ q = w.heap.size + 1 + 1 := e
  have := HQ.out
  omega
end Go.Proofs.Ytjopeidmfgkhnaa
