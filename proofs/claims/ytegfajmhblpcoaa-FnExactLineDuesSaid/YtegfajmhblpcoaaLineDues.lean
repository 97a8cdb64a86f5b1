/-
  impl.LineDues and spec.LineDues answer alike. Condition: fewer than 1000000000 integers in each list.
-/
import Derived.Test.YtegfajmhblpcoaaLines
import Derived.Test.YtegfajmhblpcoaaDueI
import Derived.Test.YtegfajmhblpcoaaDueS
import Derived.Test.YtegfajmhblpcoaaRegApp
import Derived.Test.YtegfajmhblpcoaaTab
namespace Go.Proofs.Ytegfajmhblpcoaa
open Go.RowKit
set_option linter.unusedVariables false

def lineAt (f1 f2 f3 : Nat → Int) (r : Int) (i : Nat) : Int := rnd (f1 i * f3 (f2 i).toNat) 10000 r
def lineL (f1 : Nat → Int) (n1 : Nat) (f2 : Nat → Int) (n2 : Nat) (f3 : Nat → Int) (n3 : Nat) (r : Int) : List Int := if linesOk f1 n1 f2 n2 f3 n3 r then tab (lineAt f1 f2 f3 r) n1 else []
section
variable {f1 f2 f3 : Nat → Int} {n1 n2 n3 : Nat} {r : Int}
theorem lineL_no (h : linesOk f1 n1 f2 n2 f3 n3 r = false) : lineL f1 n1 f2 n2 f3 n3 r = [] := by simp [lineL, h]
theorem lineL_yes (h : linesOk f1 n1 f2 n2 f3 n3 r = true) : lineL f1 n1 f2 n2 f3 n3 r = tab (lineAt f1 f2 f3 r) n1 := by simp [lineL, h]
end
def LineDues_r0 (xs ys zs : List Int) (r : Int) : List Int := lineL (fun i => xs.getD i 0) xs.length (fun i => ys.getD i 0) ys.length (fun i => zs.getD i 0) zs.length r
def LineDues_r1 (xs ys zs : List Int) (r : Int) : Bool := linesOk (fun i => xs.getD i 0) xs.length (fun i => ys.getD i 0) ys.length (fun i => zs.getD i 0) zs.length r


set_option maxHeartbeats 1600000 in
theorem line_core_impl (n1 g1 c1 : Nat) (f1 : Nat → Int) (n2 g2 c2 : Nat) (f2 : Nat → Int) (n3 g3 c3 : Nat) (f3 : Nat → Int) (r : Int) (w : World) (m1 : n1 < 1000000000) (m2 : n2 < 1000000000) (m3 : n3 < 1000000000)
    (I1 : Ints w g1 0 n1 f1) (I2 : Ints w g2 0 n2 f2) (I3 : Ints w g3 0 n3 f3) :
    Calls Try.prog 37 #[.slice (some ⟨g1, 0, none⟩) n1 c1, .slice (some ⟨g2, 0, none⟩) n2 c2, .slice (some ⟨g3, 0, none⟩) n3 c3, .int .i64 r] w (RetL1 2 w (lineL f1 n1 f2 n2 f3 n3 r) (linesOk f1 n1 f2 n2 f3 n3 r)) := by
  cases h : linesOk f1 n1 f2 n2 f3 n3 r
  · rw [lineL_no h]
    go_enter Try.func37, Try.ntmps37
    go_wp2_with (first | (go_at_call 79; refine (areLines_any _ g1 c1 f1 _ g2 c2 f2 _ g3 c3 f3 r _ (by assumption) (by assumption) m3 I1 I2 I3).mono ?_; rintro e w1 ⟨rfl, hb⟩))
    go_ret2
    exact RetL1.no _ hb
  · rw [lineL_yes h]
    obtain ⟨p1, p2, p3, q3, q1, q2, q4, q5, q6⟩ := lines_is h
    subst q3
    have HI := Lib.hid p1
    have HJ := Lib.hid p2
    have HK := Lib.hid p3
    clear p1 p2 p3
    go_enter Try.func37, Try.ntmps37
    go_wp2_with (first | (go_at_call 79; refine (areLines_any _ g1 c1 f1 _ g2 c2 f2 _ g3 c3 f3 r _ (by assumption) (by assumption) m3 I1 I2 I3).mono ?_; rintro e w1 ⟨rfl, hb⟩))
    clear h
    go_loopw [10, 22] (fun v i wr => ∃ k : Nat, k ≤ n2 ∧ i = .int .i64 k ∧ Own 2 wr w.heap.size v (tab (lineAt f1 f2 f3 r) k) ∧ Below w.heap.size w wr) (fun _ i _ => n2 + 1 - (intOf i).toNat)
    case atStart => exact ⟨0, Nat.zero_le _, rfl, Own.made _ _ hb.size, hb.alloc hb.size _⟩
    case round =>
      obtain ⟨k, hk, rfl, hown, hbr⟩ := hrel
      by_cases hlt : k < n2
      · obtain ⟨a0, a1⟩ := HI.out k hlt
        obtain ⟨b0, b1⟩ := HJ.out k hlt
        obtain ⟨j, hj⟩ : ∃ j : Nat, f2 k = j := ⟨(f2 k).toNat, by omega⟩
        have hj3 : j < n3 := by omega
        obtain ⟨d0, d1⟩ := HK.out j hj3
        have d2 := Below.cellOf hbr rfl (I2.at0 k (by omega))
        have d3 := Below.cellOf hbr rfl (I1.at0 k hlt)
        have d4 := Below.cellOf hbr rfl (I3.at0 j hj3)
        rw [hj] at d2
        have HE : Hid (lineAt f1 f2 f3 r k = rnd (f1 k * f3 j) 10000 r) := by show rnd (f1 k * f3 (f2 k).toNat) 10000 r = _; rw [hj]; rfl
        have HL := Lib.hid (tab_length (lineAt f1 f2 f3 r) k)
        clear hj b0 b1
        go_wp2_with (first | (go_at_call 77; refine (impl_dueBy' _ _ _ _ (by omega) (by omega) (by omega) (by omega)).mono ?_; rintro e w3 ⟨rfl, hb3⟩; have hown3 := hown.below hb3) | (at_builtin; refine wpList_app1 _ rfl _ _ 22 rfl w.heap.size 2 Try.infoI Try.underlying22 _ _ rfl hown3 _ rfl (by have := HL.out; omega) (Nat.le_trans hbr.size hb3.size) ?_; intro v' w4 hown4 hb4))
        go_roundw
        case rel => exact ⟨k + 1, by omega, by go_num, by rw [tab, HE.out]; exact hown4, (hbr.trans (hb3.mono hbr.size)).trans hb4⟩
        case measure => simp [intOf]; omega
      · obtain rfl : k = n2 := by omega
        go_wp2
        go_ret2
        exact ⟨_, rfl, hown, by rw [tab_length]; exact m1, hbr⟩

theorem LineDues_impl {w : World} {B1 B2 B3 : Nat} {v1 v2 v3 : Value} {xs ys zs : List Int} (h1 : RowI 2 w B1 v1 xs) (h2 : RowI 2 w B2 v2 ys) (h3 : RowI 2 w B3 v3 zs) (r : Int) :
    Calls Try.prog 37 #[v1, v2, v3, .int .i64 r] w (RetL1 2 w (LineDues_r0 xs ys zs r) (LineDues_r1 xs ys zs r)) := by
  obtain ⟨g1, c1, rfl, _, _, _, _, I1, _, m1⟩ := h1.form
  obtain ⟨g2, c2, rfl, _, _, _, _, I2, _, m2⟩ := h2.form
  obtain ⟨g3, c3, rfl, _, _, _, _, I3, _, m3⟩ := h3.form
  exact line_core_impl xs.length g1 c1 _ ys.length g2 c2 _ zs.length g3 c3 _ r w m1 m2 m3 I1 I2 I3

set_option maxHeartbeats 1600000 in
theorem line_core_spec (n1 g1 c1 : Nat) (f1 : Nat → Int) (n2 g2 c2 : Nat) (f2 : Nat → Int) (n3 g3 c3 : Nat) (f3 : Nat → Int) (r : Int) (w : World) (m1 : n1 < 1000000000) (m2 : n2 < 1000000000) (m3 : n3 < 1000000000)
    (I1 : Ints w g1 0 n1 f1) (I2 : Ints w g2 0 n2 f2) (I3 : Ints w g3 0 n3 f3) :
    Calls Try.prog 36 #[.slice (some ⟨g1, 0, none⟩) n1 c1, .slice (some ⟨g2, 0, none⟩) n2 c2, .slice (some ⟨g3, 0, none⟩) n3 c3, .int .i64 r] w (RetL1 2 w (lineL f1 n1 f2 n2 f3 n3 r) (linesOk f1 n1 f2 n2 f3 n3 r)) := by
  cases h : linesOk f1 n1 f2 n2 f3 n3 r
  · rw [lineL_no h]
    go_enter Try.func36, Try.ntmps36
    go_wp2_with (first | (go_at_call 78; refine (l04Lines_any _ g1 c1 f1 _ g2 c2 f2 _ g3 c3 f3 r _ (by assumption) (by assumption) m3 I1 I2 I3).mono ?_; rintro e w1 ⟨rfl, hb⟩))
    go_ret2
    exact RetL1.no _ hb
  · rw [lineL_yes h]
    obtain ⟨p1, p2, p3, q3, q1, q2, q4, q5, q6⟩ := lines_is h
    subst q3
    have HI := Lib.hid p1
    have HJ := Lib.hid p2
    have HK := Lib.hid p3
    clear p1 p2 p3
    go_enter Try.func36, Try.ntmps36
    go_wp2_with (first | (go_at_call 78; refine (l04Lines_any _ g1 c1 f1 _ g2 c2 f2 _ g3 c3 f3 r _ (by assumption) (by assumption) m3 I1 I2 I3).mono ?_; rintro e w1 ⟨rfl, hb⟩))
    clear h
    go_loopw [10, 11] (fun v i wr => ∃ k : Nat, k ≤ n2 ∧ i = .int .i64 k ∧ Own 2 wr w.heap.size v (tab (lineAt f1 f2 f3 r) k) ∧ Below w.heap.size w wr) (fun _ i _ => n2 + 1 - (intOf i).toNat)
    case atStart => exact ⟨0, Nat.zero_le _, rfl, Own.made _ _ hb.size, hb.alloc hb.size _⟩
    case round =>
      obtain ⟨k, hk, rfl, hown, hbr⟩ := hrel
      by_cases hlt : k < n2
      · obtain ⟨a0, a1⟩ := HI.out k hlt
        obtain ⟨b0, b1⟩ := HJ.out k hlt
        obtain ⟨j, hj⟩ : ∃ j : Nat, f2 k = j := ⟨(f2 k).toNat, by omega⟩
        have hj3 : j < n3 := by omega
        obtain ⟨d0, d1⟩ := HK.out j hj3
        have d2 := Below.cellOf hbr rfl (I2.at0 k (by omega))
        have d3 := Below.cellOf hbr rfl (I1.at0 k hlt)
        have d4 := Below.cellOf hbr rfl (I3.at0 j hj3)
        rw [hj] at d2
        have HE : Hid (lineAt f1 f2 f3 r k = rnd (f1 k * f3 j) 10000 r) := by show rnd (f1 k * f3 (f2 k).toNat) 10000 r = _; rw [hj]; rfl
        have HL := Lib.hid (tab_length (lineAt f1 f2 f3 r) k)
        clear hj b0 b1
        have t1 := World.block_lt_of_cell? w _ (I1.at0 k hlt)
        have t2 := World.block_lt_of_cell? w _ (I2.at0 k (by omega))
        have t3 := World.block_lt_of_cell? w _ (I3.at0 j hj3)
        have e6 : (k : Int) < (n2 : Int) := by omega
        have e7 : k < n2 := by omega
        have e8 : (k : Int) < (n2 : Int) := by omega
        have e9 : (j : Int) < (n3 : Int) := by omega
        go_wp2_with fail
        go_region_held3 (fun w' => w'.cell? ⟨g1, k, none⟩ = some (.int .i64 (f1 k)) ∧ w'.cell? ⟨g2, k, none⟩ = some (.int .i64 (j : Int)) ∧ w'.cell? ⟨g3, j, none⟩ = some (.int .i64 (f3 j)))
          (first | go_keep | (go_split_ands; refine ⟨?_, ?_, ?_⟩ <;> (apply Below.cellOf (by assumption) rfl; assumption)) | (go_split_ands; refine ⟨?_, ?_, ?_⟩ <;> (refine (hb5.cell (by assumption)).trans ?_; assumption)))
          ((first | (go_at_call 67; refine (spec_l04Due' _ _ _ _ (by omega) (by omega) (by omega) (by omega)).mono ?_; rintro e w3 ⟨rfl, hb3⟩; have hown3 := (Own.below hown (Below.drew (Below.refl _ wr))).below hb3) | (refine step_app1 _ rfl _ _ 22 rfl w.heap.size 2 Try.infoI Try.underlying22 _ _ rfl hown3 _ rfl (by have := HL.out; omega) (Nat.le_trans hbr.size hb3.size) ?_; intro v' w4 hown4 hb4 hb5)))
        go_wp2
        go_roundw
        case rel => exact ⟨k + 1, by omega, by go_num, by rw [tab, HE.out]; exact hown4, (hbr.drew.trans (hb3.mono hbr.size)).trans hb4⟩
        case measure => simp [intOf]; omega
      · obtain rfl : k = n2 := by omega
        go_wp2
        go_ret2
        exact ⟨_, rfl, hown, by rw [tab_length]; exact m1, hbr⟩

theorem LineDues_spec {w : World} {B1 B2 B3 : Nat} {v1 v2 v3 : Value} {xs ys zs : List Int} (h1 : RowI 2 w B1 v1 xs) (h2 : RowI 2 w B2 v2 ys) (h3 : RowI 2 w B3 v3 zs) (r : Int) :
    Calls Try.prog 36 #[v1, v2, v3, .int .i64 r] w (RetL1 2 w (LineDues_r0 xs ys zs r) (LineDues_r1 xs ys zs r)) := by
  obtain ⟨g1, c1, rfl, _, _, _, _, I1, _, m1⟩ := h1.form
  obtain ⟨g2, c2, rfl, _, _, _, _, I2, _, m2⟩ := h2.form
  obtain ⟨g3, c3, rfl, _, _, _, _, I3, _, m3⟩ := h3.form
  exact line_core_spec xs.length g1 c1 _ ys.length g2 c2 _ zs.length g3 c3 _ r w m1 m2 m3 I1 I2 I3
end Go.Proofs.Ytegfajmhblpcoaa
