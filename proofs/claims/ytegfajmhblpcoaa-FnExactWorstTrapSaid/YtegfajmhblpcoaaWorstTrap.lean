/-
  impl.WorstTrap and spec.WorstTrap answer alike: every list of fewer than 1000000000 nets. No other condition.
-/
import Derived.Test.YtegfajmhblpcoaaNets
namespace Go.Proofs.Ytegfajmhblpcoaa
open Go.RowKit
set_option linter.unusedVariables false

def wStep (f : Nat → Int) (i k : Nat) (s : Nat × Nat) : Nat × Nat := if f (i + k) ≤ f i ∧ s.2 < k then (i, k) else s
def wIn (f : Nat → Int) (i : Nat) (s : Nat × Nat) : Nat → Nat × Nat
  | 0 => s
  | j + 1 => wStep f i (j + 1) (wIn f i s j)
def wOut (f : Nat → Int) (n : Nat) : Nat → Nat × Nat
  | 0 => (0, 0)
  | i + 1 => wIn f i (wOut f n i) (n - 1 - i)
theorem wIn_yes {f : Nat → Int} {i j b m : Nat} {s : Nat × Nat} (h : wIn f i s j = (b, m)) (h1 : f (i + (j + 1)) ≤ f i) (h2 : m < j + 1) : wIn f i s (j + 1) = (i, j + 1) := by
  simp only [wIn, wStep, h]; rw [if_pos ⟨h1, h2⟩]
theorem wIn_no {f : Nat → Int} {i j b m : Nat} {s : Nat × Nat} (h : wIn f i s j = (b, m)) (h1 : ¬ (f (i + (j + 1)) ≤ f i ∧ m < j + 1)) : wIn f i s (j + 1) = (b, m) := by
  simp only [wIn, wStep, h]; rw [if_neg h1]
def wOk (f : Nat → Int) (n : Nat) : Bool := cntB f n 2 65 0 1000000000000 && !((wOut f n n).2 == 0)
def wRes0 (f : Nat → Int) (n : Nat) : Int := if wOk f n then (wOut f n n).1 else 0
def wRes1 (f : Nat → Int) (n : Nat) : Int := if wOk f n then (wOut f n n).2 else 0
theorem worst_no {f : Nat → Int} {n : Nat} (h : cntB f n 2 65 0 1000000000000 = false) : wRes0 f n = 0 ∧ wRes1 f n = 0 ∧ wOk f n = false := by
  have : wOk f n = false := by simp only [wOk, h, Bool.false_and]
  simp [wRes0, wRes1, this]
theorem worst_out {f : Nat → Int} {n b m : Nat} (h : cntB f n 2 65 0 1000000000000 = true) (e : wOut f n n = (b, m)) : (m = 0 → wRes0 f n = 0 ∧ wRes1 f n = 0 ∧ wOk f n = false) ∧ (m ≠ 0 → wRes0 f n = b ∧ wRes1 f n = m ∧ wOk f n = true) := by
  constructor
  · intro hm
    have : wOk f n = false := by simp [wOk, h, e, hm]
    simp [wRes0, wRes1, this]
  · intro hm
    have : wOk f n = true := by simp [wOk, h, e, hm]
    simp [wRes0, wRes1, this, e]
def WorstTrap_r0 (xs : List Int) : Int := wRes0 (fun i => xs.getD i 0) xs.length
def WorstTrap_r1 (xs : List Int) : Int := wRes1 (fun i => xs.getD i 0) xs.length
def WorstTrap_r2 (xs : List Int) : Bool := wOk (fun i => xs.getD i 0) xs.length
theorem ret_iib {k l : IntKind} {a b c d : Int} {t u : Bool} (h : a = c) (h' : b = d) (h'' : t = u) : Ending.returned (.tuple #[.int k a, .int l b, .bool t]) = .returned (.tuple #[.int k c, .int l d, .bool u]) := by rw [h, h', h'']

set_option maxHeartbeats 1600000 in
theorem worst_impl (n g c : Nat) (f : Nat → Int) (w : World) (hn : n < 1000000000) (hI : Ints w g 0 n f) :
    Calls Try.prog 20 #[.slice (some ⟨g, 0, none⟩) n c] w (RetV w (.tuple #[.int .i64 (wRes0 f n), .int .i64 (wRes1 f n), .bool (wOk f n)])) := by
  cases h : cntB f n 2 65 0 1000000000000
  · obtain ⟨e0, e1, e2⟩ := worst_no h
    rw [e0, e1, e2]
    clear e0 e1 e2
    go_enter Try.func20, Try.ntmps20
    go_wp2_with (first | (go_at_call 59; refine (areNets_any n g c f _ hn hI).mono ?_; rintro e w1 ⟨rfl, hb⟩))
    go_ret3
    exact ⟨rfl, hb⟩
  · have HH := Lib.hid h
    go_enter Try.func20, Try.ntmps20
    go_wp2_with (first | (go_at_call 59; refine (areNets_any n g c f _ hn hI).mono ?_; rintro e w1 ⟨rfl, hb⟩))
    have hI1 := hI.below hb
    clear h
    go_loop [5, 6, 15] (fun b m i => ∃ (x y k : Nat), k ≤ n ∧ i = .int .i64 k ∧ b = .int .i64 x ∧ m = .int .i64 y ∧ Hid (wOut f n k = (x, y))) (fun _ _ i => n - (intOf i).toNat)
    case atStart => exact ⟨0, 0, 0, Nat.zero_le _, rfl, rfl, rfl, rfl⟩
    case round =>
      obtain ⟨x, y, k, hk, rfl, rfl, rfl, hw⟩ := hrel
      by_cases hlt : k < n
      · have hc := hI1.at0 k hlt
        go_wp2
        go_loop [5, 6, 9] (fun b m i => ∃ (p q j : Nat), k + (j + 1) ≤ n ∧ i = .int .i64 (j + 1) ∧ b = .int .i64 p ∧ m = .int .i64 q ∧ Hid (wIn f k (x, y) j = (p, q))) (fun _ _ i => n + 1 - (intOf i).toNat)
        case atStart => exact ⟨x, y, 0, by omega, by go_num, rfl, rfl, rfl⟩
        case round =>
          obtain ⟨p, q, j, hj, rfl, rfl, rfl, hin⟩ := hrel
          by_cases hlt2 : k + (j + 1) < n
          · have hd := hI1.at0 (k + (j + 1)) hlt2
            by_cases h1 : f (k + (j + 1)) ≤ f k
            · by_cases h2 : q < j + 1
              · have HX := Lib.hid (wIn_yes hin.out h1 h2)
                have h2' : (q : Int) < (j : Int) + 1 := by omega
                go_wp2
                go_round
                case rel => exact ⟨k, j + 1, j + 1, by omega, by go_num, rfl, by go_num, HX⟩
                case measure => simp [intOf]; omega
              · have HX := Lib.hid (wIn_no hin.out (fun hh => h2 hh.2))
                have h2' : (j : Int) + 1 ≤ q := by omega
                go_wp2
                go_round
                case rel => exact ⟨p, q, j + 1, by omega, by go_num, rfl, rfl, HX⟩
                case measure => simp [intOf]; omega
            · have HX := Lib.hid (wIn_no hin.out (fun hh => h1 hh.1))
              go_wp2
              go_round
              case rel => exact ⟨p, q, j + 1, by omega, by go_num, rfl, rfl, HX⟩
              case measure => simp [intOf]; omega
          · have HX : Hid (wOut f n (k + 1) = (p, q)) := by
              show wIn f k (wOut f n k) (n - 1 - k) = (p, q)
              rw [hw.out, show n - 1 - k = j by omega]; exact hin
            go_wp2
            go_round
            case rel => exact ⟨p, q, k + 1, by omega, by go_num, rfl, rfl, HX⟩
            case measure => simp [intOf]; omega
      · obtain rfl : k = n := by omega
        have HO := Lib.hid (worst_out HH.out hw.out)
        by_cases hy : y = 0
        · have hy' : ((y : Int) == 0) = true := by simp [hy]
          have hy2 : (y == 0) = true := by simp [hy]
          have HY := Lib.hid (HO.out.1 hy)
          clear hy
          go_wp2
          go_ret3
          exact ⟨ret_iib HY.out.1.symm HY.out.2.1.symm HY.out.2.2.symm, hb⟩
        · have hy' : ((y : Int) == 0) = false := by simp; omega
          have hy2 : (y == 0) = false := by simp; omega
          have HY := Lib.hid (HO.out.2 hy)
          go_wp2
          go_ret3
          exact ⟨ret_iib HY.out.1.symm HY.out.2.1.symm HY.out.2.2.symm, hb⟩

set_option maxHeartbeats 1600000 in
theorem worst_spec (n g c : Nat) (f : Nat → Int) (w : World) (hn : n < 1000000000) (hI : Ints w g 0 n f) :
    Calls Try.prog 19 #[.slice (some ⟨g, 0, none⟩) n c] w (RetV w (.tuple #[.int .i64 (wRes0 f n), .int .i64 (wRes1 f n), .bool (wOk f n)])) := by
  cases h : cntB f n 2 65 0 1000000000000
  · obtain ⟨e0, e1, e2⟩ := worst_no h
    rw [e0, e1, e2]
    clear e0 e1 e2
    go_enter Try.func19, Try.ntmps19
    go_wp2_with (first | (go_at_call 58; refine (l04Nets_any n g c f _ hn hI).mono ?_; rintro e w1 ⟨rfl, hb⟩))
    go_ret3
    exact ⟨rfl, hb⟩
  · have HH := Lib.hid h
    go_enter Try.func19, Try.ntmps19
    go_wp2_with (first | (go_at_call 58; refine (l04Nets_any n g c f _ hn hI).mono ?_; rintro e w1 ⟨rfl, hb⟩))
    clear h
    go_loopw [5, 6, 7] (fun b m i wr => ∃ (x y k : Nat), k ≤ n ∧ i = .int .i64 k ∧ b = .int .i64 x ∧ m = .int .i64 y ∧ Hid (wOut f n k = (x, y)) ∧ Below w.heap.size w wr) (fun _ _ i _ => n - (intOf i).toNat)
    case atStart => exact ⟨0, 0, 0, Nat.zero_le _, rfl, rfl, rfl, rfl, hb⟩
    case round =>
      obtain ⟨x, y, k, hk, rfl, rfl, rfl, hw, hbr⟩ := hrel
      by_cases hlt : k < n
      · go_wp2
        obtain ⟨wo, rfl⟩ : ∃ wo : World, wo = wr := ⟨_, rfl⟩
        go_loopw [5, 6, 8] (fun b m i wr => ∃ (p q K : Nat), k + 1 ≤ K ∧ K ≤ n ∧ i = .int .i64 K ∧ b = .int .i64 p ∧ m = .int .i64 q ∧ Hid (wIn f k (x, y) (K - (k + 1)) = (p, q)) ∧ Below w.heap.size w wr) (fun _ _ i _ => n + 1 - (intOf i).toNat)
        case atStart => exact ⟨x, y, k + 1, by omega, by omega, by go_num, rfl, rfl, by rw [Nat.sub_self]; rfl, hbr⟩
        case round =>
          obtain ⟨p, q, K, hK1, hK2, rfl, rfl, rfl, hin, hbi⟩ := hrel
          by_cases hlt2 : K < n
          · have hc := Below.cellOf hbi rfl (hI.at0 k hlt)
            have hd := Below.cellOf hbi rfl (hI.at0 K hlt2)
            have hj : ∃ j, K = k + (j + 1) := ⟨K - (k + 1), by omega⟩
            obtain ⟨j, hj⟩ := hj
            have hin' : wIn f k (x, y) j = (p, q) := by have := hin.out; rwa [show K - (k + 1) = j by omega] at this
            have ej : K + 1 - (k + 1) = j + 1 := by omega
            have e1 : IntKind.i64.wrap ((K : Int) - k) = K - k := IntWalk.i64_in _ (by omega)
            by_cases h1 : f K ≤ f k
            · by_cases h2 : (q : Int) < K - k
              · have HX : Hid (wIn f k (x, y) (K + 1 - (k + 1)) = (k, K - k)) := by
                  rw [ej, show K - k = j + 1 by omega]; exact wIn_yes hin' (by rw [← hj]; exact h1) (by omega)
                clear hj ej hin'
                go_wp2_with fail
                go_quiet (fail)
                clear e1
                go_wp2
                go_roundw
                case rel => exact ⟨k, K - k, K + 1, by omega, by omega, by go_num, rfl, by go_num, HX, Below.drewN' hbi _⟩
                case measure => simp [intOf]; omega
              · have HX : Hid (wIn f k (x, y) (K + 1 - (k + 1)) = (p, q)) := by
                  rw [ej]; exact wIn_no hin' (fun hh => h2 (by omega))
                clear hj ej hin'
                have h3 : (K : Int) - k ≤ q := by omega
                go_wp2_with fail
                go_quiet (fail)
                clear e1
                go_wp2
                go_roundw
                case rel => exact ⟨p, q, K + 1, by omega, by omega, by go_num, rfl, rfl, HX, Below.drewN' hbi _⟩
                case measure => simp [intOf]; omega
            · have HX : Hid (wIn f k (x, y) (K + 1 - (k + 1)) = (p, q)) := by
                rw [ej]; exact wIn_no hin' (fun hh => h1 (by rw [hj]; exact hh.1))
              have hdd : decide (f K ≤ f k) = false := by simpa using h1
              clear hj ej hin'
              go_wp2_with fail
              go_quiet (fail)
              clear e1
              go_wp2
              go_roundw
              case rel => exact ⟨p, q, K + 1, by omega, by omega, by go_num, rfl, rfl, HX, Below.drewN' hbi _⟩
              case measure => simp [intOf]; omega
          · have HX : Hid (wOut f n (k + 1) = (p, q)) := by
              show wIn f k (wOut f n k) (n - 1 - k) = (p, q)
              rw [hw.out]
              have := hin.out
              rwa [show K - (k + 1) = n - 1 - k by omega] at this
            go_wp2
            go_roundw
            case rel => exact ⟨p, q, k + 1, by omega, by go_num, rfl, rfl, HX, hbi⟩
            case measure => simp [intOf]; omega
      · obtain rfl : k = n := by omega
        have HO := Lib.hid (worst_out HH.out hw.out)
        by_cases hy : y = 0
        · have hy' : ((y : Int) == 0) = true := by simp [hy]
          have hy2 : (y == 0) = true := by simp [hy]
          have HY := Lib.hid (HO.out.1 hy)
          clear hy
          go_wp2
          go_ret3
          exact ⟨ret_iib HY.out.1.symm HY.out.2.1.symm HY.out.2.2.symm, hbr⟩
        · have hy' : ((y : Int) == 0) = false := by simp; omega
          have hy2 : (y == 0) = false := by simp; omega
          have HY := Lib.hid (HO.out.2 hy)
          go_wp2
          go_ret3
          exact ⟨ret_iib HY.out.1.symm HY.out.2.1.symm HY.out.2.2.symm, hbr⟩

theorem WorstTrap_impl {w : World} {B : Nat} {v : Value} {xs : List Int} (hv : RowI 2 w B v xs) :
    Calls Try.prog 20 #[v] w (RetV w (.tuple #[.int .i64 (WorstTrap_r0 xs), .int .i64 (WorstTrap_r1 xs), .bool (WorstTrap_r2 xs)])) := by
  obtain ⟨g, c, rfl, _, _, _, _, hI, _, hn⟩ := hv.form
  exact worst_impl xs.length g c _ w hn hI

theorem WorstTrap_spec {w : World} {B : Nat} {v : Value} {xs : List Int} (hv : RowI 2 w B v xs) :
    Calls Try.prog 19 #[v] w (RetV w (.tuple #[.int .i64 (WorstTrap_r0 xs), .int .i64 (WorstTrap_r1 xs), .bool (WorstTrap_r2 xs)])) := by
  obtain ⟨g, c, rfl, _, _, _, _, hI, _, hn⟩ := hv.form
  exact worst_spec xs.length g c _ w hn hI
end Go.Proofs.Ytegfajmhblpcoaa
