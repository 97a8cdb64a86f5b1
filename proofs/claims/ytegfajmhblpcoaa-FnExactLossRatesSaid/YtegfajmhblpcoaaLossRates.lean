/-
  impl.LossRates and spec.LossRates answer alike: every list of fewer than 1000000000 nets, every step. No other condition.
-/
import Derived.Test.YtegfajmhblpcoaaWithin
import Derived.Test.YtegfajmhblpcoaaAmountsS
import Derived.Test.YtegfajmhblpcoaaRoundI
import Derived.Test.YtegfajmhblpcoaaFloor
import Derived.Test.YtegfajmhblpcoaaRegApp
namespace Go.Proofs.Ytegfajmhblpcoaa
open Go.RowKit
set_option linter.unusedVariables false

theorem lowered_any (x n : Int) (w : World) (h0 : -20000000000000000 ≤ x) (h1 : x ≤ 20000000000000000) (h2 : 1 ≤ n) (h3 : n ≤ 1000000) :
    Calls Try.prog 71 #[.int .i64 x, .int .i64 n] w (RetV w (.int .i64 (x / n))) := by
  have fb := flo_bd x n h0 h1 h2
  by_cases hx : x < 0
  · have HE := Lib.hid (flo_neg x n hx h2)
    have k1 := rnd_bd (-x) n 3 (by omega) h2
    have k2 : (-x) / n ≤ -x := Int.ediv_le_self _ (by omega)
    go_enter Try.func71, Try.ntmps71
    go_wp2_with (first | (go_at_call 91; refine (impl_rounded _ _ _ _ (by omega) (by omega) (by omega) (by omega)).mono ?_; rintro e w' ⟨rfl, m, rfl⟩))
    go_ret
    exact ⟨ret_int HE.out, Below.drewN' (Below.refl _ _) _⟩
  · go_enter Try.func71, Try.ntmps71
    go_wp2
    go_ret
    exact ⟨rfl, Below.refl _ _⟩

def lossAt (f : Nat → Int) (s : Int) (i : Nat) : Int := ((s - (f (i + 1) - f i)) * 10000) / s
def lossTo (f : Nat → Int) (s : Int) : Nat → List Int
  | 0 => []
  | k + 1 => lossTo f s k ++ [lossAt f s k]
theorem lossTo_length (f : Nat → Int) (s : Int) (k : Nat) : (lossTo f s k).length = k := by
  induction k with
  | zero => rfl
  | succ k ih => simp [lossTo, ih]
def lossOk (f : Nat → Int) (n : Nat) (s : Int) : Bool := cntB f n 2 65 0 1000000000000 && win s 1 1000000
def lossL (f : Nat → Int) (n : Nat) (s : Int) : List Int := if lossOk f n s then lossTo f s (n - 1) else []
theorem loss_no {f : Nat → Int} {n : Nat} {s : Int} (h : lossOk f n s = false) : lossL f n s = [] := by simp [lossL, h]
theorem loss_yes {f : Nat → Int} {n : Nat} {s : Int} (h : lossOk f n s = true) : lossL f n s = lossTo f s (n - 1) := by simp [lossL, h]
def LossRates_r0 (xs : List Int) (s : Int) : List Int := lossL (fun i => xs.getD i 0) xs.length s
def LossRates_r1 (xs : List Int) (s : Int) : Bool := lossOk (fun i => xs.getD i 0) xs.length s

theorem areNets_any (n g c : Nat) (f : Nat → Int) (w : World) (hn : n < 1000000000) (hI : Ints w g 0 n f) :
    Calls Try.prog 59 #[.slice (some ⟨g, 0, none⟩) n c] w (RetV w (.bool (cntB f n 2 65 0 1000000000000))) := by
  go_enter Try.func59, Try.ntmps59
  go_wp2_with (go_at_call 54; refine (hasCount_any n g 0 c f _ _ _ _ _ hn hI).mono ?_; rintro e w1 ⟨rfl, hb⟩)
  go_ret
  exact ⟨rfl, hb⟩
theorem cnt2 {f : Nat → Int} {n : Nat} : cntB f n 2 65 0 1000000000000 = (cntB f n 1 65 0 1000000000000 && decide (2 ≤ (n : Int))) := by
  rw [Bool.eq_iff_iff]; simp only [Bool.and_eq_true, cntB_iff, decide_eq_true_eq]
  constructor
  · rintro ⟨⟨a, b⟩, c⟩; exact ⟨⟨⟨by omega, b⟩, c⟩, a⟩
  · rintro ⟨⟨⟨a, b⟩, c⟩, d⟩; exact ⟨⟨d, b⟩, c⟩
theorem l04Nets_any (n g c : Nat) (f : Nat → Int) (w : World) (hn : n < 1000000000) (hI : Ints w g 0 n f) :
    Calls Try.prog 58 #[.slice (some ⟨g, 0, none⟩) n c] w (RetV w (.bool (cntB f n 2 65 0 1000000000000))) := by
  cases h : cntB f n 1 65 0 1000000000000
  all_goals
    have HC : Hid (cntB f n 2 65 0 1000000000000 = (cntB f n 1 65 0 1000000000000 && decide (2 ≤ (n : Int)))) := cnt2
    have HH := Lib.hid h
    go_enter Try.func58, Try.ntmps58
    go_wp2_with (go_at_call 51; refine (l04Amounts_any n g c f _ _ hn hI).mono ?_; rintro e w1 ⟨rfl, hb⟩)
    go_ret
    exact ⟨ret_bool (by rw [HC.out, HH.out]; simp), hb⟩

set_option maxHeartbeats 1600000 in
theorem loss_core_impl (n g c : Nat) (f : Nat → Int) (s : Int) (w : World) (hn : n < 1000000000) (hI : Ints w g 0 n f) :
    Calls Try.prog 27 #[.slice (some ⟨g, 0, none⟩) n c, .int .i64 s] w (RetL1 2 w (lossL f n s) (lossOk f n s)) := by
  cases h : lossOk f n s
  · rw [loss_no h]
    rcases first_no2 h with h1 | ⟨h1, h2⟩
    all_goals
      clear h
      go_enter Try.func27, Try.ntmps27
      go_wp2_with (first | (go_at_call 55; refine (impl_within_any _ _ _ _).mono ?_; rintro e w' ⟨rfl, rfl⟩) | (go_at_call 59; refine (areNets_any n g c f _ hn hI).mono ?_; rintro e w1 ⟨rfl, hb⟩))
      go_ret2
      exact RetL1.no _ hb
  · rw [loss_yes h]
    obtain ⟨h1, h2⟩ := all_yes2 h
    obtain ⟨⟨n1, n2⟩, hf⟩ := cntB_iff.1 h1
    obtain ⟨s0, s1⟩ := win_iff.1 h2
    have HF : Hid (∀ i, i < n → 0 ≤ f i ∧ f i ≤ 1000000000000) := hf
    clear h hf
    obtain ⟨m, rfl⟩ : ∃ m, n = m + 1 := ⟨n - 1, by omega⟩
    rw [Nat.add_sub_cancel]
    go_enter Try.func27, Try.ntmps27
    go_wp2_with (first | (go_at_call 55; refine (impl_within_any _ _ _ _).mono ?_; rintro e w' ⟨rfl, rfl⟩) | (go_at_call 59; refine (areNets_any (m + 1) g c f _ hn hI).mono ?_; rintro e w1 ⟨rfl, hb⟩))
    go_loopw [6, 7] (fun v i wr => ∃ k : Nat, k ≤ m ∧ i = .int .i64 (k + 1) ∧ Own 2 wr w.heap.size v (lossTo f s k) ∧ Below w.heap.size w wr) (fun _ i _ => m + 2 - (intOf i).toNat)
    case atStart => exact ⟨0, Nat.zero_le _, by go_num, Own.made _ _ hb.size, hb.alloc hb.size _⟩
    case round =>
      obtain ⟨k, hk, rfl, hown, hbr⟩ := hrel
      by_cases hlt : k < m
      · have c1 := Below.cellOf hbr rfl (hI.at0 (k + 1) (by omega))
        have c2 := Below.cellOf hbr rfl (hI.at0 k (by omega))
        obtain ⟨f0, f1⟩ := HF.out k (by omega)
        obtain ⟨g0, g1⟩ := HF.out (k + 1) (by omega)
        have HL := Lib.hid (lossTo_length f s k)
        have hgB : g < w.heap.size := World.block_lt_of_cell? w _ (hI.at0 0 (by omega))
        have e0 : (0 : Int) ≤ k + 1 := by omega
        have e1 : IntKind.i64.wrap (f (k + 1) - f k) = f (k + 1) - f k := IntWalk.i64_in _ (by omega)
        have e2 : IntKind.i64.wrap (s - (f (k + 1) - f k)) = s - (f (k + 1) - f k) := IntWalk.i64_in _ (by omega)
        have e3 : IntKind.i64.wrap ((s - (f (k + 1) - f k)) * 10000) = (s - (f (k + 1) - f k)) * 10000 := IntWalk.i64_in _ (by omega)
        have e4 : IntKind.i64.wrap (k : Int) = k := IntWalk.i64_in _ (by omega)
        have e5 : ((k : Int) + 1).toNat = k + 1 := by omega
        have e6 : (k : Int) < (m : Int) + 1 := by omega
        have e7 : k < m + 1 := by omega
        go_wp2_with fail
        go_region_held3 (fun w' => w'.cell? ⟨g, k + 1, none⟩ = some (.int .i64 (f (k + 1))) ∧ w'.cell? ⟨g, k, none⟩ = some (.int .i64 (f k)))
          (first | go_keep | (go_split_ands; refine ⟨?_, ?_⟩ <;> (apply Below.cellOf (by assumption) rfl; assumption)) | (go_split_ands; refine ⟨?_, ?_⟩ <;> (refine (hb5.cell hgB).trans ?_; assumption)))
          ((first | (go_at_call 71; refine (lowered_any _ _ _ (by omega) (by omega) (by omega) (by omega)).mono ?_; rintro e w3 ⟨rfl, hb3⟩; have hown3 := (Own.below hown (Below.drew (Below.refl _ wr))).below hb3) | (refine step_app1 _ rfl _ _ 22 rfl w.heap.size 2 Try.infoI Try.underlying22 _ _ rfl hown3 _ rfl (by have := HL.out; omega) (Nat.le_trans hbr.size hb3.size) ?_; intro v' w4 hown4 hb4 hb5)))
        clear e1 e2 e3 e4 e5
        go_wp2
        go_roundw
        case rel => exact ⟨k + 1, by omega, by go_num, hown4, (hbr.drew.trans (hb3.mono hbr.size)).trans hb4⟩
        case measure => simp [intOf]; omega
      · obtain rfl : k = m := by omega
        go_wp2
        go_ret2
        exact ⟨_, rfl, hown, by rw [lossTo_length]; omega, hbr⟩

theorem LossRates_impl {w : World} {B : Nat} {v : Value} {xs : List Int} (hv : RowI 2 w B v xs) (s : Int) :
    Calls Try.prog 27 #[v, .int .i64 s] w (RetL1 2 w (LossRates_r0 xs s) (LossRates_r1 xs s)) := by
  obtain ⟨g, c, rfl, _, _, _, _, hI, _, hn⟩ := hv.form
  exact loss_core_impl xs.length g c _ s w hn hI

set_option maxHeartbeats 1600000 in
theorem loss_core_spec (n g c : Nat) (f : Nat → Int) (s : Int) (w : World) (hn : n < 1000000000) (hI : Ints w g 0 n f) :
    Calls Try.prog 26 #[.slice (some ⟨g, 0, none⟩) n c, .int .i64 s] w (RetL1 2 w (lossL f n s) (lossOk f n s)) := by
  cases h : lossOk f n s
  · rw [loss_no h]
    rcases first_no2 h with h1 | ⟨h1, h2⟩
    all_goals
      clear h
      go_enter Try.func26, Try.ntmps26
      go_wp2_with (first | (go_at_call 52; refine (spec_l00In_any _ _ _ _).mono ?_; rintro e w' ⟨rfl, rfl⟩) | (go_at_call 58; refine (l04Nets_any n g c f _ hn hI).mono ?_; rintro e w1 ⟨rfl, hb⟩))
      go_ret2
      exact RetL1.no _ hb
  · rw [loss_yes h]
    obtain ⟨h1, h2⟩ := all_yes2 h
    obtain ⟨⟨n1, n2⟩, hf⟩ := cntB_iff.1 h1
    obtain ⟨s0, s1⟩ := win_iff.1 h2
    have HF : Hid (∀ i, i < n → 0 ≤ f i ∧ f i ≤ 1000000000000) := hf
    clear h hf
    obtain ⟨m, rfl⟩ : ∃ m, n = m + 1 := ⟨n - 1, by omega⟩
    rw [Nat.add_sub_cancel]
    go_enter Try.func26, Try.ntmps26
    go_wp2_with (first | (go_at_call 52; refine (spec_l00In_any _ _ _ _).mono ?_; rintro e w' ⟨rfl, rfl⟩) | (go_at_call 58; refine (l04Nets_any (m + 1) g c f _ hn hI).mono ?_; rintro e w1 ⟨rfl, hb⟩))
    go_loopw [6, 7] (fun v i wr => ∃ k : Nat, k ≤ m ∧ i = .int .i64 (k + 1) ∧ Own 2 wr w.heap.size v (lossTo f s k) ∧ Below w.heap.size w wr) (fun _ i _ => m + 2 - (intOf i).toNat)
    case atStart => exact ⟨0, Nat.zero_le _, by go_num, Own.made _ _ hb.size, hb.alloc hb.size _⟩
    case round =>
      obtain ⟨k, hk, rfl, hown, hbr⟩ := hrel
      by_cases hlt : k < m
      · have c1 := Below.cellOf hbr rfl (hI.at0 (k + 1) (by omega))
        have c2 := Below.cellOf hbr rfl (hI.at0 k (by omega))
        obtain ⟨f0, f1⟩ := HF.out k (by omega)
        obtain ⟨g0, g1⟩ := HF.out (k + 1) (by omega)
        have HL := Lib.hid (lossTo_length f s k)
        obtain ⟨X, hX⟩ : ∃ X, (s - (f (k + 1) - f k)) * 10000 = X := ⟨_, rfl⟩
        have x0 : -20000000000000000 ≤ X := by omega
        have x1 : X ≤ 20000000000000000 := by omega
        obtain ⟨t0, t1, t2, t3⟩ := by_hand X s s0
        have q := flo_bd X s x0 x1 s0
        have m0 := Int.emod_nonneg X (show s ≠ 0 by omega)
        have m1 := Int.emod_lt_of_pos X (show 0 < s by omega)
        have HE : Hid (lossAt f s k = X / s) := by show lossAt f s k = X / s; rw [← hX]; rfl
        obtain ⟨T, hT⟩ : ∃ T, X.tmod s = T := ⟨_, rfl⟩
        obtain ⟨M, hM⟩ : ∃ M, X % s = M := ⟨_, rfl⟩
        obtain ⟨Q, hQ⟩ : ∃ Q, X / s = Q := ⟨_, rfl⟩
        rw [hT] at t0 t1 t2
        rw [hM] at t2 t3 m0 m1
        rw [hQ] at t3 q HE
        clear hM hQ
        go_wp2_with fail
        go_quiet (fail)
        have hown2 := hown.below (Below.drewN' (Below.refl wr.heap.size wr) nq)
        go_wp2_with (first | (at_builtin; refine wpList_app1 _ rfl _ _ 22 rfl w.heap.size 2 Try.infoI Try.underlying22 _ _ rfl hown2 _ rfl (by have := HL.out; omega) hbr.size ?_; intro v' w4 hown4 hb4))
        go_roundw
        case rel => exact ⟨k + 1, by omega, by go_num, by rw [show lossTo f s (k + 1) = lossTo f s k ++ [lossAt f s k] from rfl, HE.out]; exact hown4, (Below.drewN' hbr _).trans hb4⟩
        case measure => simp [intOf]; omega
      · obtain rfl : k = m := by omega
        go_wp2
        go_ret2
        exact ⟨_, rfl, hown, by rw [lossTo_length]; omega, hbr⟩

theorem LossRates_spec {w : World} {B : Nat} {v : Value} {xs : List Int} (hv : RowI 2 w B v xs) (s : Int) :
    Calls Try.prog 26 #[v, .int .i64 s] w (RetL1 2 w (LossRates_r0 xs s) (LossRates_r1 xs s)) := by
  obtain ⟨g, c, rfl, _, _, _, _, hI, _, hn⟩ := hv.form
  exact loss_core_spec xs.length g c _ s w hn hI
end Go.Proofs.Ytegfajmhblpcoaa
