/-
  impl.ChainDues and spec.ChainDues answer alike: every list of fewer than 1000000000 sales, every rate and way of rounding. No other condition.
-/
import Derived.Test.YtegfajmhblpcoaaWithin
import Derived.Test.YtegfajmhblpcoaaAmountsS
import Derived.Test.YtegfajmhblpcoaaDueI
import Derived.Test.YtegfajmhblpcoaaDueS
namespace Go.Proofs.Ytegfajmhblpcoaa
open Go.RowKit
set_option linter.unusedVariables false

def dueAt (f : Nat → Int) (a r : Int) (k : Nat) : Int := rnd (f k * a) 10000 r
def bef (f : Nat → Int) (a r : Int) : Nat → Int
  | 0 => 0
  | k + 1 => dueAt f a r k
def chainTo (f : Nat → Int) (a r : Int) : Nat → List Int
  | 0 => []
  | k + 1 => chainTo f a r k ++ [dueAt f a r k - bef f a r k]
theorem chainTo_length (f : Nat → Int) (a r : Int) (k : Nat) : (chainTo f a r k).length = k := by
  induction k with
  | zero => rfl
  | succ k ih => simp [chainTo, ih]
def chainOk (f : Nat → Int) (n : Nat) (a r : Int) : Bool := cntB f n 1 16 0 1000000000000 && isRatedB a r
def chainL (f : Nat → Int) (n : Nat) (a r : Int) : List Int := if chainOk f n a r then chainTo f a r n else []
theorem chain_no {f : Nat → Int} {n : Nat} {a r : Int} (h : chainOk f n a r = false) : chainL f n a r = [] := by simp [chainL, h]
theorem chain_yes {f : Nat → Int} {n : Nat} {a r : Int} (h : chainOk f n a r = true) : chainL f n a r = chainTo f a r n := by simp [chainL, h]
def ChainDues_r0 (xs : List Int) (a r : Int) : List Int := chainL (fun i => xs.getD i 0) xs.length a r
def ChainDues_r1 (xs : List Int) (a r : Int) : Bool := chainOk (fun i => xs.getD i 0) xs.length a r
theorem bef_bd {f : Nat → Int} {n : Nat} {a r : Int} (hf : ∀ i, i < n → 0 ≤ f i ∧ f i ≤ 1000000000000) (h2 : 0 ≤ a) (h3 : a ≤ 10000) (k : Nat) (hk : k ≤ n) : 0 ≤ bef f a r k ∧ bef f a r k ≤ 1000000000001 := by
  cases k with
  | zero => simp [bef]
  | succ k =>
    have := hf k (by omega)
    have := due_bd (f k) a r (by omega) h2 h3
    simp only [bef, dueAt]
    omega

set_option maxHeartbeats 800000 in
theorem chain_core_impl (n g c : Nat) (f : Nat → Int) (a r : Int) (w : World) (hn : n < 1000000000) (hI : Ints w g 0 n f) :
    Calls Try.prog 33 #[.slice (some ⟨g, 0, none⟩) n c, .int .i64 a, .int .i64 r] w (RetL1 2 w (chainL f n a r) (chainOk f n a r)) := by
  cases h : chainOk f n a r
  · rw [chain_no h]
    rcases first_no2 h with h1 | ⟨h1, h2⟩
    all_goals
      clear h
      go_enter Try.func33, Try.ntmps33
      go_wp2_with (first | (go_at_call 76; refine (impl_isRated_any _ _ _).mono ?_; rintro e w' ⟨rfl, rfl⟩) | (go_at_call 54; refine (hasCount_any n g 0 c f _ _ _ _ _ hn hI).mono ?_; rintro e w1 ⟨rfl, hb⟩))
      go_ret2
      exact RetL1.no _ hb
  · rw [chain_yes h]
    obtain ⟨h1, h2⟩ := all_yes2 h
    obtain ⟨⟨n1, n2⟩, hf⟩ := cntB_iff.1 h1
    obtain ⟨h3, h4⟩ := all_yes2 (show (isRate a && isRound r) = true from h2)
    obtain ⟨a0, a1⟩ := win_iff.1 h3
    have HF : Hid (∀ i, i < n → 0 ≤ f i ∧ f i ≤ 1000000000000) := hf
    clear h hf h3 h4
    go_enter Try.func33, Try.ntmps33
    go_wp2_with (first | (go_at_call 76; refine (impl_isRated_any _ _ _).mono ?_; rintro e w' ⟨rfl, rfl⟩) | (go_at_call 54; refine (hasCount_any n g 0 c f _ _ _ _ _ hn hI).mono ?_; rintro e w1 ⟨rfl, hb⟩))
    go_loopw [8, 9, 25] (fun v b i wr => ∃ k : Nat, k ≤ n ∧ i = .int .i64 k ∧ b = .int .i64 (bef f a r k) ∧ Own 2 wr w.heap.size v (chainTo f a r k) ∧ Below w.heap.size w wr) (fun _ _ i _ => n - (intOf i).toNat)
    case atStart => exact ⟨0, Nat.zero_le _, rfl, rfl, Own.made _ _ hb.size, hb.alloc hb.size _⟩
    case round =>
      obtain ⟨k, hk, rfl, rfl, hown, hbr⟩ := hrel
      by_cases hlt : k < n
      · have hc := Below.cellOf hbr rfl (hI.at0 k hlt)
        obtain ⟨f0, f1⟩ := HF.out k hlt
        have d := due_bd (f k) a r f0 a0 a1
        have e := bef_bd (r := r) HF.out a0 a1 k hk
        have HL := Lib.hid (chainTo_length f a r k)
        go_wp2_with (first | (go_at_call 77; refine (impl_dueBy' _ _ _ _ (by omega) (by omega) (by omega) (by omega)).mono ?_; rintro e w2 ⟨rfl, hb2⟩; have hown2 := hown.below hb2) | (at_builtin; refine wpList_app1 _ rfl _ _ 22 rfl w.heap.size 2 Try.infoI Try.underlying22 _ _ rfl hown2 _ rfl (by have := HL.out; omega) (Nat.le_trans hbr.size hb2.size) ?_; intro v' w3 hown3 hb3))
        go_roundw
        case rel => exact ⟨k + 1, by omega, by go_num, rfl, hown3, (hbr.trans (hb2.mono hbr.size)).trans hb3⟩
        case measure => simp [intOf]; omega
      · obtain rfl : k = n := by omega
        go_wp2
        go_ret2
        exact ⟨_, rfl, hown, by rw [chainTo_length]; exact hn, hbr⟩

theorem ChainDues_impl {w : World} {B : Nat} {v : Value} {xs : List Int} (hv : RowI 2 w B v xs) (a r : Int) :
    Calls Try.prog 33 #[v, .int .i64 a, .int .i64 r] w (RetL1 2 w (ChainDues_r0 xs a r) (ChainDues_r1 xs a r)) := by
  obtain ⟨g, c, rfl, _, _, _, _, hI, _, hn⟩ := hv.form
  exact chain_core_impl xs.length g c _ a r w hn hI

set_option maxHeartbeats 800000 in
theorem chain_core_spec (n g c : Nat) (f : Nat → Int) (a r : Int) (w : World) (hn : n < 1000000000) (hI : Ints w g 0 n f) :
    Calls Try.prog 32 #[.slice (some ⟨g, 0, none⟩) n c, .int .i64 a, .int .i64 r] w (RetL1 2 w (chainL f n a r) (chainOk f n a r)) := by
  cases h : chainOk f n a r
  · rw [chain_no h]
    rcases first_no2 h with h1 | ⟨h1, h2⟩
    all_goals
      clear h
      go_enter Try.func32, Try.ntmps32
      go_wp2_with (first | (go_at_call 75; refine (spec_l04By_any _ _ _).mono ?_; rintro e w' ⟨rfl, rfl⟩) | (go_at_call 51; refine (l04Amounts_any n g c f _ _ hn hI).mono ?_; rintro e w1 ⟨rfl, hb⟩))
      go_ret2
      exact RetL1.no _ hb
  · rw [chain_yes h]
    obtain ⟨h1, h2⟩ := all_yes2 h
    obtain ⟨⟨n1, n2⟩, hf⟩ := cntB_iff.1 h1
    obtain ⟨h3, h4⟩ := all_yes2 (show (isRate a && isRound r) = true from h2)
    obtain ⟨a0, a1⟩ := win_iff.1 h3
    have HF : Hid (∀ i, i < n → 0 ≤ f i ∧ f i ≤ 1000000000000) := hf
    clear h hf h3 h4
    go_enter Try.func32, Try.ntmps32
    go_wp2_with (first | (go_at_call 75; refine (spec_l04By_any _ _ _).mono ?_; rintro e w' ⟨rfl, rfl⟩) | (go_at_call 51; refine (l04Amounts_any n g c f _ _ hn hI).mono ?_; rintro e w1 ⟨rfl, hb⟩))
    go_loopw [8, 9, 10] (fun v b i wr => ∃ k : Nat, k ≤ n ∧ i = .int .i64 k ∧ b = .int .i64 (bef f a r k) ∧ Own 2 wr w.heap.size v (chainTo f a r k) ∧ Below w.heap.size w wr) (fun _ _ i _ => n - (intOf i).toNat)
    case atStart => exact ⟨0, Nat.zero_le _, rfl, rfl, Own.made _ _ hb.size, hb.alloc hb.size _⟩
    case round =>
      obtain ⟨k, hk, rfl, rfl, hown, hbr⟩ := hrel
      by_cases hlt : k < n
      · have hc := Below.cellOf hbr rfl (hI.at0 k hlt)
        obtain ⟨f0, f1⟩ := HF.out k hlt
        have d := due_bd (f k) a r f0 a0 a1
        have e := bef_bd (r := r) HF.out a0 a1 k hk
        have HL := Lib.hid (chainTo_length f a r k)
        go_wp2_with (first | (go_at_call 67; refine (spec_l04Due' _ _ _ _ (by omega) (by omega) (by omega) (by omega)).mono ?_; rintro e w2 ⟨rfl, hb2⟩; have hown2 := hown.below hb2) | (at_builtin; refine wpList_app1 _ rfl _ _ 22 rfl w.heap.size 2 Try.infoI Try.underlying22 _ _ rfl hown2 _ rfl (by have := HL.out; omega) (Nat.le_trans hbr.size hb2.size) ?_; intro v' w3 hown3 hb3))
        go_roundw
        case rel => exact ⟨k + 1, by omega, by go_num, rfl, hown3, (hbr.trans (hb2.mono hbr.size)).trans hb3⟩
        case measure => simp [intOf]; omega
      · obtain rfl : k = n := by omega
        go_wp2
        go_ret2
        exact ⟨_, rfl, hown, by rw [chainTo_length]; exact hn, hbr⟩

theorem ChainDues_spec {w : World} {B : Nat} {v : Value} {xs : List Int} (hv : RowI 2 w B v xs) (a r : Int) :
    Calls Try.prog 32 #[v, .int .i64 a, .int .i64 r] w (RetL1 2 w (ChainDues_r0 xs a r) (ChainDues_r1 xs a r)) := by
  obtain ⟨g, c, rfl, _, _, _, _, hI, _, hn⟩ := hv.form
  exact chain_core_spec xs.length g c _ a r w hn hI
end Go.Proofs.Ytegfajmhblpcoaa
