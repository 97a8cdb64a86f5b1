/-
  impl.CascadePrices and spec.CascadePrices answer alike: every list of fewer than 1000000000 values, every rate and way of rounding. No other condition.
-/
import Derived.Test.YtegfajmhblpcoaaWithin
import Derived.Test.YtegfajmhblpcoaaAmountsS
import Derived.Test.YtegfajmhblpcoaaDueI
import Derived.Test.YtegfajmhblpcoaaDueS
namespace Go.Proofs.Ytegfajmhblpcoaa
open Go.RowKit
set_option linter.unusedVariables false

def priceTo (f : Nat → Int) (a r : Int) : Nat → Int
  | 0 => 0
  | k + 1 => (priceTo f a r k + f k) + rnd ((priceTo f a r k + f k) * a) 10000 r
def priceOk (f : Nat → Int) (a r : Int) : Nat → Bool
  | 0 => true
  | k + 1 => priceOk f a r k && isAmount (priceTo f a r (k + 1))
def pricesTo (f : Nat → Int) (a r : Int) : Nat → List Int
  | 0 => []
  | k + 1 => pricesTo f a r k ++ [priceTo f a r (k + 1)]
theorem pricesTo_length (f : Nat → Int) (a r : Int) (k : Nat) : (pricesTo f a r k).length = k := by
  induction k with
  | zero => rfl
  | succ k ih => simp [pricesTo, ih]
theorem priceOk_false {f : Nat → Int} {a r : Int} {k : Nat} (h : priceOk f a r k = false) : ∀ n, k ≤ n → priceOk f a r n = false := by
  intro n hn
  induction n with
  | zero => obtain rfl : k = 0 := by omega
            exact h
  | succ n ih =>
    rcases Nat.lt_or_ge n k with h' | h'
    · obtain rfl : k = n + 1 := by omega
      exact h
    · simp only [priceOk, ih h', Bool.false_and]
theorem priceOk_bd {f : Nat → Int} {a r : Int} (k : Nat) (h : priceOk f a r k = true) : 0 ≤ priceTo f a r k ∧ priceTo f a r k ≤ 1000000000000 := by
  cases k with
  | zero => simp [priceTo]
  | succ k => simp only [priceOk, Bool.and_eq_true] at h; exact win_iff.1 h.2
def cascOk (f : Nat → Int) (n : Nat) (a r : Int) : Bool := cntB f n 1 16 0 1000000000000 && isRatedB a r && priceOk f a r n
def cascL (f : Nat → Int) (n : Nat) (a r : Int) : List Int := if cascOk f n a r then pricesTo f a r n else []
theorem casc_no {f : Nat → Int} {n : Nat} {a r : Int} (h : cascOk f n a r = false) : cascL f n a r = [] := by simp [cascL, h]
theorem casc_yes {f : Nat → Int} {n : Nat} {a r : Int} (h : cascOk f n a r = true) : cascL f n a r = pricesTo f a r n := by simp [cascL, h]
theorem casc_bad {f : Nat → Int} {n : Nat} {a r : Int} (k : Nat) (hk : k < n) (h : isAmount (priceTo f a r (k + 1)) = false) : cascL f n a r = [] ∧ cascOk f n a r = false := by
  have h1 : priceOk f a r (k + 1) = false := by simp only [priceOk, h, Bool.and_false]
  have h2 : cascOk f n a r = false := by simp only [cascOk, priceOk_false h1 n hk, Bool.and_false]
  exact ⟨casc_no h2, h2⟩
def CascadePrices_r0 (xs : List Int) (a r : Int) : List Int := cascL (fun i => xs.getD i 0) xs.length a r
def CascadePrices_r1 (xs : List Int) (a r : Int) : Bool := cascOk (fun i => xs.getD i 0) xs.length a r
/-- What the round at k comes to. -/
theorem casc_round {f : Nat → Int} {n : Nat} {a r : Int} (HF : ∀ i, i < n → 0 ≤ f i ∧ f i ≤ 1000000000000) (h2 : 0 ≤ a) (h3 : a ≤ 10000) (k : Nat) (hk : k < n) (h : priceOk f a r k = true) :
    0 ≤ priceTo f a r k + f k ∧ priceTo f a r k + f k ≤ 2000000000000 ∧ 0 ≤ rnd ((priceTo f a r k + f k) * a) 10000 r ∧ rnd ((priceTo f a r k + f k) * a) 10000 r ≤ 2000000000001 := by
  have := priceOk_bd k h
  have := HF k hk
  have := due_bd (priceTo f a r k + f k) a r (by omega) h2 h3
  omega

set_option maxHeartbeats 1600000 in
theorem casc_core_impl (n g c : Nat) (f : Nat → Int) (a r : Int) (w : World) (hn : n < 1000000000) (hI : Ints w g 0 n f) :
    Calls Try.prog 35 #[.slice (some ⟨g, 0, none⟩) n c, .int .i64 a, .int .i64 r] w (RetL1 2 w (cascL f n a r) (cascOk f n a r)) := by
  cases h : (cntB f n 1 16 0 1000000000000 && isRatedB a r)
  · have h0 : cascOk f n a r = false := by simp only [cascOk, h, Bool.false_and]
    rw [casc_no h0, h0]
    rcases first_no2 h with h1 | ⟨h1, h2⟩
    all_goals
      clear h h0
      go_enter Try.func35, Try.ntmps35
      go_wp2_with (first | (go_at_call 76; refine (impl_isRated_any _ _ _).mono ?_; rintro e w' ⟨rfl, rfl⟩) | (go_at_call 54; refine (hasCount_any n g 0 c f _ _ _ _ _ hn hI).mono ?_; rintro e w1 ⟨rfl, hb⟩))
      go_ret2
      exact RetL1.no _ hb
  · obtain ⟨h1, h2⟩ := all_yes2 h
    obtain ⟨⟨n1, n2⟩, hf⟩ := cntB_iff.1 h1
    obtain ⟨h3, h4⟩ := all_yes2 (show (isRate a && isRound r) = true from h2)
    obtain ⟨a0, a1⟩ := win_iff.1 h3
    have HF : Hid (∀ i, i < n → 0 ≤ f i ∧ f i ≤ 1000000000000) := hf
    have HH := Lib.hid h
    clear h hf h3 h4
    go_enter Try.func35, Try.ntmps35
    go_wp2_with (first | (go_at_call 76; refine (impl_isRated_any _ _ _).mono ?_; rintro e w' ⟨rfl, rfl⟩) | (go_at_call 54; refine (hasCount_any n g 0 c f _ _ _ _ _ hn hI).mono ?_; rintro e w1 ⟨rfl, hb⟩))
    go_loopw [9, 8, 24] (fun p v i wr => ∃ k : Nat, k ≤ n ∧ i = .int .i64 k ∧ p = .int .i64 (priceTo f a r k) ∧ Hid (priceOk f a r k = true) ∧ Own 2 wr w.heap.size v (pricesTo f a r k) ∧ Below w.heap.size w wr) (fun _ _ i _ => n - (intOf i).toNat)
    case atStart => exact ⟨0, Nat.zero_le _, rfl, rfl, rfl, Own.made _ _ hb.size, hb.alloc hb.size _⟩
    case round =>
      obtain ⟨k, hk, rfl, rfl, hok, hown, hbr⟩ := hrel
      by_cases hlt : k < n
      · have hc := Below.cellOf hbr rfl (hI.at0 k hlt)
        obtain ⟨s0, s1, d0, d1⟩ := casc_round HF.out a0 a1 k hlt hok.out
        have HE : Hid (priceTo f a r (k + 1) = (priceTo f a r k + f k) + rnd ((priceTo f a r k + f k) * a) 10000 r) := rfl
        have HL := Lib.hid (pricesTo_length f a r k)
        cases hx : isAmount (priceTo f a r (k + 1))
        · have HB := Lib.hid (casc_bad k hlt hx)
          have hx' : isAmount (priceTo f a r k + f k + rnd ((priceTo f a r k + f k) * a) 10000 r) = false := hx
          clear hx
          cases hx2 : isAmount (priceTo f a r k + f k)
          · go_wp2_with (first | (go_at_call 62; refine (impl_isAmount_any _ _).mono ?_; rintro e w' ⟨rfl, rfl⟩))
            go_ret2
            rw [HB.out.1, HB.out.2]
            exact RetL1.no _ hbr
          · go_wp2_with (first | (go_at_call 62; refine (impl_isAmount_any _ _).mono ?_; rintro e w' ⟨rfl, rfl⟩) | (go_at_call 77; refine (impl_dueBy' _ _ _ _ (by omega) (by omega) (by omega) (by omega)).mono ?_; rintro e w2 ⟨rfl, hb2⟩))
            go_ret2
            rw [HB.out.1, HB.out.2]
            exact RetL1.no _ (hbr.trans (hb2.mono hbr.size))
        · have HO : Hid (priceOk f a r (k + 1) = true) := by show (priceOk f a r k && isAmount (priceTo f a r (k + 1))) = true; rw [hok.out, hx]; rfl
          have hx' : isAmount (priceTo f a r k + f k + rnd ((priceTo f a r k + f k) * a) 10000 r) = true := hx
          have hx2 : isAmount (priceTo f a r k + f k) = true := by rw [win_iff] at hx' ⊢; omega
          clear hx
          go_wp2_with (first | (go_at_call 62; refine (impl_isAmount_any _ _).mono ?_; rintro e w' ⟨rfl, rfl⟩) | (go_at_call 77; refine (impl_dueBy' _ _ _ _ (by omega) (by omega) (by omega) (by omega)).mono ?_; rintro e w2 ⟨rfl, hb2⟩; have hown2 := hown.below hb2) | (at_builtin; refine wpList_app1 _ rfl _ _ 22 rfl w.heap.size 2 Try.infoI Try.underlying22 _ _ rfl hown2 _ rfl (by have := HL.out; omega) (Nat.le_trans hbr.size hb2.size) ?_; intro v' w3 hown3 hb3))
          go_roundw
          case rel => exact ⟨k + 1, by omega, by go_num, rfl, HO, hown3, (hbr.trans (hb2.mono hbr.size)).trans hb3⟩
          case measure => simp [intOf]; omega
      · obtain rfl : k = n := by omega
        have h0 : cascOk f k a r = true := by simp only [cascOk, HH.out, hok.out, Bool.true_and]
        have H0 := Lib.hid h0
        clear h0
        go_wp2
        go_ret2
        rw [H0.out, casc_yes H0.out]
        exact ⟨_, rfl, hown, by rw [pricesTo_length]; exact hn, hbr⟩

theorem CascadePrices_impl {w : World} {B : Nat} {v : Value} {xs : List Int} (hv : RowI 2 w B v xs) (a r : Int) :
    Calls Try.prog 35 #[v, .int .i64 a, .int .i64 r] w (RetL1 2 w (CascadePrices_r0 xs a r) (CascadePrices_r1 xs a r)) := by
  obtain ⟨g, c, rfl, _, _, _, _, hI, _, hn⟩ := hv.form
  exact casc_core_impl xs.length g c _ a r w hn hI

set_option maxHeartbeats 1600000 in
theorem casc_core_spec (n g c : Nat) (f : Nat → Int) (a r : Int) (w : World) (hn : n < 1000000000) (hI : Ints w g 0 n f) :
    Calls Try.prog 34 #[.slice (some ⟨g, 0, none⟩) n c, .int .i64 a, .int .i64 r] w (RetL1 2 w (cascL f n a r) (cascOk f n a r)) := by
  cases h : (cntB f n 1 16 0 1000000000000 && isRatedB a r)
  · have h0 : cascOk f n a r = false := by simp only [cascOk, h, Bool.false_and]
    rw [casc_no h0, h0]
    rcases first_no2 h with h1 | ⟨h1, h2⟩
    all_goals
      clear h h0
      go_enter Try.func34, Try.ntmps34
      go_wp2_with (first | (go_at_call 75; refine (spec_l04By_any _ _ _).mono ?_; rintro e w' ⟨rfl, rfl⟩) | (go_at_call 51; refine (l04Amounts_any n g c f _ _ hn hI).mono ?_; rintro e w1 ⟨rfl, hb⟩))
      go_ret2
      exact RetL1.no _ hb
  · obtain ⟨h1, h2⟩ := all_yes2 h
    obtain ⟨⟨n1, n2⟩, hf⟩ := cntB_iff.1 h1
    obtain ⟨h3, h4⟩ := all_yes2 (show (isRate a && isRound r) = true from h2)
    obtain ⟨a0, a1⟩ := win_iff.1 h3
    have HF : Hid (∀ i, i < n → 0 ≤ f i ∧ f i ≤ 1000000000000) := hf
    have HH := Lib.hid h
    clear h hf h3 h4
    go_enter Try.func34, Try.ntmps34
    go_wp2_with (first | (go_at_call 75; refine (spec_l04By_any _ _ _).mono ?_; rintro e w' ⟨rfl, rfl⟩) | (go_at_call 51; refine (l04Amounts_any n g c f _ _ hn hI).mono ?_; rintro e w1 ⟨rfl, hb⟩))
    go_loopw [9, 8, 10] (fun p v i wr => ∃ k : Nat, k ≤ n ∧ i = .int .i64 k ∧ p = .int .i64 (priceTo f a r k) ∧ Hid (priceOk f a r k = true) ∧ Own 2 wr w.heap.size v (pricesTo f a r k) ∧ Below w.heap.size w wr) (fun _ _ i _ => n - (intOf i).toNat)
    case atStart => exact ⟨0, Nat.zero_le _, rfl, rfl, rfl, Own.made _ _ hb.size, hb.alloc hb.size _⟩
    case round =>
      obtain ⟨k, hk, rfl, rfl, hok, hown, hbr⟩ := hrel
      by_cases hlt : k < n
      · have hc := Below.cellOf hbr rfl (hI.at0 k hlt)
        obtain ⟨s0, s1, d0, d1⟩ := casc_round HF.out a0 a1 k hlt hok.out
        have HE : Hid (priceTo f a r (k + 1) = (priceTo f a r k + f k) + rnd ((priceTo f a r k + f k) * a) 10000 r) := rfl
        have HL := Lib.hid (pricesTo_length f a r k)
        cases hx : isAmount (priceTo f a r (k + 1))
        · have HB := Lib.hid (casc_bad k hlt hx)
          have hx' : isAmount (priceTo f a r k + f k + rnd ((priceTo f a r k + f k) * a) 10000 r) = false := hx
          clear hx
          go_wp2_with (first | (go_at_call 53; refine (spec_l02Cents_any _ _).mono ?_; rintro e w' ⟨rfl, rfl⟩) | (go_at_call 67; refine (spec_l04Due' _ _ _ _ (by omega) (by omega) (by omega) (by omega)).mono ?_; rintro e w2 ⟨rfl, hb2⟩))
          go_ret2
          rw [HB.out.1, HB.out.2]
          exact RetL1.no _ (hbr.trans (hb2.mono hbr.size))
        · have HO : Hid (priceOk f a r (k + 1) = true) := by show (priceOk f a r k && isAmount (priceTo f a r (k + 1))) = true; rw [hok.out, hx]; rfl
          have hx' : isAmount (priceTo f a r k + f k + rnd ((priceTo f a r k + f k) * a) 10000 r) = true := hx
          have hx2 : isAmount (priceTo f a r k + f k) = true := by rw [win_iff] at hx' ⊢; omega
          clear hx
          go_wp2_with (first | (go_at_call 53; refine (spec_l02Cents_any _ _).mono ?_; rintro e w' ⟨rfl, rfl⟩) | (go_at_call 67; refine (spec_l04Due' _ _ _ _ (by omega) (by omega) (by omega) (by omega)).mono ?_; rintro e w2 ⟨rfl, hb2⟩; have hown2 := hown.below hb2) | (at_builtin; refine wpList_app1 _ rfl _ _ 22 rfl w.heap.size 2 Try.infoI Try.underlying22 _ _ rfl hown2 _ rfl (by have := HL.out; omega) (Nat.le_trans hbr.size hb2.size) ?_; intro v' w3 hown3 hb3))
          go_roundw
          case rel => exact ⟨k + 1, by omega, by go_num, rfl, HO, hown3, (hbr.trans (hb2.mono hbr.size)).trans hb3⟩
          case measure => simp [intOf]; omega
      · obtain rfl : k = n := by omega
        have h0 : cascOk f k a r = true := by simp only [cascOk, HH.out, hok.out, Bool.true_and]
        have H0 := Lib.hid h0
        clear h0
        go_wp2
        go_ret2
        rw [H0.out, casc_yes H0.out]
        exact ⟨_, rfl, hown, by rw [pricesTo_length]; exact hn, hbr⟩

theorem CascadePrices_spec {w : World} {B : Nat} {v : Value} {xs : List Int} (hv : RowI 2 w B v xs) (a r : Int) :
    Calls Try.prog 34 #[v, .int .i64 a, .int .i64 r] w (RetL1 2 w (CascadePrices_r0 xs a r) (CascadePrices_r1 xs a r)) := by
  obtain ⟨g, c, rfl, _, _, _, _, hI, _, hn⟩ := hv.form
  exact casc_core_spec xs.length g c _ a r w hn hI
end Go.Proofs.Ytegfajmhblpcoaa
