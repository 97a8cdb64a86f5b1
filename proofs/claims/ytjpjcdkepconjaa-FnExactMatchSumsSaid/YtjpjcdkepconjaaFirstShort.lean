/-
  impl.FirstShort and spec.FirstShort answer alike: every list of fewer than 1000000000 entries, every account. No other condition.
-/
import Derived.Test.YtjpjcdkepconjaaBalances
namespace Go.Proofs.Ytjpjcdkepconjaa
open Go.RowKit
set_option linter.unusedVariables false

/-- The first of the first n that is so, or -1. -/
def firstB (P : Nat → Bool) : Nat → Int
  | 0 => -1
  | k + 1 => bif decide (0 ≤ firstB P k) then firstB P k else bif P k then (k : Int) else -1
theorem firstB_none {P : Nat → Bool} {k : Nat} (h : firstB P k = -1) (hk : P k = false) : firstB P (k + 1) = -1 := by simp [firstB, h, hk]
theorem firstB_here {P : Nat → Bool} {k : Nat} (h : firstB P k = -1) (hk : P k = true) : firstB P (k + 1) = k := by simp [firstB, h, hk]
theorem firstB_stays {P : Nat → Bool} {k : Nat} (h : 0 ≤ firstB P k) : ∀ m, firstB P (k + m) = firstB P k := by
  intro m
  induction m with
  | zero => rfl
  | succ m ih => rw [← Nat.add_assoc]; simp [firstB, ih, h]
theorem firstB_found {P : Nat → Bool} {n k : Nat} (hk : k < n) (h : firstB P k = -1) (hp : P k = true) : firstB P n = k := by
  have e := firstB_here h hp
  have := firstB_stays (P := P) (k := k + 1) (by rw [e]; omega) (n - (k + 1))
  rw [show k + 1 + (n - (k + 1)) = n by omega] at this
  rw [this, e]

/-- The cells of a list told by its rule. -/
theorem Own.tabAt {E : TypeId} {w : World} {B n : Nat} {v : Value} {h : Nat → Int} (hv : Own E w B v (tab h n)) (hn : 0 < n) : ∃ g cap, v = .slice (some ⟨g, 0, none⟩) n cap ∧ ∀ i, i < n → w.cell? ⟨g, i, none⟩ = some (.int .i64 (h i)) := by
  obtain ⟨ad, cap, rfl, k⟩ := hv.shape
  have hl := tab_length h n
  obtain ⟨g, rfl, _, _, _, _, hi, _⟩ := k (fun e => by rw [e] at hl; simp at hl; omega)
  rw [hl] at hi ⊢
  refine ⟨g, cap, rfl, fun i h2 => ?_⟩
  rw [hi.at0 i h2]
  exact congrArg (fun x => some (Value.int .i64 x)) (tab_get h n i h2)
/-- Whether an account's balance is below 0 behind an entry. -/
def shortAt (f : Nat → Int) (a : Nat) (k : Nat) : Bool := decide (balF f 36524 (k + 1) a < 0)
def shortF (f : Nat → Int) (n : Nat) (x : Int) : Int := firstB (shortAt f x.toNat) n
def FirstShort_r1 (X : Rec) (x : Int) : Bool := entriesOk X.f X.length && isAccount x
def FirstShort_r0 (X : Rec) (x : Int) : Int := bif FirstShort_r1 X x then shortF X.f X.length x else 0
theorem short_no {X : Rec} {x : Int} (h : FirstShort_r1 X x = false) : FirstShort_r0 X x = 0 := by simp only [FirstShort_r0, h, cond_false]
theorem short_yes {X : Rec} {x : Int} (h : FirstShort_r1 X x = true) : FirstShort_r0 X x = shortF X.f X.length x := by simp only [FirstShort_r0, h, cond_true]
theorem entries_pre {f : Nat → Int} {n k : Nat} (h : entriesOk f n = true) (hk : k ≤ n) : entriesOk f k = true := by
  obtain ⟨h1, h2⟩ := all_yes2 h
  have : allB (entryOk f) k = true := allB_iff.2 fun i hi => allB_iff.1 h1 i (by omega)
  have h3 : n ≤ 64 := of_decide_eq_true h2
  simp only [entriesOk, this, Bool.true_and]
  exact decide_eq_true (by omega)
theorem entries_day {f : Nat → Int} {n k : Nat} (h : entriesOk f n = true) (hk : k < n) : f (k * 4) ≤ 36524 := by
  obtain ⟨h1, h2⟩ := all_yes2 h
  obtain ⟨a, _⟩ := all_yes6 (allB_iff.1 h1 k hk)
  exact (win_iff.1 a).2
/-- A part of a row of records. -/
theorem RowC.pre {w : World} {g off n k m : Nat} {f : Nat → Int} (h : RowC w g off n k f) (hm : m ≤ n) : RowC w g off m k f := fun i hi j hj => h i (by omega) j hj
theorem bal_step {f : Nat → Int} {k a : Nat} (h : f (k * 4) ≤ 36524) : balF f 36524 (k + 1) a = balF f 36524 k a + ((if f (k * 4 + 1) = (a : Int) then f (k * 4 + 3) else 0) - (if f (k * 4 + 2) = (a : Int) then f (k * 4 + 3) else 0)) := by simp only [balF, h, if_true]

set_option maxHeartbeats 1600000 in
theorem short_impl (n g a : Nat) (f : Nat → Int) (w : World) (ha : a < 12) (hI : RowC w g 0 n 4 f) (h : entriesOk f n = true) :
    Calls Try.prog 26 #[.slice (some ⟨g, 0, none⟩) n n, .int .i64 a] w (RetV w (.tuple #[.int .i64 (firstB (shortAt f a) n), .bool true])) := by
  have hn := (entries_is h).1
  have H := Lib.hid h
  have HA : Hid (isAccount (a : Int) = true) := win_iff.2 ⟨by omega, by omega⟩
  have HE : Hid (∀ w', RowC w' g 0 n 4 f → Calls Try.prog 66 #[.slice (some ⟨g, 0, none⟩) n n] w' (RetV w' (.bool true))) := fun w' I => by have := entries_impl n g f w' (by omega) I; rwa [h] at this
  have HS : Hid (∀ k, firstB (shortAt f a) k = -1 → k < n → shortAt f a k = true → firstB (shortAt f a) n = k) := fun k h1 h2 h3 => firstB_found h2 h1 h3
  clear h
  generalize hR : firstB (shortAt f a) n = R at *
  have HR := Lib.hid hR
  clear hR
  go_enter Try.func26, Try.ntmps26
  go_wp2_with fail
  refine (HE.out _ hI).mono ?_
  rintro e w1 ⟨rfl, hb⟩
  go_wp2_with fail
  refine (impl_isAccount_any _ _).mono ?_
  rintro e w2 ⟨rfl, rfl⟩
  have hA := HA.out
  go_wp2_with fail
  clear hA
  go_loopw [17] (fun i wr => ∃ k : Nat, k ≤ n ∧ i = .int .i64 k ∧ Hid (firstB (shortAt f a) k = -1) ∧ Below w.heap.size w wr) (fun i _ => n - (intOf i).toNat)
  case atStart => exact ⟨0, Nat.zero_le _, rfl, rfl, hb⟩
  case round =>
    obtain ⟨k, hk, rfl, hf, hbr⟩ := hrel
    by_cases hlt : k < n
    · have hE1 : entriesOk f (k + 1) = true := entries_pre H.out (by omega)
      have HE1 := Lib.hid hE1
      have HC : Hid (∀ w', RowC w' g 0 n 4 f → Calls Try.prog 68 #[.slice (some ⟨g, 0, none⟩) (k + 1) n, .int .i64 36524] w' (BalOf 2 w' (tab (balF f 36524 (k + 1)) 12))) := fun w' I => bal_impl (k + 1) n g f 36524 w' (I.pre (by omega)) HE1.out
      have HT := Lib.hid (tab_length (balF f 36524 (k + 1)) 12)
      have hJ := hI.below hbr
      have l0 : (0 : Int) ≤ (k : Int) + 1 := by omega
      have l1 : ((k : Int) + 1).toNat = k + 1 := by omega
      have l2 : (k : Int) + 1 ≤ n := by omega
      clear hE1
      go_wp2_with fail
      refine (HC.out _ hJ).mono ?_
      rintro e w3 ⟨v, rfl, hv, hb3⟩
      obtain ⟨g3, cp, rfl, hcell⟩ := hv.tabAt (by decide)
      have c1 := hcell a ha
      have C3 := bnext hbr hb3
      clear hcell hv
      have a0 : (0 : Int) ≤ (a : Int) := by omega
      have a1 : (a : Int) < (12 : Nat) := by omega
      by_cases hs : balF f 36524 (k + 1) a < 0
      · have HF := Lib.hid (HS.out k hf.out hlt (decide_eq_true hs))
        go_wp2
        go_ret2
        exact ⟨ret_ib2 HF.out.symm rfl, C3⟩
      · have HF := Lib.hid (firstB_none hf.out (show shortAt f a k = false from decide_eq_false hs))
        go_wp2
        go_roundw
        case rel => exact ⟨k + 1, by omega, by go_num, HF, C3⟩
        case measure => simp [intOf]; omega
    · obtain rfl : k = n := by omega
      go_wp2
      go_ret2
      exact ⟨ret_ib2 (hf.out.symm.trans HR.out) rfl, hbr⟩

set_option maxHeartbeats 1600000 in
theorem short_spec (n g a : Nat) (f : Nat → Int) (w : World) (ha : a < 12) (hI : RowC w g 0 n 4 f) (h : entriesOk f n = true) :
    Calls Try.prog 24 #[.slice (some ⟨g, 0, none⟩) n n, .int .i64 a] w (RetV w (.tuple #[.int .i64 (firstB (shortAt f a) n), .bool true])) := by
  have hn := (entries_is h).1
  have he := (entries_is h).2
  have H := Lib.hid h
  have HX := Lib.hid he
  have HB : Hid (∀ k, k ≤ n → -64000000000 ≤ balF f 36524 k a ∧ balF f 36524 k a ≤ 64000000000) := fun k hk => by
    have := bal_bd (d := 36524) (fun i hi => (he i hi).2.2.2) k hk a
    omega
  have HA : Hid (isAccount (a : Int) = true) := win_iff.2 ⟨by omega, by omega⟩
  have HE : Hid (∀ w', RowC w' g 0 n 4 f → Calls Try.prog 63 #[.slice (some ⟨g, 0, none⟩) n n] w' (RetV w' (.bool true))) := fun w' I => by have := entries_spec n g f w' (by omega) I; rwa [h] at this
  have HS : Hid (∀ k, firstB (shortAt f a) k = -1 → k < n → shortAt f a k = true → firstB (shortAt f a) n = k) := fun k h1 h2 h3 => firstB_found h2 h1 h3
  clear h he
  generalize hR : firstB (shortAt f a) n = R at *
  have HR := Lib.hid hR
  clear hR
  go_enter Try.func24, Try.ntmps24
  go_wp2_with fail
  refine (HE.out _ hI).mono ?_
  rintro e w1 ⟨rfl, hb⟩
  go_wp2_with fail
  refine (spec_l03Account_any _ _).mono ?_
  rintro e w2 ⟨rfl, rfl⟩
  have hA := HA.out
  go_wp2_with fail
  clear hA
  go_loopw [18, 6] (fun i s wr => ∃ k : Nat, k ≤ n ∧ i = .int .i64 k ∧ s = .int .i64 (balF f 36524 k a) ∧ Hid (firstB (shortAt f a) k = -1) ∧ Below w.heap.size w wr) (fun i _ _ => n - (intOf i).toNat)
  case atStart => exact ⟨0, Nat.zero_le _, rfl, rfl, rfl, hb⟩
  case round =>
    obtain ⟨k, hk, rfl, rfl, hf, hbr⟩ := hrel
    by_cases hlt : k < n
    · have c1 := Below.cellOf hbr rfl (hI.cs k 1 hlt (by decide))
      have c2 := Below.cellOf hbr rfl (hI.cs k 2 hlt (by decide))
      have c3 := Below.cellOf hbr rfl (hI.cs k 3 hlt (by decide))
      have l1 : (k : Int) < n := by omega
      have b0 := HB.out k hk
      have b1 := HB.out (k + 1) (by omega)
      obtain ⟨_, _, hne, q0, q1⟩ := HX.out k hlt
      have HB1 := Lib.hid (bal_step (f := f) (k := k) (a := a) (entries_day H.out hlt))
      have K : ∃ y, balF f 36524 (k + 1) a = y ∧ ((f (k * 4 + 1) = (a : Int) ∧ ¬ f (k * 4 + 2) = (a : Int) ∧ y = balF f 36524 k a + f (k * 4 + 3)) ∨ (¬ f (k * 4 + 1) = (a : Int) ∧ f (k * 4 + 2) = (a : Int) ∧ y = balF f 36524 k a - f (k * 4 + 3)) ∨ (¬ f (k * 4 + 1) = (a : Int) ∧ ¬ f (k * 4 + 2) = (a : Int) ∧ y = balF f 36524 k a)) := by
        refine ⟨_, rfl, ?_⟩
        rw [HB1.out]
        by_cases h1 : f (k * 4 + 1) = (a : Int)
        · have h2 : ¬ f (k * 4 + 2) = (a : Int) := fun h => hne (h1.trans h.symm)
          rw [if_pos h1, if_neg h2]; exact .inl ⟨h1, h2, by omega⟩
        · by_cases h2 : f (k * 4 + 2) = (a : Int)
          · rw [if_neg h1, if_pos h2]; exact .inr (.inl ⟨h1, h2, by omega⟩)
          · rw [if_neg h1, if_neg h2]; exact .inr (.inr ⟨h1, h2, by omega⟩)
      obtain ⟨y, hy, hK⟩ := K
      rw [hy] at b1
      have HY := Lib.hid hy
      clear hy hne
      rcases hK with ⟨h1, h2, hyy⟩ | ⟨h1, h2, hyy⟩ | ⟨h1, h2, hyy⟩
      all_goals
        have HYY := Lib.hid hyy
        clear hyy
        try have h1' : (f (k * 4 + 1) == (a : Int)) = true := by simpa using h1
        try have h1' : (f (k * 4 + 1) == (a : Int)) = false := by simpa using h1
        try have h2' : (f (k * 4 + 2) == (a : Int)) = true := by simpa using h2
        try have h2' : (f (k * 4 + 2) == (a : Int)) = false := by simpa using h2
        clear h1 h2
        by_cases hs : y < 0
        · have HF := Lib.hid (HS.out k hf.out hlt (decide_eq_true (by rw [HY.out]; exact hs)))
          rw [HYY.out] at hs b1
          go_wp2
          go_ret2
          exact ⟨ret_ib2 HF.out.symm rfl, hbr⟩
        · have HF := Lib.hid (firstB_none hf.out (show shortAt f a k = false from decide_eq_false (by rw [HY.out]; exact hs)))
          rw [HYY.out] at hs b1
          go_wp2
          go_roundw
          case rel => exact ⟨k + 1, by omega, by go_num, by rw [HY.out, HYY.out], HF, hbr⟩
          case measure => simp [intOf]; omega
    · obtain rfl : k = n := by omega
      go_wp2
      go_ret2
      exact ⟨ret_ib2 (hf.out.symm.trans HR.out) rfl, hbr⟩

set_option maxHeartbeats 800000 in
theorem FirstShort_impl {w : World} {B : Nat} {u : Value} {X : Rec} (hv : RowR 4 w B u X) (x : Int) : Calls Try.prog 26 #[u, .int .i64 x] w (RetV w (.tuple #[.int .i64 (FirstShort_r0 X x), .bool (FirstShort_r1 X x)])) := by
  obtain ⟨g, rfl, _, _, hn, hI, _⟩ := hv
  cases h : FirstShort_r1 X x
  · rw [short_no h]
    obtain ⟨n, f⟩ := X
    rcases first_no2 (show (entriesOk f n && isAccount x) = false from h) with h1 | ⟨h1, h2⟩
    all_goals
      clear h
      go_enter Try.func26, Try.ntmps26
      go_wp2_with (first | (go_at_call 67; refine (impl_isAccount_any _ _).mono ?_; rintro e w' ⟨rfl, rfl⟩) | (go_at_call 66; refine (entries_impl n g f _ hn hI).mono ?_; rintro e w1 ⟨rfl, hb⟩))
      go_ret2
      exact ⟨rfl, hb⟩
  · rw [short_yes h]
    obtain ⟨n, f⟩ := X
    obtain ⟨h1, h2⟩ := all_yes2 (show (entriesOk f n && isAccount x) = true from h)
    obtain ⟨x0, x1⟩ := win_iff.1 h2
    obtain ⟨a, rfl⟩ : ∃ a : Nat, x = a := ⟨x.toNat, by omega⟩
    have := short_impl n g a f w (by omega) hI h1
    simpa only [shortF, Int.toNat_natCast] using this

set_option maxHeartbeats 800000 in
theorem FirstShort_spec {w : World} {B : Nat} {u : Value} {X : Rec} (hv : RowR 4 w B u X) (x : Int) : Calls Try.prog 24 #[u, .int .i64 x] w (RetV w (.tuple #[.int .i64 (FirstShort_r0 X x), .bool (FirstShort_r1 X x)])) := by
  obtain ⟨g, rfl, _, _, hn, hI, _⟩ := hv
  cases h : FirstShort_r1 X x
  · rw [short_no h]
    obtain ⟨n, f⟩ := X
    rcases first_no2 (show (entriesOk f n && isAccount x) = false from h) with h1 | ⟨h1, h2⟩
    all_goals
      clear h
      go_enter Try.func24, Try.ntmps24
      go_wp2_with (first | (go_at_call 64; refine (spec_l03Account_any _ _).mono ?_; rintro e w' ⟨rfl, rfl⟩) | (go_at_call 63; refine (entries_spec n g f _ hn hI).mono ?_; rintro e w1 ⟨rfl, hb⟩))
      go_ret2
      exact ⟨rfl, hb⟩
  · rw [short_yes h]
    obtain ⟨n, f⟩ := X
    obtain ⟨h1, h2⟩ := all_yes2 (show (entriesOk f n && isAccount x) = true from h)
    obtain ⟨x0, x1⟩ := win_iff.1 h2
    obtain ⟨a, rfl⟩ : ∃ a : Nat, x = a := ⟨x.toNat, by omega⟩
    have := short_spec n g a f w (by omega) hI h1
    simpa only [shortF, Int.toNat_natCast] using this
end Go.Proofs.Ytjpjcdkepconjaa
