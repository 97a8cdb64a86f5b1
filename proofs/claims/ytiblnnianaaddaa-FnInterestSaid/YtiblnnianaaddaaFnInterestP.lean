/-
  What is asked of interest and of loans, in plain numbers. Conditions as the laws say.
-/
import Derived.Test.YtiblnnianaaddaaInterestOf
import Derived.Test.YtiblnnianaaddaaInterestByRates
import Derived.Test.YtiblnnianaaddaaPenaltyOf
import Derived.Test.YtiblnnianaaddaaLoanPayment
import Derived.Test.YtiblnnianaaddaaLoanTable
import Derived.Test.YtiblnnianaaddaaLoanCount
namespace Go.Proofs.Ytiblnnianaaddaa
open Go.RowKit
set_option linter.unusedVariables false

theorem rnd_mono {X Y m : Int} (h : X ≤ Y) (m0 : 0 < m) : rnd X m 1 ≤ rnd Y m 1 := by
  have q : X / m ≤ Y / m := Int.ediv_le_ediv m0 h
  have e1 := Int.mul_ediv_add_emod X m
  have e2 := Int.mul_ediv_add_emod Y m
  by_cases c1 : m ≤ 2 * (X % m)
  · rw [rnd_one_up c1]
    by_cases c2 : m ≤ 2 * (Y % m)
    · rw [rnd_one_up c2]; omega
    · rw [rnd_one_no c2]
      have : X / m ≠ Y / m := by
        intro e
        rw [e] at e1
        omega
      omega
  · rw [rnd_one_no c1]
    by_cases c2 : m ≤ 2 * (Y % m)
    · rw [rnd_one_up c2]; omega
    · rw [rnd_one_no c2]; exact q
theorem rnd_zero {m : Int} (m0 : 0 < m) : rnd 0 m 1 = 0 := by
  rw [rnd_one_no (by simp; omega)]
  exact Int.zero_ediv m
theorem inter_mono {c r r' k a b : Int} (c0 : 0 ≤ c) (r0 : 0 ≤ r) (hr : r ≤ r') (h0 : 0 ≤ a) (h : a ≤ b) (h1 : b ≤ 36524) : inter c r k a b ≤ inter c r' k a b := by
  have n0 := (btw0_bd k a b h0 h h1).1
  have m0 := btw1_bd k
  have p1 : 0 ≤ c * r * btw0 k a b := Int.mul_nonneg (Int.mul_nonneg c0 r0) n0
  have p2 : c * r * btw0 k a b ≤ c * r' * btw0 k a b := Int.mul_le_mul_of_nonneg_right (Int.mul_le_mul_of_nonneg_left hr c0) n0
  unfold inter
  rw [nrst_pos p1, nrst_pos (by omega)]
  exact rnd_mono p2 (by omega)
theorem btw0_same (k a : Int) : btw0 k a a = 0 := by
  unfold btw0
  split <;> omega
theorem inter_same (c r k a : Int) : inter c r k a a = 0 := by
  have m0 := btw1_bd k
  unfold inter
  rw [btw0_same, Int.mul_zero, nrst_pos (Int.le_refl _)]
  exact rnd_zero (by omega)
/-- One rate for all days. -/
theorem ibr_one {c r k a b : Int} (hc : 0 ≤ c ∧ c ≤ 1000000000) (hr : 0 ≤ r ∧ r ≤ 100000) (hk : 0 ≤ k ∧ k ≤ 2) (h0 : 0 ≤ a) (h : a ≤ b) (h1 : b ≤ 36524) :
    ibrOk c (fun _ => 0) 1 (fun _ => r) 1 k a b = true ∧ ibr0 c (fun _ => 0) 1 (fun _ => r) 1 k a b = inter c r k a b := by
  have e : ibrOk c (fun _ => 0) 1 (fun _ => r) 1 k a b = true := ibr_mk ⟨hc, by omega, fun i _ => by omega, fun i hi => by omega, rfl, fun i _ => hr, ⟨hk, h0, h, h1⟩, h0⟩
  refine ⟨e, ?_⟩
  rw [ibr_yes e]
  show 0 + ibrAt c (fun _ => 0) (fun _ => r) 1 k a b 0 = _
  have e1 : stA (fun _ => 0) a 0 = a := by show max a 0 = a; omega
  have e2 : enA (fun _ => 0) 1 b 0 = b := by unfold enA; rw [if_neg (by omega)]
  unfold ibrAt
  rw [e1, e2]
  by_cases hab : a < b
  · rw [if_pos hab]; exact Int.zero_add _
  · rw [if_neg hab, show b = a by omega, inter_same]; rfl
def two (x y : Int) (i : Nat) : Int := if i = 0 then x else y
theorem ibr_two {c r k a b : Int} (hc : 0 ≤ c ∧ c ≤ 1000000000) (hr : 0 ≤ r ∧ r ≤ 90000) (hk : 0 ≤ k ∧ k ≤ 2) (h0 : 0 ≤ a) (h2 : a ≤ 1000) (h : a ≤ b) (h1 : b ≤ 36524) :
    ibrOk c (two 0 (a + 20)) 2 (two r (r + 100)) 2 k a b = true :=
  ibr_mk ⟨hc, by omega, fun i _ => by unfold two; split <;> omega, fun i hi => by obtain rfl : i = 0 := by omega
                                                                                  show two 0 (a + 20) 0 < two 0 (a + 20) 1
                                                                                  simp [two]; omega, rfl, fun i _ => by unfold two; split <;> omega, ⟨hk, h0, h, h1⟩, h0⟩
theorem pen_is {c r a b : Int} (c0 : 0 ≤ c) (c1 : c ≤ 1000000000) (r0 : 0 ≤ r) (r1 : r ≤ 100000) (h0 : 0 ≤ a) (h : a ≤ b) (h1 : b ≤ 36524) :
    PenaltyOf_r1 c r 1000 a b = true ∧ 0 ≤ PenaltyOf_r0 c r 1000 a b ∧ PenaltyOf_r0 c r 1000 a b ≤ c / 10 + 1 := by
  have e : PenaltyOf_r1 c r 1000 a b = true := by
    have h1 : isSum c = true := win_iff.2 ⟨c0, c1⟩
    have h2 : isHigh r = true := win_iff.2 ⟨r0, r1⟩
    have h3 : isHigh 1000 = true := win_iff.2 ⟨by omega, by omega⟩
    have h4 : isTimeB 0 a b = true := isTime_iffP.2 ⟨⟨by omega, by omega⟩, h0, h, by assumption⟩
    unfold PenaltyOf_r1
    rw [h1, h2, h3, h4]; rfl
  refine ⟨e, ?_⟩
  rw [pen_yes e]
  have mo := moF_bd h0 h h1
  have p0 : 0 ≤ c * r * moF a b := Int.mul_nonneg (Int.mul_nonneg c0 r0) mo.1
  have p1 : 0 ≤ c * 1000 := by omega
  unfold penF
  rw [nrst_pos p0, nrst_pos p1]
  have b1 := rnd_bd (c * r * moF a b) 10000 1 p0 (by omega)
  have b2 := rnd_bd (c * 1000) 10000 1 p1 (by omega)
  omega

/-- What the search finds. -/
theorem srch_is (P : Int → Bool) : ∀ (m : Nat) (lo hi : Int), hi - lo ≤ m → 0 ≤ lo → lo ≤ hi → P hi = true → (lo = 0 ∨ P (lo - 1) = false) → lo ≤ srch P lo hi ∧ srch P lo hi ≤ hi ∧ P (srch P lo hi) = true ∧ (srch P lo hi = 0 ∨ P (srch P lo hi - 1) = false) := by
  intro m
  induction m with
  | zero =>
    intro lo hi h1 h0 h2 h3 h4
    obtain rfl : lo = hi := by omega
    rw [srch_end (by omega)]
    exact ⟨Int.le_refl _, Int.le_refl _, h3, h4⟩
  | succ m ih =>
    intro lo hi h1 h0 h2 h3 h4
    by_cases h : lo < hi
    · cases hp : P ((lo + hi) / 2)
      · rw [srch_high h hp]
        have := ih ((lo + hi) / 2 + 1) hi (by omega) (by omega) (by omega) h3 (.inr (by rw [Int.add_sub_cancel]; exact hp))
        exact ⟨by omega, this.2⟩
      · rw [srch_low h hp]
        have := ih lo ((lo + hi) / 2) (by omega) h0 (by omega) hp h4
        exact ⟨this.1, by omega, this.2.2⟩
    · obtain rfl : lo = hi := by omega
      rw [srch_end (by omega)]
      exact ⟨Int.le_refl _, Int.le_refl _, h3, h4⟩
theorem rest_zero {a p : Int} (p0 : 0 ≤ p) {c : Int} (h : restN c a p 1 = 0) : ∀ k, restN c a p (k + 1) = 0 := by
  intro k
  induction k with
  | zero => exact h
  | succ k ih =>
    show max (restN c a p (k + 1) + ownI (restN c a p (k + 1)) a - p) 0 = 0
    rw [ih]
    have : ownI 0 a = 0 := by unfold ownI; rw [Int.zero_mul]; rfl
    omega
theorem paid_all {c a : Int} (c0 : 0 ≤ c) (c1 : c ≤ 300000) (a0 : 0 ≤ a) (a1 : a ≤ 1000) : ∀ n, 1 ≤ n → paidB c a 1000000000 n = true := by
  have p : 0 ≤ c * a ∧ c * a ≤ 300000 * 1000 := ⟨Int.mul_nonneg c0 a0, Int.mul_le_mul c1 a1 a0 (by omega)⟩
  have z : restN c a 1000000000 1 = 0 := by
    show max (c + ownI c a - 1000000000) 0 = 0
    unfold ownI
    omega
  have zz := rest_zero (a := a) (p := 1000000000) (by omega) z
  have ok : ∀ n, loanOk c a 1000000000 n = true := by
    intro n
    induction n with
    | zero => rfl
    | succ n ih => exact loanOk_succ ih (by rw [zz]; omega)
  intro n hn
  obtain ⟨k, rfl⟩ : ∃ k, n = k + 1 := ⟨n - 1, by omega⟩
  unfold paidB
  rw [ok, zz]; rfl
structure PayIs (c a : Int) (n : Nat) (p : Int) : Prop where
  b : 0 ≤ p ∧ p ≤ 1000000000
  ok : loanOk c a p n = true
  z : restN c a p n = 0
  less : p = 0 ∨ loanOk c a (p - 1) n = false ∨ restN c a (p - 1) n ≠ 0
theorem pay_is {c a : Int} {n : Nat} (c0 : 0 ≤ c) (c1 : c ≤ 300000) (a0 : 0 ≤ a) (a1 : a ≤ 1000) (n0 : 1 ≤ n) (n1 : n ≤ 120) : LoanPayment_r1 c a n = true ∧ PayIs c a n (LoanPayment_r0 c a n) := by
  have e : LoanPayment_r1 c a n = true := by
    unfold LoanPayment_r1
    rw [isLoanB_iff.2 ⟨⟨c0, by omega⟩, ⟨a0, by omega⟩, by omega, by omega⟩, win_iff.2 (show (1 : Int) ≤ n ∧ (n : Int) ≤ 120 by omega), show ((n : Nat) : Int).toNat = n by omega, paid_all c0 c1 a0 a1 n n0]
    rfl
  refine ⟨e, ?_⟩
  rw [pay_yes e, show ((n : Nat) : Int).toNat = n by omega]
  have s := srch_is (fun p => paidB c a p n) 1000000000 0 1000000000 (by omega) (by omega) (by omega) (paid_all c0 c1 a0 a1 n n0) (.inl rfl)
  generalize srch (fun p => paidB c a p n) 0 1000000000 = p at *
  obtain ⟨s1, s2, s3, s4⟩ := s
  have s3' : (loanOk c a p n && decide (restN c a p n = 0)) = true := s3
  obtain ⟨t1, t2⟩ := all_yes2 s3'
  refine ⟨⟨s1, s2⟩, t1, of_decide_eq_true t2, ?_⟩
  rcases s4 with s4 | s4
  · exact .inl s4
  · have s4' : (loanOk c a (p - 1) n && decide (restN c a (p - 1) n = 0)) = false := s4
    rcases first_no2 s4' with h | ⟨_, h⟩
    · exact .inr (.inl h)
    · exact .inr (.inr (of_decide_eq_false h))
theorem loanOk_le {c a p : Int} {n : Nat} (h : loanOk c a p n = true) : ∀ k, k ≤ n → loanOk c a p k = true := by
  intro k hk
  induction n with
  | zero => obtain rfl : k = 0 := by omega
            rfl
  | succ n ih =>
    by_cases e : k = n + 1
    · rw [e]; exact h
    · exact ih (loanOk_pred h) (by omega)
theorem scan_is {c a p : Int} {n : Nat} (h : loanOk c a p n = true) (hz : restN c a p n = 0) : ∀ (m M k : Nat), k + m = n → 0 < m → m ≤ M → ∃ j, k ≤ j ∧ j < n ∧ restN c a p (j + 1) = 0 ∧ scanN c a p M k = ((j : Int) + 1, restN c a p j + intN c a p j, true) := by
  intro m
  induction m with
  | zero => intro M k h1 h2; omega
  | succ m ih =>
    intro M k h1 _ h3
    obtain ⟨M', rfl⟩ : ∃ M', M = M' + 1 := ⟨M - 1, by omega⟩
    cases hr : (restN c a p (k + 1) == 0)
    · have hok := loanOk_le h (k + 1) (by omega)
      have hb : ¬ 1000000000000 < restN c a p (k + 1) := by
        intro hb
        have := loanOk_false (n := k + 1) k (by omega) hb
        rw [hok] at this
        cases this
      rw [scan_next hb hr]
      by_cases hm : m = 0
      · subst hm
        rw [show n = k + 1 by omega] at hz
        rw [hz] at hr
        cases hr
      · obtain ⟨j, j1, j2, j3, j4⟩ := ih M' (k + 1) (by omega) (by omega) (by omega)
        exact ⟨j, by omega, j2, j3, j4⟩
    · exact ⟨k, Nat.le_refl _, by omega, by simpa using hr, scan_zero hr⟩
theorem count_is {c a p : Int} {n : Nat} (c0 : 0 ≤ c) (c1 : c ≤ 1000000000) (a0 : 0 ≤ a) (a1 : a ≤ 100000) (h : PayIs c a n p) (n0 : 1 ≤ n) (n1 : n ≤ 120) :
    LoanCount_r2 c a p = true ∧ (1 ≤ LoanCount_r0 c a p ∧ LoanCount_r0 c a p ≤ n) ∧ 0 ≤ LoanCount_r1 c a p ∧ LoanCount_r1 c a p ≤ p := by
  have e : isLoanB c a p = true := isLoanB_iff.2 ⟨⟨c0, c1⟩, ⟨a0, a1⟩, h.b⟩
  obtain ⟨j, _, j2, j3, j4⟩ := scan_is h.ok h.z n 120 0 (by omega) n0 n1
  have ok := loanOk_le h.ok j (by omega)
  have bd := restN_bd c0 (by omega) ok
  have ob := ownI_bd bd.1 bd.2 a0 a1
  have j3' : max (restN c a p j + ownI (restN c a p j) a - p) 0 = 0 := j3
  have ei : intN c a p j = ownI (restN c a p j) a := rfl
  have e2 : countR c a p = ((j : Int) + 1, restN c a p j + intN c a p j, true) := by unfold countR; rw [e, cond_true, j4]
  unfold LoanCount_r0 LoanCount_r1 LoanCount_r2
  rw [e2, ei]
  exact ⟨rfl, ⟨by show 1 ≤ (j : Int) + 1; omega, by show (j : Int) + 1 ≤ n; omega⟩, by show 0 ≤ restN c a p j + ownI (restN c a p j) a; omega, by show restN c a p j + ownI (restN c a p j) a ≤ p; omega⟩
end Go.Proofs.Ytiblnnianaaddaa
