/-
  Days and dates, in plain numbers: the year, the month and the day of the month of a day. No program in sight.
-/
import Derived.Test.YtiblnnianaaddaaCal
namespace Go.Proofs.Ytiblnnianaaddaa
open Go.RowKit
set_option linter.unusedVariables false

theorem ysum_mono {a b : Nat} (h : a ≤ b) : ysum a ≤ ysum b := by
  induction b with
  | zero => obtain rfl : a = 0 := by omega
            exact Int.le_refl _
  | succ b ih =>
    rcases Nat.lt_or_ge b a with h1 | h1
    · obtain rfl : a = b + 1 := by omega
      exact Int.le_refl _
    · have := ih h1; have := ylen_bd (2000 + b); simp only [ysum]; omega
theorem msum_mono (y : Int) {a b : Nat} (h : a ≤ b) : msum y a ≤ msum y b := by
  induction b with
  | zero => obtain rfl : a = 0 := by omega
            exact Int.le_refl _
  | succ b ih =>
    rcases Nat.lt_or_ge b a with h1 | h1
    · obtain rfl : a = b + 1 := by omega
      exact Int.le_refl _
    · have := ih h1; have := mlen_bd y (1 + b); simp only [msum]; omega
theorem msum12 (y : Int) : msum y 12 = ylen y := by
  simp [msum, mlen, ylen]
  split <;> omega
theorem ysum99 : ysum 99 = 36160 := by decide +kernel
def yk (d : Int) : Nat → Nat
  | 0 => 0
  | n + 1 => if ysum (n + 1) ≤ d then n + 1 else yk d n
def mk (y d : Int) : Nat → Nat
  | 0 => 0
  | n + 1 => if msum y (n + 1) ≤ d then n + 1 else mk y d n
theorem yk_eq {d : Int} {k : Nat} (h1 : ysum k ≤ d) (h2 : d < ysum (k + 1)) : ∀ n, k ≤ n → yk d n = k := by
  intro n hn
  induction n with
  | zero => obtain rfl : k = 0 := by omega
            rfl
  | succ n ih =>
    simp only [yk]
    rcases Nat.lt_or_ge n k with h | h
    · obtain rfl : k = n + 1 := by omega
      rw [if_pos h1]
    · have := ysum_mono (show k + 1 ≤ n + 1 by omega)
      rw [if_neg (by omega)]
      exact ih h
theorem mk_eq {y d : Int} {k : Nat} (h1 : msum y k ≤ d) (h2 : d < msum y (k + 1)) : ∀ n, k ≤ n → mk y d n = k := by
  intro n hn
  induction n with
  | zero => obtain rfl : k = 0 := by omega
            rfl
  | succ n ih =>
    simp only [mk]
    rcases Nat.lt_or_ge n k with h | h
    · obtain rfl : k = n + 1 := by omega
      rw [if_pos h1]
    · have := msum_mono y (show k + 1 ≤ n + 1 by omega)
      rw [if_neg (by omega)]
      exact ih h
/-- Years after 2000, months after January, and days after the first of a day. -/
def dK (d : Int) : Nat := yk d 99
def dJ (d : Int) : Nat := mk (2000 + dK d) (d - ysum (dK d)) 11
def dR (d : Int) : Int := d - ysum (dK d) - msum (2000 + dK d) (dJ d)
theorem yk_is (d : Int) (h0 : 0 ≤ d) : ∀ n, ysum (yk d n) ≤ d ∧ yk d n ≤ n ∧ (yk d n < n → d < ysum (yk d n + 1)) := by
  intro n
  induction n with
  | zero => exact ⟨by simpa [yk, ysum] using h0, Nat.le_refl _, fun h => absurd h (Nat.lt_irrefl _)⟩
  | succ n ih =>
    simp only [yk]
    split
    · exact ⟨by assumption, Nat.le_refl _, fun h => absurd h (Nat.lt_irrefl _)⟩
    · refine ⟨ih.1, by omega, fun _ => ?_⟩
      by_cases h : yk d n < n
      · exact ih.2.2 h
      · obtain e : yk d n = n := by omega
        rw [e]; omega
theorem mk_is (y d : Int) (h0 : 0 ≤ d) : ∀ n, msum y (mk y d n) ≤ d ∧ mk y d n ≤ n ∧ (mk y d n < n → d < msum y (mk y d n + 1)) := by
  intro n
  induction n with
  | zero => exact ⟨by simpa [mk, msum] using h0, Nat.le_refl _, fun h => absurd h (Nat.lt_irrefl _)⟩
  | succ n ih =>
    simp only [mk]
    split
    · exact ⟨by assumption, Nat.le_refl _, fun h => absurd h (Nat.lt_irrefl _)⟩
    · refine ⟨ih.1, by omega, fun _ => ?_⟩
      by_cases h : mk y d n < n
      · exact ih.2.2 h
      · obtain e : mk y d n = n := by omega
        rw [e]; omega
theorem dK_is (d : Int) (h0 : 0 ≤ d) (h1 : d ≤ 36524) : dK d ≤ 99 ∧ ysum (dK d) ≤ d ∧ d < ysum (dK d + 1) := by
  obtain ⟨a, b, c⟩ := yk_is d h0 99
  refine ⟨b, a, ?_⟩
  by_cases h : yk d 99 < 99
  · exact c h
  · have e : dK d = 99 := by show yk d 99 = 99; omega
    have e2 : ysum (99 + 1) = 36525 := by decide +kernel +kernel
    rw [e, e2]; omega
theorem dJ_is (d : Int) (h0 : 0 ≤ d) (h1 : d ≤ 36524) : dJ d ≤ 11 ∧ 0 ≤ dR d ∧ dR d < mlen (2000 + dK d) (1 + dJ d) := by
  obtain ⟨k1, k2, k3⟩ := dK_is d h0 h1
  obtain ⟨a, b, c⟩ := mk_is (2000 + dK d) (d - ysum (dK d)) (by omega) 11
  refine ⟨b, by unfold dR; show 0 ≤ d - ysum (dK d) - msum _ (mk _ _ 11); omega, ?_⟩
  have k3' : d < ysum (dK d) + ylen (2000 + dK d) := k3
  have key : d - ysum (dK d) < msum (2000 + dK d) (dJ d + 1) := by
    by_cases h : mk (2000 + dK d) (d - ysum (dK d)) 11 < 11
    · exact c h
    · have e : dJ d = 11 := by show mk _ _ 11 = 11; omega
      rw [e, msum12]; omega
  have key' : d - ysum (dK d) < msum (2000 + dK d) (dJ d) + mlen (2000 + dK d) (1 + dJ d) := key
  unfold dR; omega
theorem dR_bd (d : Int) (h0 : 0 ≤ d) (h1 : d ≤ 36524) : 0 ≤ dR d ∧ dR d ≤ 30 := by
  have := dJ_is d h0 h1
  have := mlen_bd (2000 + dK d) (1 + dJ d)
  omega
/-- One date and no other. -/
theorem date_eq {d : Int} {k j : Nat} (hk : k ≤ 99) (hj : j ≤ 11) (h1 : ysum k ≤ d) (h2 : d < ysum (k + 1)) (h3 : msum (2000 + k) j ≤ d - ysum k) (h4 : d - ysum k < msum (2000 + k) (j + 1)) :
    dK d = k ∧ dJ d = j ∧ dR d = d - ysum k - msum (2000 + k) j := by
  have e1 : dK d = k := yk_eq h1 h2 99 hk
  have e2 : dJ d = j := by unfold dJ; rw [e1]; exact mk_eq h3 h4 11 hj
  exact ⟨e1, e2, by unfold dR; rw [e1, e2]⟩
theorem date_mono {a b : Int} (h0 : 0 ≤ a) (h : a ≤ b) (h1 : b ≤ 36524) : dK a < dK b ∨ dK a = dK b ∧ (dJ a < dJ b ∨ dJ a = dJ b ∧ dR a ≤ dR b) := by
  obtain ⟨a1, a2, a3⟩ := dK_is a h0 (by omega)
  obtain ⟨b1, b2, b3⟩ := dK_is b (by omega) h1
  have hk : dK a ≤ dK b := by
    rcases Nat.lt_or_ge (dK b) (dK a) with h' | h'
    · have := ysum_mono (show dK b + 1 ≤ dK a by omega); omega
    · exact h'
  rcases Nat.lt_or_ge (dK a) (dK b) with h' | h'
  · exact .inl h'
  · have ek : dK a = dK b := by omega
    refine .inr ⟨ek, ?_⟩
    obtain ⟨c1, c2, c3⟩ := dJ_is a h0 (by omega)
    obtain ⟨d1, d2, d3⟩ := dJ_is b (by omega) h1
    unfold dR at c2 c3 d2 d3 ⊢
    rw [ek] at c2 c3 ⊢
    rcases Nat.lt_or_ge (dJ a) (dJ b) with h2 | h2
    · exact .inl h2
    · have hj : dJ a = dJ b := by
        rcases Nat.lt_or_ge (dJ b) (dJ a) with h3 | h3
        · have := msum_mono (2000 + dK b) (show dJ b + 1 ≤ dJ a by omega)
          have e : msum (2000 + dK b) (dJ b + 1) = msum (2000 + dK b) (dJ b) + mlen (2000 + dK b) (1 + dJ b) := rfl
          omega
        · omega
      refine .inr ⟨hj, ?_⟩
      rw [hj]; omega
def btw0 (k a b : Int) : Int := if k = 2 then 360 * ((dK b : Int) - dK a) + 30 * ((dJ b : Int) - dJ a) + min (dR b + 1) 30 - min (dR a + 1) 30 else b - a
def btw1 (k : Int) : Int := if k = 0 then 365 else 360
theorem btw0_bd (k a b : Int) (h0 : 0 ≤ a) (h : a ≤ b) (h1 : b ≤ 36524) : 0 ≤ btw0 k a b ∧ btw0 k a b ≤ 36524 := by
  unfold btw0
  split
  · have := date_mono h0 h h1
    have := dK_is a h0 (by omega)
    have := dK_is b (by omega) h1
    have := dJ_is a h0 (by omega)
    have := dJ_is b (by omega) h1
    have := dR_bd a h0 (by omega)
    have := dR_bd b (by omega) h1
    omega
  · omega
theorem btw1_bd (k : Int) : 360 ≤ btw1 k ∧ btw1 k ≤ 365 := by unfold btw1; split <;> omega
end Go.Proofs.Ytiblnnianaaddaa
