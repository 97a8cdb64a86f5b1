/-
  laws.FnDates gives true: days lead back to their dates, and times add. Condition: two slices of bytes.
-/
import Derived.Test.YtiblnnianaaddaaBytes
import Derived.Test.YtiblnnianaaddaaDateOf
import Derived.Test.YtiblnnianaaddaaDayOf
import Derived.Test.YtiblnnianaaddaaDaysBetween
namespace Go.Proofs.Ytiblnnianaaddaa
open Go.RowKit
set_option linter.unusedVariables false

theorem date_succ {d : Int} (h0 : 0 ≤ d) (h1 : d + 1 ≤ 36524) :
    (dK (d + 1) = dK d ∧ dJ (d + 1) = dJ d ∧ dR (d + 1) = dR d + 1) ∨ (dK (d + 1) = dK d ∧ dJ (d + 1) = dJ d + 1 ∧ dR (d + 1) = 0) ∨ (dK (d + 1) = dK d + 1 ∧ dJ (d + 1) = 0 ∧ dJ d = 11 ∧ dR (d + 1) = 0) := by
  obtain ⟨a1, a2, a3⟩ := dK_is d h0 (by omega)
  obtain ⟨b1, b2, b3⟩ := dJ_is d h0 (by omega)
  have c1 : dR d = d - ysum (dK d) - msum (2000 + dK d) (dJ d) := rfl
  have m1 : msum (2000 + dK d) (dJ d + 1) = msum (2000 + dK d) (dJ d) + mlen (2000 + dK d) (1 + dJ d) := rfl
  have m2 : msum (2000 + dK d) (dJ d + 1) ≤ msum (2000 + dK d) 12 := msum_mono _ (by omega)
  rw [msum12] at m2
  have y1 : ysum (dK d + 1) = ysum (dK d) + ylen (2000 + dK d) := rfl
  generalize hK : dK d = k at *
  generalize hJ : dJ d = j at *
  generalize hR : dR d = r at *
  by_cases h : r + 1 < mlen (2000 + k) (1 + j)
  · left
    have := date_eq (d := d + 1) a1 b1 (by omega) (by omega) (by omega) (by omega)
    omega
  · right
    by_cases hj : j < 11
    · left
      have m3 : msum (2000 + k) (j + 1 + 1) = msum (2000 + k) (j + 1) + mlen (2000 + k) (1 + (j + 1 : Nat)) := rfl
      have m4 := mlen_bd (2000 + k) (1 + (j + 1 : Nat))
      have m5 : msum (2000 + k) (j + 1 + 1) ≤ msum (2000 + k) 12 := msum_mono _ (by omega)
      rw [msum12] at m5
      have := date_eq (d := d + 1) (k := k) (j := j + 1) a1 (by omega) (by omega) (by omega) (by omega) (by omega)
      omega
    · right
      obtain rfl : j = 11 := by omega
      have m6 : msum (2000 + k) (11 + 1) = ylen (2000 + k) := msum12 _
      have hk : k + 1 ≤ 99 := by
        apply Classical.byContradiction
        intro hk
        obtain rfl : k = 99 := by omega
        have : ysum (99 + 1) = 36525 := by decide +kernel
        omega
      have y2 := ylen_bd (2000 + (k + 1 : Nat))
      have y3 : ysum (k + 1 + 1) = ysum (k + 1) + ylen (2000 + (k + 1 : Nat)) := rfl
      have m7 : msum (2000 + (k + 1 : Nat)) 0 = 0 := rfl
      have m8 : msum (2000 + (k + 1 : Nat)) (0 + 1) = 0 + mlen (2000 + (k + 1 : Nat)) (1 + (0 : Nat)) := rfl
      have m9 := mlen_bd (2000 + (k + 1 : Nat)) (1 + (0 : Nat))
      have := date_eq (d := d + 1) (k := k + 1) (j := 0) hk (by omega) (by omega) (by omega) (by omega) (by omega)
      omega
theorem day_back {d : Int} (h0 : 0 ≤ d) (h1 : d ≤ 36524) : DayOf_r0 (2000 + dK d) (1 + dJ d) (dR d + 1) = d ∧ DayOf_r1 (2000 + dK d) (1 + dJ d) (dR d + 1) = true := by
  obtain ⟨a1, a2, a3⟩ := dK_is d h0 h1
  obtain ⟨b1, b2, b3⟩ := dJ_is d h0 h1
  have e : DayOf_r1 (2000 + dK d) (1 + dJ d) (dR d + 1) = true := by
    unfold DayOf_r1
    rw [win_iff.2 (show (2000 : Int) ≤ 2000 + dK d ∧ (2000 : Int) + dK d ≤ 2099 by omega), win_iff.2 (show (1 : Int) ≤ 1 + dJ d ∧ (1 : Int) + dJ d ≤ 12 by omega), win_iff.2 (show (1 : Int) ≤ dR d + 1 ∧ dR d + 1 ≤ mlen (2000 + dK d) (1 + dJ d) by omega)]
    rfl
  refine ⟨?_, e⟩
  unfold DayOf_r0
  rw [if_pos e, show ((2000 : Int) + dK d - 2000).toNat = dK d by omega, show ((1 : Int) + dJ d - 1).toNat = dJ d by omega]
  unfold dR
  omega

set_option maxHeartbeats 4000000 in
set_option maxRecDepth 100000 in
theorem fnDates_walk (x0 x1 : Nat) (ad0 ad1 : Option Addr) (c0 c1 : Nat) (w : World) (i0 : InB w (.slice ad0 x0 c0) x0) (i1 : InB w (.slice ad1 x1 c1) x1) :
    Calls Try.prog 10 #[.slice ad0 x0 c0, .slice ad1 x1 c1] w fun e w' => e = .returned (.bool true) ∧ Below w.heap.size w w' := by
  cases hL : decide (1048576 < (x0 : Int)) || decide (1048576 < (x1 : Int))
  case true =>
    have HL : Hid (∀ w', Calls Try.prog 14 #[.slice ad0 x0 c0, .slice ad1 x1 c1] w' fun e w'' => e = .returned (.bool true) ∧ w' = w'') := fun w' => by have := b10Long_any x0 x1 ad0 ad1 c0 c1 w'; rwa [hL] at this
    clear hL
    go_enter Try.func10, Try.ntmps10
    go_wp2_with fail
    refine (HL.out _).mono ?_
    rintro e w1 ⟨rfl, rfl⟩
    go_wp2
    go_ret
    exact ⟨rfl, Below.refl _ _⟩
  case false =>
    have HL : Hid (∀ w', Calls Try.prog 14 #[.slice ad0 x0 c0, .slice ad1 x1 c1] w' fun e w'' => e = .returned (.bool false) ∧ w' = w'') := fun w' => by have := b10Long_any x0 x1 ad0 ad1 c0 c1 w'; rwa [hL] at this
    clear hL
    go_enter Try.func10, Try.ntmps10
    go_wp2_with fail
    refine (HL.out _).mono ?_
    rintro e w1 ⟨rfl, rfl⟩
    go_wp2_with fail
    refine (b10At_any i1 0 256 (by omega) (by omega) (by omega) (by omega)).mono ?_
    rintro e w1 ⟨p, rfl, p0, p1, rfl⟩
    go_wp2_with fail
    refine (b10At_any i1 1 140 (by omega) (by omega) (by omega) (by omega)).mono ?_
    rintro e w1 ⟨q, rfl, q0, q1, rfl⟩
    obtain ⟨d, hd⟩ : ∃ d, 140 * p + q = d := ⟨_, rfl⟩
    have d0 : 0 ≤ d ∧ d ≤ 35839 := by omega
    have HDS := Lib.hid (date_succ d0.1 (by omega))
    have HDB := Lib.hid (day_back d0.1 (by omega))
    obtain ⟨K, hK⟩ : ∃ K : Int, 2000 + (dK d : Int) = K := ⟨_, rfl⟩
    obtain ⟨J, hJ⟩ : ∃ J : Int, 1 + (dJ d : Int) = J := ⟨_, rfl⟩
    obtain ⟨R, hR⟩ : ∃ R : Int, dR d + 1 = R := ⟨_, rfl⟩
    obtain ⟨K', hK'⟩ : ∃ K : Int, 2000 + (dK (d + 1) : Int) = K := ⟨_, rfl⟩
    obtain ⟨J', hJ'⟩ : ∃ J : Int, 1 + (dJ (d + 1) : Int) = J := ⟨_, rfl⟩
    obtain ⟨R', hR'⟩ : ∃ R : Int, dR (d + 1) + 1 = R := ⟨_, rfl⟩
    have B1 := dK_is d d0.1 (by omega)
    have B2 := dJ_is d d0.1 (by omega)
    have B3 := dR_bd d d0.1 (by omega)
    have B4 := dK_is (d + 1) (by omega) (by omega)
    have B5 := dJ_is (d + 1) (by omega) (by omega)
    have B6 := dR_bd (d + 1) (by omega) (by omega)
    have bK : 2000 ≤ K ∧ K ≤ 2099 := by omega
    have bJ : 1 ≤ J ∧ J ≤ 12 := by omega
    have bR : 1 ≤ R ∧ R ≤ 31 := by omega
    have bK' : 2000 ≤ K' ∧ K' ≤ 2099 := by omega
    have bJ' : 1 ≤ J' ∧ J' ≤ 12 := by omega
    have bR' : 1 ≤ R' ∧ R' ≤ 31 := by omega
    have hcase : (K' = K ∧ J' = J ∧ R' = R + 1) ∨ (K' = K ∧ J' = J + 1 ∧ R' = 1) ∨ (K' = K + 1 ∧ J' = 1 ∧ J = 12 ∧ R' = 1) := by have := HDS.out; omega
    have HA : Hid (∀ w', Calls Try.prog 28 #[.int .i64 d] w' (RetV w' (.tuple #[.int .i64 K, .int .i64 J, .int .i64 R, .bool true]))) := fun w' => by
      have e : isDay d = true := win_iff.2 (by omega)
      have := DateOf_impl d w'
      simp only [DateOf_r0, DateOf_r1, DateOf_r2, DateOf_r3, e, if_true, hK, hJ, hR] at this
      exact this
    have HA2 : Hid (∀ w', Calls Try.prog 28 #[.int .i64 (d + 1)] w' (RetV w' (.tuple #[.int .i64 K', .int .i64 J', .int .i64 R', .bool true]))) := fun w' => by
      have e : isDay (d + 1) = true := win_iff.2 (by omega)
      have := DateOf_impl (d + 1) w'
      simp only [DateOf_r0, DateOf_r1, DateOf_r2, DateOf_r3, e, if_true, hK', hJ', hR'] at this
      exact this
    have HB : Hid (∀ w', Calls Try.prog 26 #[.int .i64 K, .int .i64 J, .int .i64 R] w' (RetV w' (.tuple #[.int .i64 d, .bool true]))) := fun w' => by
      have := DayOf_impl K J R w'
      have e := HDB.out
      rw [hK, hJ, hR] at e
      rwa [e.1, e.2] at this
    clear B1 B2 B3 B4 B5 B6 hK hJ hR hK' hJ' hR' HDS HDB
    go_wp2_with fail
    refine (HA.out _).mono ?_
    rintro e w2 ⟨rfl, b2⟩
    go_wp2_with fail
    refine (HB.out _).mono ?_
    rintro e w3 ⟨rfl, b3⟩
    go_wp2_with fail
    refine (HA2.out _).mono ?_
    rintro e w4 ⟨rfl, b4⟩
    have C4 := bnext (bnext b2 b3) b4
    have j4 := i1.below C4
    clear hd p0 p1 q0 q1
    rcases hcase with ⟨rfl, rfl, rfl⟩ | ⟨rfl, rfl, rfl⟩ | ⟨rfl, rfl, rfl, rfl⟩
    all_goals
      go_wp2_with fail
      refine (b10At_any j4 2 200 (by omega) (by omega) (by omega) (by omega)).mono ?_
      rintro e w5 ⟨l, rfl, l0, l1, rfl⟩
      go_wp2_with fail
      refine (b10At_any j4 3 200 (by omega) (by omega) (by omega) (by omega)).mono ?_
      rintro e w5 ⟨m, rfl, m0, m1, rfl⟩
      go_wp2_with fail
      refine (b10At_any j4 4 2 (by omega) (by omega) (by omega) (by omega)).mono ?_
      rintro e w5 ⟨k, rfl, k0, k1, rfl⟩
      obtain ⟨e, he⟩ : ∃ e, d + m = e := ⟨_, rfl⟩
      obtain ⟨t, ht⟩ : ∃ t, e + l = t := ⟨_, rfl⟩
      have e0 : d ≤ e ∧ e ≤ 36200 := by omega
      have t0 : e ≤ t ∧ t ≤ 36500 := by omega
      have ht2 : d + m + l = t := by omega
      have DB : ∀ (k a b : Int), isTimeB k a b = true → ∀ w', Calls Try.prog 36 #[.int .i64 k, .int .i64 a, .int .i64 b] w' (RetV w' (.tuple #[.int .i64 (btw0 k a b), .int .i64 (btw1 k), .bool true])) := fun k a b h w' => by
        have := DaysBetween_impl k a b w'
        simp only [DaysBetween_r0, DaysBetween_r1, DaysBetween_r2, h, if_true] at this
        exact this
      have DS : ∀ (k a b : Int), isTimeB k a b = true → ∀ w', Calls Try.prog 35 #[.int .i64 k, .int .i64 a, .int .i64 b] w' (RetV w' (.tuple #[.int .i64 (btw0 k a b), .int .i64 (btw1 k), .bool true])) := fun k a b h w' => by
        have := DaysBetween_spec k a b w'
        simp only [DaysBetween_r0, DaysBetween_r1, DaysBetween_r2, h, if_true] at this
        exact this
      have g1 : ∀ a b : Int, btw0 k a b = b - a := fun a b => by unfold btw0; rw [if_neg (by omega)]
      have H1 : Hid (∀ w', Calls Try.prog 36 #[.int .i64 k, .int .i64 d, .int .i64 e] w' (RetV w' (.tuple #[.int .i64 m, .int .i64 (btw1 k), .bool true]))) := fun w' => by
        have := DB k d e (isTimeB_iff.2 (by omega)) w'
        rwa [g1, show e - d = m by omega] at this
      have H2 : Hid (∀ w', Calls Try.prog 36 #[.int .i64 k, .int .i64 e, .int .i64 t] w' (RetV w' (.tuple #[.int .i64 l, .int .i64 (btw1 k), .bool true]))) := fun w' => by
        have := DB k e t (isTimeB_iff.2 (by omega)) w'
        rwa [g1, show t - e = l by omega] at this
      have H3 : Hid (∀ w', Calls Try.prog 36 #[.int .i64 k, .int .i64 d, .int .i64 t] w' (RetV w' (.tuple #[.int .i64 (m + l), .int .i64 (btw1 k), .bool true]))) := fun w' => by
        have := DB k d t (isTimeB_iff.2 (by omega)) w'
        rwa [g1, show t - d = m + l by omega] at this
      have hb := (btw0_bd 2 d t d0.1 (by omega) (by omega))
      obtain ⟨x, hx⟩ : ∃ x, btw0 2 d t = x := ⟨_, rfl⟩
      have H4 : Hid (∀ w', Calls Try.prog 36 #[.int .i64 2, .int .i64 d, .int .i64 t] w' (RetV w' (.tuple #[.int .i64 x, .int .i64 360, .bool true]))) := fun w' => by
        have := DB 2 d t (isTimeB_iff.2 (by omega)) w'
        rw [hx] at this
        exact this
      have H5 : Hid (∀ w', Calls Try.prog 35 #[.int .i64 2, .int .i64 d, .int .i64 t] w' (RetV w' (.tuple #[.int .i64 x, .int .i64 360, .bool true]))) := fun w' => by
        have := DS 2 d t (isTimeB_iff.2 (by omega)) w'
        rw [hx] at this
        exact this
      rw [hx] at hb
      obtain ⟨y, hy⟩ : ∃ y, btw1 k = y := ⟨_, rfl⟩
      have by1 := btw1_bd k
      rw [hy] at H1 H2 H3 by1
      clear hx hy g1 DB DS
      go_wp2_with fail
      refine (H1.out _).mono ?_
      rintro e9 w6 ⟨rfl, b6⟩
      go_wp2_with fail
      refine (H2.out _).mono ?_
      rintro e9 w7 ⟨rfl, b7⟩
      go_wp2_with fail
      refine (H3.out _).mono ?_
      rintro e9 w8 ⟨rfl, b8⟩
      go_wp2_with fail
      refine (H4.out _).mono ?_
      rintro e9 w9 ⟨rfl, b9⟩
      go_wp2_with fail
      refine (H5.out _).mono ?_
      rintro e9 w10 ⟨rfl, b10⟩
      have C10 := bnext (bnext (bnext (bnext (bnext C4 b6) b7) b8) b9) b10
      have z1 : (m + l == t - d) = true := by simp; omega
      go_wp2_with fail
      go_ret
      exact ⟨rfl, C10⟩
end Go.Proofs.Ytiblnnianaaddaa
