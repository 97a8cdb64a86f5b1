/-
  Floats that come of whole numbers: what they are, plain. No program in sight. Conditions as the laws say.
-/
import Derived.Laws.FloatArith
namespace Go.Proofs.Ytdaijapdfleohaa
open Ieee
set_option linter.unusedVariables false

theorem s_binade : single.binade = 8388608 := by decide
theorem s_inf : single.infRung = 2139095040 := by decide
theorem s_least : single.leastPlace = -149 := by decide
theorem s_sign : single.signWeight = 2147483648 := by decide
theorem s_frac : single.fractionBits = 23 := rfl
theorem d_binade : double.binade = 4503599627370496 := by decide
theorem d_inf : double.infRung = 9218868437227405312 := by decide
theorem d_least : double.leastPlace = -1074 := by decide
theorem d_sign : double.signWeight = 9223372036854775808 := by decide
theorem d_frac : double.fractionBits = 52 := rfl
theorem word_pos (f : Format) (n : Nat) : f.word false n = n := by
  unfold Format.word
  exact if_neg Bool.false_ne_true
theorem cut_le (neg : Bool) (n d : Nat) : Toward.even.cut neg n d ≤ n / 2 ^ min d (n.log2 + 2) + 1 := by
  unfold Toward.cut
  simp only [Nat.one_shiftLeft]
  refine Nat.add_le_add_left ?_ _
  exact Bool.toNat_le _
theorem cut_zero (neg : Bool) (n : Nat) : Toward.even.cut neg n 0 = n := by
  unfold Toward.cut
  simp [Nat.mod_one]
theorem kept_le (neg : Bool) (n s d : Nat) (hn : n ≠ 0) (h : (s = 23 - n.log2 ∧ d = 0 ∧ n.log2 ≤ 23) ∨ (s = 0 ∧ d = n.log2 - 23 ∧ 23 ≤ n.log2)) : Toward.even.cut neg (n <<< s) d ≤ 16777217 := by
  have h1 : n < 2 ^ (n.log2 + 1) := Nat.lt_log2_self
  rcases h with ⟨rfl, rfl, hl⟩ | ⟨rfl, rfl, hl⟩
  · rw [cut_zero, Nat.shiftLeft_eq]
    have h2 : n * 2 ^ (23 - n.log2) ≤ 2 ^ (n.log2 + 1) * 2 ^ (23 - n.log2) := Nat.mul_le_mul_right _ (Nat.le_of_lt h1)
    rw [← Nat.pow_add, show n.log2 + 1 + (23 - n.log2) = 24 by omega] at h2
    omega
  · refine Nat.le_trans (cut_le _ _ _) ?_
    rw [Nat.shiftLeft_zero, show min (n.log2 - 23) (n.log2 + 2) = n.log2 - 23 by omega]
    have h2 : n / 2 ^ (n.log2 - 23) < 2 ^ 24 := by
      refine Nat.div_lt_of_lt_mul ?_
      rw [← Nat.pow_add, show n.log2 - 23 + 24 = n.log2 + 1 by omega]
      exact h1
    omega
theorem nearest_pos (n : Nat) (h1 : 1 ≤ n) (h2 : n < 8796093022208) : 8388608 ≤ single.nearest false n 0 ∧ single.nearest false n 0 < 2139095040 := by
  have hn : n ≠ 0 := by omega
  have hL : n.log2 < 43 := (Nat.log2_lt hn).2 (by omega)
  unfold Format.nearest
  rw [if_neg hn, s_frac, s_least, s_binade, s_inf]
  generalize hl : n.log2 = L at *
  have hlast : max ((0 : Int) + L - (23 : Nat)) (-149) = (L : Int) - 23 := by omega
  simp only [hlast, word_pos]
  have hk := kept_le false n ((0 : Int) - ((L : Int) - 23)).toNat ((L : Int) - 23 - 0).toNat hn (by omega)
  generalize Toward.even.cut false (n <<< ((0 : Int) - ((L : Int) - 23)).toNat) ((L : Int) - 23 - 0).toNat = K at *
  have e1 : ((L : Int) - 23 - -149).toNat = L + 126 := by omega
  rw [e1]
  omega
theorem nearest_le (f : Format) (mag : Nat) (place : Int) : f.nearest false mag place ≤ f.infRung := by
  unfold Format.nearest
  by_cases h : mag = 0
  · rw [if_pos h]; exact Nat.zero_le _
  · rw [if_neg h]; exact Nat.min_le_right _ _
theorem read_fin (b : Nat) (h : b < 2139095040) : ∃ m e, single.read b = .number false m e ∧ m < 16777216 ∧ (m = 0 ↔ b = 0) ∧ -149 ≤ e ∧ e ≤ 104 := by
  have e1 : b / 2147483648 % 2 = 0 := by omega
  have e2 : b % 2147483648 = b := Nat.mod_eq_of_lt (by omega)
  unfold Format.read
  rw [s_binade, s_inf, s_least, s_sign]
  simp only [e1, e2]
  by_cases h1 : b < 8388608
  · rw [if_pos h1]
    exact ⟨b, _, rfl, by omega, Iff.rfl, by omega, by omega⟩
  · rw [if_neg h1, if_pos h]
    have hm : b % 8388608 < 8388608 := Nat.mod_lt _ (by omega)
    exact ⟨8388608 + b % 8388608, (-149 : Int) + ((b / 8388608 - 1 : Nat) : Int), rfl, by omega, by omega, by omega, by omega⟩
theorem div_fin (x y : Nat) (hx : x < 2139095040) (y0 : 8388608 ≤ y) (hy : y < 2139095040) : ∃ r, single.div x y = some r ∧ r ≤ 2139095040 := by
  obtain ⟨m, e, h1, _, _, _, _⟩ := read_fin x hx
  obtain ⟨n, j, h2, _, h3, _, _⟩ := read_fin y hy
  have hn : n ≠ 0 := fun e => by have := h3.1 e; omega
  unfold Format.div
  rw [h1, h2]
  simp only [Datum.quotient, hn, if_false, Option.map_some, Format.write, Bool.xor_self]
  refine ⟨_, rfl, ?_⟩
  rw [← s_inf]
  exact nearest_le single _ _
theorem read64 (q : Nat) (h : q < 9218868437227405312) : ∃ m e, double.read q = .number false m e ∧ (m = 0 ↔ q = 0) := by
  have e1 : q / 9223372036854775808 % 2 = 0 := by omega
  have e2 : q % 9223372036854775808 = q := Nat.mod_eq_of_lt (by omega)
  unfold Format.read
  rw [d_binade, d_inf, d_least, d_sign]
  simp only [e1, e2]
  by_cases h1 : q < 4503599627370496
  · rw [if_pos h1]
    exact ⟨q, _, rfl, Iff.rfl⟩
  · rw [if_neg h1, if_pos h]
    exact ⟨4503599627370496 + q % 4503599627370496, _, rfl, by omega⟩
theorem wide0 (m : Nat) (e : Int) (hm : m ≠ 0) (h1 : m < 16777216) (e0 : -149 ≤ e) (e1 : e ≤ 104) (L : Nat) (hl : m.log2 = L) (hL : L < 24) : double.nearest false m e = min ((e + L - 52 - -1074).toNat * 4503599627370496 + m <<< (52 - L)) 9218868437227405312 := by
  unfold Format.nearest
  rw [if_neg hm, d_frac, d_least, d_binade, d_inf, hl]
  have hlast : max (e + L - (52 : Nat)) (-1074) = e + L - 52 := by omega
  have e2 : (e + L - 52 - e).toNat = 0 := by omega
  have e3 : (e - (e + L - 52)).toNat = 52 - L := by omega
  simp only [hlast, word_pos, e2, e3, cut_zero]
theorem wide1 (m L : Nat) (T : Nat) (hm : m ≠ 0) (hlt : m < 2 ^ (L + 1)) (hL : L < 24) (hT : T ≤ 1149) : 0 < min (T * 4503599627370496 + m <<< (52 - L)) 9218868437227405312 ∧ min (T * 4503599627370496 + m <<< (52 - L)) 9218868437227405312 < 9218868437227405312 := by
  rw [Nat.shiftLeft_eq]
  have h2 : m * 2 ^ (52 - L) ≤ 2 ^ (L + 1) * 2 ^ (52 - L) := Nat.mul_le_mul_right _ (Nat.le_of_lt hlt)
  rw [← Nat.pow_add, show L + 1 + (52 - L) = 53 by omega] at h2
  have h3 : 0 < m * 2 ^ (52 - L) := Nat.mul_pos (by omega) (Nat.two_pow_pos _)
  generalize m * 2 ^ (52 - L) = K at *
  have h4 : K ≤ 9007199254740992 := h2
  clear h2
  omega
theorem wide_fin (m : Nat) (e : Int) (hm : m ≠ 0) (h1 : m < 16777216) (e0 : -149 ≤ e) (e1 : e ≤ 104) : 0 < double.nearest false m e ∧ double.nearest false m e < 9218868437227405312 := by
  have hL : m.log2 < 24 := (Nat.log2_lt hm).2 (by omega)
  rw [wide0 m e hm h1 e0 e1 _ rfl hL]
  exact wide1 m _ _ hm Nat.lt_log2_self hL (by omega)
theorem widen (r : Nat) (h : r ≤ 2139095040) : ∃ q, floatToFloatBits .f32 r .f64 = some q ∧ (q = 0 ↔ r = 0) ∧ q ≤ 9218868437227405312 := by
  unfold floatToFloatBits
  rw [if_neg (by decide)]
  by_cases hr : r = 2139095040
  · subst hr
    exact ⟨9218868437227405312, by kernel_rfl, by omega, Nat.le_refl _⟩
  · obtain ⟨m, e, h1, h2, h3, h4, h5⟩ := read_fin r (by omega)
    have hd : FloatKind.f32.decode r = .number false m e := h1
    rw [hd]
    by_cases hm : m = 0
    · subst hm
      have hr0 := h3.1 rfl
      have he : FloatKind.f64.encode (.number false 0 e) = 0 := rfl
      refine ⟨0, ?_, by omega, Nat.zero_le _⟩
      show (if (FloatKind.f64.decode (FloatKind.f64.encode (.number false 0 e))).isInfinity then none else some (FloatKind.f64.encode (.number false 0 e))) = some 0
      rw [he]
      rfl
    · obtain ⟨k1, k2⟩ := wide_fin m e hm h2 h4 h5
      obtain ⟨m', e', h6, _⟩ := read64 _ k2
      refine ⟨double.nearest false m e, ?_, ?_, Nat.le_of_lt k2⟩
      · show (if (double.read (double.nearest false m e)).isInfinity then none else some (double.nearest false m e)) = _
        rw [h6]
        rfl
      · constructor
        · intro e0; omega
        · intro e0; exact absurd (h3.2 e0) hm
theorem ord_self (q : Nat) (h : q ≤ 9218868437227405312) : FloatKind.f64.format.order q q = some .eq := by
  show (double.read q).order (double.read q) = some .eq
  by_cases hq : q = 9218868437227405312
  · subst hq; kernel_rfl
  · obtain ⟨m, e, h1, _⟩ := read64 q (by omega)
    rw [h1]
    unfold Datum.order
    simp
theorem ord_zero (q : Nat) (h0 : q ≠ 0) (h : q ≤ 9218868437227405312) : FloatKind.f64.format.order q 0 = some .gt := by
  show (double.read q).order (double.read 0) = some .gt
  by_cases hq : q = 9218868437227405312
  · subst hq; kernel_rfl
  · obtain ⟨m, e, h1, h2⟩ := read64 q (by omega)
    have hm : m ≠ 0 := fun e => h0 (h2.1 e)
    rw [h1]
    have hz : double.read 0 = .number false 0 double.leastPlace := by kernel_rfl
    rw [hz]
    unfold Datum.order
    have hp : 0 < m <<< (e - min e double.leastPlace).toNat := by rw [Nat.shiftLeft_eq]; exact Nat.mul_pos (by omega) (Nat.two_pow_pos _)
    simp only [signed, Nat.zero_shiftLeft, Bool.false_eq_true, if_false, Option.some.injEq]
    generalize m <<< (e - min e double.leastPlace).toNat = K at *
    show compare (K : Int) ((0 : Nat) : Int) = .gt
    exact Int.compare_eq_gt.2 (by omega)
theorem ord32 (b : Nat) (h : b < 2139095040) : FloatKind.f32.format.order b b = some .eq := by
  show (single.read b).order (single.read b) = some .eq
  obtain ⟨m, e, h1, _⟩ := read_fin b h
  rw [h1]
  unfold Datum.order
  simp

/-- The quotient of two whole numbers, as a float's bits. -/
def fQuo (d n : Int) : Nat := (floatBits .quo .f32 (floatOfInt .f32 d) (floatOfInt .f32 n)).getD 0
theorem ofInt_fin {n : Int} (h0 : 0 ≤ n) (h1 : n < 8796093022208) : floatOfInt .f32 n < 2139095040 ∧ (1 ≤ n → 8388608 ≤ floatOfInt .f32 n) := by
  obtain ⟨m, rfl⟩ := Int.eq_ofNat_of_zero_le h0
  have e : floatOfInt .f32 (m : Int) = single.nearest false m 0 := by
    show single.nearest (decide ((m : Int) < 0)) (m : Int).natAbs 0 = _
    rw [decide_eq_false (by omega)]
    rfl
  rw [e]
  by_cases hm : m = 0
  · subst hm
    exact ⟨by decide +kernel, fun h => by omega⟩
  · have := nearest_pos m (by omega) (by omega)
    exact ⟨this.2, fun _ => this.1⟩
theorem fQuo_is {d n : Int} (d0 : 0 ≤ d) (d1 : d < 8796093022208) (n0 : 1 ≤ n) (n1 : n < 8796093022208) : floatBits .quo .f32 (floatOfInt .f32 d) (floatOfInt .f32 n) = some (fQuo d n) ∧ fQuo d n ≤ 2139095040 := by
  obtain ⟨a, _⟩ := ofInt_fin d0 d1
  obtain ⟨b, c⟩ := ofInt_fin (show 0 ≤ n by omega) n1
  obtain ⟨r, h1, h2⟩ := div_fin _ _ a (c n0) b
  have h3 : floatBits .quo .f32 (floatOfInt .f32 d) (floatOfInt .f32 n) = some r := h1
  unfold fQuo
  rw [h3]
  exact ⟨rfl, h2⟩
end Go.Proofs.Ytdaijapdfleohaa
