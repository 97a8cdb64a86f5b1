/-
  Parts by the greatest rests: what is left over goes to the greatest rests, the first of alike ones. No program in sight. No condition.
-/
import Derived.Test.YtcpjbnfmkhaadaaSortQ
import Derived.Test.YtcpjbnfmkhaadaaSettleP
import Derived.Test.YtcpjbnfmkhaadaaTab
namespace Go.Proofs.Ytcpjbnfmkhaadaa
open Go.RowKit
set_option linter.unusedVariables false

/-- The first of the greatest of the first k numbers. -/
def gB (R : Nat → Int) : Nat → Nat
  | 0 => 0
  | k + 1 => if R (gB R k) < R k then k else gB R k
theorem gB_lt (R : Nat → Int) : ∀ k, 0 < k → gB R k < k := by
  intro k
  induction k with
  | zero => intro h; omega
  | succ k ih =>
    intro _
    simp only [gB]
    split
    · omega
    · rcases Nat.eq_zero_or_pos k with h | h
      · subst h; simp [gB]
      · have := ih h; omega
theorem gB_one (R : Nat → Int) : gB R 1 = 0 := by simp [gB]
/-- It is ahead of all others. -/
def Best (R : Nat → Int) (n b : Nat) : Prop := b < n ∧ ∀ i, i < n → i ≠ b → R i < R b ∨ (R i = R b ∧ b < i)
theorem gB_best (R : Nat → Int) : ∀ k, 0 < k → Best R k (gB R k) := by
  intro k
  induction k with
  | zero => intro h; omega
  | succ k ih =>
    intro _
    rcases Nat.eq_zero_or_pos k with h | h
    · subst h
      rw [gB_one]
      exact ⟨by omega, fun i h1 h2 => by omega⟩
    · have I := ih h
      simp only [gB]
      split
      · rename_i hl
        refine ⟨by omega, fun i h1 h2 => .inl ?_⟩
        by_cases e : i = gB R k
        · rw [e]; exact hl
        · have := I.2 i (by omega) e
          omega
      · rename_i hl
        have := I.1
        refine ⟨by omega, fun i h1 h2 => ?_⟩
        by_cases e : i = k
        · subst e
          omega
        · exact I.2 i (by omega) h2
theorem Best.uniq {R : Nat → Int} {n b b' : Nat} (h : Best R n b) (h' : Best R n b') : b = b' := by
  rcases Nat.lt_trichotomy b b' with e | e | e
  · have x := h.2 b' h'.1 (by omega)
    have y := h'.2 b h.1 (by omega)
    omega
  · exact e
  · have x := h.2 b' h'.1 (by omega)
    have y := h'.2 b h.1 (by omega)
    omega
theorem best_gB {R : Nat → Int} {n b : Nat} (h : Best R n b) : gB R n = b := (gB_best R n (by have := h.1; omega)).uniq h

/-- The rests after some picks, and the parts. -/
def gR (r : Nat → Int) (n : Nat) : Nat → Nat → Int
  | 0 => r
  | j + 1 => upd (gR r n j) (gB (gR r n j) n) (-1)
def gO (q r : Nat → Int) (n : Nat) : Nat → Nat → Int
  | 0 => q
  | j + 1 => upd (gO q r n j) (gB (gR r n j) n) (gO q r n j (gB (gR r n j) n) + 1)
theorem gR_cases (r : Nat → Int) (n : Nat) : ∀ j i, gR r n j i = r i ∨ gR r n j i = -1 := by
  intro j
  induction j with
  | zero => intro i; exact .inl rfl
  | succ j ih =>
    intro i
    simp only [gR, upd]
    split
    · exact .inr rfl
    · exact ih i
theorem gO_bd {q r : Nat → Int} {n : Nat} {M : Int} (h : ∀ i, i < n → 0 ≤ q i ∧ q i ≤ M) : ∀ j i, i < n → 0 ≤ gO q r n j i ∧ gO q r n j i ≤ M + j := by
  intro j
  induction j with
  | zero => intro i hi; have := h i hi; show 0 ≤ q i ∧ q i ≤ M + (0 : Nat); omega
  | succ j ih =>
    intro i hi
    have := ih i hi
    simp only [gO, upd]
    split
    · rename_i e; subst e; omega
    · omega
/-- How many are picked. -/
def cneg (R : Nat → Int) (n : Nat) : Int := sumTo (fun i => if R i < 0 then 1 else 0) n
theorem cneg_upd (R : Nat → Int) (k : Nat) (n : Nat) : cneg (upd R k (-1)) n ≤ cneg R n + 1 := by
  have e : (fun i => if upd R k (-1) i < 0 then (1 : Int) else 0) = upd (fun i => if R i < 0 then (1 : Int) else 0) k 1 := by
    funext i
    unfold upd
    by_cases c : i = k
    · simp [c]
    · simp [c]
  unfold cneg
  rw [e, sumTo_upd]
  split
  · split <;> omega
  · omega
theorem cneg_gR {r : Nat → Int} {n : Nat} (h : ∀ i, i < n → 0 ≤ r i) : ∀ j, cneg (gR r n j) n ≤ j := by
  intro j
  induction j with
  | zero =>
    have : ∀ m, m ≤ n → sumTo (fun i => if r i < 0 then (1 : Int) else 0) m = 0 := by
      intro m
      induction m with
      | zero => intro _; rfl
      | succ m ih =>
        intro hm
        have := ih (by omega)
        have := h m (by omega)
        show sumTo _ m + (if r m < 0 then (1 : Int) else 0) = 0
        rw [if_neg (by omega)]
        omega
    have h0 : cneg (gR r n 0) n = 0 := this n (Nat.le_refl _)
    omega
  | succ j ih =>
    have := cneg_upd (gR r n j) (gB (gR r n j) n) n
    simp only [gR]
    omega
theorem gR_some {r : Nat → Int} {n : Nat} (h : ∀ i, i < n → 0 ≤ r i) {j : Nat} (hj : j < n) : ∃ i, i < n ∧ 0 ≤ gR r n j i := by
  apply Classical.byContradiction
  intro hc
  have all : ∀ m, m ≤ n → sumTo (fun i => if gR r n j i < 0 then (1 : Int) else 0) m = m := by
    intro m
    induction m with
    | zero => intro _; rfl
    | succ m ih =>
      intro hm
      have := ih (by omega)
      have : ¬ 0 ≤ gR r n j m := fun x => hc ⟨m, by omega, x⟩
      show sumTo _ m + (if gR r n j m < 0 then (1 : Int) else 0) = _
      rw [if_pos (by omega)]
      omega
  have a := all n (Nat.le_refl _)
  have b := cneg_gR h j
  unfold cneg at b
  omega
theorem gR_top {r : Nat → Int} {n : Nat} (h : ∀ i, i < n → 0 ≤ r i) {j : Nat} (hj : j < n) : 0 ≤ gR r n j (gB (gR r n j) n) := by
  obtain ⟨i, h1, h2⟩ := gR_some h hj
  have b := gB_best (gR r n j) n (by omega)
  by_cases e : i = gB (gR r n j) n
  · rw [← e]; exact h2
  · have := b.2 i h1 e
    omega

/-- The key of a place: the greater its rest, the more ahead. -/
def pkey (r : Nat → Int) (z : Int) : Int := -(r z.toNat)
def ido (i : Nat) : Int := i
theorem ido_rng (n : Nat) : Rng n ido 0 n := fun i h1 h2 => by show (0 : Int) ≤ (i : Int) ∧ (i : Int) < n; omega
/-- A rearrangement of the first places. -/
structure Ord (o : Nat → Int) (n : Nat) : Prop where
  rng : ∀ i, i < n → 0 ≤ o i ∧ o i < n
  inj : ∀ i j, i < n → j < n → o i = o j → i = j
  sur : ∀ k : Nat, k < n → ∃ i, i < n ∧ o i = k
theorem Ord.of {o : Nat → Int} {n : Nat} (h : Mix 0 n ido o) : Ord o n := by
  have hr : ∀ i, i < n → 0 ≤ o i ∧ o i < n := fun i hi => by
    obtain ⟨j, _, h2, h3⟩ := h.from i (Nat.zero_le _) hi
    rw [h3]
    show (0 : Int) ≤ (j : Int) ∧ (j : Int) < n
    omega
  obtain ⟨s, t, a, b, c, d⟩ := h
  refine ⟨hr, fun i j hi hj e => ?_, fun k hk => ?_⟩
  · rw [d, d] at e
    have e2 : s i = s j := by
      have : ((s i : Nat) : Int) = ((s j : Nat) : Int) := e
      omega
    have := congrArg t e2
    rwa [a, a] at this
  · have e : o (t k) = k := by rw [d, b]; rfl
    refine ⟨t k, ?_, e⟩
    rcases Nat.lt_or_ge (t k) n with h3 | h3
    · exact h3
    · have h4 := c (t k) (.inr h3)
      rw [b] at h4
      omega
theorem pick_order {r o : Nat → Int} {n : Nat} (hr : ∀ i, i < n → 0 ≤ r i) (ho : Ord o n) (hs : Srt (pkey r) o 0 n) : ∀ j, j ≤ n → ∀ i, i < n → gR r n j i = if (∃ p, p < j ∧ o p = i) then -1 else r i := by
  intro j
  induction j with
  | zero =>
    intro _ i hi
    rw [if_neg (by rintro ⟨p, hp, _⟩; omega)]
    rfl
  | succ j ih =>
    intro hj i hi
    have ih := ih (by omega)
    have hb : gB (gR r n j) n = (o j).toNat := by
      have x := ho.rng j (by omega)
      refine best_gB ⟨by omega, fun i hi hne => ?_⟩
      have np : ¬ ∃ p, p < j ∧ o p = ((o j).toNat : Int) := by
        rintro ⟨p, hp, e⟩
        have := ho.inj p j (by omega) (by omega) (by omega)
        omega
      rw [ih _ (show (o j).toNat < n by omega), if_neg np, ih i hi]
      have r0 := hr (o j).toNat (by omega)
      split
      · exact .inl (by omega)
      · rename_i hn
        obtain ⟨p, hp, e⟩ := ho.sur i hi
        have hpj : j < p := by
          rcases Nat.lt_trichotomy p j with c | c | c
          · exact absurd ⟨p, c, e⟩ hn
          · subst c; omega
          · exact c
        have k := hs j p (Nat.zero_le _) hpj hp
        unfold Ahead pkey at k
        rw [e] at k
        have e3 : ((i : Nat) : Int).toNat = i := by omega
        rw [e3] at k
        omega
    simp only [gR]
    rw [hb]
    have x := ho.rng j (by omega)
    by_cases c : i = (o j).toNat
    · rw [c, upd_at, if_pos ⟨j, by omega, by omega⟩]
    · rw [upd_ne _ _ c, ih i hi]
      by_cases c2 : ∃ p, p < j ∧ o p = i
      · obtain ⟨p, h1, h2⟩ := c2
        rw [if_pos ⟨p, h1, h2⟩, if_pos ⟨p, by omega, h2⟩]
      · rw [if_neg c2, if_neg (by
          rintro ⟨p, h1, h2⟩
          by_cases e : p = j
          · subst e; omega
          · exact c2 ⟨p, by omega, h2⟩)]
theorem pick_at {r o : Nat → Int} {n : Nat} (hr : ∀ i, i < n → 0 ≤ r i) (ho : Ord o n) (hs : Srt (pkey r) o 0 n) {j : Nat} (hj : j < n) : (gB (gR r n j) n : Int) = o j := by
  have x := ho.rng j hj
  have hp := pick_order hr ho hs j (by omega)
  have : gB (gR r n j) n = (o j).toNat := by
    refine best_gB ⟨by omega, fun i hi hne => ?_⟩
    have np : ¬ ∃ p, p < j ∧ o p = ((o j).toNat : Int) := by
      rintro ⟨p, hp, e⟩
      have := ho.inj p j (by omega) (by omega) (by omega)
      omega
    rw [hp _ (show (o j).toNat < n by omega), if_neg np, hp i hi]
    have r0 := hr (o j).toNat (by omega)
    split
    · exact .inl (by omega)
    · rename_i hn
      obtain ⟨p, hp, e⟩ := ho.sur i hi
      have hpj : j < p := by
        rcases Nat.lt_trichotomy p j with c | c | c
        · exact absurd ⟨p, c, e⟩ hn
        · subst c; omega
        · exact c
      have k := hs j p (Nat.zero_le _) hpj hp
      unfold Ahead pkey at k
      rw [e] at k
      have e3 : ((i : Nat) : Int).toNat = i := by omega
      rw [e3] at k
      omega
  omega

theorem sum_up {f : Nat → Int} {n : Nat} (h : ∀ i, i < n → 0 ≤ f i) : ∀ m k, k + m ≤ n → sumTo f k ≤ sumTo f (k + m) := by
  intro m
  induction m with
  | zero => intro k _; exact Int.le_refl _
  | succ m ih =>
    intro k hk
    have := ih k (by omega)
    have := h (k + m) (by omega)
    show sumTo f k ≤ sumTo f (k + m) + f (k + m)
    omega
/-- What the shares by weights leave over. -/
def pQ (c : Int) (f : Nat → Int) (s : Int) (i : Nat) : Int := c * f i / s
def pR (c : Int) (f : Nat → Int) (s : Int) (i : Nat) : Int := c * f i % s
def pL (c : Int) (f : Nat → Int) (s : Int) (k : Nat) : Int := c - sumTo (pQ c f s) k
theorem pR_bd {c : Int} {f : Nat → Int} {s : Int} (hs : 0 < s) (i : Nat) : 0 ≤ pR c f s i ∧ pR c f s i < s := ⟨Int.emod_nonneg _ (by omega), Int.emod_lt_of_pos _ hs⟩
theorem pQ_bd {c : Int} {f : Nat → Int} {s : Int} (hs : 0 < s) (hc : 0 ≤ c) {i : Nat} (h0 : 0 ≤ f i) (h1 : f i ≤ s) : 0 ≤ pQ c f s i ∧ pQ c f s i ≤ c := by
  refine ⟨Int.ediv_nonneg (Int.mul_nonneg hc h0) (by omega), Int.ediv_le_of_le_mul hs (Int.mul_le_mul_of_nonneg_left h1 hc)⟩
theorem pL_eq {c : Int} {f : Nat → Int} {s : Int} : ∀ k, s * sumTo (pQ c f s) k + sumTo (pR c f s) k = c * sumTo f k := by
  intro k
  induction k with
  | zero => simp [sumTo]
  | succ k ih =>
    simp only [sumTo, Int.mul_add]
    have := Int.mul_ediv_add_emod (c * f k) s
    unfold pQ pR at *
    omega
theorem pR_sum {c : Int} {f : Nat → Int} {s : Int} (hs : 0 < s) : ∀ k, 0 ≤ sumTo (pR c f s) k ∧ sumTo (pR c f s) k ≤ s * k ∧ (0 < k → sumTo (pR c f s) k < s * k) := by
  intro k
  induction k with
  | zero => simp [sumTo]
  | succ k ih =>
    have := pR_bd (c := c) (f := f) hs k
    have e : s * ((k + 1 : Nat) : Int) = s * k + s := by rw [show ((k + 1 : Nat) : Int) = (k : Int) + 1 by omega, Int.mul_add, Int.mul_one]
    simp only [sumTo]
    rw [e]
    omega
theorem pL_bd {c : Int} {f : Nat → Int} {n : Nat} (hn : 0 < n) (hs : 0 < sumTo f n) : 0 ≤ pL c f (sumTo f n) n ∧ pL c f (sumTo f n) n < n := by
  have e := pL_eq (c := c) (f := f) (s := sumTo f n) n
  have b := pR_sum (c := c) (f := f) hs n
  unfold pL
  generalize sumTo (pQ c f (sumTo f n)) n = Q at *
  generalize sumTo (pR c f (sumTo f n)) n = R at *
  generalize sumTo f n = s at *
  have e2 : s * (c - Q) = R := by rw [Int.mul_sub, Int.mul_comm s c]; omega
  have b3 := b.2.2 hn
  constructor
  · apply Classical.byContradiction
    intro h
    have : s * (c - Q) ≤ s * (-1) := Int.mul_le_mul_of_nonneg_left (by omega) (by omega)
    omega
  · apply Classical.byContradiction
    intro h
    have : s * (n : Int) ≤ s * (c - Q) := Int.mul_le_mul_of_nonneg_left (by omega) (by omega)
    omega
theorem pL_step {c : Int} {f : Nat → Int} {s : Int} (k : Nat) : pL c f s (k + 1) = pL c f s k - pQ c f s k := by unfold pL; simp only [sumTo]; omega
theorem pL_lo {c : Int} {f : Nat → Int} {n : Nat} (hc : 0 ≤ c) (hf : ∀ i, i < n → 0 ≤ f i) (hs : 0 < sumTo f n) : ∀ k, k ≤ n → 0 ≤ pL c f (sumTo f n) k ∧ pL c f (sumTo f n) k ≤ c := by
  intro k hk
  have q0 : ∀ i, i < n → 0 ≤ pQ c f (sumTo f n) i := fun i hi => Int.ediv_nonneg (Int.mul_nonneg hc (hf i hi)) (by omega)
  have a := sumTo_nonneg q0 k hk
  have e := pL_eq (c := c) (f := f) (s := sumTo f n) k
  have b := (pR_sum (c := c) (f := f) hs k).1
  have m : sumTo f k ≤ sumTo f n := by
    have := sum_up hf (n - k) k (by omega)
    rwa [show k + (n - k) = n by omega] at this
  unfold pL
  generalize sumTo (pQ c f (sumTo f n)) k = Q at *
  generalize sumTo f n = s at *
  have m2 : c * sumTo f k ≤ c * s := Int.mul_le_mul_of_nonneg_left m hc
  refine ⟨?_, by omega⟩
  apply Classical.byContradiction
  intro h
  have : s * (c + 1) ≤ s * Q := Int.mul_le_mul_of_nonneg_left (by omega) (by omega)
  rw [Int.mul_add, Int.mul_one, Int.mul_comm s c] at this
  omega

/-- The parts. -/
def ptO (c : Int) (f : Nat → Int) (n : Nat) : Nat → Int := gO (pQ c f (sumTo f n)) (pR c f (sumTo f n)) n (pL c f (sumTo f n) n).toNat
theorem tab_len8s {f : Nat → Int} {k : Nat} (h : k < 100) : (tab f k).length < 100000000 := by rw [tab_length]; omega
end Go.Proofs.Ytcpjbnfmkhaadaa
