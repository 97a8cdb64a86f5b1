/-
  What is left over in a kind is at least 0 and no more than its lines are. No program in sight. No condition.
-/
import Derived.Test.YtnikfcaloielaaaSpreadP
import Derived.Test.YtnikfcaloielaaaRnd
namespace Go.Proofs.Ytnikfcaloielaaa
open Go.RowKit
set_option linter.unusedVariables false

theorem sum_congr {f g : Nat → Int} : ∀ n, (∀ i, i < n → f i = g i) → sumTo f n = sumTo g n := by
  intro n
  induction n with
  | zero => intro _; rfl
  | succ n ih =>
    intro h
    show sumTo f n + f n = sumTo g n + g n
    rw [ih (fun i hi => h i (by omega)), h n (by omega)]
theorem sum_add (f g : Nat → Int) : ∀ n, sumTo (fun i => f i + g i) n = sumTo f n + sumTo g n := by
  intro n
  induction n with
  | zero => rfl
  | succ n ih =>
    show sumTo (fun i => f i + g i) n + (f n + g n) = (sumTo f n + f n) + (sumTo g n + g n)
    omega
theorem sum_zero : ∀ n, sumTo (fun _ => 0) n = 0 := by
  intro n
  induction n with
  | zero => rfl
  | succ n ih => show sumTo (fun _ => 0) n + 0 = 0; omega
theorem sum_swap (h : Nat → Nat → Int) (n : Nat) : ∀ m, sumTo (fun p => sumTo (fun i => h p i) n) m = sumTo (fun i => sumTo (fun p => h p i) m) n := by
  intro m
  induction m with
  | zero => exact (sum_zero n).symm
  | succ m ih =>
    show sumTo (fun p => sumTo (fun i => h p i) n) m + sumTo (fun i => h m i) n = _
    rw [ih, ← sum_add]
    rfl
theorem sum_one (g : Nat → Int) (x : Int) (hx : 0 ≤ x) : ∀ m : Nat, sumTo (fun i => if x = i then g i else 0) m = if x < m then g x.toNat else 0 := by
  intro m
  induction m with
  | zero => rw [if_neg (by omega)]; rfl
  | succ m ih =>
    show sumTo (fun i => if x = i then g i else 0) m + (if x = m then g m else 0) = _
    rw [ih]
    by_cases h : x = m
    · rw [if_pos h, if_neg (by omega), if_pos (by omega), show x.toNat = m by omega]; omega
    · rw [if_neg h]
      by_cases h2 : x < m
      · rw [if_pos h2, if_pos (by omega)]; omega
      · rw [if_neg h2, if_neg (by omega)]; rfl
theorem sum_hit {o : Nat → Int} {n : Nat} (ho : Ord o n) (c : Int) {i : Nat} (hi : i < n) : sumTo (fun p => if o p = i then c else 0) n = c := by
  obtain ⟨p0, hp0, e0⟩ := ho.sur i hi
  have key : ∀ m, m ≤ n → sumTo (fun p => if o p = i then c else 0) m = if p0 < m then c else 0 := by
    intro m
    induction m with
    | zero => intro _; rw [if_neg (by omega)]; rfl
    | succ m ih =>
      intro hm
      show sumTo (fun p => if o p = i then c else 0) m + (if o m = i then c else 0) = _
      rw [ih (by omega)]
      by_cases h : m = p0
      · subst h
        rw [if_neg (by omega), if_pos e0, if_pos (by omega)]; omega
      · have hne : o m ≠ i := fun e => h (ho.inj m p0 (by omega) hp0 (by omega))
        rw [if_neg hne]
        by_cases h2 : p0 < m
        · rw [if_pos h2, if_pos (by omega)]; omega
        · rw [if_neg h2, if_neg (by omega)]; rfl
  rw [key n (Nat.le_refl _), if_pos hp0]
theorem sum_perm {o : Nat → Int} {n : Nat} (ho : Ord o n) (g : Nat → Int) : sumTo (fun p => g (o p).toNat) n = sumTo g n := by
  have e1 : sumTo (fun p => g (o p).toNat) n = sumTo (fun p => sumTo (fun i => if o p = (i : Int) then g i else 0) n) n := sum_congr n (fun p hp => by
    have := ho.rng p hp
    rw [sum_one g (o p) this.1 n, if_pos this.2])
  rw [e1, sum_swap]
  exact sum_congr n (fun i hi => sum_hit ho (g i) hi)
/-- How many lines are of a kind. -/
def cnt (kd : Nat → Int) (k : Int) (n : Nat) : Int := sumTo (fun i => if kd i = k then 1 else 0) n
theorem cj_cnt {kd o : Nat → Int} {n : Nat} (ho : Ord o n) (k : Int) : (cj kd o k n : Int) = cnt kd k n := by
  have key : ∀ m, (cj kd o k m : Int) = sumTo (fun p => if kd (o p).toNat = k then (1 : Int) else 0) m := by
    intro m
    induction m with
    | zero => rfl
    | succ m ih =>
      show ((cj kd o k m + (if kd (o m).toNat = k then 1 else 0) : Nat) : Int) = sumTo (fun p => if kd (o p).toNat = k then (1 : Int) else 0) m + (if kd (o m).toNat = k then 1 else 0)
      rw [← ih]
      split <;> omega
  rw [key n]
  exact sum_perm ho (fun i => if kd i = k then 1 else 0)
theorem rnd_zero_mod {a r : Int} (h : a % 10000 = 0) : rnd a 10000 r = a / 10000 := by
  unfold rnd up
  rw [h]
  simp
theorem rnd_two (a r : Int) : rnd a 10000 r = a / 10000 ∨ rnd a 10000 r = a / 10000 + 1 := by
  unfold rnd
  split
  · exact .inr rfl
  · exact .inl (by omega)
/-- So much is left over, if rests are less than 10000 each. -/
theorem left_bd {Q R c r : Int} (hR0 : 0 ≤ R) (hc0 : 0 ≤ c) (hR : R ≤ 9999 * c) : 0 ≤ rnd (10000 * Q + R) 10000 r - Q ∧ rnd (10000 * Q + R) 10000 r - Q ≤ c := by
  have e : (10000 * Q + R) / 10000 = Q + R / 10000 := by omega
  by_cases h : c = 0
  · have h0 : R = 0 := by omega
    have hm : (10000 * Q + R) % 10000 = 0 := by omega
    rw [rnd_zero_mod hm, e]
    omega
  · rcases rnd_two (10000 * Q + R) r with h1 | h1
    · rw [h1, e]; omega
    · rw [h1, e]; omega
end Go.Proofs.Ytnikfcaloielaaa
