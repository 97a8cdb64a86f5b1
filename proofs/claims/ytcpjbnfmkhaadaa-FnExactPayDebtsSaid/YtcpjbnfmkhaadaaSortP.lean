/-
  Rearrangements of a row: an exchange, a rotation; a row in order. No program in sight. No condition.
-/
import Derived.Test.YtcpjbnfmkhaadaaBase
namespace Go.Proofs.Ytcpjbnfmkhaadaa
open Go.RowKit
set_option linter.unusedVariables false

/-- A rearrangement of the places from lo on below hi. -/
def Mix (lo hi : Nat) (f f' : Nat → Int) : Prop :=
  ∃ s t : Nat → Nat, (∀ i, t (s i) = i) ∧ (∀ i, s (t i) = i) ∧ (∀ i, (i < lo ∨ hi ≤ i) → s i = i) ∧ ∀ i, f' i = f (s i)
theorem Mix.refl (lo hi : Nat) (f : Nat → Int) : Mix lo hi f f := ⟨id, id, fun _ => rfl, fun _ => rfl, fun _ _ => rfl, fun _ => rfl⟩
theorem Mix.trans {lo hi : Nat} {f f1 f2 : Nat → Int} (h : Mix lo hi f f1) (h' : Mix lo hi f1 f2) : Mix lo hi f f2 := by
  obtain ⟨s, t, a, b, c, d⟩ := h
  obtain ⟨s', t', a', b', c', d'⟩ := h'
  refine ⟨fun i => s (s' i), fun i => t' (t i), fun i => by show t' (t (s (s' i))) = i; rw [a, a'], fun i => by show s (s' (t' (t i))) = i; rw [b', b], fun i hi => ?_, fun i => by rw [d', d]⟩
  show s (s' i) = i
  rw [c' i hi, c i hi]
theorem Mix.mono {lo hi lo' hi' : Nat} {f f' : Nat → Int} (h : Mix lo hi f f') (h1 : lo' ≤ lo) (h2 : hi ≤ hi') : Mix lo' hi' f f' := by
  obtain ⟨s, t, a, b, c, d⟩ := h
  exact ⟨s, t, a, b, fun i hi => c i (by omega), d⟩
theorem Mix.out {lo hi : Nat} {f f' : Nat → Int} (h : Mix lo hi f f') (i : Nat) (hi' : i < lo ∨ hi ≤ i) : f' i = f i := by
  obtain ⟨s, t, a, b, c, d⟩ := h
  rw [d, c i hi']
/-- Whatever stands at a place of the new row stood at a place of the old one. -/
theorem Mix.from {lo hi : Nat} {f f' : Nat → Int} (h : Mix lo hi f f') (i : Nat) (h1 : lo ≤ i) (h2 : i < hi) : ∃ j, lo ≤ j ∧ j < hi ∧ f' i = f j := by
  obtain ⟨s, t, a, b, c, d⟩ := h
  refine ⟨s i, ?_, ?_, d i⟩
  · rcases Nat.lt_or_ge (s i) lo with h3 | h3
    · have := c (s i) (.inl h3)
      have e := congrArg t this
      rw [a, a] at e
      omega
    · exact h3
  · rcases Nat.lt_or_ge (s i) hi with h3 | h3
    · exact h3
    · have := c (s i) (.inr h3)
      have e := congrArg t this
      rw [a, a] at e
      omega
theorem Mix.all {lo hi : Nat} {f f' : Nat → Int} (h : Mix lo hi f f') {Q : Int → Prop} (hq : ∀ i, lo ≤ i → i < hi → Q (f i)) : ∀ i, lo ≤ i → i < hi → Q (f' i) := fun i h1 h2 => by
  obtain ⟨j, j1, j2, e⟩ := h.from i h1 h2
  rw [e]
  exact hq j j1 j2
theorem Mix.inj {n : Nat} {f f' : Nat → Int} (h : Mix 0 n f f') (hf : ∀ i j, i < n → j < n → f i = f j → i = j) : ∀ i j, i < n → j < n → f' i = f' j → i = j := by
  obtain ⟨s, t, a, b, c, d⟩ := h
  have key : ∀ i, i < n → s i < n := fun i hi => by
    rcases Nat.lt_or_ge (s i) n with h3 | h3
    · exact h3
    · have := c (s i) (.inr h3)
      have e := congrArg t this
      rw [a, a] at e
      omega
  intro i j hi hj e
  rw [d, d] at e
  have e1 := hf _ _ (key i hi) (key j hj) e
  have := congrArg t e1
  rwa [a, a] at this

/-- Two places exchanged. -/
def swp (f : Nat → Int) (i j : Nat) : Nat → Int := fun k => if k = i then f j else if k = j then f i else f k
theorem Mix.swp {lo hi : Nat} (f : Nat → Int) {i j : Nat} (i1 : lo ≤ i) (i2 : i < hi) (j1 : lo ≤ j) (j2 : j < hi) : Mix lo hi f (swp f i j) := by
  have inv : ∀ k, (fun k => if k = i then j else if k = j then i else k) ((fun k => if k = i then j else if k = j then i else k) k) = k := fun k => by
    show (if (if k = i then j else if k = j then i else k) = i then j else if (if k = i then j else if k = j then i else k) = j then i else (if k = i then j else if k = j then i else k)) = k
    repeat' split
    all_goals omega
  refine ⟨fun k => if k = i then j else if k = j then i else k, fun k => if k = i then j else if k = j then i else k, inv, inv, fun k hk => ?_, fun k => ?_⟩
  · show (if k = i then j else if k = j then i else k) = k
    repeat' split
    all_goals omega
  · show Go.Proofs.Ytcpjbnfmkhaadaa.swp f i j k = f (if k = i then j else if k = j then i else k)
    unfold Go.Proofs.Ytcpjbnfmkhaadaa.swp
    repeat' split
    all_goals rfl
/-- Two ranges of one length exchanged. -/
def swr (f : Nat → Int) (a b n : Nat) : Nat → Int := fun k => if a ≤ k ∧ k < a + n then f (k - a + b) else if b ≤ k ∧ k < b + n then f (k - b + a) else f k
theorem swr_zero (f : Nat → Int) (a b : Nat) : swr f a b 0 = f := by
  funext k
  unfold swr
  rw [if_neg (by omega), if_neg (by omega)]
theorem swr_succ (f : Nat → Int) {a b n : Nat} (h : a + n < b) : swp (swr f a b n) (a + n) (b + n) = swr f a b (n + 1) := by
  funext k
  unfold swp swr
  repeat' split
  all_goals first
    | (exfalso; omega)
    | rfl
    | (congr 1; omega)
/-- Two ranges, one behind the other, exchanged. -/
def rot (f : Nat → Int) (a m b : Nat) : Nat → Int := fun k => if a ≤ k ∧ k < a + (b - m) then f (k + (m - a)) else if a + (b - m) ≤ k ∧ k < b then f (k - (b - m)) else f k
theorem Mix.rot (f : Nat → Int) {a m b : Nat} (h1 : a ≤ m) (h2 : m ≤ b) : Mix a b f (rot f a m b) := by
  refine ⟨fun k => if a ≤ k ∧ k < a + (b - m) then k + (m - a) else if a + (b - m) ≤ k ∧ k < b then k - (b - m) else k, fun k => if a ≤ k ∧ k < m then k + (b - m) else if m ≤ k ∧ k < b then k - (m - a) else k, fun k => ?_, fun k => ?_, fun k hk => ?_, fun k => ?_⟩
  · dsimp only
    repeat' split
    all_goals omega
  · dsimp only
    repeat' split
    all_goals omega
  · dsimp only
    repeat' split
    all_goals omega
  · unfold Go.Proofs.Ytcpjbnfmkhaadaa.rot
    dsimp only
    repeat' split
    all_goals first | rfl | (exfalso; omega)
theorem rot_eq (f : Nat → Int) {m i : Nat} (h : i ≤ m) : rot f (m - i) m (m + i) = swr f (m - i) m i := by
  funext k
  unfold rot swr
  repeat' split
  all_goals first
    | (exfalso; omega)
    | rfl
    | (congr 1; omega)
theorem rot_gt (f : Nat → Int) {m i j : Nat} (h : i ≤ m) (hj : j < i) : rot f (m - i) m (m + j) = rot (swr f (m - i) m j) (m - (i - j)) m (m + j) := by
  funext k
  unfold rot swr
  repeat' split
  all_goals first
    | (exfalso; omega)
    | rfl
    | (congr 1; omega)
theorem rot_lt (f : Nat → Int) {m i j : Nat} (h : i ≤ m) (hj : i < j) : rot f (m - i) m (m + j) = rot (swr f (m - i) (m + j - i) i) (m - i) m (m + (j - i)) := by
  funext k
  unfold rot swr
  repeat' split
  all_goals first
    | (exfalso; omega)
    | rfl
    | (congr 1; omega)
end Go.Proofs.Ytcpjbnfmkhaadaa
