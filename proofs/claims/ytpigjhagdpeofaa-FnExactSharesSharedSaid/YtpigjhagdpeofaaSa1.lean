/-
  Rearrangements of a row: an exchange, a rotation; a row in order. No program in sight. No condition.
  Insertion and merging keep a row in order: by a key, and by the numbers themselves where keys are one. No program in sight. No condition.
  Whether all of some numbers lie in a range, and their sum. No program in sight. No condition.
  What a call leaves as it was: all blocks but some. Rows of a call's own told by their rule. No program in sight. No condition.
  How balances are settled, in plain numbers. No program in sight. No condition.
  Parts by the greatest rests: what is left over goes to the greatest rests, the first of alike ones. No program in sight. No condition.
  Two rows of a call's own that share no memory: one integer appended to one of them. No program in sight. Conditions as the law says.
  A row of truth values in memory of the call's own, made and written; an append of one integer that spares all other blocks. No program in sight. Conditions as the laws say.
-/
import Derived.Test.YtpigjhagdpeofaaSm4
import Derived.Test.YtpigjhagdpeofaaSm12
import Derived.Maps.AppendAt

namespace Go.Proofs.Ytpigjhagdpeofaa
open Go.RowKit
set_option linter.unusedVariables false

/-- A rearrangement of the places from lo on below hi. -/
def Mix (lo hi : Nat) (f f' : Nat → Int) : Prop :=
  ∃ s t : Nat → Nat, (∀ i, t (s i) = i) ∧ (∀ i, s (t i) = i) ∧ (∀ i, (i < lo ∨ hi ≤ i) → s i = i) ∧ ∀ i, f' i = f (s i)
theorem Mix.refl (lo hi : Nat) (f : Nat → Int) : Mix lo hi f f := ⟨id, id, fun _ => rfl, fun _ => rfl, fun _ _ => rfl, fun _ => rfl⟩
theorem Mix.trans {lo hi : Nat} {f f1 f2 : Nat → Int} (h : Mix lo hi f f1) (h' : Mix lo hi f1 f2) : Mix lo hi f f2 := by
  obtain ⟨s, t, a, b, c, d⟩ := h
  obtain ⟨s', t', a', b', c', d'⟩ := h'
  refine ⟨fun i => s (s' i), fun i => t' (t i), fun i => by show t' (t (s (s' i))) = i; rw [a, a'], fun i => by show s (s' (t' (t i))) = i; rw [b', b], fun i hi => ?_, fun i => by rw [d', d]⟩
  show s (s' i) = i
  rw [c' i hi, c i hi]
theorem Mix.mono {lo hi lo' hi' : Nat} {f f' : Nat → Int} (h : Mix lo hi f f') (h1 : lo' ≤ lo) (h2 : hi ≤ hi') : Mix lo' hi' f f' := by
  obtain ⟨s, t, a, b, c, d⟩ := h
  exact ⟨s, t, a, b, fun i hi => c i (by omega), d⟩
theorem Mix.out {lo hi : Nat} {f f' : Nat → Int} (h : Mix lo hi f f') (i : Nat) (hi' : i < lo ∨ hi ≤ i) : f' i = f i := by
  obtain ⟨s, t, a, b, c, d⟩ := h
  rw [d, c i hi']
/-- Whatever stands at a place of the new row stood at a place of the old one. -/
theorem Mix.from {lo hi : Nat} {f f' : Nat → Int} (h : Mix lo hi f f') (i : Nat) (h1 : lo ≤ i) (h2 : i < hi) : ∃ j, lo ≤ j ∧ j < hi ∧ f' i = f j := by
  obtain ⟨s, t, a, b, c, d⟩ := h
  refine ⟨s i, ?_, ?_, d i⟩
  · rcases Nat.lt_or_ge (s i) lo with h3 | h3
    · have := c (s i) (.inl h3)
      have e := congrArg t this
      rw [a, a] at e
      omega
    · exact h3
  · rcases Nat.lt_or_ge (s i) hi with h3 | h3
    · exact h3
    · have := c (s i) (.inr h3)
      have e := congrArg t this
      rw [a, a] at e
      omega
theorem Mix.all {lo hi : Nat} {f f' : Nat → Int} (h : Mix lo hi f f') {Q : Int → Prop} (hq : ∀ i, lo ≤ i → i < hi → Q (f i)) : ∀ i, lo ≤ i → i < hi → Q (f' i) := fun i h1 h2 => by
  obtain ⟨j, j1, j2, e⟩ := h.from i h1 h2
  rw [e]
  exact hq j j1 j2
theorem Mix.inj {n : Nat} {f f' : Nat → Int} (h : Mix 0 n f f') (hf : ∀ i j, i < n → j < n → f i = f j → i = j) : ∀ i j, i < n → j < n → f' i = f' j → i = j := by
  obtain ⟨s, t, a, b, c, d⟩ := h
  have key : ∀ i, i < n → s i < n := fun i hi => by
    rcases Nat.lt_or_ge (s i) n with h3 | h3
    · exact h3
    · have := c (s i) (.inr h3)
      have e := congrArg t this
      rw [a, a] at e
      omega
  intro i j hi hj e
  rw [d, d] at e
  have e1 := hf _ _ (key i hi) (key j hj) e
  have := congrArg t e1
  rwa [a, a] at this

/-- Two places exchanged. -/
def swp (f : Nat → Int) (i j : Nat) : Nat → Int := fun k => if k = i then f j else if k = j then f i else f k
theorem Mix.swp {lo hi : Nat} (f : Nat → Int) {i j : Nat} (i1 : lo ≤ i) (i2 : i < hi) (j1 : lo ≤ j) (j2 : j < hi) : Mix lo hi f (swp f i j) := by
  have inv : ∀ k, (fun k => if k = i then j else if k = j then i else k) ((fun k => if k = i then j else if k = j then i else k) k) = k := fun k => by
    show (if (if k = i then j else if k = j then i else k) = i then j else if (if k = i then j else if k = j then i else k) = j then i else (if k = i then j else if k = j then i else k)) = k
    repeat' split
    all_goals omega
  refine ⟨fun k => if k = i then j else if k = j then i else k, fun k => if k = i then j else if k = j then i else k, inv, inv, fun k hk => ?_, fun k => ?_⟩
  · show (if k = i then j else if k = j then i else k) = k
    repeat' split
    all_goals omega
  · show Go.Proofs.Ytpigjhagdpeofaa.swp f i j k = f (if k = i then j else if k = j then i else k)
    unfold Go.Proofs.Ytpigjhagdpeofaa.swp
    repeat' split
    all_goals rfl
/-- Two ranges of one length exchanged. -/
def swr (f : Nat → Int) (a b n : Nat) : Nat → Int := fun k => if a ≤ k ∧ k < a + n then f (k - a + b) else if b ≤ k ∧ k < b + n then f (k - b + a) else f k
theorem swr_zero (f : Nat → Int) (a b : Nat) : swr f a b 0 = f := by
  funext k
  unfold swr
  rw [if_neg (by omega), if_neg (by omega)]
theorem swr_succ (f : Nat → Int) {a b n : Nat} (h : a + n < b) : swp (swr f a b n) (a + n) (b + n) = swr f a b (n + 1) := by
  funext k
  unfold swp swr
  repeat' split
  all_goals first
    | (exfalso; omega)
    | rfl
    | (congr 1; omega)
/-- Two ranges, one behind the other, exchanged. -/
def rot (f : Nat → Int) (a m b : Nat) : Nat → Int := fun k => if a ≤ k ∧ k < a + (b - m) then f (k + (m - a)) else if a + (b - m) ≤ k ∧ k < b then f (k - (b - m)) else f k
theorem Mix.rot (f : Nat → Int) {a m b : Nat} (h1 : a ≤ m) (h2 : m ≤ b) : Mix a b f (rot f a m b) := by
  refine ⟨fun k => if a ≤ k ∧ k < a + (b - m) then k + (m - a) else if a + (b - m) ≤ k ∧ k < b then k - (b - m) else k, fun k => if a ≤ k ∧ k < m then k + (b - m) else if m ≤ k ∧ k < b then k - (m - a) else k, fun k => ?_, fun k => ?_, fun k hk => ?_, fun k => ?_⟩
  · dsimp only
    repeat' split
    all_goals omega
  · dsimp only
    repeat' split
    all_goals omega
  · dsimp only
    repeat' split
    all_goals omega
  · unfold Go.Proofs.Ytpigjhagdpeofaa.rot
    dsimp only
    repeat' split
    all_goals first | rfl | (exfalso; omega)
theorem rot_eq (f : Nat → Int) {m i : Nat} (h : i ≤ m) : rot f (m - i) m (m + i) = swr f (m - i) m i := by
  funext k
  unfold rot swr
  repeat' split
  all_goals first
    | (exfalso; omega)
    | rfl
    | (congr 1; omega)
theorem rot_gt (f : Nat → Int) {m i j : Nat} (h : i ≤ m) (hj : j < i) : rot f (m - i) m (m + j) = rot (swr f (m - i) m j) (m - (i - j)) m (m + j) := by
  funext k
  unfold rot swr
  repeat' split
  all_goals first
    | (exfalso; omega)
    | rfl
    | (congr 1; omega)
theorem rot_lt (f : Nat → Int) {m i j : Nat} (h : i ≤ m) (hj : i < j) : rot f (m - i) m (m + j) = rot (swr f (m - i) (m + j - i) i) (m - i) m (m + (j - i)) := by
  funext k
  unfold rot swr
  repeat' split
  all_goals first
    | (exfalso; omega)
    | rfl
    | (congr 1; omega)
end Go.Proofs.Ytpigjhagdpeofaa

namespace Go.Proofs.Ytpigjhagdpeofaa
open Go.RowKit
set_option linter.unusedVariables false

/-- x stands ahead of y. -/
def Ahead (key : Int → Int) (x y : Int) : Prop := key x < key y ∨ (key x = key y ∧ x < y)
theorem Ahead.trans {key : Int → Int} {x y z : Int} (h : Ahead key x y) (h' : Ahead key y z) : Ahead key x z := by unfold Ahead at *; omega
theorem Ahead.key {key : Int → Int} {x y : Int} (h : key x < key y) : Ahead key x y := .inl h
theorem Ahead.idx {key : Int → Int} {x y : Int} (h : ¬ key y < key x) (hi : x < y) : Ahead key x y := by unfold Ahead; omega
def Srt (key : Int → Int) (f : Nat → Int) (lo hi : Nat) : Prop := ∀ i j, lo ≤ i → i < j → j < hi → Ahead key (f i) (f j)
def Rng (n : Nat) (f : Nat → Int) (lo hi : Nat) : Prop := ∀ i, lo ≤ i → i < hi → 0 ≤ f i ∧ f i < n
def Lower (f : Nat → Int) (a m b : Nat) : Prop := ∀ p q, a ≤ p → p < m → m ≤ q → q < b → f p < f q
theorem Rng.mix {n lo hi : Nat} {f f' : Nat → Int} (h : Rng n f 0 n) (hm : Mix lo hi f f') (hh : hi ≤ n) : Rng n f' 0 n := (hm.mono (Nat.zero_le _) hh).all (Q := fun x => 0 ≤ x ∧ x < n) h
theorem Srt.le {key : Int → Int} {f : Nat → Int} {lo hi : Nat} (h : Srt key f lo hi) {i j : Nat} (h1 : lo ≤ i) (h2 : i ≤ j) (h3 : j < hi) : f i = f j ∨ Ahead key (f i) (f j) := by
  rcases Nat.lt_or_ge i j with h4 | h4
  · exact .inr (h i j h1 h4 h3)
  · obtain rfl : i = j := by omega
    exact .inl rfl
theorem Srt.sub {key : Int → Int} {f : Nat → Int} {lo hi lo' hi' : Nat} (h : Srt key f lo hi) (h1 : lo ≤ lo') (h2 : hi' ≤ hi) : Srt key f lo' hi' := fun i j a b c => h i j (by omega) b (by omega)

theorem Ahead.kle {key : Int → Int} {x y : Int} (h : Ahead key x y) : key x ≤ key y := by unfold Ahead at h; omega
theorem Srt.kle {key : Int → Int} {f : Nat → Int} {lo hi : Nat} (h : Srt key f lo hi) {i j : Nat} (h1 : lo ≤ i) (h2 : i ≤ j) (h3 : j < hi) : key (f i) ≤ key (f j) := by
  rcases h.le h1 h2 h3 with h4 | h4
  · rw [h4]; exact Int.le_refl _
  · exact h4.kle

def AllLess (key : Int → Int) (f : Nat → Int) (y : Int) (lo hi : Nat) : Prop := ∀ q, lo ≤ q → q < hi → key (f q) < key y
def NoneLess (key : Int → Int) (f : Nat → Int) (y : Int) (lo hi : Nat) : Prop := ∀ q, lo ≤ q → q < hi → ¬ key (f q) < key y
def AllMore (key : Int → Int) (f : Nat → Int) (y : Int) (lo hi : Nat) : Prop := ∀ q, lo ≤ q → q < hi → key y < key (f q)
def NoneMore (key : Int → Int) (f : Nat → Int) (y : Int) (lo hi : Nat) : Prop := ∀ q, lo ≤ q → q < hi → ¬ key y < key (f q)

/-- The inner loop of the insertion. -/
structure InsI (key : Int → Int) (f h : Nat → Int) (a i j : Nat) : Prop where
  mix : Mix a (i + 1) f h
  aj : a ≤ j
  ji : j ≤ i
  s : ∀ p q, a ≤ p → p < q → q ≤ i → p ≠ j → q ≠ j → Ahead key (h p) (h q)
  u : ∀ q, j < q → q ≤ i → Ahead key (h j) (h q)
  l : ∀ p, a ≤ p → p ≤ i → p ≠ j → h p < h j
theorem InsI.start {key : Int → Int} {f h : Nat → Int} {a b i : Nat} (hf : ∀ p q, a ≤ p → p < q → q < b → f p < f q) (hm : Mix a i f h) (hs : Srt key h a i) (h1 : a ≤ i) (h2 : i < b) : InsI key f h a i i := by
  have e := hm.out i (.inr (Nat.le_refl _))
  refine ⟨hm.mono (Nat.le_refl _) (by omega), h1, Nat.le_refl _, fun p q ha hpq hq h3 h4 => hs p q ha hpq (by omega), fun q h3 h4 => by omega, fun p ha hp hne => ?_⟩
  obtain ⟨p', x1, x2, x3⟩ := hm.from p ha (by omega)
  rw [x3, e]
  exact hf p' i x1 x2 h2
theorem InsI.step {key : Int → Int} {f h : Nat → Int} {a i jp : Nat} (I : InsI key f h a i (jp + 1)) (haj : a ≤ jp) (hk : key (h (jp + 1)) < key (h jp)) : InsI key f (swp h (jp + 1) jp) a i jp := by
  have hj := I.ji
  have e1 : swp h (jp + 1) jp jp = h (jp + 1) := by unfold swp; rw [if_neg (by omega), if_pos rfl]
  have e2 : swp h (jp + 1) jp (jp + 1) = h jp := by unfold swp; rw [if_pos rfl]
  have e3 : ∀ k, k ≠ jp → k ≠ jp + 1 → swp h (jp + 1) jp k = h k := fun k a b => by unfold swp; rw [if_neg b, if_neg a]
  refine ⟨I.mix.trans (Mix.swp h (by omega) (by omega) haj (by omega)), haj, by omega, fun p q ha hpq hq h3 h4 => ?_, fun q h3 h4 => ?_, fun p ha hp hne => ?_⟩
  · by_cases c1 : p = jp + 1
    · subst c1
      rw [e2, e3 q (by omega) (by omega)]
      exact I.s jp q haj (by omega) hq (by omega) (by omega)
    · rw [e3 p h3 c1]
      by_cases c2 : q = jp + 1
      · subst c2
        rw [e2]
        exact I.s p jp ha (by omega) (by omega) (by omega) (by omega)
      · rw [e3 q h4 c2]
        exact I.s p q ha hpq hq (by omega) (by omega)
  · rw [e1]
    by_cases c2 : q = jp + 1
    · subst c2
      rw [e2]
      exact .inl hk
    · rw [e3 q (by omega) c2]
      exact I.u q (by omega) h4
  · rw [e1]
    by_cases c1 : p = jp + 1
    · subst c1
      rw [e2]
      exact I.l jp haj (by omega) (by omega)
    · rw [e3 p hne c1]
      exact I.l p ha hp c1
theorem InsI.stop {key : Int → Int} {f h : Nat → Int} {a i j : Nat} (I : InsI key f h a i j) (hs : j = a ∨ ¬ key (h j) < key (h (j - 1))) : Srt key h a (i + 1) := by
  intro p q ha hpq hq
  have hj := I.ji
  by_cases c2 : q = j
  · subst c2
    have h1 : ¬ key (h q) < key (h (q - 1)) := by omega
    have h2 := Ahead.idx h1 (I.l (q - 1) (by omega) (by omega) (by omega))
    by_cases c3 : p = q - 1
    · subst c3; exact h2
    · exact (I.s p (q - 1) ha (by omega) (by omega) (by omega) (by omega)).trans h2
  · by_cases c1 : p = j
    · subst c1; exact I.u q hpq (by omega)
    · exact I.s p q ha hpq (by omega) c1 c2

/-- The row, cut and turned at a place that the search has found. -/
theorem rot_at1 (h : Nat → Int) {s m e k : Nat} (h1 : s ≤ m) (h2 : m ≤ e) (hk : s ≤ k) (hk2 : k < s + (e - m)) : rot h s m e k = h (k + (m - s)) := if_pos ⟨hk, hk2⟩
theorem rot_at2 (h : Nat → Int) {s m e k : Nat} (h1 : s ≤ m) (h2 : m ≤ e) (hk : s + (e - m) ≤ k) (hk2 : k < e) : rot h s m e k = h (k - (e - m)) := by unfold rot; rw [if_neg (by omega), if_pos ⟨hk, hk2⟩]
theorem rot_at3 (h : Nat → Int) {s m e k : Nat} (h1 : s ≤ m) (h2 : m ≤ e) (hk : k < s ∨ e ≤ k) : rot h s m e k = h k := by unfold rot; rw [if_neg (by omega), if_neg (by omega)]
theorem rot_triv (h : Nat → Int) {s m e : Nat} (h1 : s = m ∨ m = e) (h2 : s ≤ m) (h3 : m ≤ e) : rot h s m e = h := by
  funext k
  unfold rot
  repeat' split
  all_goals first
    | rfl
    | (exfalso; omega)
    | (congr 1; omega)
structure Cut (key : Int → Int) (h : Nat → Int) (a s mid m e b : Nat) : Prop where
  aS : a ≤ s
  sm : s ≤ m
  me : m ≤ e
  eb : e ≤ b
  sum : s + e = mid + m
  s1 : Srt key h a m
  s2 : Srt key h m b
  lw : Lower h a m b
  x1 : a < s → e < b → Ahead key (h (s - 1)) (h e)
  x2 : m < e → s < m → Ahead key (h (e - 1)) (h s)
theorem Cut.srt1 {key : Int → Int} {h : Nat → Int} {a s mid m e b : Nat} (C : Cut key h a s mid m e b) : Srt key (rot h s m e) a s := fun i j h1 h2 h3 => by
  have := C.sm; have := C.me
  rw [rot_at3 h C.sm C.me (by omega), rot_at3 h C.sm C.me (by omega)]
  exact C.s1 i j h1 h2 (by omega)
theorem Cut.srt2 {key : Int → Int} {h : Nat → Int} {a s mid m e b : Nat} (C : Cut key h a s mid m e b) : Srt key (rot h s m e) s mid := fun i j h1 h2 h3 => by
  have := C.sm; have := C.me; have := C.sum; have := C.eb
  rw [rot_at1 h C.sm C.me (by omega) (by omega), rot_at1 h C.sm C.me (by omega) (by omega)]
  exact C.s2 _ _ (by omega) (by omega) (by omega)
theorem Cut.srt3 {key : Int → Int} {h : Nat → Int} {a s mid m e b : Nat} (C : Cut key h a s mid m e b) : Srt key (rot h s m e) mid e := fun i j h1 h2 h3 => by
  have := C.sm; have := C.me; have := C.sum; have := C.aS
  rw [rot_at2 h C.sm C.me (by omega) (by omega), rot_at2 h C.sm C.me (by omega) (by omega)]
  exact C.s1 _ _ (by omega) (by omega) (by omega)
theorem Cut.srt4 {key : Int → Int} {h : Nat → Int} {a s mid m e b : Nat} (C : Cut key h a s mid m e b) : Srt key (rot h s m e) e b := fun i j h1 h2 h3 => by
  have := C.sm; have := C.me
  rw [rot_at3 h C.sm C.me (by omega), rot_at3 h C.sm C.me (by omega)]
  exact C.s2 i j (by omega) h2 h3
theorem Cut.lw1 {key : Int → Int} {h : Nat → Int} {a s mid m e b : Nat} (C : Cut key h a s mid m e b) : Lower (rot h s m e) a s mid := fun p q h1 h2 h3 h4 => by
  have := C.sm; have := C.me; have := C.sum; have := C.eb
  rw [rot_at3 h C.sm C.me (by omega), rot_at1 h C.sm C.me (by omega) (by omega)]
  exact C.lw _ _ h1 (by omega) (by omega) (by omega)
theorem Cut.lw2 {key : Int → Int} {h : Nat → Int} {a s mid m e b : Nat} (C : Cut key h a s mid m e b) : Lower (rot h s m e) mid e b := fun p q h1 h2 h3 h4 => by
  have := C.sm; have := C.me; have := C.sum; have := C.aS
  rw [rot_at2 h C.sm C.me (by omega) (by omega), rot_at3 h C.sm C.me (by omega)]
  exact C.lw _ _ (by omega) (by omega) (by omega) h4
theorem Cut.cross {key : Int → Int} {h : Nat → Int} {a s mid m e b : Nat} (C : Cut key h a s mid m e b) : ∀ p q, a ≤ p → p < mid → mid ≤ q → q < b → Ahead key (rot h s m e p) (rot h s m e q) := fun p q h1 h2 h3 h4 => by
  have k1 := C.sm; have k2 := C.me; have k3 := C.sum; have k4 := C.aS; have k5 := C.eb
  by_cases c1 : p < s
  · rw [rot_at3 h k1 k2 (.inl c1)]
    by_cases c2 : q < e
    · rw [rot_at2 h k1 k2 (by omega) c2]
      exact C.s1 _ _ h1 (by omega) (by omega)
    · rw [rot_at3 h k1 k2 (by omega)]
      have x := C.x1 (by omega) (by omega)
      have y : Ahead key (h p) (h e) := by
        rcases C.s1.le h1 (show p ≤ s - 1 by omega) (by omega) with z | z
        · rw [z]; exact x
        · exact z.trans x
      rcases C.s2.le (show m ≤ e by omega) (show e ≤ q by omega) h4 with z | z
      · rw [← z]; exact y
      · exact y.trans z
  · rw [rot_at1 h k1 k2 (by omega) (by omega)]
    by_cases c2 : q < e
    · rw [rot_at2 h k1 k2 (by omega) c2]
      have x := C.x2 (by omega) (by omega)
      have y : Ahead key (h (p + (m - s))) (h s) := by
        rcases C.s2.le (show m ≤ p + (m - s) by omega) (show p + (m - s) ≤ e - 1 by omega) (by omega) with z | z
        · rw [z]; exact x
        · exact z.trans x
      rcases C.s1.le (show a ≤ s by omega) (show s ≤ q - (e - m) by omega) (by omega) with z | z
      · rw [← z]; exact y
      · exact y.trans z
    · rw [rot_at3 h k1 k2 (by omega)]
      exact C.s2 _ _ (by omega) (by omega) h4
theorem srt_join {key : Int → Int} {h1 h2 h3 : Nat → Int} {a mid b : Nat} (hx : ∀ p q, a ≤ p → p < mid → mid ≤ q → q < b → Ahead key (h1 p) (h1 q)) (m1 : Mix a mid h1 h2) (m2 : Mix mid b h2 h3) (s1 : Srt key h2 a mid) (s2 : Srt key h3 mid b) : Srt key h3 a b := fun i j x1 x2 x3 => by
  rcases Nat.lt_or_ge i mid with c1 | c1
  · rw [m2.out i (.inl c1)]
    rcases Nat.lt_or_ge j mid with c2 | c2
    · rw [m2.out j (.inl c2)]
      exact s1 i j x1 x2 c2
    · obtain ⟨i', y1, y2, y3⟩ := m1.from i x1 c1
      obtain ⟨j', z1, z2, z3⟩ := m2.from j c2 x3
      rw [y3, z3, m1.out j' (.inr z1)]
      exact hx i' j' y1 y2 z1 z2
  · exact s2 i j c1 x2 x3
/-- The first element put in its place among the rest. -/
theorem srt_first {key : Int → Int} {h : Nat → Int} {a i b : Nat} (h1 : a + 1 ≤ i) (h2 : i ≤ b) (s2 : Srt key h (a + 1) b) (lw : Lower h a (a + 1) b) (l : ∀ q, a + 1 ≤ q → q < i → key (h q) < key (h a)) (r : ∀ q, i ≤ q → q < b → ¬ key (h q) < key (h a)) : Srt key (rot h a (a + 1) i) a b := fun p q x1 x2 x3 => by
  have k1 : a ≤ a + 1 := Nat.le_succ _
  by_cases c1 : p < i - 1
  · rw [rot_at1 h k1 h1 x1 (by omega)]
    by_cases c2 : q < i - 1
    · rw [rot_at1 h k1 h1 (by omega) (by omega)]
      exact s2 _ _ (by omega) (by omega) (by omega)
    · by_cases c3 : q < i
      · rw [rot_at2 h k1 h1 (by omega) c3, show q - (i - (a + 1)) = a by omega]
        exact .inl (l _ (by omega) (by omega))
      · rw [rot_at3 h k1 h1 (.inr (by omega))]
        exact s2 _ _ (by omega) (by omega) x3
  · by_cases c3 : p < i
    · rw [rot_at2 h k1 h1 (by omega) c3, show p - (i - (a + 1)) = a by omega, rot_at3 h k1 h1 (.inr (by omega))]
      exact Ahead.idx (r q (by omega) x3) (lw a q (Nat.le_refl _) (by omega) (by omega) x3)
    · rw [rot_at3 h k1 h1 (.inr (by omega)), rot_at3 h k1 h1 (.inr (by omega))]
      exact s2 _ _ (by omega) x2 x3
/-- The last element put in its place among the rest. -/
theorem srt_last {key : Int → Int} {h : Nat → Int} {a i m : Nat} (h1 : a ≤ i) (h2 : i ≤ m) (s1 : Srt key h a m) (lw : Lower h a m (m + 1)) (l : ∀ q, a ≤ q → q < i → ¬ key (h m) < key (h q)) (r : ∀ q, i ≤ q → q < m → key (h m) < key (h q)) : Srt key (rot h i m (m + 1)) a (m + 1) := fun p q x1 x2 x3 => by
  have k2 : m ≤ m + 1 := Nat.le_succ _
  by_cases c1 : p < i
  · rw [rot_at3 h h2 k2 (.inl c1)]
    by_cases c2 : q < i
    · rw [rot_at3 h h2 k2 (.inl c2)]
      exact s1 _ _ x1 x2 (by omega)
    · by_cases c3 : q = i
      · rw [rot_at1 h h2 k2 (by omega) (by omega), show q + (m - i) = m by omega]
        exact Ahead.idx (l p x1 c1) (lw p m x1 (by omega) (Nat.le_refl _) (by omega))
      · rw [rot_at2 h h2 k2 (by omega) x3]
        exact s1 _ _ x1 (by omega) (by omega)
  · by_cases c3 : p = i
    · rw [rot_at1 h h2 k2 (by omega) (by omega), show p + (m - i) = m by omega, rot_at2 h h2 k2 (by omega) x3]
      exact .inl (r _ (by omega) (by omega))
    · rw [rot_at2 h h2 k2 (by omega) (by omega), rot_at2 h h2 k2 (by omega) x3]
      exact s1 _ _ (by omega) (by omega) (by omega)
theorem rot_up (h : Nat → Int) {a k : Nat} (hk : a ≤ k) : swp (rot h a (a + 1) (k + 1)) k (k + 1) = rot h a (a + 1) (k + 1 + 1) := by
  funext q
  unfold swp rot
  repeat' split
  all_goals first
    | (exfalso; omega)
    | rfl
    | (congr 1; omega)
theorem rot_down (h : Nat → Int) {k m : Nat} (hk : k + 1 ≤ m) : swp (rot h (k + 1) m (m + 1)) (k + 1) k = rot h k m (m + 1) := by
  funext q
  unfold swp rot
  repeat' split
  all_goals first
    | (exfalso; omega)
    | rfl
    | (congr 1; omega)
end Go.Proofs.Ytpigjhagdpeofaa

namespace Go.Proofs.Ytpigjhagdpeofaa
open Go.RowKit

/-- Whether the first n numbers lie in a range. -/
def allW (f : Nat → Int) (l h : Int) : Nat → Bool
  | 0 => true
  | k + 1 => allW f l h k && win (f k) l h
theorem allW_iff {f : Nat → Int} {l h : Int} {n : Nat} : allW f l h n = true ↔ ∀ i, i < n → l ≤ f i ∧ f i ≤ h := by
  induction n with
  | zero => simp [allW]
  | succ n ih =>
    simp only [allW, Bool.and_eq_true, ih, win_iff]
    constructor
    · rintro ⟨h1, h2⟩ i hi
      rcases Nat.lt_succ_iff_lt_or_eq.1 hi with h3 | rfl
      · exact h1 i h3
      · exact h2
    · exact fun h => ⟨fun i hi => h i (by omega), h n (by omega)⟩
theorem allW_false {f : Nat → Int} {l h : Int} {n : Nat} (k : Nat) (hk : k < n) (hf : win (f k) l h = false) : allW f l h n = false := by
  cases ha : allW f l h n
  · rfl
  · have := win_iff.2 (allW_iff.1 ha k hk)
    rw [hf] at this; cases this
theorem allW_succ {f : Nat → Int} {l h : Int} {k : Nat} (h1 : allW f l h k = true) (h2 : win (f k) l h = true) : allW f l h (k + 1) = true := by simp [allW, h1, h2]

/-- Whether there are so many numbers, all of them in a range. -/
def cntB (f : Nat → Int) (n : Nat) (a b l h : Int) : Bool := win n a b && allW f l h n
theorem cntB_iff {f : Nat → Int} {n : Nat} {a b l h : Int} : cntB f n a b l h = true ↔ (a ≤ n ∧ (n : Int) ≤ b) ∧ ∀ i, i < n → l ≤ f i ∧ f i ≤ h := by
  simp only [cntB, Bool.and_eq_true, win_iff, allW_iff]

theorem cnt_no {f : Nat → Int} {n : Nat} {a b l h : Int} (z : win n a b = false) : cntB f n a b l h = false := by simp only [cntB, z]; rfl
theorem cnt_no2 {f : Nat → Int} {n : Nat} {a b l h : Int} (z : allW f l h n = false) : cntB f n a b l h = false := by simp only [cntB, z]; simp
/-- The sum of the first n numbers. -/
def sumTo (f : Nat → Int) : Nat → Int
  | 0 => 0
  | k + 1 => sumTo f k + f k
theorem sumTo_bd {f : Nat → Int} {l h : Int} {n : Nat} (hf : ∀ i, i < n → l ≤ f i ∧ f i ≤ h) (hl : l ≤ 0) (hh : 0 ≤ h) : ∀ k, k ≤ n → l * n ≤ sumTo f k ∧ sumTo f k ≤ h * n := by
  have key : ∀ k, k ≤ n → l * k ≤ sumTo f k ∧ sumTo f k ≤ h * k := by
    intro k
    induction k with
    | zero => intro _; simp [sumTo]
    | succ k ih =>
      intro hk
      have h1 := ih (by omega)
      have h2 := hf k (by omega)
      simp only [sumTo]
      rw [show ((k + 1 : Nat) : Int) = (k : Int) + 1 from by omega, Int.mul_add, Int.mul_add, Int.mul_one, Int.mul_one]
      omega
  intro k hk
  have h1 := key k hk
  have h2 : l * (n : Int) ≤ l * k := Int.mul_le_mul_of_nonpos_left hl (by omega)
  have h3 : h * (k : Int) ≤ h * n := Int.mul_le_mul_of_nonneg_left (by omega) hh
  omega
theorem sumTo_nonneg {f : Nat → Int} {n : Nat} (hf : ∀ i, i < n → 0 ≤ f i) : ∀ k, k ≤ n → 0 ≤ sumTo f k := by
  intro k
  induction k with
  | zero => intro _; simp [sumTo]
  | succ k ih => intro hk; have := ih (by omega); have := hf k (by omega); simp only [sumTo]; omega
end Go.Proofs.Ytpigjhagdpeofaa

namespace Go.Proofs.Ytpigjhagdpeofaa
open Go.RowKit
set_option linter.unusedVariables false

/-- A call that changes no block but those of S, and new ones. -/
structure Kept (S : Nat → Prop) (w w' : World) : Prop where
  os : w'.os = w.os
  tape : w'.tape = w.tape
  output : w'.output = w.output
  size : w.heap.size ≤ w'.heap.size
  block : ∀ k, k < w.heap.size → ¬ S k → w'.heap[k]? = w.heap[k]?
theorem Kept.refl (S : Nat → Prop) (w : World) : Kept S w w := ⟨rfl, rfl, rfl, Nat.le_refl _, fun _ _ _ => rfl⟩
theorem Kept.trans {S : Nat → Prop} {w w1 w2 : World} (h : Kept S w w1) (h' : Kept S w1 w2) : Kept S w w2 :=
  ⟨h'.os.trans h.os, h'.tape.trans h.tape, h'.output.trans h.output, Nat.le_trans h.size h'.size, fun k hk hd => (h'.block k (Nat.lt_of_lt_of_le hk h.size) hd).trans (h.block k hk hd)⟩
theorem Kept.more {S S' : Nat → Prop} {w w' : World} (h : Kept S w w') (hs : ∀ k, S k → S' k) : Kept S' w w' :=
  ⟨h.os, h.tape, h.output, h.size, fun k hk hd => h.block k hk (fun e => hd (hs k e))⟩
theorem Kept.setCell {S : Nat → Prop} {a w : World} (h : Kept S a w) {p : Addr} (h1 : S p.block) (u : Value) : Kept S a (w.setCell p u) :=
  ⟨h.os, h.tape, h.output, by simpa using h.size, fun k hk hd => (Below.heap_setCell _ _ _ _ (by intro e; exact hd (e ▸ h1))).trans (h.block k hk hd)⟩
theorem Kept.drewN' {S : Nat → Prop} {a w : World} (h : Kept S a w) (n : Nat) : Kept S a (w.drewN n) := by
  induction n with
  | zero => exact h
  | succ n ih => exact ⟨ih.os, ih.tape, ih.output, ih.size, ih.block⟩
theorem Kept.quiet {S : Nat → Prop} {a w w' : World} (h : Kept S a w) (hq : ∃ n, w' = w.drewN n) : Kept S a w' := by
  obtain ⟨n, rfl⟩ := hq
  exact Kept.drewN' h n
theorem Below.kept {S : Nat → Prop} {w w' : World} (h : Below w.heap.size w w') : Kept S w w' := ⟨h.os, h.tape, h.output, h.size, fun k hk _ => h.block k hk⟩
theorem Kept.next {S : Nat → Prop} {a w w' : World} (h : Kept S a w) (hb : Below w.heap.size w w') : Kept S a w' := h.trans (Below.kept hb)
theorem Kept.toBelow {S : Nat → Prop} {B : Nat} {w w' : World} (h : Kept S w w') (hB : ∀ k, S k → B ≤ k) (hs : B ≤ w.heap.size) : Below B w w' :=
  ⟨h.os, h.tape, h.output, h.size, fun k hk => h.block k (by omega) (fun e => by have := hB k e; omega)⟩
theorem Kept.cellOf {S : Nat → Prop} {g i : Nat} {w w' : World} {v : Value} (ho : Kept S w w') (hd : ¬ S g) (h : w.cell? ⟨g, i, none⟩ = some v) : w'.cell? ⟨g, i, none⟩ = some v := by
  have hlt := World.block_lt_of_cell? w _ h
  have hb := ho.block g hlt hd
  unfold World.cell? at h ⊢
  rw [hb]
  exact h
theorem Kept.ints {S : Nat → Prop} {w w' : World} {g off n : Nat} {f : Nat → Int} (ho : Kept S w w') (hd : ¬ S g) (h : Ints w g off n f) : Ints w' g off n f := fun i hi => ho.cellOf hd (h i hi)
theorem Kept.own {S : Nat → Prop} {E : TypeId} {w w' : World} {B : Nat} {v : Value} {xs : List Int} (ho : Kept S w w') (h : Own E w B v xs) (hd : ∀ k, v.ownBlock = some k → ¬ S k) : Own E w' B v xs :=
  h.block fun k hk => ho.block k (h.lt k hk).2 (hd k hk)

/-- A row told by its rule: its cells, a write into it. -/
theorem Own.cellTab {E : TypeId} {w : World} {B g n c : Nat} {h : Nat → Int} (ho : Own E w B (.slice (some ⟨g, 0, none⟩) n c) (tab h n)) (i : Nat) (hi : i < n) : w.cell? ⟨g, i, none⟩ = some (.int .i64 (h i)) := by
  have := ho.cellAt i (by rw [tab_length]; exact hi)
  rwa [tab_get _ _ _ hi] at this
theorem Own.tabSet {E : TypeId} {w : World} {B g n c : Nat} {h : Nat → Int} (ho : Own E w B (.slice (some ⟨g, 0, none⟩) n c) (tab h n)) (h' : Nat → Int) (j : Nat) (hj : j < n) (y : Int) (hy : h' j = y) (e : ∀ i, i < n → i ≠ j → h i = h' i) :
    Own E (w.setCell ⟨g, j, none⟩ (.int .i64 y)) B (.slice (some ⟨g, 0, none⟩) n c) (tab h' n) := by
  have := ho.set (tab_length h n).symm j y
  rw [← hy] at this ⊢
  rwa [tab_set h h' n j hj e] at this
theorem Own.keep {E : TypeId} {w : World} {B g n c : Nat} {xs : List Int} (ho : Own E w B (.slice (some ⟨g, 0, none⟩) n c) xs) (p : Addr) (hp : p.block ≠ g) (u : Value) : Own E (w.setCell p u) B (.slice (some ⟨g, 0, none⟩) n c) xs :=
  ho.block fun k hk => Below.heap_setCell _ _ _ _ (by intro e; cases hk; exact hp e.symm)
theorem Own.lt0 {E : TypeId} {w : World} {B g n c : Nat} {xs : List Int} (ho : Own E w B (.slice (some ⟨g, 0, none⟩) n c) xs) : B ≤ g ∧ g < w.heap.size := ho.lt g rfl
/-- One number put in the place of another. -/
def upd (f : Nat → Int) (k : Nat) (y : Int) : Nat → Int := fun i => if i = k then y else f i
theorem upd_self (f : Nat → Int) (k : Nat) : upd f k (f k) = f := by
  funext i
  unfold upd
  split
  · rename_i h; rw [h]
  · rfl
theorem upd_at (f : Nat → Int) (k : Nat) (y : Int) : upd f k y k = y := if_pos rfl
theorem upd_ne (f : Nat → Int) {k i : Nat} (y : Int) (h : i ≠ k) : upd f k y i = f i := if_neg h
end Go.Proofs.Ytpigjhagdpeofaa

namespace Go.Proofs.Ytpigjhagdpeofaa
open Go.RowKit
set_option linter.unusedVariables false

/-- The first of the least, the first of the greatest. -/
def amn (b : Nat → Int) : Nat → Nat
  | 0 => 0
  | k + 1 => if b k < b (amn b k) then k else amn b k
def amx (b : Nat → Int) : Nat → Nat
  | 0 => 0
  | k + 1 => if b (amx b k) < b k then k else amx b k
theorem amn_lt (b : Nat → Int) : ∀ k, amn b k ≤ k ∧ (0 < k → amn b k < k) := by
  intro k
  induction k with
  | zero => simp [amn]
  | succ k ih =>
    simp only [amn]
    split
    · omega
    · rcases Nat.eq_zero_or_pos k with h | h
      · subst h; simp [amn]
      · have := ih.2 h; omega
theorem amx_lt (b : Nat → Int) : ∀ k, amx b k ≤ k ∧ (0 < k → amx b k < k) := by
  intro k
  induction k with
  | zero => simp [amx]
  | succ k ih =>
    simp only [amx]
    split
    · omega
    · rcases Nat.eq_zero_or_pos k with h | h
      · subst h; simp [amx]
      · have := ih.2 h; omega
theorem amn_le (b : Nat → Int) : ∀ k j, j < k → b (amn b k) ≤ b j := by
  intro k
  induction k with
  | zero => intro j h; omega
  | succ k ih =>
    intro j hj
    simp only [amn]
    rcases Nat.lt_succ_iff_lt_or_eq.1 hj with h | rfl
    · have := ih j h
      split <;> omega
    · split <;> omega
theorem amx_le (b : Nat → Int) : ∀ k j, j < k → b j ≤ b (amx b k) := by
  intro k
  induction k with
  | zero => intro j h; omega
  | succ k ih =>
    intro j hj
    simp only [amx]
    rcases Nat.lt_succ_iff_lt_or_eq.1 hj with h | rfl
    · have := ih j h
      split <;> omega
    · split <;> omega
theorem amn_first (b : Nat → Int) : ∀ k j, j < amn b k → b (amn b k) < b j := by
  intro k
  induction k with
  | zero => intro j h; simp [amn] at h
  | succ k ih =>
    intro j hj
    have hb := (amn_lt b k).1
    by_cases h : b k < b (amn b k)
    · simp only [amn, if_pos h] at hj ⊢
      rcases Nat.lt_or_ge j k with h1 | h1
      · have := amn_le b k j h1; omega
      · omega
    · simp only [amn, if_neg h] at hj ⊢
      exact ih j hj
theorem amx_first (b : Nat → Int) : ∀ k j, j < amx b k → b j < b (amx b k) := by
  intro k
  induction k with
  | zero => intro j h; simp [amx] at h
  | succ k ih =>
    intro j hj
    have hb := (amx_lt b k).1
    by_cases h : b (amx b k) < b k
    · simp only [amx, if_pos h] at hj ⊢
      rcases Nat.lt_or_ge j k with h1 | h1
      · have := amx_le b k j h1; omega
      · omega
    · simp only [amx, if_neg h] at hj ⊢
      exact ih j hj
theorem amn_min (b : Nat → Int) (k : Nat) : min (b (amn b k)) (b k) = b (amn b (k + 1)) := by simp only [amn]; split <;> omega
theorem amx_max (b : Nat → Int) (k : Nat) : max (b (amx b k)) (b k) = b (amx b (k + 1)) := by simp only [amx]; split <;> omega

theorem sumTo_upd (f : Nat → Int) (k : Nat) (y : Int) : ∀ n, sumTo (upd f k y) n = sumTo f n + (if k < n then y - f k else 0) := by
  intro n
  induction n with
  | zero => simp [sumTo]
  | succ n ih =>
    simp only [sumTo, ih]
    by_cases h : n = k
    · subst h; rw [upd_at, if_neg (by omega), if_pos (by omega)]; omega
    · rw [upd_ne _ _ h]
      by_cases h2 : k < n
      · rw [if_pos h2, if_pos (by omega)]; omega
      · rw [if_neg h2, if_neg (by omega)]; omega
theorem sumTo_ge {f : Nat → Int} : ∀ n, (∀ i, i < n → 0 ≤ f i) → ∀ i, i < n → f i ≤ sumTo f n := by
  intro n
  induction n with
  | zero => intro _ i h; omega
  | succ n ih =>
    intro h i hi
    have h0 := sumTo_nonneg (n := n) (fun i hi => h i (by omega)) n (Nat.le_refl _)
    have h1 := h n (by omega)
    simp only [sumTo]
    rcases Nat.lt_succ_iff_lt_or_eq.1 hi with h2 | rfl
    · have := ih (fun i hi => h i (by omega)) i h2; omega
    · omega
theorem sumTo_le {f : Nat → Int} : ∀ n, (∀ i, i < n → f i ≤ 0) → ∀ i, i < n → sumTo f n ≤ f i := by
  have neg : ∀ n, sumTo (fun i => -(f i)) n = -(sumTo f n) := by
    intro n
    induction n with
    | zero => rfl
    | succ n ih => simp only [sumTo, ih]; omega
  intro n h i hi
  have := sumTo_ge (f := fun i => -(f i)) n (fun i hi => by have := h i hi; omega) i hi
  rw [neg] at this
  omega
/-- How many are not 0. -/
def nzi (y : Int) : Nat := if y = 0 then 0 else 1
theorem nzi_le (y : Int) : nzi y ≤ 1 := by unfold nzi; split <;> omega
theorem nzi_no {y : Int} (h : y = 0) : nzi y = 0 := if_pos h
theorem nzi_yes {y : Int} (h : y ≠ 0) : nzi y = 1 := if_neg h
def nz (b : Nat → Int) : Nat → Nat
  | 0 => 0
  | k + 1 => nz b k + nzi (b k)
theorem nz_far (f : Nat → Int) (k : Nat) (y : Int) : ∀ n, n ≤ k → nz (upd f k y) n = nz f n := by
  intro n
  induction n with
  | zero => intro _; rfl
  | succ n ih => intro h; simp only [nz, ih (by omega)]; rw [upd_ne _ _ (by omega)]
theorem nz_upd (f : Nat → Int) (k : Nat) (y : Int) : ∀ n, k < n → nz (upd f k y) n + nzi (f k) = nz f n + nzi y := by
  intro n
  induction n with
  | zero => intro h; omega
  | succ n ih =>
    intro hk
    simp only [nz]
    by_cases h : n = k
    · subst h
      rw [nz_far f n y n (Nat.le_refl _), upd_at]
      omega
    · rw [upd_ne _ _ h]
      have := ih (by omega)
      omega
theorem nz_le (b : Nat → Int) : ∀ n, nz b n ≤ n := by
  intro n
  induction n with
  | zero => exact Nat.le_refl _
  | succ n ih => have := nzi_le (b n); simp only [nz]; omega

/-- What one settles, and what is left then. -/
def setX (b : Nat → Int) (n : Nat) : Int := min (-(b (amn b n))) (b (amx b n))
def setB (b : Nat → Int) (n : Nat) : Nat → Int := upd (upd b (amn b n) (b (amn b n) + setX b n)) (amx b n) (b (amx b n) - setX b n)
def setOut (n : Nat) : Nat → (Nat → Int) → List Int → List Int
  | 0, _, out => out
  | k + 1, b, out => if b (amx b n) = 0 then out else setOut n k (setB b n) (out ++ [((amn b n : Nat) : Int), ((amx b n : Nat) : Int), setX b n])
/-- Balances that are to be settled. -/
structure SetIs (b : Nat → Int) (n g : Nat) : Prop where
  r : ∀ i, i < n → -1000000000 ≤ b i ∧ b i ≤ 1000000000
  s : sumTo b n = 0
  z : nz b n < g
theorem set_end {b : Nat → Int} {n g : Nat} (h : SetIs b n g) (hn : 0 < n) (h0 : b (amx b n) = 0) : b (amn b n) = 0 := by
  have h1 := amx_le b n
  have h2 := sumTo_le (f := b) n (fun i hi => by have := h1 i hi; omega) (amn b n) ((amn_lt b n).2 hn)
  have h3 := h1 (amn b n) ((amn_lt b n).2 hn)
  have := h.s
  omega
theorem set_more {b : Nat → Int} {n g : Nat} (h : SetIs b n g) (hn : 0 < n) (h0 : b (amx b n) ≠ 0) : b (amn b n) < 0 ∧ 0 < b (amx b n) ∧ amn b n ≠ amx b n := by
  have h1 := amx_le b n
  have hl := (amn_lt b n).2 hn
  have hx := (amx_lt b n).2 hn
  have h4 : 0 < b (amx b n) := by
    rcases Int.lt_or_le 0 (b (amx b n)) with h5 | h5
    · exact h5
    · have h2 := sumTo_le (f := b) n (fun i hi => by have := h1 i hi; omega) (amx b n) hx
      have := h.s
      omega
  have h5 : b (amn b n) < 0 := by
    rcases Int.lt_or_le (b (amn b n)) 0 with h5 | h5
    · exact h5
    · have h6 := amn_le b n
      have h2 := sumTo_ge (f := b) n (fun i hi => by have := h6 i hi; omega) (amx b n) hx
      have := h.s
      omega
  exact ⟨h5, h4, fun e => by rw [e] at h5; omega⟩
theorem set_next {b : Nat → Int} {n g : Nat} (h : SetIs b n (g + 1)) (hn : 0 < n) (h0 : b (amx b n) ≠ 0) : SetIs (setB b n) n g := by
  obtain ⟨h1, h2, h3⟩ := set_more h hn h0
  have hl := (amn_lt b n).2 hn
  have hx := (amx_lt b n).2 hn
  have e : setX b n = min (-(b (amn b n))) (b (amx b n)) := rfl
  have r1 := h.r _ hl
  have r2 := h.r _ hx
  have u1 := upd_ne b (b (amn b n) + setX b n) (Ne.symm h3)
  refine ⟨fun i hi => ?_, ?_, ?_⟩
  · have := h.r i hi
    unfold setB upd
    split
    · omega
    · split <;> omega
  · unfold setB
    rw [sumTo_upd, sumTo_upd, if_pos hl, if_pos hx, u1, h.s]
    omega
  · have a := nz_upd b (amn b n) (b (amn b n) + setX b n) n hl
    have c := nz_upd (upd b (amn b n) (b (amn b n) + setX b n)) (amx b n) (b (amx b n) - setX b n) n hx
    rw [u1] at c
    have hz := h.z
    unfold setB
    rw [nzi_yes (show b (amn b n) ≠ 0 by omega)] at a
    rw [nzi_yes (show b (amx b n) ≠ 0 by omega)] at c
    by_cases hq : b (amn b n) + setX b n = 0
    · rw [nzi_no hq] at a
      have := nzi_le (b (amx b n) - setX b n)
      omega
    · rw [nzi_yes hq] at a
      rw [nzi_no (show b (amx b n) - setX b n = 0 by omega)] at c
      omega
def stlOk (f : Nat → Int) (n : Nat) : Bool := cntB f n 1 12 (-1000000000) 1000000000 && decide (sumTo f n = 0)
def stlL (f : Nat → Int) (n : Nat) : List Int := bif stlOk f n then setOut n (n + 1) f [] else []
theorem stl_no {f : Nat → Int} {n : Nat} (h : stlOk f n = false) : stlL f n = [] := by simp only [stlL, h, cond_false]
theorem stl_yes {f : Nat → Int} {n : Nat} (h : stlOk f n = true) : stlL f n = setOut n (n + 1) f [] := by simp only [stlL, h, cond_true]
theorem stl_is {f : Nat → Int} {n : Nat} (h : stlOk f n = true) : 0 < n ∧ n ≤ 12 ∧ SetIs f n (n + 1) := by
  obtain ⟨h1, h2⟩ := all_yes2 h
  obtain ⟨⟨a, b⟩, c⟩ := cntB_iff.1 h1
  have := nz_le f n
  exact ⟨by omega, by omega, c, of_decide_eq_true h2, by omega⟩
def SettleAccounts_r0 (xs : List Int) : List Int := stlL (fun i => xs.getD i 0) xs.length
def SettleAccounts_r1 (xs : List Int) : Bool := stlOk (fun i => xs.getD i 0) xs.length
end Go.Proofs.Ytpigjhagdpeofaa

namespace Go.Proofs.Ytpigjhagdpeofaa
open Go.RowKit
set_option linter.unusedVariables false

/-- The first of the greatest of the first k numbers. -/
def gB (R : Nat → Int) : Nat → Nat
  | 0 => 0
  | k + 1 => if R (gB R k) < R k then k else gB R k
theorem gB_lt (R : Nat → Int) : ∀ k, 0 < k → gB R k < k := by
  intro k
  induction k with
  | zero => intro h; omega
  | succ k ih =>
    intro _
    simp only [gB]
    split
    · omega
    · rcases Nat.eq_zero_or_pos k with h | h
      · subst h; simp [gB]
      · have := ih h; omega
theorem gB_one (R : Nat → Int) : gB R 1 = 0 := by simp [gB]
/-- It is ahead of all others. -/
def Best (R : Nat → Int) (n b : Nat) : Prop := b < n ∧ ∀ i, i < n → i ≠ b → R i < R b ∨ (R i = R b ∧ b < i)
theorem gB_best (R : Nat → Int) : ∀ k, 0 < k → Best R k (gB R k) := by
  intro k
  induction k with
  | zero => intro h; omega
  | succ k ih =>
    intro _
    rcases Nat.eq_zero_or_pos k with h | h
    · subst h
      rw [gB_one]
      exact ⟨by omega, fun i h1 h2 => by omega⟩
    · have I := ih h
      simp only [gB]
      split
      · rename_i hl
        refine ⟨by omega, fun i h1 h2 => .inl ?_⟩
        by_cases e : i = gB R k
        · rw [e]; exact hl
        · have := I.2 i (by omega) e
          omega
      · rename_i hl
        have := I.1
        refine ⟨by omega, fun i h1 h2 => ?_⟩
        by_cases e : i = k
        · subst e
          omega
        · exact I.2 i (by omega) h2
theorem Best.uniq {R : Nat → Int} {n b b' : Nat} (h : Best R n b) (h' : Best R n b') : b = b' := by
  rcases Nat.lt_trichotomy b b' with e | e | e
  · have x := h.2 b' h'.1 (by omega)
    have y := h'.2 b h.1 (by omega)
    omega
  · exact e
  · have x := h.2 b' h'.1 (by omega)
    have y := h'.2 b h.1 (by omega)
    omega
theorem best_gB {R : Nat → Int} {n b : Nat} (h : Best R n b) : gB R n = b := (gB_best R n (by have := h.1; omega)).uniq h

/-- The rests after some picks, and the parts. -/
def gR (r : Nat → Int) (n : Nat) : Nat → Nat → Int
  | 0 => r
  | j + 1 => upd (gR r n j) (gB (gR r n j) n) (-1)
def gO (q r : Nat → Int) (n : Nat) : Nat → Nat → Int
  | 0 => q
  | j + 1 => upd (gO q r n j) (gB (gR r n j) n) (gO q r n j (gB (gR r n j) n) + 1)
theorem gR_cases (r : Nat → Int) (n : Nat) : ∀ j i, gR r n j i = r i ∨ gR r n j i = -1 := by
  intro j
  induction j with
  | zero => intro i; exact .inl rfl
  | succ j ih =>
    intro i
    simp only [gR, upd]
    split
    · exact .inr rfl
    · exact ih i
theorem gO_bd {q r : Nat → Int} {n : Nat} {M : Int} (h : ∀ i, i < n → 0 ≤ q i ∧ q i ≤ M) : ∀ j i, i < n → 0 ≤ gO q r n j i ∧ gO q r n j i ≤ M + j := by
  intro j
  induction j with
  | zero => intro i hi; have := h i hi; show 0 ≤ q i ∧ q i ≤ M + (0 : Nat); omega
  | succ j ih =>
    intro i hi
    have := ih i hi
    simp only [gO, upd]
    split
    · rename_i e; subst e; omega
    · omega
/-- How many are picked. -/
def cneg (R : Nat → Int) (n : Nat) : Int := sumTo (fun i => if R i < 0 then 1 else 0) n
theorem cneg_upd (R : Nat → Int) (k : Nat) (n : Nat) : cneg (upd R k (-1)) n ≤ cneg R n + 1 := by
  have e : (fun i => if upd R k (-1) i < 0 then (1 : Int) else 0) = upd (fun i => if R i < 0 then (1 : Int) else 0) k 1 := by
    funext i
    unfold upd
    by_cases c : i = k
    · simp [c]
    · simp [c]
  unfold cneg
  rw [e, sumTo_upd]
  split
  · split <;> omega
  · omega
theorem cneg_gR {r : Nat → Int} {n : Nat} (h : ∀ i, i < n → 0 ≤ r i) : ∀ j, cneg (gR r n j) n ≤ j := by
  intro j
  induction j with
  | zero =>
    have : ∀ m, m ≤ n → sumTo (fun i => if r i < 0 then (1 : Int) else 0) m = 0 := by
      intro m
      induction m with
      | zero => intro _; rfl
      | succ m ih =>
        intro hm
        have := ih (by omega)
        have := h m (by omega)
        show sumTo _ m + (if r m < 0 then (1 : Int) else 0) = 0
        rw [if_neg (by omega)]
        omega
    have h0 : cneg (gR r n 0) n = 0 := this n (Nat.le_refl _)
    omega
  | succ j ih =>
    have := cneg_upd (gR r n j) (gB (gR r n j) n) n
    simp only [gR]
    omega
theorem gR_some {r : Nat → Int} {n : Nat} (h : ∀ i, i < n → 0 ≤ r i) {j : Nat} (hj : j < n) : ∃ i, i < n ∧ 0 ≤ gR r n j i := by
  apply Classical.byContradiction
  intro hc
  have all : ∀ m, m ≤ n → sumTo (fun i => if gR r n j i < 0 then (1 : Int) else 0) m = m := by
    intro m
    induction m with
    | zero => intro _; rfl
    | succ m ih =>
      intro hm
      have := ih (by omega)
      have : ¬ 0 ≤ gR r n j m := fun x => hc ⟨m, by omega, x⟩
      show sumTo _ m + (if gR r n j m < 0 then (1 : Int) else 0) = _
      rw [if_pos (by omega)]
      omega
  have a := all n (Nat.le_refl _)
  have b := cneg_gR h j
  unfold cneg at b
  omega
theorem gR_top {r : Nat → Int} {n : Nat} (h : ∀ i, i < n → 0 ≤ r i) {j : Nat} (hj : j < n) : 0 ≤ gR r n j (gB (gR r n j) n) := by
  obtain ⟨i, h1, h2⟩ := gR_some h hj
  have b := gB_best (gR r n j) n (by omega)
  by_cases e : i = gB (gR r n j) n
  · rw [← e]; exact h2
  · have := b.2 i h1 e
    omega

/-- The key of a place: the greater its rest, the more ahead. -/
def pkey (r : Nat → Int) (z : Int) : Int := -(r z.toNat)
def ido (i : Nat) : Int := i
theorem ido_rng (n : Nat) : Rng n ido 0 n := fun i h1 h2 => by show (0 : Int) ≤ (i : Int) ∧ (i : Int) < n; omega
/-- A rearrangement of the first places. -/
structure Ord (o : Nat → Int) (n : Nat) : Prop where
  rng : ∀ i, i < n → 0 ≤ o i ∧ o i < n
  inj : ∀ i j, i < n → j < n → o i = o j → i = j
  sur : ∀ k : Nat, k < n → ∃ i, i < n ∧ o i = k
theorem Ord.of {o : Nat → Int} {n : Nat} (h : Mix 0 n ido o) : Ord o n := by
  have hr : ∀ i, i < n → 0 ≤ o i ∧ o i < n := fun i hi => by
    obtain ⟨j, _, h2, h3⟩ := h.from i (Nat.zero_le _) hi
    rw [h3]
    show (0 : Int) ≤ (j : Int) ∧ (j : Int) < n
    omega
  obtain ⟨s, t, a, b, c, d⟩ := h
  refine ⟨hr, fun i j hi hj e => ?_, fun k hk => ?_⟩
  · rw [d, d] at e
    have e2 : s i = s j := by
      have : ((s i : Nat) : Int) = ((s j : Nat) : Int) := e
      omega
    have := congrArg t e2
    rwa [a, a] at this
  · have e : o (t k) = k := by rw [d, b]; rfl
    refine ⟨t k, ?_, e⟩
    rcases Nat.lt_or_ge (t k) n with h3 | h3
    · exact h3
    · have h4 := c (t k) (.inr h3)
      rw [b] at h4
      omega
theorem pick_order {r o : Nat → Int} {n : Nat} (hr : ∀ i, i < n → 0 ≤ r i) (ho : Ord o n) (hs : Srt (pkey r) o 0 n) : ∀ j, j ≤ n → ∀ i, i < n → gR r n j i = if (∃ p, p < j ∧ o p = i) then -1 else r i := by
  intro j
  induction j with
  | zero =>
    intro _ i hi
    rw [if_neg (by rintro ⟨p, hp, _⟩; omega)]
    rfl
  | succ j ih =>
    intro hj i hi
    have ih := ih (by omega)
    have hb : gB (gR r n j) n = (o j).toNat := by
      have x := ho.rng j (by omega)
      refine best_gB ⟨by omega, fun i hi hne => ?_⟩
      have np : ¬ ∃ p, p < j ∧ o p = ((o j).toNat : Int) := by
        rintro ⟨p, hp, e⟩
        have := ho.inj p j (by omega) (by omega) (by omega)
        omega
      rw [ih _ (show (o j).toNat < n by omega), if_neg np, ih i hi]
      have r0 := hr (o j).toNat (by omega)
      split
      · exact .inl (by omega)
      · rename_i hn
        obtain ⟨p, hp, e⟩ := ho.sur i hi
        have hpj : j < p := by
          rcases Nat.lt_trichotomy p j with c | c | c
          · exact absurd ⟨p, c, e⟩ hn
          · subst c; omega
          · exact c
        have k := hs j p (Nat.zero_le _) hpj hp
        unfold Ahead pkey at k
        rw [e] at k
        have e3 : ((i : Nat) : Int).toNat = i := by omega
        rw [e3] at k
        omega
    simp only [gR]
    rw [hb]
    have x := ho.rng j (by omega)
    by_cases c : i = (o j).toNat
    · rw [c, upd_at, if_pos ⟨j, by omega, by omega⟩]
    · rw [upd_ne _ _ c, ih i hi]
      by_cases c2 : ∃ p, p < j ∧ o p = i
      · obtain ⟨p, h1, h2⟩ := c2
        rw [if_pos ⟨p, h1, h2⟩, if_pos ⟨p, by omega, h2⟩]
      · rw [if_neg c2, if_neg (by
          rintro ⟨p, h1, h2⟩
          by_cases e : p = j
          · subst e; omega
          · exact c2 ⟨p, by omega, h2⟩)]
theorem pick_at {r o : Nat → Int} {n : Nat} (hr : ∀ i, i < n → 0 ≤ r i) (ho : Ord o n) (hs : Srt (pkey r) o 0 n) {j : Nat} (hj : j < n) : (gB (gR r n j) n : Int) = o j := by
  have x := ho.rng j hj
  have hp := pick_order hr ho hs j (by omega)
  have : gB (gR r n j) n = (o j).toNat := by
    refine best_gB ⟨by omega, fun i hi hne => ?_⟩
    have np : ¬ ∃ p, p < j ∧ o p = ((o j).toNat : Int) := by
      rintro ⟨p, hp, e⟩
      have := ho.inj p j (by omega) (by omega) (by omega)
      omega
    rw [hp _ (show (o j).toNat < n by omega), if_neg np, hp i hi]
    have r0 := hr (o j).toNat (by omega)
    split
    · exact .inl (by omega)
    · rename_i hn
      obtain ⟨p, hp, e⟩ := ho.sur i hi
      have hpj : j < p := by
        rcases Nat.lt_trichotomy p j with c | c | c
        · exact absurd ⟨p, c, e⟩ hn
        · subst c; omega
        · exact c
      have k := hs j p (Nat.zero_le _) hpj hp
      unfold Ahead pkey at k
      rw [e] at k
      have e3 : ((i : Nat) : Int).toNat = i := by omega
      rw [e3] at k
      omega
  omega

theorem sum_up {f : Nat → Int} {n : Nat} (h : ∀ i, i < n → 0 ≤ f i) : ∀ m k, k + m ≤ n → sumTo f k ≤ sumTo f (k + m) := by
  intro m
  induction m with
  | zero => intro k _; exact Int.le_refl _
  | succ m ih =>
    intro k hk
    have := ih k (by omega)
    have := h (k + m) (by omega)
    show sumTo f k ≤ sumTo f (k + m) + f (k + m)
    omega
/-- What the shares by weights leave over. -/
def pQ (c : Int) (f : Nat → Int) (s : Int) (i : Nat) : Int := c * f i / s
def pR (c : Int) (f : Nat → Int) (s : Int) (i : Nat) : Int := c * f i % s
def pL (c : Int) (f : Nat → Int) (s : Int) (k : Nat) : Int := c - sumTo (pQ c f s) k
theorem pR_bd {c : Int} {f : Nat → Int} {s : Int} (hs : 0 < s) (i : Nat) : 0 ≤ pR c f s i ∧ pR c f s i < s := ⟨Int.emod_nonneg _ (by omega), Int.emod_lt_of_pos _ hs⟩
theorem pQ_bd {c : Int} {f : Nat → Int} {s : Int} (hs : 0 < s) (hc : 0 ≤ c) {i : Nat} (h0 : 0 ≤ f i) (h1 : f i ≤ s) : 0 ≤ pQ c f s i ∧ pQ c f s i ≤ c := by
  refine ⟨Int.ediv_nonneg (Int.mul_nonneg hc h0) (by omega), Int.ediv_le_of_le_mul hs (Int.mul_le_mul_of_nonneg_left h1 hc)⟩
theorem pL_eq {c : Int} {f : Nat → Int} {s : Int} : ∀ k, s * sumTo (pQ c f s) k + sumTo (pR c f s) k = c * sumTo f k := by
  intro k
  induction k with
  | zero => simp [sumTo]
  | succ k ih =>
    simp only [sumTo, Int.mul_add]
    have := Int.mul_ediv_add_emod (c * f k) s
    unfold pQ pR at *
    omega
theorem pR_sum {c : Int} {f : Nat → Int} {s : Int} (hs : 0 < s) : ∀ k, 0 ≤ sumTo (pR c f s) k ∧ sumTo (pR c f s) k ≤ s * k ∧ (0 < k → sumTo (pR c f s) k < s * k) := by
  intro k
  induction k with
  | zero => simp [sumTo]
  | succ k ih =>
    have := pR_bd (c := c) (f := f) hs k
    have e : s * ((k + 1 : Nat) : Int) = s * k + s := by rw [show ((k + 1 : Nat) : Int) = (k : Int) + 1 by omega, Int.mul_add, Int.mul_one]
    simp only [sumTo]
    rw [e]
    omega
theorem pL_bd {c : Int} {f : Nat → Int} {n : Nat} (hn : 0 < n) (hs : 0 < sumTo f n) : 0 ≤ pL c f (sumTo f n) n ∧ pL c f (sumTo f n) n < n := by
  have e := pL_eq (c := c) (f := f) (s := sumTo f n) n
  have b := pR_sum (c := c) (f := f) hs n
  unfold pL
  generalize sumTo (pQ c f (sumTo f n)) n = Q at *
  generalize sumTo (pR c f (sumTo f n)) n = R at *
  generalize sumTo f n = s at *
  have e2 : s * (c - Q) = R := by rw [Int.mul_sub, Int.mul_comm s c]; omega
  have b3 := b.2.2 hn
  constructor
  · apply Classical.byContradiction
    intro h
    have : s * (c - Q) ≤ s * (-1) := Int.mul_le_mul_of_nonneg_left (by omega) (by omega)
    omega
  · apply Classical.byContradiction
    intro h
    have : s * (n : Int) ≤ s * (c - Q) := Int.mul_le_mul_of_nonneg_left (by omega) (by omega)
    omega
theorem pL_step {c : Int} {f : Nat → Int} {s : Int} (k : Nat) : pL c f s (k + 1) = pL c f s k - pQ c f s k := by unfold pL; simp only [sumTo]; omega
theorem pL_lo {c : Int} {f : Nat → Int} {n : Nat} (hc : 0 ≤ c) (hf : ∀ i, i < n → 0 ≤ f i) (hs : 0 < sumTo f n) : ∀ k, k ≤ n → 0 ≤ pL c f (sumTo f n) k ∧ pL c f (sumTo f n) k ≤ c := by
  intro k hk
  have q0 : ∀ i, i < n → 0 ≤ pQ c f (sumTo f n) i := fun i hi => Int.ediv_nonneg (Int.mul_nonneg hc (hf i hi)) (by omega)
  have a := sumTo_nonneg q0 k hk
  have e := pL_eq (c := c) (f := f) (s := sumTo f n) k
  have b := (pR_sum (c := c) (f := f) hs k).1
  have m : sumTo f k ≤ sumTo f n := by
    have := sum_up hf (n - k) k (by omega)
    rwa [show k + (n - k) = n by omega] at this
  unfold pL
  generalize sumTo (pQ c f (sumTo f n)) k = Q at *
  generalize sumTo f n = s at *
  have m2 : c * sumTo f k ≤ c * s := Int.mul_le_mul_of_nonneg_left m hc
  refine ⟨?_, by omega⟩
  apply Classical.byContradiction
  intro h
  have : s * (c + 1) ≤ s * Q := Int.mul_le_mul_of_nonneg_left (by omega) (by omega)
  rw [Int.mul_add, Int.mul_one, Int.mul_comm s c] at this
  omega

/-- The parts. -/
def ptO (c : Int) (f : Nat → Int) (n : Nat) : Nat → Int := gO (pQ c f (sumTo f n)) (pR c f (sumTo f n)) n (pL c f (sumTo f n) n).toNat
theorem tab_len8s {f : Nat → Int} {k : Nat} (h : k < 100) : (tab f k).length < 100000000 := by rw [tab_length]; omega
end Go.Proofs.Ytpigjhagdpeofaa

namespace Go.Proofs.Ytpigjhagdpeofaa
open Go.RowKit

/-- Two slices in two blocks. -/
def Apart (v u : Value) : Prop := ∀ k, v.ownBlock = some k → u.ownBlock = some k → False
theorem Apart.symm {v u : Value} (h : Apart v u) : Apart u v := fun k a b => h k b a
theorem Apart.two {a b n c n' c' : Nat} (h : a ≠ b) : Apart (.slice (some ⟨a, 0, none⟩) n c) (.slice (some ⟨b, 0, none⟩) n' c') := fun k h1 h2 => by
  cases h1; cases h2; exact h rfl
/-- What an append leaves of the other rows. -/
def Spared (E : TypeId) (w0 : World) (v : Value) (w' : World) (v' : Value) : Prop := ∀ B u ys, Own E w0 B u ys → Apart v u → Own E w' B u ys ∧ Apart v' u

theorem wpList_app2 {P : Program} (w0 : World) {ops : Array Oper} {rest : List Oper} {o : Oper} {a : Act} {Q : Exit → Act → World → Prop} (hgd : o.guard = none) (s x : Operand) (t : TypeId)
    (ho : o.op = .call { callee := .builtin .append, args := #[s, x], argTypes := #[t, t] })
    (B : Nat) (E : TypeId) (hi : (P.info? E).map (fun i => (i.zero, i.size, i.bytes)) = some (some (.int .i64 0), 1, 8)) (ht : P.underlying t = some (.slice E))
    (v : Value) (xs : List Int) (hs : a.eval s = v) (hown : Own E w0 B v xs) (y : Int) (hx : a.eval x = .slice (some ⟨w0.heap.size, 0, none⟩) 1 1)
    (hlen : xs.length < 1000000000) (hB : B ≤ w0.heap.size)
    (h : ∀ v' w', Own E w' B v' (xs ++ [y]) → Below B w0 w' → Spared E w0 v w' v' → wpList P ops Q rest (a.put o.dst v') w') : wpList P ops Q (o :: rest) a (w0.alloc (.cells #[.int .i64 y] E)) := by
  obtain ⟨i0, hi0, hz0, hz1, hz2⟩ := info_parts hi
  have hb0 : Below B w0 (w0.alloc (.cells #[.int .i64 y] E)) := (Below.refl _ _).alloc hB _
  refine wpList_append_own_at _ hgd s x t ho B E i0 (.int .i64 0) 1 8 ht hi0 hz0 hz1 hz2 rfl (by decide) v xs.length (xs.map (Value.int .i64)) hs (World.ownsRow.alloc hown _) ⟨w0.heap.size, 0, none⟩ 1 1 [.int .i64 y] hx rfl ?c1 ?c2 ?c3 ?c4 ?c5 ?_
  case c1 => exact cell_one_new _ _ _
  case c2 => intro u hu; simp at hu; subst hu; rfl
  case c3 => unfold maxLen; omega
  case c4 => omega
  case c5 => simp; omega
  intro v' w' hown' hg _ hv'
  refine h v' w' ?_ (hb0.grown hg (by simp; omega) (fun k hk => (hown.lt k hk).1)) ?_
  · have e1 : (xs ++ [y]).length = xs.length + 1 := by simp
    unfold Own
    rw [e1, List.map_append]
    exact hown'
  · intro B2 u ys hu hd
    have hs1 : (w0.alloc (.cells #[.int .i64 y] E)).heap.size = w0.heap.size + 1 := by simp
    refine ⟨hu.block fun k hk => ?_, fun k h1 h2 => ?_⟩
    · have hk2 := (hu.lt k hk).2
      rw [hg.block k (by omega) (fun e => hd k e.symm hk)]
      exact ((Below.refl w0.heap.size w0).alloc (Nat.le_refl _) _).block k hk2
    · have hk2 := (hu.lt k h2).2
      rcases hv' with e | e
      · exact hd k (e ▸ h1) h2
      · rw [e, hs1] at h1
        simp at h1
        omega
end Go.Proofs.Ytpigjhagdpeofaa

namespace Go.Proofs.Ytpigjhagdpeofaa
open Go.RowKit
set_option linter.unusedVariables false

/-- Truth values in a block. -/
def Bools (w : World) (g n : Nat) (u : Nat → Bool) : Prop := g < w.heap.size ∧ (∀ i, i < n → w.cell? ⟨g, i, none⟩ = some (.bool (u i))) ∧ ∀ i, w.frozen? ⟨g, i, none⟩ = false
theorem Bools.block {w w' : World} {g n : Nat} {u : Nat → Bool} (h : Bools w g n u) (hs : w.heap.size ≤ w'.heap.size) (hb : w'.heap[g]? = w.heap[g]?) : Bools w' g n u := by
  refine ⟨Nat.lt_of_lt_of_le h.1 hs, fun i hi => ?_, fun i => ?_⟩
  · have := h.2.1 i hi
    unfold World.cell? at this ⊢
    rw [hb]
    exact this
  · have := h.2.2 i
    unfold World.frozen? at this ⊢
    rw [hb]
    exact this
theorem Bools.below {w w' : World} {g n : Nat} {u : Nat → Bool} (h : Bools w g n u) (hb : Below w.heap.size w w') : Bools w' g n u := h.block hb.size (hb.block g h.1)
theorem Bools.set {w : World} {g n : Nat} {u u' : Nat → Bool} (h : Bools w g n u) (j : Nat) (hj : j < n) (b : Bool) (e0 : u' j = b) (e1 : ∀ i, i ≠ j → u' i = u i) : Bools (w.setCell ⟨g, j, none⟩ (.bool b)) g n u' := by
  refine ⟨by simpa using h.1, fun i hi => ?_, fun i => by rw [World.frozen?_setCell]; exact h.2.2 i⟩
  by_cases e : j = i
  · subst e
    rw [World.cell?_setCell_same _ _ _ (h.2.1 j hi), e0]
  · rw [World.cell?_setCell_other _ _ _ _ (by intro h; cases h; exact e rfl), e1 i (fun h => e h.symm)]; exact h.2.1 i hi

/-- What a write into one slice leaves of the other blocks. -/
def Kept3 (w0 : World) (v : Value) (w' : World) (v' : Value) : Prop := (∀ k, k < w0.heap.size → (v.ownBlock = some k → False) → w'.heap[k]? = w0.heap[k]?) ∧ (∀ k, v'.ownBlock = some k → v.ownBlock = some k ∨ w0.heap.size ≤ k) ∧ w0.heap.size ≤ w'.heap.size
theorem Kept3.bools {w0 w' : World} {v v' : Value} {g n : Nat} {u : Nat → Bool} (h : Kept3 w0 v w' v') (hu : Bools w0 g n u) (hd : v.ownBlock = some g → False) : Bools w' g n u ∧ (v'.ownBlock = some g → False) :=
  ⟨hu.block h.2.2 (h.1 g hu.1 hd), fun e => by rcases h.2.1 g e with h1 | h1; exact hd h1; exact absurd hu.1 (by omega)⟩
theorem Kept3.own {E : TypeId} {B : Nat} {u : Value} {ys : List Int} {w0 w' : World} {v v' : Value} (h : Kept3 w0 v w' v') (hu : Own E w0 B u ys) (hd : Apart v u) : Own E w' B u ys ∧ Apart v' u :=
  ⟨hu.block fun k hk => h.1 k (hu.lt k hk).2 (fun e => hd k e hk), fun k h1 h2 => by
    rcases h.2.1 k h1 with h3 | h3
    · exact hd k h3 h2
    · have := (hu.lt k h2).2; omega⟩

theorem wpList_mkB {P : Program} (w : World) {ops : Array Oper} {rest : List Oper} {o : Oper} {a : Act} {Q : Exit → Act → World → Prop}
    (hg : o.guard = none) (l c : Operand) (t : TypeId) (hop : o.op = Op.makeSlice t l c)
    (E : TypeId) (hi : (P.info? E).map (fun i => (i.zero, i.size, i.bytes)) = some (some (.bool false), 1, 1)) (ht : P.underlying t = some (.slice E))
    (kl kc : IntKind) (L C : Int) (n : Nat) (hl : a.eval l = .int kl L) (hc : a.eval c = .int kc C) (hL : L = (n : Int)) (hC : C = (n : Int)) (hn : n < 1000000000)
    (hK : ∀ w', Bools w' w.heap.size n (fun _ => false) → Below w.heap.size w w' → wpList P ops Q rest (a.put o.dst (.slice (some ⟨w.heap.size, 0, none⟩) n n)) w') :
    wpList P ops Q (o :: rest) a w := by
  obtain ⟨i0, hi0, hz0, hz1, hz2⟩ := info_parts hi
  refine wpList_make_full w hg l c t hop w.heap.size E i0 (.bool false) 1 ht hi0 hz0 hz1 kl kc L C n hl hc hL hC (by rw [hz2]; omega) (by unfold maxLen; omega) (Nat.le_refl _) fun w' hown hgr => hK w' ⟨(World.ownsRow.lt hown _ rfl).2, fun i hi => ?_, fun i => World.ownsRow.frozenAt hown i⟩ ((Below.refl _ _).grown hgr (Nat.le_refl _) (fun k hk => by cases hk))
  have e : (madeCells (Value.bool false).cells (n * 1)).toList = List.replicate n (Value.bool false) := by
    rw [Nat.mul_one]
    exact toList_madeCells_one (.bool false) n
  rw [e] at hown
  rw [World.ownsRow.cellAt hown i (by omega)]
  simp [hi]

theorem wpList_app3 {P : Program} (w0 : World) {ops : Array Oper} {rest : List Oper} {o : Oper} {a : Act} {Q : Exit → Act → World → Prop} (hgd : o.guard = none) (s x : Operand) (t : TypeId)
    (ho : o.op = .call { callee := .builtin .append, args := #[s, x], argTypes := #[t, t] })
    (B : Nat) (E : TypeId) (hi : (P.info? E).map (fun i => (i.zero, i.size, i.bytes)) = some (some (.int .i64 0), 1, 8)) (ht : P.underlying t = some (.slice E))
    (v : Value) (xs : List Int) (hs : a.eval s = v) (hown : Own E w0 B v xs) (y : Int) (hx : a.eval x = .slice (some ⟨w0.heap.size, 0, none⟩) 1 1)
    (hlen : xs.length < 1000000000) (hB : B ≤ w0.heap.size)
    (h : ∀ v' w', Own E w' B v' (xs ++ [y]) → Below B w0 w' → Kept3 w0 v w' v' → wpList P ops Q rest (a.put o.dst v') w') : wpList P ops Q (o :: rest) a (w0.alloc (.cells #[.int .i64 y] E)) := by
  obtain ⟨i0, hi0, hz0, hz1, hz2⟩ := info_parts hi
  have hb0 : Below B w0 (w0.alloc (.cells #[.int .i64 y] E)) := (Below.refl _ _).alloc hB _
  refine wpList_append_own_at _ hgd s x t ho B E i0 (.int .i64 0) 1 8 ht hi0 hz0 hz1 hz2 rfl (by decide) v xs.length (xs.map (Value.int .i64)) hs (World.ownsRow.alloc hown _) ⟨w0.heap.size, 0, none⟩ 1 1 [.int .i64 y] hx rfl ?c1 ?c2 ?c3 ?c4 ?c5 ?_
  case c1 => exact cell_one_new _ _ _
  case c2 => intro u hu; simp at hu; subst hu; rfl
  case c3 => unfold maxLen; omega
  case c4 => omega
  case c5 => simp; omega
  intro v' w' hown' hg _ hv'
  have hbb := hb0.grown hg (by simp; omega) (fun k hk => (hown.lt k hk).1)
  have hs1 : (w0.alloc (.cells #[.int .i64 y] E)).heap.size = w0.heap.size + 1 := by simp
  refine h v' w' ?_ hbb ⟨fun k hk hd => ?_, fun k h1 => ?_, hbb.size⟩
  · have e1 : (xs ++ [y]).length = xs.length + 1 := by simp
    unfold Own
    rw [e1, List.map_append]
    exact hown'
  · rw [hg.block k (by omega) (fun e => hd e.symm)]
    exact ((Below.refl w0.heap.size w0).alloc (Nat.le_refl _) _).block k hk
  · rcases hv' with e | e
    · exact .inl (e ▸ h1)
    · rw [e, hs1] at h1
      simp at h1
      exact .inr (by omega)
end Go.Proofs.Ytpigjhagdpeofaa
