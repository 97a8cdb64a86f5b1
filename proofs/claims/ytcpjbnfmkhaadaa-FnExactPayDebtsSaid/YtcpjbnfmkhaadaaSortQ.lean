/-
  Insertion and merging keep a row in order: by a key, and by the numbers themselves where keys are one. No program in sight. No condition.
-/
import Derived.Test.YtcpjbnfmkhaadaaSortP
namespace Go.Proofs.Ytcpjbnfmkhaadaa
open Go.RowKit
set_option linter.unusedVariables false

/-- x stands ahead of y. -/
def Ahead (key : Int → Int) (x y : Int) : Prop := key x < key y ∨ (key x = key y ∧ x < y)
theorem Ahead.trans {key : Int → Int} {x y z : Int} (h : Ahead key x y) (h' : Ahead key y z) : Ahead key x z := by unfold Ahead at *; omega
theorem Ahead.key {key : Int → Int} {x y : Int} (h : key x < key y) : Ahead key x y := .inl h
theorem Ahead.idx {key : Int → Int} {x y : Int} (h : ¬ key y < key x) (hi : x < y) : Ahead key x y := by unfold Ahead; omega
def Srt (key : Int → Int) (f : Nat → Int) (lo hi : Nat) : Prop := ∀ i j, lo ≤ i → i < j → j < hi → Ahead key (f i) (f j)
def Rng (n : Nat) (f : Nat → Int) (lo hi : Nat) : Prop := ∀ i, lo ≤ i → i < hi → 0 ≤ f i ∧ f i < n
def Lower (f : Nat → Int) (a m b : Nat) : Prop := ∀ p q, a ≤ p → p < m → m ≤ q → q < b → f p < f q
theorem Rng.mix {n lo hi : Nat} {f f' : Nat → Int} (h : Rng n f 0 n) (hm : Mix lo hi f f') (hh : hi ≤ n) : Rng n f' 0 n := (hm.mono (Nat.zero_le _) hh).all (Q := fun x => 0 ≤ x ∧ x < n) h
theorem Srt.le {key : Int → Int} {f : Nat → Int} {lo hi : Nat} (h : Srt key f lo hi) {i j : Nat} (h1 : lo ≤ i) (h2 : i ≤ j) (h3 : j < hi) : f i = f j ∨ Ahead key (f i) (f j) := by
  rcases Nat.lt_or_ge i j with h4 | h4
  · exact .inr (h i j h1 h4 h3)
  · obtain rfl : i = j := by omega
    exact .inl rfl
theorem Srt.sub {key : Int → Int} {f : Nat → Int} {lo hi lo' hi' : Nat} (h : Srt key f lo hi) (h1 : lo ≤ lo') (h2 : hi' ≤ hi) : Srt key f lo' hi' := fun i j a b c => h i j (by omega) b (by omega)

theorem Ahead.kle {key : Int → Int} {x y : Int} (h : Ahead key x y) : key x ≤ key y := by unfold Ahead at h; omega
theorem Srt.kle {key : Int → Int} {f : Nat → Int} {lo hi : Nat} (h : Srt key f lo hi) {i j : Nat} (h1 : lo ≤ i) (h2 : i ≤ j) (h3 : j < hi) : key (f i) ≤ key (f j) := by
  rcases h.le h1 h2 h3 with h4 | h4
  · rw [h4]; exact Int.le_refl _
  · exact h4.kle

def AllLess (key : Int → Int) (f : Nat → Int) (y : Int) (lo hi : Nat) : Prop := ∀ q, lo ≤ q → q < hi → key (f q) < key y
def NoneLess (key : Int → Int) (f : Nat → Int) (y : Int) (lo hi : Nat) : Prop := ∀ q, lo ≤ q → q < hi → ¬ key (f q) < key y
def AllMore (key : Int → Int) (f : Nat → Int) (y : Int) (lo hi : Nat) : Prop := ∀ q, lo ≤ q → q < hi → key y < key (f q)
def NoneMore (key : Int → Int) (f : Nat → Int) (y : Int) (lo hi : Nat) : Prop := ∀ q, lo ≤ q → q < hi → ¬ key y < key (f q)

/-- The inner loop of the insertion. -/
structure InsI (key : Int → Int) (f h : Nat → Int) (a i j : Nat) : Prop where
  mix : Mix a (i + 1) f h
  aj : a ≤ j
  ji : j ≤ i
  s : ∀ p q, a ≤ p → p < q → q ≤ i → p ≠ j → q ≠ j → Ahead key (h p) (h q)
  u : ∀ q, j < q → q ≤ i → Ahead key (h j) (h q)
  l : ∀ p, a ≤ p → p ≤ i → p ≠ j → h p < h j
theorem InsI.start {key : Int → Int} {f h : Nat → Int} {a b i : Nat} (hf : ∀ p q, a ≤ p → p < q → q < b → f p < f q) (hm : Mix a i f h) (hs : Srt key h a i) (h1 : a ≤ i) (h2 : i < b) : InsI key f h a i i := by
  have e := hm.out i (.inr (Nat.le_refl _))
  refine ⟨hm.mono (Nat.le_refl _) (by omega), h1, Nat.le_refl _, fun p q ha hpq hq h3 h4 => hs p q ha hpq (by omega), fun q h3 h4 => by omega, fun p ha hp hne => ?_⟩
  obtain ⟨p', x1, x2, x3⟩ := hm.from p ha (by omega)
  rw [x3, e]
  exact hf p' i x1 x2 h2
theorem InsI.step {key : Int → Int} {f h : Nat → Int} {a i jp : Nat} (I : InsI key f h a i (jp + 1)) (haj : a ≤ jp) (hk : key (h (jp + 1)) < key (h jp)) : InsI key f (swp h (jp + 1) jp) a i jp := by
  have hj := I.ji
  have e1 : swp h (jp + 1) jp jp = h (jp + 1) := by unfold swp; rw [if_neg (by omega), if_pos rfl]
  have e2 : swp h (jp + 1) jp (jp + 1) = h jp := by unfold swp; rw [if_pos rfl]
  have e3 : ∀ k, k ≠ jp → k ≠ jp + 1 → swp h (jp + 1) jp k = h k := fun k a b => by unfold swp; rw [if_neg b, if_neg a]
  refine ⟨I.mix.trans (Mix.swp h (by omega) (by omega) haj (by omega)), haj, by omega, fun p q ha hpq hq h3 h4 => ?_, fun q h3 h4 => ?_, fun p ha hp hne => ?_⟩
  · by_cases c1 : p = jp + 1
    · subst c1
      rw [e2, e3 q (by omega) (by omega)]
      exact I.s jp q haj (by omega) hq (by omega) (by omega)
    · rw [e3 p h3 c1]
      by_cases c2 : q = jp + 1
      · subst c2
        rw [e2]
        exact I.s p jp ha (by omega) (by omega) (by omega) (by omega)
      · rw [e3 q h4 c2]
        exact I.s p q ha hpq hq (by omega) (by omega)
  · rw [e1]
    by_cases c2 : q = jp + 1
    · subst c2
      rw [e2]
      exact .inl hk
    · rw [e3 q (by omega) c2]
      exact I.u q (by omega) h4
  · rw [e1]
    by_cases c1 : p = jp + 1
    · subst c1
      rw [e2]
      exact I.l jp haj (by omega) (by omega)
    · rw [e3 p hne c1]
      exact I.l p ha hp c1
theorem InsI.stop {key : Int → Int} {f h : Nat → Int} {a i j : Nat} (I : InsI key f h a i j) (hs : j = a ∨ ¬ key (h j) < key (h (j - 1))) : Srt key h a (i + 1) := by
  intro p q ha hpq hq
  have hj := I.ji
  by_cases c2 : q = j
  · subst c2
    have h1 : ¬ key (h q) < key (h (q - 1)) := by omega
    have h2 := Ahead.idx h1 (I.l (q - 1) (by omega) (by omega) (by omega))
    by_cases c3 : p = q - 1
    · subst c3; exact h2
    · exact (I.s p (q - 1) ha (by omega) (by omega) (by omega) (by omega)).trans h2
  · by_cases c1 : p = j
    · subst c1; exact I.u q hpq (by omega)
    · exact I.s p q ha hpq (by omega) c1 c2

/-- The row, cut and turned at a place that the search has found. -/
theorem rot_at1 (h : Nat → Int) {s m e k : Nat} (h1 : s ≤ m) (h2 : m ≤ e) (hk : s ≤ k) (hk2 : k < s + (e - m)) : rot h s m e k = h (k + (m - s)) := if_pos ⟨hk, hk2⟩
theorem rot_at2 (h : Nat → Int) {s m e k : Nat} (h1 : s ≤ m) (h2 : m ≤ e) (hk : s + (e - m) ≤ k) (hk2 : k < e) : rot h s m e k = h (k - (e - m)) := by unfold rot; rw [if_neg (by omega), if_pos ⟨hk, hk2⟩]
theorem rot_at3 (h : Nat → Int) {s m e k : Nat} (h1 : s ≤ m) (h2 : m ≤ e) (hk : k < s ∨ e ≤ k) : rot h s m e k = h k := by unfold rot; rw [if_neg (by omega), if_neg (by omega)]
theorem rot_triv (h : Nat → Int) {s m e : Nat} (h1 : s = m ∨ m = e) (h2 : s ≤ m) (h3 : m ≤ e) : rot h s m e = h := by
  funext k
  unfold rot
  repeat' split
  all_goals first
    | rfl
    | (exfalso; omega)
    | (congr 1; omega)
structure Cut (key : Int → Int) (h : Nat → Int) (a s mid m e b : Nat) : Prop where
  aS : a ≤ s
  sm : s ≤ m
  me : m ≤ e
  eb : e ≤ b
  sum : s + e = mid + m
  s1 : Srt key h a m
  s2 : Srt key h m b
  lw : Lower h a m b
  x1 : a < s → e < b → Ahead key (h (s - 1)) (h e)
  x2 : m < e → s < m → Ahead key (h (e - 1)) (h s)
theorem Cut.srt1 {key : Int → Int} {h : Nat → Int} {a s mid m e b : Nat} (C : Cut key h a s mid m e b) : Srt key (rot h s m e) a s := fun i j h1 h2 h3 => by
  have := C.sm; have := C.me
  rw [rot_at3 h C.sm C.me (by omega), rot_at3 h C.sm C.me (by omega)]
  exact C.s1 i j h1 h2 (by omega)
theorem Cut.srt2 {key : Int → Int} {h : Nat → Int} {a s mid m e b : Nat} (C : Cut key h a s mid m e b) : Srt key (rot h s m e) s mid := fun i j h1 h2 h3 => by
  have := C.sm; have := C.me; have := C.sum; have := C.eb
  rw [rot_at1 h C.sm C.me (by omega) (by omega), rot_at1 h C.sm C.me (by omega) (by omega)]
  exact C.s2 _ _ (by omega) (by omega) (by omega)
theorem Cut.srt3 {key : Int → Int} {h : Nat → Int} {a s mid m e b : Nat} (C : Cut key h a s mid m e b) : Srt key (rot h s m e) mid e := fun i j h1 h2 h3 => by
  have := C.sm; have := C.me; have := C.sum; have := C.aS
  rw [rot_at2 h C.sm C.me (by omega) (by omega), rot_at2 h C.sm C.me (by omega) (by omega)]
  exact C.s1 _ _ (by omega) (by omega) (by omega)
theorem Cut.srt4 {key : Int → Int} {h : Nat → Int} {a s mid m e b : Nat} (C : Cut key h a s mid m e b) : Srt key (rot h s m e) e b := fun i j h1 h2 h3 => by
  have := C.sm; have := C.me
  rw [rot_at3 h C.sm C.me (by omega), rot_at3 h C.sm C.me (by omega)]
  exact C.s2 i j (by omega) h2 h3
theorem Cut.lw1 {key : Int → Int} {h : Nat → Int} {a s mid m e b : Nat} (C : Cut key h a s mid m e b) : Lower (rot h s m e) a s mid := fun p q h1 h2 h3 h4 => by
  have := C.sm; have := C.me; have := C.sum; have := C.eb
  rw [rot_at3 h C.sm C.me (by omega), rot_at1 h C.sm C.me (by omega) (by omega)]
  exact C.lw _ _ h1 (by omega) (by omega) (by omega)
theorem Cut.lw2 {key : Int → Int} {h : Nat → Int} {a s mid m e b : Nat} (C : Cut key h a s mid m e b) : Lower (rot h s m e) mid e b := fun p q h1 h2 h3 h4 => by
  have := C.sm; have := C.me; have := C.sum; have := C.aS
  rw [rot_at2 h C.sm C.me (by omega) (by omega), rot_at3 h C.sm C.me (by omega)]
  exact C.lw _ _ (by omega) (by omega) (by omega) h4
theorem Cut.cross {key : Int → Int} {h : Nat → Int} {a s mid m e b : Nat} (C : Cut key h a s mid m e b) : ∀ p q, a ≤ p → p < mid → mid ≤ q → q < b → Ahead key (rot h s m e p) (rot h s m e q) := fun p q h1 h2 h3 h4 => by
  have k1 := C.sm; have k2 := C.me; have k3 := C.sum; have k4 := C.aS; have k5 := C.eb
  by_cases c1 : p < s
  · rw [rot_at3 h k1 k2 (.inl c1)]
    by_cases c2 : q < e
    · rw [rot_at2 h k1 k2 (by omega) c2]
      exact C.s1 _ _ h1 (by omega) (by omega)
    · rw [rot_at3 h k1 k2 (by omega)]
      have x := C.x1 (by omega) (by omega)
      have y : Ahead key (h p) (h e) := by
        rcases C.s1.le h1 (show p ≤ s - 1 by omega) (by omega) with z | z
        · rw [z]; exact x
        · exact z.trans x
      rcases C.s2.le (show m ≤ e by omega) (show e ≤ q by omega) h4 with z | z
      · rw [← z]; exact y
      · exact y.trans z
  · rw [rot_at1 h k1 k2 (by omega) (by omega)]
    by_cases c2 : q < e
    · rw [rot_at2 h k1 k2 (by omega) c2]
      have x := C.x2 (by omega) (by omega)
      have y : Ahead key (h (p + (m - s))) (h s) := by
        rcases C.s2.le (show m ≤ p + (m - s) by omega) (show p + (m - s) ≤ e - 1 by omega) (by omega) with z | z
        · rw [z]; exact x
        · exact z.trans x
      rcases C.s1.le (show a ≤ s by omega) (show s ≤ q - (e - m) by omega) (by omega) with z | z
      · rw [← z]; exact y
      · exact y.trans z
    · rw [rot_at3 h k1 k2 (by omega)]
      exact C.s2 _ _ (by omega) (by omega) h4
theorem srt_join {key : Int → Int} {h1 h2 h3 : Nat → Int} {a mid b : Nat} (hx : ∀ p q, a ≤ p → p < mid → mid ≤ q → q < b → Ahead key (h1 p) (h1 q)) (m1 : Mix a mid h1 h2) (m2 : Mix mid b h2 h3) (s1 : Srt key h2 a mid) (s2 : Srt key h3 mid b) : Srt key h3 a b := fun i j x1 x2 x3 => by
  rcases Nat.lt_or_ge i mid with c1 | c1
  · rw [m2.out i (.inl c1)]
    rcases Nat.lt_or_ge j mid with c2 | c2
    · rw [m2.out j (.inl c2)]
      exact s1 i j x1 x2 c2
    · obtain ⟨i', y1, y2, y3⟩ := m1.from i x1 c1
      obtain ⟨j', z1, z2, z3⟩ := m2.from j c2 x3
      rw [y3, z3, m1.out j' (.inr z1)]
      exact hx i' j' y1 y2 z1 z2
  · exact s2 i j c1 x2 x3
/-- The first element put in its place among the rest. -/
theorem srt_first {key : Int → Int} {h : Nat → Int} {a i b : Nat} (h1 : a + 1 ≤ i) (h2 : i ≤ b) (s2 : Srt key h (a + 1) b) (lw : Lower h a (a + 1) b) (l : ∀ q, a + 1 ≤ q → q < i → key (h q) < key (h a)) (r : ∀ q, i ≤ q → q < b → ¬ key (h q) < key (h a)) : Srt key (rot h a (a + 1) i) a b := fun p q x1 x2 x3 => by
  have k1 : a ≤ a + 1 := Nat.le_succ _
  by_cases c1 : p < i - 1
  · rw [rot_at1 h k1 h1 x1 (by omega)]
    by_cases c2 : q < i - 1
    · rw [rot_at1 h k1 h1 (by omega) (by omega)]
      exact s2 _ _ (by omega) (by omega) (by omega)
    · by_cases c3 : q < i
      · rw [rot_at2 h k1 h1 (by omega) c3, show q - (i - (a + 1)) = a by omega]
        exact .inl (l _ (by omega) (by omega))
      · rw [rot_at3 h k1 h1 (.inr (by omega))]
        exact s2 _ _ (by omega) (by omega) x3
  · by_cases c3 : p < i
    · rw [rot_at2 h k1 h1 (by omega) c3, show p - (i - (a + 1)) = a by omega, rot_at3 h k1 h1 (.inr (by omega))]
      exact Ahead.idx (r q (by omega) x3) (lw a q (Nat.le_refl _) (by omega) (by omega) x3)
    · rw [rot_at3 h k1 h1 (.inr (by omega)), rot_at3 h k1 h1 (.inr (by omega))]
      exact s2 _ _ (by omega) x2 x3
/-- The last element put in its place among the rest. -/
theorem srt_last {key : Int → Int} {h : Nat → Int} {a i m : Nat} (h1 : a ≤ i) (h2 : i ≤ m) (s1 : Srt key h a m) (lw : Lower h a m (m + 1)) (l : ∀ q, a ≤ q → q < i → ¬ key (h m) < key (h q)) (r : ∀ q, i ≤ q → q < m → key (h m) < key (h q)) : Srt key (rot h i m (m + 1)) a (m + 1) := fun p q x1 x2 x3 => by
  have k2 : m ≤ m + 1 := Nat.le_succ _
  by_cases c1 : p < i
  · rw [rot_at3 h h2 k2 (.inl c1)]
    by_cases c2 : q < i
    · rw [rot_at3 h h2 k2 (.inl c2)]
      exact s1 _ _ x1 x2 (by omega)
    · by_cases c3 : q = i
      · rw [rot_at1 h h2 k2 (by omega) (by omega), show q + (m - i) = m by omega]
        exact Ahead.idx (l p x1 c1) (lw p m x1 (by omega) (Nat.le_refl _) (by omega))
      · rw [rot_at2 h h2 k2 (by omega) x3]
        exact s1 _ _ x1 (by omega) (by omega)
  · by_cases c3 : p = i
    · rw [rot_at1 h h2 k2 (by omega) (by omega), show p + (m - i) = m by omega, rot_at2 h h2 k2 (by omega) x3]
      exact .inl (r _ (by omega) (by omega))
    · rw [rot_at2 h h2 k2 (by omega) (by omega), rot_at2 h h2 k2 (by omega) x3]
      exact s1 _ _ (by omega) (by omega) (by omega)
theorem rot_up (h : Nat → Int) {a k : Nat} (hk : a ≤ k) : swp (rot h a (a + 1) (k + 1)) k (k + 1) = rot h a (a + 1) (k + 1 + 1) := by
  funext q
  unfold swp rot
  repeat' split
  all_goals first
    | (exfalso; omega)
    | rfl
    | (congr 1; omega)
theorem rot_down (h : Nat → Int) {k m : Nat} (hk : k + 1 ≤ m) : swp (rot h (k + 1) m (m + 1)) (k + 1) k = rot h k m (m + 1) := by
  funext q
  unfold swp rot
  repeat' split
  all_goals first
    | (exfalso; omega)
    | rfl
    | (congr 1; omega)
end Go.Proofs.Ytcpjbnfmkhaadaa
