/-
  The place at which two ordered ranges are cut, found by bisection. No program in sight. No condition.
-/
import Derived.Test.YtcpjbnfmkhaadaaSortQ
namespace Go.Proofs.Ytcpjbnfmkhaadaa
open Go.RowKit
set_option linter.unusedVariables false

/-- Where the search begins and ends. -/
def Ends (a m b mid L R : Nat) : Prop := (mid < m ∧ L = mid + m - b ∧ R = mid) ∨ (¬ mid < m ∧ L = a ∧ R = m)
def CutLo (key : Int → Int) (f : Nat → Int) (p L s : Nat) : Prop := ∀ c, L ≤ c → c < s → ¬ key (f (p - c)) < key (f c)
def CutHi (key : Int → Int) (f : Nat → Int) (p r R : Nat) : Prop := ∀ c, r ≤ c → c < R → key (f (p - c)) < key (f c)
theorem Ends.facts {a m b mid L R : Nat} (h : Ends a m b mid L R) (hm : mid = (a + b) / 2) (h1 : a < m) (h2 : m < b) : a ≤ L ∧ L ≤ R ∧ R ≤ m ∧ R ≤ mid ∧ m ≤ mid + m - R ∧ mid ≤ mid + m - R ∧ mid + m - L ≤ b := by
  unfold Ends at h; omega
theorem cut_lo {key : Int → Int} {f : Nat → Int} {a m b mid L R p c : Nat} (E : Ends a m b mid L R) (hm : mid = (a + b) / 2) (h1 : a < m) (h2 : m < b) (hp : p + 1 = mid + m) (s1 : Srt key f a m) (s2 : Srt key f m b) (hL : L ≤ c) (hR : c < R) (h : ¬ key (f (p - c)) < key (f c)) : CutLo key f p L (c + 1) := fun c' x1 x2 => by
  have F := E.facts hm h1 h2
  have y1 := s1.kle (show a ≤ c' by omega) (show c' ≤ c by omega) (by omega)
  have y2 := s2.kle (show m ≤ p - c by omega) (show p - c ≤ p - c' by omega) (by omega)
  omega
theorem cut_hi {key : Int → Int} {f : Nat → Int} {a m b mid L R p c : Nat} (E : Ends a m b mid L R) (hm : mid = (a + b) / 2) (h1 : a < m) (h2 : m < b) (hp : p + 1 = mid + m) (s1 : Srt key f a m) (s2 : Srt key f m b) (hL : L ≤ c) (hR : c < R) (h : key (f (p - c)) < key (f c)) : CutHi key f p c R := fun c' x1 x2 => by
  have F := E.facts hm h1 h2
  have y1 := s1.kle (show a ≤ c by omega) x1 (by omega)
  have y2 := s2.kle (show m ≤ p - c' by omega) (show p - c' ≤ p - c by omega) (by omega)
  omega
theorem Cut.of {key : Int → Int} {f : Nat → Int} {a m b mid L R p s e : Nat} (E : Ends a m b mid L R) (hm : mid = (a + b) / 2) (h1 : a < m) (h2 : m < b) (hp : p + 1 = mid + m) (s1 : Srt key f a m) (s2 : Srt key f m b) (lw : Lower f a m b) (hL : L ≤ s) (hR : s ≤ R) (he : s + e = mid + m)
    (lo : CutLo key f p L s) (hi : CutHi key f p s R) : Cut key f a s mid m e b := by
  have F := E.facts hm h1 h2
  refine ⟨by omega, by omega, by omega, by omega, he, s1, s2, lw, fun x1 x2 => ?_, fun x1 x2 => ?_⟩
  · have hs : L ≤ s - 1 := by unfold Ends at E; omega
    have y := lo (s - 1) hs (by omega)
    rw [show p - (s - 1) = e by omega] at y
    exact Ahead.idx y (lw (s - 1) e (by omega) (by omega) (by omega) x2)
  · have hs : s < R := by unfold Ends at E; omega
    have y := hi s (Nat.le_refl _) hs
    rw [show p - s = e - 1 by omega] at y
    exact .inl y
/-- The two halves in order, the whole is. -/
theorem Cut.left {key : Int → Int} {f : Nat → Int} {a s mid m e b : Nat} (C : Cut key f a s mid m e b) (hmid : a ≤ mid) (h : ¬ (a < s ∧ s < mid)) (hs : s ≤ mid) : Srt key (rot f s m e) a mid := by
  have := C.aS
  by_cases c : s = mid
  · have := C.srt1; rw [c] at this ⊢; exact this
  · have h2 : s = a := by omega
    have := C.srt2; rw [h2] at this ⊢; exact this
theorem Cut.right {key : Int → Int} {f : Nat → Int} {a s mid m e b : Nat} (C : Cut key f a s mid m e b) (hmid : mid ≤ e) (h : ¬ (mid < e ∧ e < b)) : Srt key (rot f s m e) mid b := by
  have := C.eb
  by_cases c : e = mid
  · have := C.srt4; rw [c] at this ⊢; exact this
  · have h2 : e = b := by omega
    have := C.srt3; rw [h2] at this ⊢; exact this
theorem Srt.out {key : Int → Int} {f h : Nat → Int} {a mid lo hi : Nat} (s : Srt key f lo hi) (m : Mix a mid f h) (hl : mid ≤ lo) : Srt key h lo hi := fun i j x1 x2 x3 => by
  rw [m.out i (.inr (by omega)), m.out j (.inr (by omega))]
  exact s i j x1 x2 x3
theorem Lower.out {f h : Nat → Int} {a mid lo m hi : Nat} (s : Lower f lo m hi) (mx : Mix a mid f h) (hl : mid ≤ lo) : Lower h lo m hi := fun p q x1 x2 x3 x4 => by
  rw [mx.out p (.inr (by omega)), mx.out q (.inr (by omega))]
  exact s p q x1 x2 x3 x4
theorem lower_of {f h1 h2 : Nat → Int} {a m b : Nat} (hf : ∀ p q, a ≤ p → p < q → q < b → f p < f q) (m1 : Mix a m f h1) (m2 : Mix m b h1 h2) : Lower h2 a m b := fun p q x1 x2 x3 x4 => by
  rw [m2.out p (.inl x2)]
  obtain ⟨p', y1, y2, y3⟩ := m1.from p x1 x2
  obtain ⟨q', z1, z2, z3⟩ := m2.from q x3 x4
  rw [y3, z3, m1.out q' (.inr z1)]
  exact hf p' q' y1 (by omega) z2
end Go.Proofs.Ytcpjbnfmkhaadaa
