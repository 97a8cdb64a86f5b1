/-
  slices.symMergeCmpFunc at int where the second range has a single element. Conditions: fewer than 1000000 integers, each below their count.
  The place at which two ordered ranges are cut, found by bisection. No program in sight. No condition.
  slices.symMergeCmpFunc at int, over a comparison that tells which of two keys is less. Conditions: fewer than 1000000 integers, each below their count.
  slices.symMergeCmpFunc at int, the first range the longer one. Conditions: fewer than 1000000 integers, each below their count.
  slices.symMergeCmpFunc at int, the first range not the longer one. Conditions: fewer than 1000000 integers, each below their count.
  slices.symMergeCmpFunc at int, over a comparison that tells which of two keys is less. Conditions: fewer than 1000000 integers, each below their count.
  slices.SortStableFunc at int, over a comparison that tells which of two keys is less. Conditions: fewer than 40 integers, each below their count, ascending at first.
  The comparison that impl.parted hands to the sort. Conditions: two places that lie in the row; rests of 64 bits.
  impl.total gives the sum of a row of integers. Conditions: fewer than 1000000000 integers, no sum on the way is too great.
  math/bits.Mul64 at any two numbers, math/bits.Div64 where the high word is 0. Conditions: numbers of 64 bits; the divisor is not 0.
  impl.parted gives the parts by the greatest rests. Conditions: 1 to 39 weights of at least 0, a sum above 0, a number of at least 0; the division tells its quotients and rests.
-/
import Derived.Test.YtpigjhagdpeofaaSm5
import Derived.Test.YtpigjhagdpeofaaSa2
import Derived.Test.YtpigjhagdpeofaaSa1
import Derived.Deep.QuietTactic
import Derived.BigQuiet
import Derived.Lib.Mul64
import Derived.Laws.Bits64b
import Derived.BigRegion

namespace Go.Proofs.Ytpigjhagdpeofaa
open Go.RowKit
set_option linter.unusedVariables false

set_option maxHeartbeats 3200000 in
set_option maxRecDepth 100000 in
theorem symB_pt (n g c a m : Nat) (b1 : Value) (key : Int → Int) (f : Nat → Int) (w0 w : World) (hn : n < 1000000) (hc : Cmp_pt w0 g n key b1) (hk : Kept (fun k => k = g) w0 w) (hr : RowAt w g n f)
    (hrg : Hid (Rng n f 0 n)) (hs : Hid (Srt key f a m)) (hl : Hid (Lower f a m (m + 1))) (ham : a + 1 < m) (hbn : m + 1 ≤ n) (b : Nat) (hm : b = m + 1) :
    Calls Sq.prog 80 #[.slice (some ⟨g, 0, none⟩) n c, .int .i64 a, .int .i64 m, .int .i64 b, .func (.func 69) #[] #[b1]] w
      fun e w' => e = .returned (.tuple #[]) ∧ ∃ h, RowAt w' g n h ∧ Mix a (m + 1) f h ∧ Srt key h a (m + 1) ∧ Kept (fun k => k = g) w0 w' := by
  have HC := Lib.hid hc
  have hg := hr.lt (by omega)
  have z1 : (b : Int) - m = 1 := by omega
  have z2 : IntKind.i64.wrap ((b : Int) - m) = 1 := by rw [z1]; rfl
  have z3 : ((m : Int) - a == 1) = false := by simp; omega
  have HM0 := Lib.hid hm
  clear hc hm
  go_enter Sq.func80, Sq.ntmps80
  go_wp2_with fail
  go_loopw [14, 15] (fun x y wr => ∃ i j : Nat, a ≤ i ∧ i ≤ j ∧ j ≤ m ∧ x = .int .i64 i ∧ y = .int .i64 j ∧ NoneMore key f (f m) a i ∧ AllMore key f (f m) j m ∧ RowAt wr g n f ∧ Kept (fun k => k = g) w0 wr) (fun x y _ => ((intOf y) - (intOf x)).toNat)
  case atStart => exact ⟨a, m, Nat.le_refl _, by omega, Nat.le_refl _, rfl, rfl, (fun q h1 h2 => by omega), (fun q h1 h2 => by omega), hr, hk⟩
  case round =>
    obtain ⟨i, j, hai, hij, hjb, rfl, rfl, hA, hB, hR, hK⟩ := hrel
    generalize hwA : wr = wA at *
    clear hwA
    by_cases hlt : i < j
    · obtain ⟨h, hh⟩ : ∃ h : Nat, h = (i + j) / 2 := ⟨_, rfl⟩
      have hi1 : i ≤ h ∧ h < j := by omega
      have e1 : ((i : Int) + j) / 2 = h := by omega
      have x1 := hR.at m (by omega)
      have x2 := hR.at h (by omega)
      have r1 := hrg.out m (Nat.zero_le _) (by omega)
      have r2 := hrg.out h (Nat.zero_le _) (by omega)
      have l1 : (h : Int) < n := by omega
      have l2 : (m : Int) < n := by omega
      obtain ⟨X, hX⟩ : ∃ X, f m = X := ⟨_, rfl⟩
      obtain ⟨Y, hY⟩ : ∃ Y, f h = Y := ⟨_, rfl⟩
      have HF : Hid (¬ key X < key Y → NoneMore key f (f m) a (h + 1)) := fun hxy q q1 q2 => by
        have := hs.out.kle q1 (show q ≤ h by omega) (by omega)
        rw [hY] at this
        rw [hX]
        omega
      have HT : Hid (key X < key Y → AllMore key f (f m) h m) := fun hxy q q1 q2 => by
        have := hs.out.kle (show a ≤ h by omega) q1 q2
        rw [hY] at this
        rw [hX]
        omega
      rw [hX] at x1 r1
      rw [hY] at x2 r2
      have R1 := Lib.hid r1
      have R2 := Lib.hid r2
      have HR := Lib.hid hR
      have HK := Lib.hid hK
      have HH := Lib.hid hh
      have hgA := hR.lt (by omega)
      clear hX hY r1 r2 hR hK hh
      cases hkk : decide (key X < key Y)
      case' false => have HD := Lib.hid (of_decide_eq_false hkk)
      case' true => have HD := Lib.hid (of_decide_eq_true hkk)
      all_goals
        go_wp2_with fail
        go_region_held3 (fun w' => w'.cell? ⟨g, m, none⟩ = some (.int .i64 X) ∧ w'.cell? ⟨g, h, none⟩ = some (.int .i64 Y) ∧ Below wA.heap.size wA w')
          (first | (exact ⟨Below.cellOf ((Below.refl _ _).drew) rfl x1, Below.cellOf ((Below.refl _ _).drew) rfl x2, (Below.refl _ _).drew⟩) | (go_split_ands; refine ⟨Below.cellOf hb5 rfl (by assumption), Below.cellOf hb5 rfl (by assumption), bnext (by assumption) hb5⟩))
          ((first | (go_at_call 69; (try go_split_ands); refine (HC.out _ (Kept.next HK.out (by assumption)) X Y R1.out R2.out).mono ?_; rintro e w5 ⟨r, rfl, hr5, hb5⟩; rw [hkk] at hr5)))
        rename_i hH
        have hH2 := hH.2.2
        have hR5 := HR.out.below hgA hH2
        have hK5 := HK.out.next hH2
        clear hH hb5 hH2 e1
      · go_wp2_with fail
        go_roundw
        case rel => exact ⟨i, h, hai, by omega, by omega, rfl, rfl, hA, HT.out HD.out, hR5, hK5⟩
        case measure => simp [intOf]; omega
      · go_wp2_with fail
        go_roundw
        case rel => exact ⟨h + 1, j, by omega, by omega, hjb, by go_num, rfl, HF.out HD.out, hB, hR5, hK5⟩
        case measure => simp [intOf]; omega
    · obtain rfl : j = i := by omega
      have hRot : RowAt wA g n (rot f m m (m + 1)) := by rw [rot_triv f (.inl rfl) (Nat.le_refl _) (Nat.le_succ _)]; exact hR
      clear hR
      go_wp2_with fail
      go_loopw [17] (fun v wr => ∃ k : Nat, j ≤ k ∧ k ≤ m ∧ v = .int .i64 k ∧ RowAt wr g n (rot f k m (m + 1)) ∧ Kept (fun k => k = g) w0 wr) (fun v _ => (intOf v).toNat)
      case atStart => exact ⟨m, hjb, Nat.le_refl _, rfl, hRot, hK⟩
      case round =>
        obtain ⟨q, hjq, hqm, rfl, hR, hK⟩ := hrel
        by_cases hlt2 : j < q
        · obtain ⟨k, rfl⟩ : ∃ k, q = k + 1 := ⟨q - 1, by omega⟩
          have l1 : (j : Int) < (k : Int) + 1 := by omega
          have l2 : (k : Int) < n := by omega
          have l3 : (k : Int) + 1 < n := by omega
          have l4 : (0 : Int) ≤ (k : Int) + 1 := by omega
          have l5 : ((k : Int) + 1).toNat = k + 1 := by omega
          have e1 : IntKind.i64.wrap ((k : Int) + 1 - 1) = k := by rw [show (k : Int) + 1 - 1 = k by omega]; exact IntWalk.i64_in _ (by omega)
          have e2 : IntKind.i64.wrap (k : Int) = k := IntWalk.i64_in _ (by omega)
          have y1 := hR.at k (by omega)
          have y2 := hR.at (k + 1) (by omega)
          have g1 := hR.2 k
          have g2 := hR.2 (k + 1)
          have hSW := hR.swapD (i := k + 1) (j := k) (by omega) (by omega) (by omega)
          rw [rot_down f hqm] at hSW
          obtain ⟨F, hF⟩ : ∃ F, rot f (k + 1) m (m + 1) = F := ⟨_, rfl⟩
          rw [hF] at y1 y2 hSW
          have HSW := Lib.hid hSW
          have HK := Lib.hid hK
          clear hR hF hSW hK
          obtain ⟨k1, hk1⟩ : ∃ k1, k1 = k + 1 := ⟨_, rfl⟩
          rw [← hk1] at y2 g2 l5
          have hne : k1 ≠ k := by omega
          have hne2 : k ≠ k1 := by omega
          have J1 := Lib.hid hk1
          clear hk1
          go_wp2_with fail
          go_region
          go_wp2_with fail
          go_roundw
          case rel => exact ⟨k, by omega, by omega, by go_num, by rw [J1.out]; exact HSW.out, HK.out.swapD rfl _ _ _ _⟩
          case measure => first | (simp [intOf]; done) | (simp [intOf]; omega)
        · have l1 : ¬ (j : Int) < (q : Int) := by omega
          obtain rfl : q = j := by omega
          have HS := Lib.hid (srt_last hai hqm hs.out hl.out hA hB)
          have HM : Hid (Mix a (m + 1) f (rot f q m (m + 1))) := (Mix.rot f hqm (Nat.le_succ _)).mono hai (Nat.le_refl _)
          go_wp2_with fail
          refine bodyPost_ret (v := .tuple #[]) (results_none rfl _ _ _) rfl ?_
          exact ⟨rfl, _, hR, HM.out, HS.out, hK⟩
end Go.Proofs.Ytpigjhagdpeofaa

namespace Go.Proofs.Ytpigjhagdpeofaa
open Go.RowKit
set_option linter.unusedVariables false

/-- Where the search begins and ends. -/
def Ends (a m b mid L R : Nat) : Prop := (mid < m ∧ L = mid + m - b ∧ R = mid) ∨ (¬ mid < m ∧ L = a ∧ R = m)
def CutLo (key : Int → Int) (f : Nat → Int) (p L s : Nat) : Prop := ∀ c, L ≤ c → c < s → ¬ key (f (p - c)) < key (f c)
def CutHi (key : Int → Int) (f : Nat → Int) (p r R : Nat) : Prop := ∀ c, r ≤ c → c < R → key (f (p - c)) < key (f c)
theorem Ends.facts {a m b mid L R : Nat} (h : Ends a m b mid L R) (hm : mid = (a + b) / 2) (h1 : a < m) (h2 : m < b) : a ≤ L ∧ L ≤ R ∧ R ≤ m ∧ R ≤ mid ∧ m ≤ mid + m - R ∧ mid ≤ mid + m - R ∧ mid + m - L ≤ b := by
  unfold Ends at h; omega
theorem cut_lo {key : Int → Int} {f : Nat → Int} {a m b mid L R p c : Nat} (E : Ends a m b mid L R) (hm : mid = (a + b) / 2) (h1 : a < m) (h2 : m < b) (hp : p + 1 = mid + m) (s1 : Srt key f a m) (s2 : Srt key f m b) (hL : L ≤ c) (hR : c < R) (h : ¬ key (f (p - c)) < key (f c)) : CutLo key f p L (c + 1) := fun c' x1 x2 => by
  have F := E.facts hm h1 h2
  have y1 := s1.kle (show a ≤ c' by omega) (show c' ≤ c by omega) (by omega)
  have y2 := s2.kle (show m ≤ p - c by omega) (show p - c ≤ p - c' by omega) (by omega)
  omega
theorem cut_hi {key : Int → Int} {f : Nat → Int} {a m b mid L R p c : Nat} (E : Ends a m b mid L R) (hm : mid = (a + b) / 2) (h1 : a < m) (h2 : m < b) (hp : p + 1 = mid + m) (s1 : Srt key f a m) (s2 : Srt key f m b) (hL : L ≤ c) (hR : c < R) (h : key (f (p - c)) < key (f c)) : CutHi key f p c R := fun c' x1 x2 => by
  have F := E.facts hm h1 h2
  have y1 := s1.kle (show a ≤ c by omega) x1 (by omega)
  have y2 := s2.kle (show m ≤ p - c' by omega) (show p - c' ≤ p - c by omega) (by omega)
  omega
theorem Cut.of {key : Int → Int} {f : Nat → Int} {a m b mid L R p s e : Nat} (E : Ends a m b mid L R) (hm : mid = (a + b) / 2) (h1 : a < m) (h2 : m < b) (hp : p + 1 = mid + m) (s1 : Srt key f a m) (s2 : Srt key f m b) (lw : Lower f a m b) (hL : L ≤ s) (hR : s ≤ R) (he : s + e = mid + m)
    (lo : CutLo key f p L s) (hi : CutHi key f p s R) : Cut key f a s mid m e b := by
  have F := E.facts hm h1 h2
  refine ⟨by omega, by omega, by omega, by omega, he, s1, s2, lw, fun x1 x2 => ?_, fun x1 x2 => ?_⟩
  · have hs : L ≤ s - 1 := by unfold Ends at E; omega
    have y := lo (s - 1) hs (by omega)
    rw [show p - (s - 1) = e by omega] at y
    exact Ahead.idx y (lw (s - 1) e (by omega) (by omega) (by omega) x2)
  · have hs : s < R := by unfold Ends at E; omega
    have y := hi s (Nat.le_refl _) hs
    rw [show p - s = e - 1 by omega] at y
    exact .inl y
/-- The two halves in order, the whole is. -/
theorem Cut.left {key : Int → Int} {f : Nat → Int} {a s mid m e b : Nat} (C : Cut key f a s mid m e b) (hmid : a ≤ mid) (h : ¬ (a < s ∧ s < mid)) (hs : s ≤ mid) : Srt key (rot f s m e) a mid := by
  have := C.aS
  by_cases c : s = mid
  · have := C.srt1; rw [c] at this ⊢; exact this
  · have h2 : s = a := by omega
    have := C.srt2; rw [h2] at this ⊢; exact this
theorem Cut.right {key : Int → Int} {f : Nat → Int} {a s mid m e b : Nat} (C : Cut key f a s mid m e b) (hmid : mid ≤ e) (h : ¬ (mid < e ∧ e < b)) : Srt key (rot f s m e) mid b := by
  have := C.eb
  by_cases c : e = mid
  · have := C.srt4; rw [c] at this ⊢; exact this
  · have h2 : e = b := by omega
    have := C.srt3; rw [h2] at this ⊢; exact this
theorem Srt.out {key : Int → Int} {f h : Nat → Int} {a mid lo hi : Nat} (s : Srt key f lo hi) (m : Mix a mid f h) (hl : mid ≤ lo) : Srt key h lo hi := fun i j x1 x2 x3 => by
  rw [m.out i (.inr (by omega)), m.out j (.inr (by omega))]
  exact s i j x1 x2 x3
theorem Lower.out {f h : Nat → Int} {a mid lo m hi : Nat} (s : Lower f lo m hi) (mx : Mix a mid f h) (hl : mid ≤ lo) : Lower h lo m hi := fun p q x1 x2 x3 x4 => by
  rw [mx.out p (.inr (by omega)), mx.out q (.inr (by omega))]
  exact s p q x1 x2 x3 x4
theorem lower_of {f h1 h2 : Nat → Int} {a m b : Nat} (hf : ∀ p q, a ≤ p → p < q → q < b → f p < f q) (m1 : Mix a m f h1) (m2 : Mix m b h1 h2) : Lower h2 a m b := fun p q x1 x2 x3 x4 => by
  rw [m2.out p (.inl x2)]
  obtain ⟨p', y1, y2, y3⟩ := m1.from p x1 x2
  obtain ⟨q', z1, z2, z3⟩ := m2.from q x3 x4
  rw [y3, z3, m1.out q' (.inr z1)]
  exact hf p' q' y1 (by omega) z2
end Go.Proofs.Ytpigjhagdpeofaa

namespace Go.Proofs.Ytpigjhagdpeofaa
open Go.RowKit
set_option linter.unusedVariables false

def MergeC_pt (w0 : World) (g n c : Nat) (b1 : Value) (key : Int → Int) (a m b : Nat) (f : Nat → Int) : Prop := ∀ w, Kept (fun k => k = g) w0 w → RowAt w g n f → Calls Sq.prog 80 #[.slice (some ⟨g, 0, none⟩) n c, .int .i64 a, .int .i64 m, .int .i64 b, .func (.func 69) #[] #[b1]] w
      fun e w' => e = .returned (.tuple #[]) ∧ ∃ h, RowAt w' g n h ∧ Mix a b f h ∧ Srt key h a b ∧ Kept (fun k => k = g) w0 w'
end Go.Proofs.Ytpigjhagdpeofaa

namespace Go.Proofs.Ytpigjhagdpeofaa
open Go.RowKit
set_option linter.unusedVariables false

set_option maxHeartbeats 6400000 in
set_option maxRecDepth 100000 in
theorem symM1_pt (n g c : Nat) (b1 : Value) (key : Int → Int) (w0 : World) (hn : n < 1000000) (hc : Cmp_pt w0 g n key b1) (d a m b mid : Nat) (f : Nat → Int)
    (ih : ∀ (a m b : Nat) (f : Nat → Int), b - a ≤ d → Rng n f 0 n → Srt key f a m → Srt key f m b → Lower f a m b → a < m → m < b → b ≤ n → MergeC_pt w0 g n c b1 key a m b f)
    (hd : b - a ≤ d + 1) (hrg : Rng n f 0 n) (hs1 : Srt key f a m) (hs2 : Srt key f m b) (hl : Lower f a m b) (ham : a < m) (hmb : m < b) (hbn : b ≤ n) (k1 : m ≠ a + 1) (k2 : b ≠ m + 1) (hmid : mid = (a + b) / 2) (q1 : mid < m) : MergeC_pt w0 g n c b1 key a m b f := by
  intro w hk hr
  have HC := Lib.hid hc
  have hg := hr.lt (by omega)
  have e0 : ((a : Int) + b) / 2 = mid := by omega
  have z1 : ((m : Int) - a == 1) = false := by simp; omega
  have z2 : ((b : Int) - m == 1) = false := by simp; omega
  obtain ⟨p, hp⟩ : ∃ p, p + 1 = mid + m := ⟨mid + m - 1, by omega⟩
  have ep : (mid : Int) + m - 1 = p := by omega
  have ep2 : IntKind.i64.wrap ((mid : Int) + m - 1) = p := by rw [ep]; exact IntWalk.i64_in _ (by omega)
  have eL : (mid : Int) + m - b = ((mid + m - b : Nat) : Int) := by omega
  obtain ⟨L, R, hE, hLi, hRi⟩ : ∃ L R : Nat, Ends a m b mid L R ∧ ((mid + m - b : Nat) : Int) = L ∧ ((mid : Nat) : Int) = R := ⟨_, _, .inl ⟨q1, rfl, rfl⟩, rfl, rfl⟩
  have HE := Lib.hid hE
  have HF := Lib.hid (HE.out.facts hmid ham hmb)
  have HM := Lib.hid hmid
  have S1 := Lib.hid hs1
  have S2 := Lib.hid hs2
  have LW := Lib.hid hl
  have RG := Lib.hid hrg
  have IH := Lib.hid ih
  have HLR : L ≤ R := HF.out.2.1
  have HLi := Lib.hid hLi
  have HRi := Lib.hid hRi
  clear hE hLi hRi
  clear hc hmid hs1 hs2 hl hrg ih
  go_enter Sq.func80, Sq.ntmps80
  go_wp2_with fail
  go_loopw [20, 21] (fun x y wr => ∃ s r : Nat, L ≤ s ∧ s ≤ r ∧ r ≤ R ∧ x = .int .i64 s ∧ y = .int .i64 r ∧ Hid (CutLo key f p L s) ∧ Hid (CutHi key f p r R) ∧ RowAt wr g n f ∧ Kept (fun k => k = g) w0 wr) (fun x y _ => ((intOf y) - (intOf x)).toNat)
  case atStart => exact ⟨L, R, Nat.le_refl _, HLR, Nat.le_refl _, by first | rfl | (rw [← HLi.out]) | (rw [← HLi.out]; go_num), by first | rfl | (rw [← HRi.out]) | (rw [← HRi.out]; go_num), (fun c x1 x2 => by omega), (fun c x1 x2 => by omega), hr, hk⟩
  case round =>
    obtain ⟨s, r, hLs, hsr, hrR, rfl, rfl, hA, hB, hR, hK⟩ := hrel
    generalize hwA : wr = wA at *
    clear hwA
    have F := HF.out
    by_cases hlt : s < r
    · obtain ⟨h, hh⟩ : ∃ h : Nat, h = (s + r) / 2 := ⟨_, rfl⟩
      have hi1 : s ≤ h ∧ h < r := by omega
      have e1 : ((s : Int) + r) / 2 = h := by omega
      obtain ⟨ph, hph⟩ : ∃ ph, ph = p - h := ⟨_, rfl⟩
      have e2 : (p : Int) - h = ph := by omega
      have e3 : IntKind.i64.wrap ((p : Int) - h) = ph := by rw [e2]; exact IntWalk.i64_in _ (by omega)
      have e4 : IntKind.i64.wrap (ph : Int) = ph := IntWalk.i64_in _ (by omega)
      have x1 := hR.at ph (by omega)
      have x2 := hR.at h (by omega)
      have r1 := RG.out ph (Nat.zero_le _) (by omega)
      have r2 := RG.out h (Nat.zero_le _) (by omega)
      have l1 : (h : Int) < n := by omega
      have l2 : (ph : Int) < n := by omega
      obtain ⟨X, hX⟩ : ∃ X, f ph = X := ⟨_, rfl⟩
      obtain ⟨Y, hY⟩ : ∃ Y, f h = Y := ⟨_, rfl⟩
      have HFa : Hid (¬ key X < key Y → CutLo key f p L (h + 1)) := fun hxy => cut_lo HE.out HM.out ham hmb hp S1.out S2.out (by omega) (by omega) (by rw [← hph, hX, hY]; exact hxy)
      have HTr : Hid (key X < key Y → CutHi key f p h R) := fun hxy => cut_hi HE.out HM.out ham hmb hp S1.out S2.out (by omega) (by omega) (by rw [← hph, hX, hY]; exact hxy)
      rw [hX] at x1 r1
      rw [hY] at x2 r2
      have R1 := Lib.hid r1
      have R2 := Lib.hid r2
      have HR := Lib.hid hR
      have HK := Lib.hid hK
      have HH := Lib.hid hh
      have HPH := Lib.hid hph
      have hgA := hR.lt (by omega)
      clear hX hY r1 r2 hR hK hh hph
      cases hkk : decide (key X < key Y)
      case' false => have HD := Lib.hid (of_decide_eq_false hkk)
      case' true => have HD := Lib.hid (of_decide_eq_true hkk)
      all_goals
        go_wp2_with fail
        go_region_held3 (fun w' => w'.cell? ⟨g, ph, none⟩ = some (.int .i64 X) ∧ w'.cell? ⟨g, h, none⟩ = some (.int .i64 Y) ∧ Below wA.heap.size wA w')
          (first | (exact ⟨Below.cellOf ((Below.refl _ _).drew) rfl x1, Below.cellOf ((Below.refl _ _).drew) rfl x2, (Below.refl _ _).drew⟩) | (go_split_ands; refine ⟨Below.cellOf hb5 rfl (by assumption), Below.cellOf hb5 rfl (by assumption), bnext (by assumption) hb5⟩))
          ((first | (go_at_call 69; (try go_split_ands); refine (HC.out _ (Kept.next HK.out (by assumption)) X Y R1.out R2.out).mono ?_; rintro e w5 ⟨r5, rfl, hr5, hb5⟩; rw [hkk] at hr5)))
        rename_i hH
        have hH2 := hH.2.2
        have hR5 := HR.out.below hgA hH2
        have hK5 := HK.out.next hH2
        clear hH hb5 hH2 e1
      · go_wp2_with fail
        go_roundw
        case rel => exact ⟨s, h, hLs, by omega, by omega, rfl, rfl, hA, HTr.out HD.out, hR5, hK5⟩
        case measure => simp [intOf]; omega
      · go_wp2_with fail
        go_roundw
        case rel => exact ⟨h + 1, r, by omega, by omega, hrR, by go_num, rfl, HFa.out HD.out, hB, hR5, hK5⟩
        case measure => simp [intOf]; omega
    · obtain rfl : r = s := by omega
      obtain ⟨e, he⟩ : ∃ e, r + e = mid + m := ⟨mid + m - r, by omega⟩
      have ee : (mid : Int) + m - r = e := by omega
      have ee3 : IntKind.i64.wrap (e : Int) = e := IntWalk.i64_in _ (by omega)
      have ee2 : IntKind.i64.wrap ((mid : Int) + m - r) = e := by rw [ee]; exact IntWalk.i64_in _ (by omega)
      have HCUT := Lib.hid (Cut.of HE.out HM.out ham hmb hp S1.out S2.out LW.out hLs hrR he hA.out hB.out)
      have HMX : Hid (Mix a b f (rot f r m e)) := (Mix.rot f (by omega) (by omega)).mono (by omega) (by omega)
      have HX := Lib.hid HCUT.out.cross
      have HRG : Hid (Rng n (rot f r m e) 0 n) := RG.out.mix HMX.out hbn
      have HL := Lib.hid HCUT.out.left
      have HRt := Lib.hid HCUT.out.right
      have HI1 : Hid (a < r → r < mid → MergeC_pt w0 g n c b1 key a r mid (rot f r m e)) := fun x1 x2 => IH.out a r mid _ (by omega) HRG.out HCUT.out.srt1 HCUT.out.srt2 HCUT.out.lw1 x1 x2 (by omega)
      have HI2 : Hid (mid < e → e < b → ∀ h1, Mix a mid (rot f r m e) h1 → MergeC_pt w0 g n c b1 key mid e b h1) := fun x1 x2 h1 mx => IH.out mid e b _ (by omega) (HRG.out.mix mx (by omega)) (HCUT.out.srt3.out mx (Nat.le_refl _)) (HCUT.out.srt4.out mx (by omega)) (HCUT.out.lw2.out mx (Nat.le_refl _)) x1 x2 hbn
      have HTR : Hid (¬ (r < m ∧ m < e) → rot f r m e = f) := fun x => rot_triv f (by omega) (by omega) (by omega)
      have E1 : a ≤ mid := by omega
      have E2 : mid ≤ e := by omega
      have E3 : r ≤ mid := by omega
      have E4 : e ≤ b := by omega
      obtain ⟨GG, hGG⟩ : ∃ GG, rot f r m e = GG := ⟨_, rfl⟩
      have HGG := Lib.hid hGG
      rw [hGG] at HMX HX HRG HL HRt HI1 HI2 HTR
      clear HCUT F hA hB hGG
      by_cases c1 : r < m ∧ m < e
      case' pos =>
        obtain ⟨c1a, c1b⟩ := c1
        have HROT := Lib.hid (rotate_any n g c r m e (.func (.func 69) #[] #[b1]) f wA hn hR c1a c1b (by omega))
        go_wp2_with fail
        refine HROT.out.mono ?_
        rintro e9 w2 ⟨rfl, hR2, hK2'⟩
        have hK2 := hK.trans hK2'
        rw [HGG.out] at hR2
        clear hR hK hK2'
      case' neg =>
        have hR2 := hR
        rw [← HTR.out c1] at hR2
        have hK2 := hK
        clear hR hK
      all_goals
        by_cases c2 : a < r ∧ r < mid
        all_goals (try (exfalso; omega))
        try case' pos =>
          obtain ⟨c2a, c2b⟩ := c2
          go_wp2_with fail
          refine (HI1.out c2a c2b _ hK2 hR2).mono ?_
          rintro e9 w3 ⟨rfl, h1, hR3, hM3, hS3, hK3⟩
        try case' neg =>
          obtain ⟨h1, hR3, hM3, hS3, hK3⟩ := (⟨GG, hR2, Mix.refl _ _ _, HL.out E1 c2 E3, hK2⟩ : ∃ h1, RowAt _ g n h1 ∧ Mix a mid GG h1 ∧ Srt key h1 a mid ∧ Kept (fun k => k = g) w0 _)
        all_goals
          clear hR2 hK2
          by_cases c3 : mid < e ∧ e < b
          all_goals (try (exfalso; omega))
          try case' pos =>
            obtain ⟨c3a, c3b⟩ := c3
            go_wp2_with fail
            refine (HI2.out c3a c3b h1 hM3 _ hK3 hR3).mono ?_
            rintro e9 w4 ⟨rfl, h2, hR4, hM4, hS4, hK4⟩
          try case' neg =>
            obtain ⟨h2, hR4, hM4, hS4, hK4⟩ := (⟨h1, hR3, Mix.refl _ _ _, (HRt.out E2 c3).out hM3 (Nat.le_refl _), hK3⟩ : ∃ h2, RowAt _ g n h2 ∧ Mix mid b h1 h2 ∧ Srt key h2 mid b ∧ Kept (fun k => k = g) w0 _)
          all_goals
            go_wp2_with fail
            go_end0
            exact ⟨rfl, h2, hR4, HMX.out.trans ((hM3.mono (Nat.le_refl _) (by omega)).trans (hM4.mono (by omega) (Nat.le_refl _))), srt_join HX.out hM3 hM4 hS3 hS4, hK4⟩
end Go.Proofs.Ytpigjhagdpeofaa

namespace Go.Proofs.Ytpigjhagdpeofaa
open Go.RowKit
set_option linter.unusedVariables false

set_option maxHeartbeats 6400000 in
set_option maxRecDepth 100000 in
theorem symM2_pt (n g c : Nat) (b1 : Value) (key : Int → Int) (w0 : World) (hn : n < 1000000) (hc : Cmp_pt w0 g n key b1) (d a m b mid : Nat) (f : Nat → Int)
    (ih : ∀ (a m b : Nat) (f : Nat → Int), b - a ≤ d → Rng n f 0 n → Srt key f a m → Srt key f m b → Lower f a m b → a < m → m < b → b ≤ n → MergeC_pt w0 g n c b1 key a m b f)
    (hd : b - a ≤ d + 1) (hrg : Rng n f 0 n) (hs1 : Srt key f a m) (hs2 : Srt key f m b) (hl : Lower f a m b) (ham : a < m) (hmb : m < b) (hbn : b ≤ n) (k1 : m ≠ a + 1) (k2 : b ≠ m + 1) (hmid : mid = (a + b) / 2) (q1 : ¬ mid < m) : MergeC_pt w0 g n c b1 key a m b f := by
  intro w hk hr
  have HC := Lib.hid hc
  have hg := hr.lt (by omega)
  have e0 : ((a : Int) + b) / 2 = mid := by omega
  have z1 : ((m : Int) - a == 1) = false := by simp; omega
  have z2 : ((b : Int) - m == 1) = false := by simp; omega
  obtain ⟨p, hp⟩ : ∃ p, p + 1 = mid + m := ⟨mid + m - 1, by omega⟩
  have ep : (mid : Int) + m - 1 = p := by omega
  have ep2 : IntKind.i64.wrap ((mid : Int) + m - 1) = p := by rw [ep]; exact IntWalk.i64_in _ (by omega)
  skip
  obtain ⟨L, R, hE, hLi, hRi⟩ : ∃ L R : Nat, Ends a m b mid L R ∧ ((a : Nat) : Int) = L ∧ ((m : Nat) : Int) = R := ⟨_, _, .inr ⟨q1, rfl, rfl⟩, rfl, rfl⟩
  have HE := Lib.hid hE
  have HF := Lib.hid (HE.out.facts hmid ham hmb)
  have HM := Lib.hid hmid
  have S1 := Lib.hid hs1
  have S2 := Lib.hid hs2
  have LW := Lib.hid hl
  have RG := Lib.hid hrg
  have IH := Lib.hid ih
  have HLR : L ≤ R := HF.out.2.1
  have HLi := Lib.hid hLi
  have HRi := Lib.hid hRi
  clear hE hLi hRi
  clear hc hmid hs1 hs2 hl hrg ih
  go_enter Sq.func80, Sq.ntmps80
  go_wp2_with fail
  go_loopw [20, 21] (fun x y wr => ∃ s r : Nat, L ≤ s ∧ s ≤ r ∧ r ≤ R ∧ x = .int .i64 s ∧ y = .int .i64 r ∧ Hid (CutLo key f p L s) ∧ Hid (CutHi key f p r R) ∧ RowAt wr g n f ∧ Kept (fun k => k = g) w0 wr) (fun x y _ => ((intOf y) - (intOf x)).toNat)
  case atStart => exact ⟨L, R, Nat.le_refl _, HLR, Nat.le_refl _, by first | rfl | (rw [← HLi.out]) | (rw [← HLi.out]; go_num), by first | rfl | (rw [← HRi.out]) | (rw [← HRi.out]; go_num), (fun c x1 x2 => by omega), (fun c x1 x2 => by omega), hr, hk⟩
  case round =>
    obtain ⟨s, r, hLs, hsr, hrR, rfl, rfl, hA, hB, hR, hK⟩ := hrel
    generalize hwA : wr = wA at *
    clear hwA
    have F := HF.out
    by_cases hlt : s < r
    · obtain ⟨h, hh⟩ : ∃ h : Nat, h = (s + r) / 2 := ⟨_, rfl⟩
      have hi1 : s ≤ h ∧ h < r := by omega
      have e1 : ((s : Int) + r) / 2 = h := by omega
      obtain ⟨ph, hph⟩ : ∃ ph, ph = p - h := ⟨_, rfl⟩
      have e2 : (p : Int) - h = ph := by omega
      have e3 : IntKind.i64.wrap ((p : Int) - h) = ph := by rw [e2]; exact IntWalk.i64_in _ (by omega)
      have e4 : IntKind.i64.wrap (ph : Int) = ph := IntWalk.i64_in _ (by omega)
      have x1 := hR.at ph (by omega)
      have x2 := hR.at h (by omega)
      have r1 := RG.out ph (Nat.zero_le _) (by omega)
      have r2 := RG.out h (Nat.zero_le _) (by omega)
      have l1 : (h : Int) < n := by omega
      have l2 : (ph : Int) < n := by omega
      obtain ⟨X, hX⟩ : ∃ X, f ph = X := ⟨_, rfl⟩
      obtain ⟨Y, hY⟩ : ∃ Y, f h = Y := ⟨_, rfl⟩
      have HFa : Hid (¬ key X < key Y → CutLo key f p L (h + 1)) := fun hxy => cut_lo HE.out HM.out ham hmb hp S1.out S2.out (by omega) (by omega) (by rw [← hph, hX, hY]; exact hxy)
      have HTr : Hid (key X < key Y → CutHi key f p h R) := fun hxy => cut_hi HE.out HM.out ham hmb hp S1.out S2.out (by omega) (by omega) (by rw [← hph, hX, hY]; exact hxy)
      rw [hX] at x1 r1
      rw [hY] at x2 r2
      have R1 := Lib.hid r1
      have R2 := Lib.hid r2
      have HR := Lib.hid hR
      have HK := Lib.hid hK
      have HH := Lib.hid hh
      have HPH := Lib.hid hph
      have hgA := hR.lt (by omega)
      clear hX hY r1 r2 hR hK hh hph
      cases hkk : decide (key X < key Y)
      case' false => have HD := Lib.hid (of_decide_eq_false hkk)
      case' true => have HD := Lib.hid (of_decide_eq_true hkk)
      all_goals
        go_wp2_with fail
        go_region_held3 (fun w' => w'.cell? ⟨g, ph, none⟩ = some (.int .i64 X) ∧ w'.cell? ⟨g, h, none⟩ = some (.int .i64 Y) ∧ Below wA.heap.size wA w')
          (first | (exact ⟨Below.cellOf ((Below.refl _ _).drew) rfl x1, Below.cellOf ((Below.refl _ _).drew) rfl x2, (Below.refl _ _).drew⟩) | (go_split_ands; refine ⟨Below.cellOf hb5 rfl (by assumption), Below.cellOf hb5 rfl (by assumption), bnext (by assumption) hb5⟩))
          ((first | (go_at_call 69; (try go_split_ands); refine (HC.out _ (Kept.next HK.out (by assumption)) X Y R1.out R2.out).mono ?_; rintro e w5 ⟨r5, rfl, hr5, hb5⟩; rw [hkk] at hr5)))
        rename_i hH
        have hH2 := hH.2.2
        have hR5 := HR.out.below hgA hH2
        have hK5 := HK.out.next hH2
        clear hH hb5 hH2 e1
      · go_wp2_with fail
        go_roundw
        case rel => exact ⟨s, h, hLs, by omega, by omega, rfl, rfl, hA, HTr.out HD.out, hR5, hK5⟩
        case measure => simp [intOf]; omega
      · go_wp2_with fail
        go_roundw
        case rel => exact ⟨h + 1, r, by omega, by omega, hrR, by go_num, rfl, HFa.out HD.out, hB, hR5, hK5⟩
        case measure => simp [intOf]; omega
    · obtain rfl : r = s := by omega
      obtain ⟨e, he⟩ : ∃ e, r + e = mid + m := ⟨mid + m - r, by omega⟩
      have ee : (mid : Int) + m - r = e := by omega
      have ee3 : IntKind.i64.wrap (e : Int) = e := IntWalk.i64_in _ (by omega)
      have ee2 : IntKind.i64.wrap ((mid : Int) + m - r) = e := by rw [ee]; exact IntWalk.i64_in _ (by omega)
      have HCUT := Lib.hid (Cut.of HE.out HM.out ham hmb hp S1.out S2.out LW.out hLs hrR he hA.out hB.out)
      have HMX : Hid (Mix a b f (rot f r m e)) := (Mix.rot f (by omega) (by omega)).mono (by omega) (by omega)
      have HX := Lib.hid HCUT.out.cross
      have HRG : Hid (Rng n (rot f r m e) 0 n) := RG.out.mix HMX.out hbn
      have HL := Lib.hid HCUT.out.left
      have HRt := Lib.hid HCUT.out.right
      have HI1 : Hid (a < r → r < mid → MergeC_pt w0 g n c b1 key a r mid (rot f r m e)) := fun x1 x2 => IH.out a r mid _ (by omega) HRG.out HCUT.out.srt1 HCUT.out.srt2 HCUT.out.lw1 x1 x2 (by omega)
      have HI2 : Hid (mid < e → e < b → ∀ h1, Mix a mid (rot f r m e) h1 → MergeC_pt w0 g n c b1 key mid e b h1) := fun x1 x2 h1 mx => IH.out mid e b _ (by omega) (HRG.out.mix mx (by omega)) (HCUT.out.srt3.out mx (Nat.le_refl _)) (HCUT.out.srt4.out mx (by omega)) (HCUT.out.lw2.out mx (Nat.le_refl _)) x1 x2 hbn
      have HTR : Hid (¬ (r < m ∧ m < e) → rot f r m e = f) := fun x => rot_triv f (by omega) (by omega) (by omega)
      have E1 : a ≤ mid := by omega
      have E2 : mid ≤ e := by omega
      have E3 : r ≤ mid := by omega
      have E4 : e ≤ b := by omega
      obtain ⟨GG, hGG⟩ : ∃ GG, rot f r m e = GG := ⟨_, rfl⟩
      have HGG := Lib.hid hGG
      rw [hGG] at HMX HX HRG HL HRt HI1 HI2 HTR
      clear HCUT F hA hB hGG
      by_cases c1 : r < m ∧ m < e
      case' pos =>
        obtain ⟨c1a, c1b⟩ := c1
        have HROT := Lib.hid (rotate_any n g c r m e (.func (.func 69) #[] #[b1]) f wA hn hR c1a c1b (by omega))
        go_wp2_with fail
        refine HROT.out.mono ?_
        rintro e9 w2 ⟨rfl, hR2, hK2'⟩
        have hK2 := hK.trans hK2'
        rw [HGG.out] at hR2
        clear hR hK hK2'
      case' neg =>
        have hR2 := hR
        rw [← HTR.out c1] at hR2
        have hK2 := hK
        clear hR hK
      all_goals
        by_cases c2 : a < r ∧ r < mid
        all_goals (try (exfalso; omega))
        try case' pos =>
          obtain ⟨c2a, c2b⟩ := c2
          go_wp2_with fail
          refine (HI1.out c2a c2b _ hK2 hR2).mono ?_
          rintro e9 w3 ⟨rfl, h1, hR3, hM3, hS3, hK3⟩
        try case' neg =>
          obtain ⟨h1, hR3, hM3, hS3, hK3⟩ := (⟨GG, hR2, Mix.refl _ _ _, HL.out E1 c2 E3, hK2⟩ : ∃ h1, RowAt _ g n h1 ∧ Mix a mid GG h1 ∧ Srt key h1 a mid ∧ Kept (fun k => k = g) w0 _)
        all_goals
          clear hR2 hK2
          by_cases c3 : mid < e ∧ e < b
          all_goals (try (exfalso; omega))
          try case' pos =>
            obtain ⟨c3a, c3b⟩ := c3
            go_wp2_with fail
            refine (HI2.out c3a c3b h1 hM3 _ hK3 hR3).mono ?_
            rintro e9 w4 ⟨rfl, h2, hR4, hM4, hS4, hK4⟩
          try case' neg =>
            obtain ⟨h2, hR4, hM4, hS4, hK4⟩ := (⟨h1, hR3, Mix.refl _ _ _, (HRt.out E2 c3).out hM3 (Nat.le_refl _), hK3⟩ : ∃ h2, RowAt _ g n h2 ∧ Mix mid b h1 h2 ∧ Srt key h2 mid b ∧ Kept (fun k => k = g) w0 _)
          all_goals
            go_wp2_with fail
            go_end0
            exact ⟨rfl, h2, hR4, HMX.out.trans ((hM3.mono (Nat.le_refl _) (by omega)).trans (hM4.mono (by omega) (Nat.le_refl _))), srt_join HX.out hM3 hM4 hS3 hS4, hK4⟩
end Go.Proofs.Ytpigjhagdpeofaa

namespace Go.Proofs.Ytpigjhagdpeofaa
open Go.RowKit
set_option linter.unusedVariables false

theorem symM_pt (n g c : Nat) (b1 : Value) (key : Int → Int) (w0 : World) (hn : n < 1000000) (hc : Cmp_pt w0 g n key b1) : ∀ (d a m b : Nat) (f : Nat → Int), b - a ≤ d → Rng n f 0 n → Srt key f a m → Srt key f m b → Lower f a m b → a < m → m < b → b ≤ n → MergeC_pt w0 g n c b1 key a m b f := by
  intro d
  induction d with
  | zero => intro a m b f h1 _ _ _ _ h2 h3; omega
  | succ d ih =>
    intro a m b f hd hrg hs1 hs2 hl ham hmb hbn
    by_cases k1 : m = a + 1
    · intro w hk hr
      exact symA_pt n g c a b b1 key f w0 w hn hc hk hr hrg (k1 ▸ hs2) (k1 ▸ hl) (by omega) hbn m k1
    by_cases k2 : b = m + 1
    · subst k2
      intro w hk hr
      exact symB_pt n g c a m b1 key f w0 w hn hc hk hr hrg hs1 hl (by omega) hbn _ rfl
    by_cases hm : (a + b) / 2 < m
    · exact symM1_pt n g c b1 key w0 hn hc d a m b _ f ih (by omega) hrg hs1 hs2 hl ham hmb hbn k1 k2 rfl hm
    · exact symM2_pt n g c b1 key w0 hn hc d a m b _ f ih (by omega) hrg hs1 hs2 hl ham hmb hbn k1 k2 rfl hm
end Go.Proofs.Ytpigjhagdpeofaa

namespace Go.Proofs.Ytpigjhagdpeofaa
open Go.RowKit
set_option linter.unusedVariables false

set_option maxHeartbeats 1600000 in
theorem ins0_pt (n g c a b : Nat) (b1 : Value) (w : World) (hn : n < 1000000) (hab : b ≤ a + 1) (hbn : b ≤ n) (han : a ≤ n) :
    Calls Sq.prog 79 #[.slice (some ⟨g, 0, none⟩) n c, .int .i64 a, .int .i64 b, .func (.func 69) #[] #[b1]] w
      fun e w' => e = .returned (.tuple #[]) ∧ w = w' := by
  go_enter Sq.func79, Sq.ntmps79
  go_wp2
  go_loopw [8] (fun i wr => i = .int .i64 ((a : Int) + 1) ∧ wr = w) (fun i _ => 0)
  case atStart => exact ⟨by go_num, rfl⟩
  case round =>
    obtain ⟨rfl, rfl⟩ := hrel
    have l1 : ¬ ((a : Int) + 1 < (b : Int)) := by omega
    go_wp2
    go_end0
    exact ⟨rfl, rfl⟩

theorem Srt.short {key : Int → Int} {f : Nat → Int} {a b : Nat} (h : b ≤ a + 1) : Srt key f a b := fun i j x1 x2 x3 => by omega

set_option maxHeartbeats 3200000 in
set_option maxRecDepth 100000 in
theorem stable_pt (n g c : Nat) (b1 : Value) (key : Int → Int) (f : Nat → Int) (w : World) (hn : n < 40) (hc : Cmp_pt w g n key b1) (hr : RowAt w g n f)
    (hf : Hid (∀ p q, p < q → q < n → f p < f q)) (hrg : Hid (Rng n f 0 n)) :
    Calls Sq.prog 76 #[.slice (some ⟨g, 0, none⟩) n c, .int .i64 n, .func (.func 69) #[] #[b1]] w
      fun e w' => e = .returned (.tuple #[]) ∧ ∃ h, RowAt w' g n h ∧ Mix 0 n f h ∧ Srt key h 0 n ∧ Kept (fun k => k = g) w w' := by
  have HC := Lib.hid hc
  have hn6 : n < 1000000 := by omega
  have HI1 : Hid (20 ≤ n → Calls Sq.prog 79 #[.slice (some ⟨g, 0, none⟩) n c, .int .i64 0, .int .i64 20, .func (.func 69) #[] #[b1]] w
      fun e w' => e = .returned (.tuple #[]) ∧ ∃ h, RowAt w' g n h ∧ Mix 0 20 f h ∧ Srt key h 0 20 ∧ Kept (fun k => k = g) w w') := fun h => ins_pt n g c 0 20 b1 key f w w hn6 hc (Kept.refl _ _) hr (fun p q _ x2 x3 => hf.out p q x2 (by omega)) hrg (by omega) h
  have HI0 : Hid (0 < n → Calls Sq.prog 79 #[.slice (some ⟨g, 0, none⟩) n c, .int .i64 0, .int .i64 n, .func (.func 69) #[] #[b1]] w
      fun e w' => e = .returned (.tuple #[]) ∧ ∃ h, RowAt w' g n h ∧ Mix 0 n f h ∧ Srt key h 0 n ∧ Kept (fun k => k = g) w w') := fun h => ins_pt n g c 0 n b1 key f w w hn6 hc (Kept.refl _ _) hr (fun p q _ x2 x3 => hf.out p q x2 (by omega)) hrg h (Nat.le_refl _)
  have HI2 : Hid (20 < n → ∀ (h : Nat → Int) w', Mix 0 20 f h → RowAt w' g n h → Kept (fun k => k = g) w w' → Calls Sq.prog 79 #[.slice (some ⟨g, 0, none⟩) n c, .int .i64 20, .int .i64 n, .func (.func 69) #[] #[b1]] w'
      fun e w'' => e = .returned (.tuple #[]) ∧ ∃ h', RowAt w'' g n h' ∧ Mix 20 n h h' ∧ Srt key h' 20 n ∧ Kept (fun k => k = g) w w'') := fun h20 h w' mx ra kp => ins_pt n g c 20 n b1 key h w w' hn6 hc kp ra (fun p q x1 x2 x3 => by rw [mx.out p (.inr x1), mx.out q (.inr (by omega))]; exact hf.out p q x2 x3) (hrg.out.mix mx (by omega)) h20 (Nat.le_refl _)
  have HM2 : Hid (20 < n → ∀ (h h' : Nat → Int) w', Mix 0 20 f h → Srt key h 0 20 → Mix 20 n h h' → Srt key h' 20 n → RowAt w' g n h' → Kept (fun k => k = g) w w' → Calls Sq.prog 80 #[.slice (some ⟨g, 0, none⟩) n c, .int .i64 0, .int .i64 20, .int .i64 n, .func (.func 69) #[] #[b1]] w'
      fun e w'' => e = .returned (.tuple #[]) ∧ ∃ h2, RowAt w'' g n h2 ∧ Mix 0 n h' h2 ∧ Srt key h2 0 n ∧ Kept (fun k => k = g) w w'') := fun h20 h h' w' mx st mx' st' ra kp =>
    symM_pt n g c b1 key w hn6 hc n 0 20 n h' (by omega) ((hrg.out.mix mx (by omega)).mix mx' (Nat.le_refl _)) (fun i j x1 x2 x3 => by rw [mx'.out i (.inl (by omega)), mx'.out j (.inl x3)]; exact st i j x1 x2 x3) st' (lower_of (fun p q _ x2 x3 => hf.out p q x2 x3) mx mx') (by omega) h20 (Nat.le_refl _) w' kp ra
  clear hc
  by_cases c0 : n < 20
  · have l1 : ¬ ((20 : Int) ≤ n) := by omega
    have l2 : ¬ ((20 : Int) < n) := by omega
    go_enter Sq.func76, Sq.ntmps76
    go_wp2_with fail
    go_loopw [7, 8] (fun x y wr => x = .int .i64 0 ∧ y = .int .i64 20 ∧ wr = w) (fun _ _ _ => 0)
    case atStart => exact ⟨rfl, rfl, rfl⟩
    case round =>
      obtain ⟨rfl, rfl, rfl⟩ := hrel
      by_cases n0 : n = 0
      · have HZ : Hid (Calls Sq.prog 79 #[.slice (some ⟨g, 0, none⟩) n c, .int .i64 0, .int .i64 n, .func (.func 69) #[] #[b1]] wr fun e w' => e = .returned (.tuple #[]) ∧ wr = w') := ins0_pt n g c 0 n b1 wr hn6 (by omega) (Nat.le_refl _) (Nat.zero_le _)
        have N0 := Lib.hid n0
        clear n0
        go_wp2_with (first | (go_at_call 79; refine HZ.out.mono ?_; rintro e w2 ⟨rfl, rfl⟩))
        go_loopw [6, 7, 8] (fun x y z wq => x = .int .i64 20 ∧ wq = wr) (fun _ _ _ _ => 0)
        case atStart => exact ⟨rfl, rfl⟩
        case round =>
          obtain ⟨rfl, rfl⟩ := hrel
          go_wp2
          go_end0
          exact ⟨rfl, f, hr, Mix.refl _ _ _, Srt.short (by have := N0.out; omega), Kept.refl _ _⟩
      · have HZ := Lib.hid (HI0.out (by omega))
        clear n0
        go_wp2_with (first | (go_at_call 79; refine HZ.out.mono ?_; rintro e w2 ⟨rfl, h2, hR2, hM2, hS2, hK2⟩))
        go_loopw [6, 7, 8] (fun x y z wq => x = .int .i64 20 ∧ wq = w2) (fun _ _ _ _ => 0)
        case atStart => exact ⟨rfl, rfl⟩
        case round =>
          obtain ⟨rfl, rfl⟩ := hrel
          go_wp2
          go_end0
          exact ⟨rfl, h2, hR2, hM2, hS2, hK2⟩
  · have l1 : (20 : Int) ≤ n := by omega
    have l5 : ¬ ((40 : Int) ≤ n) := by omega
    have l6 : ¬ ((40 : Int) < n) := by omega
    have H1 := Lib.hid (HI1.out (by omega))
    clear HI0
    go_enter Sq.func76, Sq.ntmps76
    go_wp2_with fail
    go_loopw [7, 8] (fun x y wr => (x = .int .i64 0 ∧ y = .int .i64 20 ∧ wr = w) ∨ (x = .int .i64 20 ∧ y = .int .i64 40 ∧ ∃ h, RowAt wr g n h ∧ Mix 0 20 f h ∧ Srt key h 0 20 ∧ Kept (fun k => k = g) w wr)) (fun x _ _ => (20 - intOf x).toNat)
    case atStart => exact .inl ⟨rfl, rfl, rfl⟩
    case round =>
      rcases hrel with ⟨rfl, rfl, rfl⟩ | ⟨rfl, rfl, h, hR, hM, hS, hK⟩
      · go_wp2_with (first | (go_at_call 79; refine H1.out.mono ?_; rintro e w2 ⟨rfl, h2, hR2, hM2, hS2, hK2⟩))
        go_roundw
        case rel => exact .inr ⟨rfl, rfl, h2, hR2, hM2, hS2, hK2⟩
        case measure => simp [intOf]
      · by_cases c1 : 20 < n
        · have H2 := Lib.hid (HI2.out c1 h wr hM hR hK)
          have H3 := HM2.out c1 h
          have H4 : Hid (∀ h' w', Mix 20 n h h' → Srt key h' 20 n → RowAt w' g n h' → Kept (fun k => k = g) w w' → _) := fun h' w' x1 x2 x3 x4 => H3 h' w' hM hS x1 x2 x3 x4
          clear H3
          go_wp2_with (first | (go_at_call 79; refine H2.out.mono ?_; rintro e w2 ⟨rfl, h2, hR2, hM2, hS2, hK2⟩))
          have H5 : Hid (∀ w', RowAt w' g n h2 → Kept (fun k => k = g) w w' → _) := fun w' x3 x4 => H4.out h2 w' hM2 hS2 x3 x4
          have HMM : Hid (Mix 0 n f h2) := (hM.mono (Nat.le_refl _) (by omega)).trans (hM2.mono (by omega) (Nat.le_refl _))
          have l7 : (20 : Int) < n := by omega
          go_loopw [6, 7, 8] (fun x y z wq => (x = .int .i64 20 ∧ RowAt wq g n h2 ∧ Kept (fun k => k = g) w wq) ∨ (x = .int .i64 40 ∧ ∃ h3, RowAt wq g n h3 ∧ Mix 0 n h2 h3 ∧ Srt key h3 0 n ∧ Kept (fun k => k = g) w wq)) (fun x _ _ _ => (40 - intOf x).toNat)
          case atStart => exact .inl ⟨rfl, hR2, hK2⟩
          case round =>
            rcases hrel with ⟨rfl, hRq, hKq⟩ | ⟨rfl, h3, hR3, hM3, hS3, hK3⟩
            · go_wp2_with fail
              go_loopw [7, 8] (fun x y wv => x = .int .i64 0 ∧ y = .int .i64 40 ∧ RowAt wv g n h2 ∧ Kept (fun k => k = g) w wv) (fun _ _ _ => 0)
              case atStart => exact ⟨rfl, by go_num, hRq, hKq⟩
              case round =>
                obtain ⟨rfl, rfl, hRv, hKv⟩ := hrel
                go_wp2_with (first | (go_at_call 80; refine (H5.out _ hRv hKv).mono ?_; rintro e w3 ⟨rfl, h3, hR3, hM3, hS3, hK3⟩))
                go_roundw
                case rel => exact .inr ⟨by go_num, h3, hR3, hM3, hS3, hK3⟩
                case measure => simp [intOf]
            · go_wp2
              go_end0
              exact ⟨rfl, h3, hR3, HMM.out.trans hM3, hS3, hK3⟩
        · have e20 : n = 20 := by omega
          have l8 : ¬ (20 : Int) < n := by omega
          have H2 : Hid (Calls Sq.prog 79 #[.slice (some ⟨g, 0, none⟩) n c, .int .i64 20, .int .i64 n, .func (.func 69) #[] #[b1]] wr fun e w' => e = .returned (.tuple #[]) ∧ wr = w') := ins0_pt n g c 20 n b1 wr hn6 (by omega) (Nat.le_refl _) (by omega)
          have HE20 := Lib.hid e20
          clear e20
          go_wp2_with (first | (go_at_call 79; refine H2.out.mono ?_; rintro e w2 ⟨rfl, rfl⟩))
          go_loopw [6, 7, 8] (fun x y z wq => x = .int .i64 20 ∧ wq = wr) (fun _ _ _ _ => 0)
          case atStart => exact ⟨rfl, rfl⟩
          case round =>
            obtain ⟨rfl, rfl⟩ := hrel
            go_wp2
            go_end0
            exact ⟨rfl, h, hR, by rw [HE20.out]; exact hM, by rw [HE20.out]; exact hS, hK⟩

theorem sortStable_pt (n g c : Nat) (b1 : Value) (key : Int → Int) (f : Nat → Int) (w : World) (hn : n < 40) (hc : Cmp_pt w g n key b1) (hr : RowAt w g n f)
    (hf : Hid (∀ p q, p < q → q < n → f p < f q)) (hrg : Hid (Rng n f 0 n)) :
    Calls Sq.prog 68 #[.slice (some ⟨g, 0, none⟩) n c, .func (.func 69) #[] #[b1]] w
      fun e w' => e = .returned (.tuple #[]) ∧ ∃ h, RowAt w' g n h ∧ Mix 0 n f h ∧ Srt key h 0 n ∧ Kept (fun k => k = g) w w' := by
  have H := Lib.hid (stable_pt n g c b1 key f w hn hc hr hf hrg)
  go_enter Sq.func68, Sq.ntmps68
  go_wp2_with (first | (go_at_call 76; refine H.out.mono ?_; rintro e w2 ⟨rfl, h2, hR2, hM2, hS2, hK2⟩))
  go_end0
  exact ⟨rfl, h2, hR2, hM2, hS2, hK2⟩
end Go.Proofs.Ytpigjhagdpeofaa

namespace Go.Proofs.Ytpigjhagdpeofaa
open Go.RowKit
set_option linter.unusedVariables false

set_option maxHeartbeats 1600000 in
theorem pt_at (n gR cR pB : Nat) (r : Nat → Int) (w : World) (hn : n < 1000000) (kB : w.cell? ⟨pB, 0, none⟩ = some (.slice (some ⟨gR, 0, none⟩) n cR)) (hc : ∀ i, i < n → w.cell? ⟨gR, i, none⟩ = some (.int .u64 (r i))) (i j : Nat) (hi : i < n) (hj : j < n) :
    Calls Sq.prog 69 #[.int .i64 i, .int .i64 j, .pointer (some ⟨pB, 0, none⟩)] w (fun e w' => ∃ q : Int, e = .returned (.int .i64 q) ∧ decide (q < 0) = decide (r j < r i) ∧ Below w.heap.size w w') := by
  have x1 := hc i hi
  have x2 := hc j hj
  have l1 : (i : Int) < n := by omega
  have l2 : (j : Int) < n := by omega
  rcases Int.lt_trichotomy (r i) (r j) with h | h | h
  · have h1 : ¬ r j < r i := by omega
    have HD : Hid (decide (r j < r i) = false) := decide_eq_false h1
    go_enter Sq.func69, Sq.ntmps69
    go_wp2_with fail
    go_quiet (fail)
    go_wp2_with fail
    go_quiet (fail)
    go_wp2
    go_ret
    exact ⟨1, rfl, by rw [HD.out]; rfl, by first | exact Below.drewN' (Below.refl _ _) _ | exact Below.drewN' (Below.drewN' (Below.refl _ _) _) _⟩
  · have h1 : ¬ r j < r i := by omega
    have h2 : ¬ r i < r j := by omega
    have HD : Hid (decide (r j < r i) = false) := decide_eq_false h1
    go_enter Sq.func69, Sq.ntmps69
    go_wp2_with fail
    go_quiet (fail)
    go_wp2_with fail
    go_quiet (fail)
    go_wp2
    go_ret
    exact ⟨0, rfl, by rw [HD.out]; rfl, by first | exact Below.drewN' (Below.refl _ _) _ | exact Below.drewN' (Below.drewN' (Below.refl _ _) _) _⟩
  · have HD : Hid (decide (r j < r i) = true) := decide_eq_true h
    go_enter Sq.func69, Sq.ntmps69
    go_wp2_with fail
    go_quiet (fail)
    go_wp2
    go_ret
    exact ⟨-1, rfl, by rw [HD.out]; rfl, Below.drewN' (Below.refl _ _) _⟩

theorem pt_cmp (n g gR cR pB : Nat) (r : Nat → Int) (w : World) (hn : n < 1000000) (kB : w.cell? ⟨pB, 0, none⟩ = some (.slice (some ⟨gR, 0, none⟩) n cR)) (hc : ∀ i, i < n → w.cell? ⟨gR, i, none⟩ = some (.int .u64 (r i))) (d1 : pB ≠ g) (d2 : gR ≠ g) :
    Cmp_pt w g n (pkey r) (.pointer (some ⟨pB, 0, none⟩)) := by
  intro w' hk x y hx hy
  obtain ⟨i, rfl⟩ := Int.eq_ofNat_of_zero_le hx.1
  obtain ⟨j, rfl⟩ := Int.eq_ofNat_of_zero_le hy.1
  refine (pt_at n gR cR pB r w' hn (hk.cellOf d1 kB) (fun i hi => hk.cellOf d2 (hc i hi)) i j (by omega) (by omega)).mono ?_
  rintro e w'' ⟨q, he, hd, hb⟩
  refine ⟨q, he, ?_, hb⟩
  rw [hd]
  unfold pkey
  have e1 : ((i : Nat) : Int).toNat = i := by omega
  have e2 : ((j : Nat) : Int).toNat = j := by omega
  rw [e1, e2]
  by_cases h : r j < r i
  · rw [decide_eq_true h, decide_eq_true (by omega)]
  · rw [decide_eq_false h, decide_eq_false (by omega)]
end Go.Proofs.Ytpigjhagdpeofaa

namespace Go.Proofs.Ytpigjhagdpeofaa
open Go.RowKit
set_option linter.unusedVariables false

theorem total_any (n g off c : Nat) (f : Nat → Int) (w : World) (hn : n < 1000000000) (hI : Ints w g off n f) (hS : Hid (∀ k, k ≤ n → -9000000000000000000 ≤ sumTo f k ∧ sumTo f k ≤ 9000000000000000000)) :
    Calls Sq.prog 65 #[.slice (some ⟨g, off, none⟩) n c] w fun e w' => e = .returned (.int .i64 (sumTo f n)) ∧ w = w' := by
  go_enter Sq.func65, Sq.ntmps65
  go_wp2
  go_loop [3, 8] (fun s i => ∃ k : Nat, k ≤ n ∧ i = .int .i64 k ∧ s = .int .i64 (sumTo f k)) (fun _ i => n - (intOf i).toNat)
  case atStart => exact ⟨0, Nat.zero_le _, rfl, rfl⟩
  case round =>
    obtain ⟨k, hk, rfl, rfl⟩ := hrel
    by_cases hlt : k < n
    · have hc := hI.at k hlt
      have s1 := hS.out k hk
      have s2 := hS.out (k + 1) (by omega)
      have e2 : sumTo f (k + 1) = sumTo f k + f k := rfl
      rw [e2] at s2
      have HE := Lib.hid e2
      clear e2
      go_wp2
      go_round
      case rel => exact ⟨k + 1, by omega, by go_num, by rw [HE.out]⟩
      case measure => simp [intOf]; omega
    · obtain rfl : k = n := by omega
      go_wp2
      go_ret
      exact ⟨rfl, rfl⟩
end Go.Proofs.Ytpigjhagdpeofaa

namespace Go.Proofs.Ytpigjhagdpeofaa
open Go.RowKit Go.Lib
set_option linter.unusedVariables false

theorem mu_mask (a : Nat) (ha : a < 18446744073709551616) : bits .and .u64 (a : Int) 4294967295 = ((a % 4294967296 : Nat) : Int) := by
  have h := bits_and_u64_nat a 4294967295 ha (by omega)
  have e : a &&& 4294967295 = a % 4294967296 := Nat.and_two_pow_sub_one_eq_mod a 32
  rw [e] at h
  exact h
theorem mu_div (a : Nat) : (a : Int) / 4294967296 = ((a / 4294967296 : Nat) : Int) := by omega
theorem mu_mul (a b : Nat) : (a : Int) * (b : Int) = ((a * b : Nat) : Int) := (Int.natCast_mul a b).symm
theorem mu_add (a b : Nat) : (a : Int) + (b : Int) = ((a + b : Nat) : Int) := (Int.natCast_add a b).symm
theorem mu_wrap (a : Nat) (ha : a < 18446744073709551616) : IntKind.u64.wrap (a : Int) = (a : Int) := by rw [IntKind.wrap_u64]; omega
theorem mu_mod (a : Nat) : IntKind.u64.wrap (a : Int) = ((a % 18446744073709551616 : Nat) : Int) := by rw [IntKind.wrap_u64]; omega

set_option maxHeartbeats 1600000 in
theorem mul64_any (x y : Nat) (hx : x < 18446744073709551616) (hy : y < 18446744073709551616) (w : World) :
    Calls Sq.prog 66 #[.int .u64 x, .int .u64 y] w fun e w' => e = .returned (.tuple #[.int .u64 ((x * y / 18446744073709551616 : Nat) : Int), .int .u64 ((x * y % 18446744073709551616 : Nat) : Int)]) ∧ w' = w := by
  obtain ⟨bd, bt, bw, hhi⟩ := Lib.mul64_hi x y hx hy
  have ba := Lib.half_mul_le (a := x / 4294967296) (b := y / 4294967296) (by omega) (by omega)
  have bb := Lib.half_mul_le (a := x / 4294967296) (b := y % 4294967296) (by omega) (by omega)
  have bc := Lib.half_mul_le (a := x % 4294967296) (b := y / 4294967296) (by omega) (by omega)
  have ba' : x / 4294967296 * (y / 4294967296) < 18446744073709551616 := by omega
  have bb' : x / 4294967296 * (y % 4294967296) < 18446744073709551616 := by omega
  have bc' : x % 4294967296 * (y / 4294967296) < 18446744073709551616 := by omega
  have bh1 : x / 4294967296 * (y / 4294967296) + (x / 4294967296 * (y % 4294967296) + x % 4294967296 * (y % 4294967296) / 4294967296) / 4294967296 < 18446744073709551616 := by omega
  have bh : x / 4294967296 * (y / 4294967296) + (x / 4294967296 * (y % 4294967296) + x % 4294967296 * (y % 4294967296) / 4294967296) / 4294967296 + ((x / 4294967296 * (y % 4294967296) + x % 4294967296 * (y % 4294967296) / 4294967296) % 4294967296 + x % 4294967296 * (y / 4294967296)) / 4294967296 < 18446744073709551616 := by omega
  go_enter Sq.func66, Sq.ntmps66
  go_wp2
  simp only [mu_mask x hx, mu_mask y hy, mu_div, mu_mul, mu_add, mu_wrap _ bd, mu_wrap _ bb', mu_wrap _ bt, mu_mask _ bt, mu_wrap _ bc', mu_wrap _ bw, mu_wrap _ ba', mu_wrap _ bh1, mu_wrap _ bh, mu_mod (x * y)]
  rw [hhi]
  go_ret2
  exact ⟨rfl, rfl⟩

theorem div64_small (x y : Int) (hx : 0 ≤ x) (hx2 : x < 18446744073709551616) (hy : 0 < y) (hy2 : y < 18446744073709551616) (w : World) :
    Calls Sq.prog 67 #[.int .u64 0, .int .u64 x, .int .u64 y] w fun e w' => e = .returned (.tuple #[.int .u64 (x / y), .int .u64 (x % y)]) ∧ ∃ m, w' = w.drewN m := by
  have h0 : (y == 0) = false := by simp; omega
  have h1 : ¬ (y ≤ 0) := by omega
  have q0 := Int.ediv_nonneg hx (Int.le_of_lt hy)
  have q1 : x / y ≤ x := Int.ediv_le_self y hx
  have r0 := Int.emod_nonneg x (show y ≠ 0 by omega)
  have r1 := Int.emod_lt_of_pos x hy
  go_enter Sq.func67, Sq.ntmps67
  go_wp2_with fail
  go_quiet (fail)
  go_wp2
  go_ret2
  exact ⟨rfl, _, rfl⟩
/-- What a division tells of a product. -/
def DivC (p s : Int) : Prop := ∀ w : World, Calls Sq.prog 67 #[.int .u64 (p / 18446744073709551616), .int .u64 (p % 18446744073709551616), .int .u64 s] w fun e w' => e = .returned (.tuple #[.int .u64 (p / s), .int .u64 (p % s)]) ∧ ∃ m, w' = w.drewN m
theorem divC_small {p s : Int} (h0 : 0 ≤ p) (h1 : p < 18446744073709551616) (s0 : 0 < s) (s1 : s < 18446744073709551616) : DivC p s := fun w => by
  rw [show p / 18446744073709551616 = 0 by omega, show p % 18446744073709551616 = p by omega]
  exact div64_small p s h0 h1 s0 s1 w
theorem mul64_int (x y : Int) (hx : 0 ≤ x ∧ x < 18446744073709551616) (hy : 0 ≤ y ∧ y < 18446744073709551616) (w : World) :
    Calls Sq.prog 66 #[.int .u64 x, .int .u64 y] w fun e w' => e = .returned (.tuple #[.int .u64 (x * y / 18446744073709551616), .int .u64 (x * y % 18446744073709551616)]) ∧ w' = w := by
  obtain ⟨a, rfl⟩ := Int.eq_ofNat_of_zero_le hx.1
  obtain ⟨b, rfl⟩ := Int.eq_ofNat_of_zero_le hy.1
  have := mul64_any a b (by omega) (by omega) w
  rw [show ((a * b / 18446744073709551616 : Nat) : Int) = (a : Int) * b / 18446744073709551616 by rw [← Int.natCast_mul]; omega, show ((a * b % 18446744073709551616 : Nat) : Int) = (a : Int) * b % 18446744073709551616 by rw [← Int.natCast_mul]; omega] at this
  exact this
end Go.Proofs.Ytpigjhagdpeofaa

namespace Go.Proofs.Ytpigjhagdpeofaa
open Go.RowKit
set_option linter.unusedVariables false

theorem Own.formTc {E : TypeId} {w : World} {B n : Nat} {v : Value} {f : Nat → Int} (h : Own E w B v (tab f n)) (hn : 1 ≤ n) : ∃ g cap, v = .slice (some ⟨g, 0, none⟩) n cap ∧ B ≤ g ∧ g < w.heap.size ∧ n ≤ cap := by
  rcases h.form with ⟨_, h0⟩ | ⟨g, cap, hv, h1, h2, h3, _⟩
  · have := congrArg List.length h0
    rw [tab_length] at this
    simp at this
    omega
  · rw [tab_length] at hv h3
    exact ⟨g, cap, hv, h1, h2, h3⟩
theorem Own.formTb {E : TypeId} {w : World} {B n : Nat} {v : Value} {f : Nat → Int} (h : Own E w B v (tab f n)) (hn : 1 ≤ n) : ∃ g cap, v = .slice (some ⟨g, 0, none⟩) n cap ∧ B ≤ g ∧ g < w.heap.size := by
  obtain ⟨g, cap, h1, h2, h3, _⟩ := h.formTc hn
  exact ⟨g, cap, h1, h2, h3⟩
theorem pt_infoJ : (Sq.prog.info? 3).map (fun i => (i.zero, i.size, i.bytes)) = some (some (.int .i64 0), 1, 8) := by kernel_rfl
theorem pt_infoU : (Sq.prog.info? 77).map (fun i => (i.zero, i.size, i.bytes)) = some (some (.int .u64 0), 1, 8) := by kernel_rfl
set_option maxHeartbeats 6400000 in
set_option maxRecDepth 100000 in
theorem parted_any (n g cp : Nat) (c : Int) (f : Nat → Int) (w : World) (n1 : 1 ≤ n) (n40 : n < 40) (c0 : 0 ≤ c) (c1 : c ≤ 1000000000000) (hf : ∀ i, i < n → 0 ≤ f i ∧ f i ≤ 1000000000) (hs : 0 < sumTo f n) (hI : Ints w g 0 n f) (hdv : ∀ i, i < n → DivC (c * f i) (sumTo f n)) :
    Calls Sq.prog 48 #[.int .i64 c, .slice (some ⟨g, 0, none⟩) n cp] w (fun e w' => ∃ v, e = .returned v ∧ Own 2 w' w.heap.size v (tab (ptO c f n) n) ∧ Below w.heap.size w w') := by
  have hsb := sumTo_bd hf (Int.le_refl _) (by omega) n (Nat.le_refl _)
  have HSB : Hid (∀ k, k ≤ n → -9000000000000000000 ≤ sumTo f k ∧ sumTo f k ≤ 9000000000000000000) := fun k hk => by
    have := sumTo_bd hf (Int.le_refl _) (by omega) k hk
    have := sumTo_nonneg (fun i hi => (hf i hi).1) k hk
    omega
  have HF := Lib.hid hf
  have HDV := Lib.hid hdv
  have HL0 : Hid (∀ k, k ≤ n → 0 ≤ pL c f (sumTo f n) k ∧ pL c f (sumTo f n) k ≤ c) := pL_lo c0 (fun i hi => (hf i hi).1) hs
  have HQ0 : Hid (∀ k, k < n → 0 ≤ pQ c f (sumTo f n) k ∧ pQ c f (sumTo f n) k ≤ c) := fun k hk => pQ_bd hs c0 (hf k hk).1 (sumTo_ge n (fun i hi => (hf i hi).1) k hk)
  have HR0 : Hid (∀ k, 0 ≤ pR c f (sumTo f n) k ∧ pR c f (sumTo f n) k < sumTo f n) := fun k => pR_bd hs k
  have HLN : Hid (pL c f (sumTo f n) n < n) := (pL_bd (by omega) hs).2
  have HLS : Hid (∀ k, pL c f (sumTo f n) (k + 1) = pL c f (sumTo f n) k - pQ c f (sumTo f n) k) := fun k => pL_step k
  have HL00 : Hid (pL c f (sumTo f n) 0 = c) := by show c - 0 = c; omega
  have HQE : Hid (∀ k, c * f k / sumTo f n = pQ c f (sumTo f n) k ∧ c * f k % sumTo f n = pR c f (sumTo f n) k) := fun k => ⟨rfl, rfl⟩
  clear hf hdv
  obtain ⟨s, hS⟩ : ∃ s, sumTo f n = s := ⟨_, rfl⟩
  have HS := Lib.hid hS
  rw [hS] at hs hsb HL0 HQ0 HR0 HLN HLS HL00 HQE
  have HTOT : Hid (∀ w', Ints w' g 0 n f → Calls Sq.prog 65 #[.slice (some ⟨g, 0, none⟩) n cp] w' fun e w'' => e = .returned (.int .i64 s) ∧ w' = w'') := fun w' i => by have := total_any n g 0 cp f w' (by omega) i HSB; rwa [hS] at this
  have hgw := World.block_lt_of_cell? w _ (hI.at0 0 (by omega))
  have ws : IntKind.u64.wrap s = s := by rw [IntKind.wrap_u64]; omega
  clear hS
  go_enter Sq.func48, Sq.ntmps48
  go_wp2_with fail
  refine (HTOT.out _ hI).mono ?_
  rintro e w1 ⟨rfl, rfl⟩
  go_wp2_with fail
  go_loopw [27, 6, 7, 9] (fun i vO vD l wr => ∃ (k : Nat) (vR : Value), k ≤ n ∧ i = .int .i64 k ∧ l = .int .i64 (pL c f s k) ∧ Hid (Mid3 2 77 3 w (w.heap.size + 1 + 1 + 1) 0 0 0 vR vO (tab (pQ c f s) k) vR (tab (pR c f s) k) vD (tab ido k) none none none wr)) (fun i _ _ _ _ => n - (intOf i).toNat)
  case atStart =>
    have A1 := (((Own.made 2 w (B := w.heap.size) (Nat.le_refl _)).up (.cells #[] 3)).up (.cells #[] 77)).up (.cells #[.slice (some ⟨w.heap.size + 1 + 1, 0, none⟩) 0 0] 79)
    have A2 := ((Own.made 3 (w.alloc (.cells #[] 2)) (B := w.heap.size) (by simp)).up (.cells #[] 77)).up (.cells #[.slice (some ⟨w.heap.size + 1 + 1, 0, none⟩) 0 0] 79)
    have A3 := (OwnU.made 77 ((w.alloc (.cells #[] 2)).alloc (.cells #[] 3)) (B := w.heap.size) (by simp; omega)).up (.cells #[.slice (some ⟨w.heap.size + 1 + 1, 0, none⟩) 0 0] 79)
    have z1 : (w.alloc (.cells #[] 2)).heap.size = w.heap.size + 1 := by simp
    have z2 : ((w.alloc (.cells #[] 2)).alloc (.cells #[] 3)).heap.size = w.heap.size + 1 + 1 := by simp
    rw [z1] at A2
    rw [z2] at A3
    exact ⟨0, .slice (some ⟨w.heap.size + 1 + 1, 0, none⟩) 0 0, Nat.zero_le _, rfl, by rw [HL00.out], ⟨upB (upB (upB (upB (Below.refl _ _) _) _) _) _, A1, A3, A2, by simp [go_sem], by simp [go_sem], Apart.two (by omega), Apart.two (by omega), Apart.two (by omega),
      (fun e => by have h' : w.heap.size = w.heap.size + 1 + 1 + 1 := Option.some.inj e; omega), (fun e => by have h' : w.heap.size + 1 + 1 = w.heap.size + 1 + 1 + 1 := Option.some.inj e; omega), (fun e => by have h' : w.heap.size + 1 = w.heap.size + 1 + 1 + 1 := Option.some.inj e; omega),
      (fun g e => by cases e), (fun g e => by cases e), (fun g e => by cases e)⟩⟩
  case round =>
    obtain ⟨k, vR, hk, rfl, rfl, hM⟩ := hrel
    have hL := HL0.out k hk
    by_cases hlt : k < n
    · have hc := (hI.below (hM.out.b)).at0 k hlt
      have hf := HF.out k hlt
      have hq := HQ0.out k hlt
      have hr := HR0.out k
      obtain ⟨he1, he2⟩ := HQE.out k
      have hdv := HDV.out k hlt
      rw [HS.out] at hdv
      have hL2 := HL0.out (k + 1) (by omega)
      rw [HLS.out] at hL2
      obtain ⟨X, hX⟩ : ∃ X, f k = X := ⟨_, rfl⟩
      rw [hX] at hc hf he1 he2 hdv
      obtain ⟨L, hLe⟩ : ∃ L, pL c f s k = L := ⟨_, rfl⟩
      have HLe := Lib.hid hLe
      obtain ⟨Qv, hQe⟩ : ∃ Q, pQ c f s k = Q := ⟨_, rfl⟩
      obtain ⟨Rv, hRe⟩ : ∃ R, pR c f s k = R := ⟨_, rfl⟩
      rw [hLe, hQe] at hL2
      rw [hLe] at hL
      rw [hQe] at hq he1
      rw [hRe] at hr he2
      have HQe := Lib.hid hQe
      have HRe := Lib.hid hRe
      have m1 := mul64_int c X (by omega) (by omega)
      unfold DivC at hdv
      rw [he1, he2] at hdv
      obtain ⟨hi, hhi⟩ : ∃ x, c * X / 18446744073709551616 = x := ⟨_, rfl⟩
      obtain ⟨lo, hlo⟩ : ∃ x, c * X % 18446744073709551616 = x := ⟨_, rfl⟩
      rw [hhi, hlo] at m1 hdv
      have HMU := Lib.hid m1
      have HDI := Lib.hid hdv
      have w1 : IntKind.u64.wrap c = c := by rw [IntKind.wrap_u64]; omega
      have w2 : IntKind.u64.wrap X = X := by rw [IntKind.wrap_u64]; omega
      have w3 : IntKind.i64.wrap Qv = Qv := IntWalk.i64_in _ (by omega)
      rw [hLe]
      clear hLe hQe hRe he1 he2 m1 hdv hhi hlo hX
      go_wp2_with fail
      refine (HMU.out _).mono ?_
      rintro e w5 ⟨rfl, rfl⟩
      go_wp2_with fail
      refine (HDI.out _).mono ?_
      rintro e w6 ⟨rfl, mq, hw6⟩
      have b6 : Below w5.heap.size w5 w6 := by rw [hw6]; exact Below.drewN' (Below.refl _ _) mq
      clear hw6
      go_wp2_with fail
      refine region_start (by kernel_rfl) rfl ?_
      refine take1 (i := 0) (d := some 47) (v := u6) rfl (by kernel_rfl) (by kernel_rfl) (by kernel_rfl) rfl (fun _ _ _ h => h) (by rfl) (fun w => rfl) ?_
      simp only [Act.put, List.setIfInBounds_toArray, List.set_cons_zero, List.set_cons_succ]
      refine take1 (i := 1) (d := some 48) (v := .int .u64 Qv) rfl (by kernel_rfl) (by kernel_rfl) (by kernel_rfl) rfl (fun _ _ _ h => h) (by rfl) (fun w => rfl) ?_
      simp only [Act.put, List.setIfInBounds_toArray, List.set_cons_zero, List.set_cons_succ]
      refine take1 (i := 2) (d := some 49) (v := .int .i64 Qv) rfl (by kernel_rfl) (by kernel_rfl) (by kernel_rfl) rfl (fun _ _ _ h => h) (by rfl) (fun w => by go_simp) ?_
      simp only [Act.put, List.setIfInBounds_toArray, List.set_cons_zero, List.set_cons_succ]
      refine take1 (i := 6) (d := some 53) (v := .int .u64 Rv) rfl (by kernel_rfl) (by kernel_rfl) (by kernel_rfl) rfl (fun _ _ _ h => h) (by rfl) (fun w => rfl) ?_
      simp only [Act.put, List.setIfInBounds_toArray, List.set_cons_zero, List.set_cons_succ]
      refine take1 (i := 9) (d := some 56) (v := u7) rfl (by kernel_rfl) (by kernel_rfl) (by kernel_rfl) rfl (fun _ _ _ h => h) (by rfl) (fun w => rfl) ?_
      simp only [Act.put, List.setIfInBounds_toArray, List.set_cons_zero, List.set_cons_succ]
      refine take1 (i := 10) (d := some 57) (v := .int .i64 k) rfl (by kernel_rfl) (by kernel_rfl) (by kernel_rfl) rfl (fun _ _ _ h => h) (by rfl) (fun w => rfl) ?_
      simp only [Act.put, List.setIfInBounds_toArray, List.set_cons_zero, List.set_cons_succ]
      have hM6 := (hM.out.next b6).re Qv Rv k
      have hM7 := hM6.next (Below.refl w6.heap.size w6).drew
      refine app3_go (w0 := w) (EI := 2) (EU := 77) (EJ := 3) (TI := 23) (TU := 79) (TJ := 78) (bx := w.heap.size + 1 + 1 + 1) (q := Qv) (r := Rv) (k := k) (vO := u6) (vB := vR) (vD := u7) (lO := tab (pQ c f s) k) (lR := tab (pR c f s) k) (lD := tab ido k) (s4 := .tmp 47) (s12 := .tmp 56)
        (by simp) rfl rfl rfl rfl rfl rfl rfl rfl rfl rfl rfl rfl rfl rfl rfl rfl rfl rfl rfl rfl rfl
        (fun a w hA => run_bs1 rfl Sq.underlying23 Sq.infoI ((hA (.tmp 49) (by simp [Plain])).trans rfl))
        (fun a w hA => run_bs1 rfl Sq.underlying79 pt_infoU ((hA (.tmp 53) (by simp [Plain])).trans rfl))
        (fun a w hA => run_bs1 rfl Sq.underlying78 pt_infoJ ((hA (.tmp 57) (by simp [Plain])).trans rfl))
        (fun a w hA hc => run_ld1 rfl ((hA (.tmp 8) (by simp [Plain])).trans rfl) (by simp [go_sem, hc]))
        rfl rfl rfl (by simp [Plain]) rfl (by simp [Plain]) rfl Sq.infoI pt_infoU pt_infoJ Sq.underlying23 Sq.underlying79 Sq.underlying78
        (fun b1 b2 b3 l => by cases b1 <;> cases b2 <;> cases b3 <;> cases l <;> kernel_rfl)
        (fun b2 b3 l => by cases b2 <;> cases b3 <;> cases l <;> kernel_rfl)
        (fun b3 => by cases b3 <;> kernel_rfl)
        (tab_len8s (by omega)) (tab_len8s (by omega)) (tab_len8s (by omega)) hM7 ?hf
      case hf =>
        intro n1 v1 n2 v2 n3 v3 w7 hM8
        obtain ⟨ad2, m2, cp2, rfl⟩ : ∃ ad m cp, v2 = Value.slice ad m cp := by
          rcases hM8.u.2 with ⟨h0, _⟩ | ⟨g, cap, cur, h0, _⟩
          · exact ⟨_, _, _, h0⟩
          · exact ⟨_, _, _, h0⟩
        have hc8 := hM8.c
        have hf8 := hM8.f
        simp only [chn, pif_true, Act.put, List.setIfInBounds_toArray, List.set_cons_zero, List.set_cons_succ]
        refine wpAny_all (rs := [13]) (by kernel_rfl) (by simp) ?_
        intro i hi
        obtain rfl : i = 13 := by simpa using hi
        refine wpOp_val (d := some 6) (v := v1) rfl rfl rfl rfl ?_
        simp only [Act.put, List.setIfInBounds_toArray, List.set_cons_zero, List.set_cons_succ]
        refine wpAny_all (rs := [14]) (by kernel_rfl) (by simp) ?_
        intro i hi
        obtain rfl : i = 14 := by simpa using hi
        refine wpOp_skip (w' := w7.setCell ⟨w.heap.size + 1 + 1 + 1, 0, none⟩ (Value.slice ad2 m2 cp2)) rfl rfl rfl (by simp [execOp, go_sem, hc8, hf8, Act.eval]) ?_
        refine wpAny_all (rs := [15]) (by kernel_rfl) (by simp) ?_
        intro i hi
        obtain rfl : i = 15 := by simpa using hi
        refine wpOp_val (d := some 7) (v := v3) rfl rfl rfl rfl ?_
        simp only [Act.put, List.setIfInBounds_toArray, List.set_cons_zero, List.set_cons_succ]
        refine wpAny_done (by kernel_rfl) ?_ _
        have hM9 := Lib.hid (hM8.store (by omega) (Value.slice ad2 m2 cp2))
        clear hM8 hM7 hM6 hc8 hf8
        go_wp2_with fail
        go_roundw
        case rel => exact ⟨k + 1, Value.slice ad2 m2 cp2, by omega, by go_num, by rw [HLS.out, HLe.out, HQe.out], by rw [tab, tab, tab, HQe.out, HRe.out]; exact hM9.out.re 0 0 0⟩
        case measure => simp [intOf]; omega
    · obtain rfl : k = n := by omega
      obtain ⟨gv, cv, rfl, v1, v2⟩ := hM.out.o.formTb n1
      obtain ⟨gd, cd, rfl, d1, d2, d3⟩ := hM.out.d.formTc n1
      obtain ⟨gr, cr, rfl, r1, r2, r3⟩ := hM.out.u.form n1
      have hvd : gv ≠ gd := fun e => hM.out.od gv rfl (by rw [e]; rfl)
      have hdr : gr ≠ gd := fun e => hM.out.dr gd rfl (by rw [e]; rfl)
      have hbd : w.heap.size + 1 + 1 + 1 ≠ gd := fun e => hM.out.nd (by rw [e]; rfl)
      have hrow : RowAt wr gd k ido := ⟨fun i hi => by rw [Nat.zero_add]; exact hM.out.d.cellTab i hi, fun i => hM.out.d.freeAt i⟩
      have HV := Lib.hid hM.out.o
      have HBR := Lib.hid hM.out.b
      have HSORT := Lib.hid (sortStable_pt k gd cd (.pointer (some ⟨w.heap.size + 1 + 1 + 1, 0, none⟩)) (pkey (pR c f s)) ido wr n40 (pt_cmp k gd gr cr (w.heap.size + 1 + 1 + 1) (pR c f s) wr (by omega) hM.out.c r3 hbd hdr) hrow (fun p q h1 h2 => by show (p : Int) < (q : Int); omega) (ido_rng k))
      obtain ⟨L, hL0⟩ := Int.eq_ofNat_of_zero_le hL.1
      have HLe := Lib.hid hL0
      have hLk : L < k := by have := HLN.out; omega
      have l1 : (L : Int) ≤ cd := by omega
      have l2 : (L : Int) ≤ k := by omega
      have l3 : L ≤ cd := by omega
      have HPT : Hid (gO (pQ c f s) (pR c f s) k L = ptO c f k) := by
        show _ = _
        unfold ptO
        rw [HS.out, hL0]
        rfl
      rw [hL0]
      clear hM hL0 hL hrow r3
      go_wp2_with fail
      refine HSORT.out.mono ?_
      rintro e w2 ⟨rfl, o, hR2, hM2, hS2, hK2⟩
      have HO := Lib.hid (Ord.of hM2)
      have HPK : Hid (∀ j, j < k → ((gB (gR (pR c f s) k j) k : Nat) : Int) = o j) := fun j hj => pick_at (fun i _ => (HR0.out i).1) HO.out hS2 hj
      have HGB : Hid (∀ j, gB (gR (pR c f s) k j) k < k) := fun j => gB_lt _ k (by omega)
      have HOB : Hid (∀ j i, i < k → 0 ≤ gO (pQ c f s) (pR c f s) k j i ∧ gO (pQ c f s) (pR c f s) k j i ≤ c + j) := fun j i hi => gO_bd (fun i hi => HQ0.out i hi) j i hi
      have hv2 := hK2.own HV.out (fun j hj => by have h' : gv = j := Option.some.inj hj; omega)
      have hb2 : Below w.heap.size w w2 := HBR.out.trans (hK2.toBelow (fun j hj => by have h' : j = gd := hj; omega) HBR.out.size)
      clear hM2 hS2 hK2
      go_wp2_with fail
      go_loopw [72] (fun i wr => ∃ j : Nat, j ≤ L ∧ i = .int .i64 j ∧ Own 2 wr w.heap.size (.slice (some ⟨gv, 0, none⟩) k cv) (tab (gO (pQ c f s) (pR c f s) k j) k) ∧ RowAt wr gd k o ∧ Below w.heap.size w wr) (fun i _ => L - (intOf i).toNat)
      case atStart => exact ⟨0, Nat.zero_le _, rfl, hv2, hR2, hb2⟩
      case round =>
        obtain ⟨j, hj, rfl, hv, hR, hbq⟩ := hrel
        by_cases hlt2 : j < L
        · have hg := HGB.out j
          have hp := HPK.out j (by omega)
          have x1 := hR.at j (by omega)
          rw [← hp] at x1
          have hob := HOB.out j (gB (gR (pR c f s) k j) k) hg
          have x2 := hv.cellTab (gB (gR (pR c f s) k j) k) hg
          have f2 := hv.freeAt (gB (gR (pR c f s) k j) k)
          have HN : Hid (gO (pQ c f s) (pR c f s) k (j + 1) = upd (gO (pQ c f s) (pR c f s) k j) (gB (gR (pR c f s) k j) k) (gO (pQ c f s) (pR c f s) k j (gB (gR (pR c f s) k j) k) + 1)) := rfl
          have HV3 := Lib.hid hv
          obtain ⟨b, hb⟩ : ∃ b, gB (gR (pR c f s) k j) k = b := ⟨_, rfl⟩
          obtain ⟨OO, hOO⟩ : ∃ OO, gO (pQ c f s) (pR c f s) k j = OO := ⟨_, rfl⟩
          rw [hb] at hg x1 x2 f2 hob HN
          rw [hOO] at x2 hob HN HV3
          have l4 : (j : Int) < L := by omega
          have l5 : (b : Int) < k := by omega
          have hv4 := HV3.out.tabSet (upd OO b (OO b + 1)) b hg (OO b + 1) (upd_at _ _ _) (fun i _ hi => (upd_ne _ _ hi).symm)
          rw [← HN.out] at hv4
          have HV4 := Lib.hid hv4
          have HR4 : Hid (RowAt (wr.setCell ⟨gv, b, none⟩ (.int .i64 (OO b + 1))) gd k o) := ⟨fun i hi => by rw [World.cell?_setCell_other _ _ _ _ (by intro h; cases h; exact hvd rfl)]; exact hR.1 i hi, fun i => by rw [World.frozen?_setCell]; exact hR.2 i⟩
          have HB4 := Lib.hid (hbq.setCell (p := ⟨gv, b, none⟩) v1 (.int .i64 (OO b + 1)))
          clear hv4 hv hR hb hOO hp
          go_wp2_with fail
          go_roundw
          case rel => exact ⟨j + 1, by omega, by go_num, HV4.out, HR4.out, HB4.out⟩
          case measure => simp [intOf]; omega
        · obtain rfl : j = L := by omega
          rw [HPT.out] at hv
          go_wp2_with fail
          go_ret
          exact ⟨_, rfl, hv, hbq⟩
end Go.Proofs.Ytpigjhagdpeofaa
