/-
  slices.symMergeCmpFunc at int where the second range has a single element. Conditions: fewer than 1000000 integers, each below their count.
-/
import Derived.Test.YtcpjbnfmkhaadaaSortS1Pd
namespace Go.Proofs.Ytcpjbnfmkhaadaa
open Go.RowKit
set_option linter.unusedVariables false

set_option maxHeartbeats 3200000 in
set_option maxRecDepth 100000 in
theorem symB_pd (n g c a m : Nat) (b1 b2 : Value) (key : Int → Int) (f : Nat → Int) (w0 w : World) (hn : n < 1000000) (hc : Cmp_pd w0 g n key b1 b2) (hk : Kept (fun k => k = g) w0 w) (hr : RowAt w g n f)
    (hrg : Hid (Rng n f 0 n)) (hs : Hid (Srt key f a m)) (hl : Hid (Lower f a m (m + 1))) (ham : a + 1 < m) (hbn : m + 1 ≤ n) (b : Nat) (hm : b = m + 1) :
    Calls Try.prog 48 #[.slice (some ⟨g, 0, none⟩) n c, .int .i64 a, .int .i64 m, .int .i64 b, .func (.func 31) #[] #[b1, b2]] w
      fun e w' => e = .returned (.tuple #[]) ∧ ∃ h, RowAt w' g n h ∧ Mix a (m + 1) f h ∧ Srt key h a (m + 1) ∧ Kept (fun k => k = g) w0 w' := by
  have HC := Lib.hid hc
  have hg := hr.lt (by omega)
  have z1 : (b : Int) - m = 1 := by omega
  have z2 : IntKind.i64.wrap ((b : Int) - m) = 1 := by rw [z1]; rfl
  have z3 : ((m : Int) - a == 1) = false := by simp; omega
  have HM0 := Lib.hid hm
  clear hc hm
  go_enter Try.func48, Try.ntmps48
  go_wp2_with fail
  go_loopw [14, 15] (fun x y wr => ∃ i j : Nat, a ≤ i ∧ i ≤ j ∧ j ≤ m ∧ x = .int .i64 i ∧ y = .int .i64 j ∧ NoneMore key f (f m) a i ∧ AllMore key f (f m) j m ∧ RowAt wr g n f ∧ Kept (fun k => k = g) w0 wr) (fun x y _ => ((intOf y) - (intOf x)).toNat)
  case atStart => exact ⟨a, m, Nat.le_refl _, by omega, Nat.le_refl _, rfl, rfl, (fun q h1 h2 => by omega), (fun q h1 h2 => by omega), hr, hk⟩
  case round =>
    obtain ⟨i, j, hai, hij, hjb, rfl, rfl, hA, hB, hR, hK⟩ := hrel
    generalize hwA : wr = wA at *
    clear hwA
    by_cases hlt : i < j
    · obtain ⟨h, hh⟩ : ∃ h : Nat, h = (i + j) / 2 := ⟨_, rfl⟩
      have hi1 : i ≤ h ∧ h < j := by omega
      have e1 : ((i : Int) + j) / 2 = h := by omega
      have x1 := hR.at m (by omega)
      have x2 := hR.at h (by omega)
      have r1 := hrg.out m (Nat.zero_le _) (by omega)
      have r2 := hrg.out h (Nat.zero_le _) (by omega)
      have l1 : (h : Int) < n := by omega
      have l2 : (m : Int) < n := by omega
      obtain ⟨X, hX⟩ : ∃ X, f m = X := ⟨_, rfl⟩
      obtain ⟨Y, hY⟩ : ∃ Y, f h = Y := ⟨_, rfl⟩
      have HF : Hid (¬ key X < key Y → NoneMore key f (f m) a (h + 1)) := fun hxy q q1 q2 => by
        have := hs.out.kle q1 (show q ≤ h by omega) (by omega)
        rw [hY] at this
        rw [hX]
        omega
      have HT : Hid (key X < key Y → AllMore key f (f m) h m) := fun hxy q q1 q2 => by
        have := hs.out.kle (show a ≤ h by omega) q1 q2
        rw [hY] at this
        rw [hX]
        omega
      rw [hX] at x1 r1
      rw [hY] at x2 r2
      have R1 := Lib.hid r1
      have R2 := Lib.hid r2
      have HR := Lib.hid hR
      have HK := Lib.hid hK
      have HH := Lib.hid hh
      have hgA := hR.lt (by omega)
      clear hX hY r1 r2 hR hK hh
      cases hkk : decide (key X < key Y)
      case' false => have HD := Lib.hid (of_decide_eq_false hkk)
      case' true => have HD := Lib.hid (of_decide_eq_true hkk)
      all_goals
        go_wp2_with fail
        go_region_held3 (fun w' => w'.cell? ⟨g, m, none⟩ = some (.int .i64 X) ∧ w'.cell? ⟨g, h, none⟩ = some (.int .i64 Y) ∧ Below wA.heap.size wA w')
          (first | (exact ⟨Below.cellOf ((Below.refl _ _).drew) rfl x1, Below.cellOf ((Below.refl _ _).drew) rfl x2, (Below.refl _ _).drew⟩) | (go_split_ands; refine ⟨Below.cellOf hb5 rfl (by assumption), Below.cellOf hb5 rfl (by assumption), bnext (by assumption) hb5⟩))
          ((first | (go_at_call 31; (try go_split_ands); refine (HC.out _ (Kept.next HK.out (by assumption)) X Y R1.out R2.out).mono ?_; rintro e w5 ⟨r, rfl, hr5, hb5⟩; rw [hkk] at hr5)))
        rename_i hH
        have hH2 := hH.2.2
        have hR5 := HR.out.below hgA hH2
        have hK5 := HK.out.next hH2
        clear hH hb5 hH2 e1
      · go_wp2_with fail
        go_roundw
        case rel => exact ⟨i, h, hai, by omega, by omega, rfl, rfl, hA, HT.out HD.out, hR5, hK5⟩
        case measure => simp [intOf]; omega
      · go_wp2_with fail
        go_roundw
        case rel => exact ⟨h + 1, j, by omega, by omega, hjb, by go_num, rfl, HF.out HD.out, hB, hR5, hK5⟩
        case measure => simp [intOf]; omega
    · obtain rfl : j = i := by omega
      have hRot : RowAt wA g n (rot f m m (m + 1)) := by rw [rot_triv f (.inl rfl) (Nat.le_refl _) (Nat.le_succ _)]; exact hR
      clear hR
      go_wp2_with fail
      go_loopw [17] (fun v wr => ∃ k : Nat, j ≤ k ∧ k ≤ m ∧ v = .int .i64 k ∧ RowAt wr g n (rot f k m (m + 1)) ∧ Kept (fun k => k = g) w0 wr) (fun v _ => (intOf v).toNat)
      case atStart => exact ⟨m, hjb, Nat.le_refl _, rfl, hRot, hK⟩
      case round =>
        obtain ⟨q, hjq, hqm, rfl, hR, hK⟩ := hrel
        by_cases hlt2 : j < q
        · obtain ⟨k, rfl⟩ : ∃ k, q = k + 1 := ⟨q - 1, by omega⟩
          have l1 : (j : Int) < (k : Int) + 1 := by omega
          have l2 : (k : Int) < n := by omega
          have l3 : (k : Int) + 1 < n := by omega
          have l4 : (0 : Int) ≤ (k : Int) + 1 := by omega
          have l5 : ((k : Int) + 1).toNat = k + 1 := by omega
          have e1 : IntKind.i64.wrap ((k : Int) + 1 - 1) = k := by rw [show (k : Int) + 1 - 1 = k by omega]; exact IntWalk.i64_in _ (by omega)
          have e2 : IntKind.i64.wrap (k : Int) = k := IntWalk.i64_in _ (by omega)
          have y1 := hR.at k (by omega)
          have y2 := hR.at (k + 1) (by omega)
          have g1 := hR.2 k
          have g2 := hR.2 (k + 1)
          have hSW := hR.swapD (i := k + 1) (j := k) (by omega) (by omega) (by omega)
          rw [rot_down f hqm] at hSW
          obtain ⟨F, hF⟩ : ∃ F, rot f (k + 1) m (m + 1) = F := ⟨_, rfl⟩
          rw [hF] at y1 y2 hSW
          have HSW := Lib.hid hSW
          have HK := Lib.hid hK
          clear hR hF hSW hK
          obtain ⟨k1, hk1⟩ : ∃ k1, k1 = k + 1 := ⟨_, rfl⟩
          rw [← hk1] at y2 g2 l5
          have hne : k1 ≠ k := by omega
          have hne2 : k ≠ k1 := by omega
          have J1 := Lib.hid hk1
          clear hk1
          go_wp2_with fail
          go_region
          go_wp2_with fail
          go_roundw
          case rel => exact ⟨k, by omega, by omega, by go_num, by rw [J1.out]; exact HSW.out, HK.out.swapD rfl _ _ _ _⟩
          case measure => first | (simp [intOf]; done) | (simp [intOf]; omega)
        · have l1 : ¬ (j : Int) < (q : Int) := by omega
          obtain rfl : q = j := by omega
          have HS := Lib.hid (srt_last hai hqm hs.out hl.out hA hB)
          have HM : Hid (Mix a (m + 1) f (rot f q m (m + 1))) := (Mix.rot f hqm (Nat.le_succ _)).mono hai (Nat.le_refl _)
          go_wp2_with fail
          refine bodyPost_ret (v := .tuple #[]) (results_none rfl _ _ _) rfl ?_
          exact ⟨rfl, _, hR, HM.out, HS.out, hK⟩
end Go.Proofs.Ytcpjbnfmkhaadaa
