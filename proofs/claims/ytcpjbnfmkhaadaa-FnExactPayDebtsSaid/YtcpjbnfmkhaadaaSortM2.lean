/-
  slices.symMergeCmpFunc at int, the first range not the longer one. Conditions: fewer than 1000000 integers, each below their count.
-/
import Derived.Test.YtcpjbnfmkhaadaaSortM0
namespace Go.Proofs.Ytcpjbnfmkhaadaa
open Go.RowKit
set_option linter.unusedVariables false

set_option maxHeartbeats 6400000 in
set_option maxRecDepth 100000 in
theorem symM2_pt (n g c : Nat) (b1 : Value) (key : Int → Int) (w0 : World) (hn : n < 1000000) (hc : Cmp_pt w0 g n key b1) (d a m b mid : Nat) (f : Nat → Int)
    (ih : ∀ (a m b : Nat) (f : Nat → Int), b - a ≤ d → Rng n f 0 n → Srt key f a m → Srt key f m b → Lower f a m b → a < m → m < b → b ≤ n → MergeC_pt w0 g n c b1 key a m b f)
    (hd : b - a ≤ d + 1) (hrg : Rng n f 0 n) (hs1 : Srt key f a m) (hs2 : Srt key f m b) (hl : Lower f a m b) (ham : a < m) (hmb : m < b) (hbn : b ≤ n) (k1 : m ≠ a + 1) (k2 : b ≠ m + 1) (hmid : mid = (a + b) / 2) (q1 : ¬ mid < m) : MergeC_pt w0 g n c b1 key a m b f := by
  intro w hk hr
  have HC := Lib.hid hc
  have hg := hr.lt (by omega)
  have e0 : ((a : Int) + b) / 2 = mid := by omega
  have z1 : ((m : Int) - a == 1) = false := by simp; omega
  have z2 : ((b : Int) - m == 1) = false := by simp; omega
  obtain ⟨p, hp⟩ : ∃ p, p + 1 = mid + m := ⟨mid + m - 1, by omega⟩
  have ep : (mid : Int) + m - 1 = p := by omega
  have ep2 : IntKind.i64.wrap ((mid : Int) + m - 1) = p := by rw [ep]; exact IntWalk.i64_in _ (by omega)
  skip
  obtain ⟨L, R, hE, hLi, hRi⟩ : ∃ L R : Nat, Ends a m b mid L R ∧ ((a : Nat) : Int) = L ∧ ((m : Nat) : Int) = R := ⟨_, _, .inr ⟨q1, rfl, rfl⟩, rfl, rfl⟩
  have HE := Lib.hid hE
  have HF := Lib.hid (HE.out.facts hmid ham hmb)
  have HM := Lib.hid hmid
  have S1 := Lib.hid hs1
  have S2 := Lib.hid hs2
  have LW := Lib.hid hl
  have RG := Lib.hid hrg
  have IH := Lib.hid ih
  have HLR : L ≤ R := HF.out.2.1
  have HLi := Lib.hid hLi
  have HRi := Lib.hid hRi
  clear hE hLi hRi
  clear hc hmid hs1 hs2 hl hrg ih
  go_enter Try.func48, Try.ntmps48
  go_wp2_with fail
  go_loopw [20, 21] (fun x y wr => ∃ s r : Nat, L ≤ s ∧ s ≤ r ∧ r ≤ R ∧ x = .int .i64 s ∧ y = .int .i64 r ∧ Hid (CutLo key f p L s) ∧ Hid (CutHi key f p r R) ∧ RowAt wr g n f ∧ Kept (fun k => k = g) w0 wr) (fun x y _ => ((intOf y) - (intOf x)).toNat)
  case atStart => exact ⟨L, R, Nat.le_refl _, HLR, Nat.le_refl _, by first | rfl | (rw [← HLi.out]) | (rw [← HLi.out]; go_num), by first | rfl | (rw [← HRi.out]) | (rw [← HRi.out]; go_num), (fun c x1 x2 => by omega), (fun c x1 x2 => by omega), hr, hk⟩
  case round =>
    obtain ⟨s, r, hLs, hsr, hrR, rfl, rfl, hA, hB, hR, hK⟩ := hrel
    generalize hwA : wr = wA at *
    clear hwA
    have F := HF.out
    by_cases hlt : s < r
    · obtain ⟨h, hh⟩ : ∃ h : Nat, h = (s + r) / 2 := ⟨_, rfl⟩
      have hi1 : s ≤ h ∧ h < r := by omega
      have e1 : ((s : Int) + r) / 2 = h := by omega
      obtain ⟨ph, hph⟩ : ∃ ph, ph = p - h := ⟨_, rfl⟩
      have e2 : (p : Int) - h = ph := by omega
      have e3 : IntKind.i64.wrap ((p : Int) - h) = ph := by rw [e2]; exact IntWalk.i64_in _ (by omega)
      have e4 : IntKind.i64.wrap (ph : Int) = ph := IntWalk.i64_in _ (by omega)
      have x1 := hR.at ph (by omega)
      have x2 := hR.at h (by omega)
      have r1 := RG.out ph (Nat.zero_le _) (by omega)
      have r2 := RG.out h (Nat.zero_le _) (by omega)
      have l1 : (h : Int) < n := by omega
      have l2 : (ph : Int) < n := by omega
      obtain ⟨X, hX⟩ : ∃ X, f ph = X := ⟨_, rfl⟩
      obtain ⟨Y, hY⟩ : ∃ Y, f h = Y := ⟨_, rfl⟩
      have HFa : Hid (¬ key X < key Y → CutLo key f p L (h + 1)) := fun hxy => cut_lo HE.out HM.out ham hmb hp S1.out S2.out (by omega) (by omega) (by rw [← hph, hX, hY]; exact hxy)
      have HTr : Hid (key X < key Y → CutHi key f p h R) := fun hxy => cut_hi HE.out HM.out ham hmb hp S1.out S2.out (by omega) (by omega) (by rw [← hph, hX, hY]; exact hxy)
      rw [hX] at x1 r1
      rw [hY] at x2 r2
      have R1 := Lib.hid r1
      have R2 := Lib.hid r2
      have HR := Lib.hid hR
      have HK := Lib.hid hK
      have HH := Lib.hid hh
      have HPH := Lib.hid hph
      have hgA := hR.lt (by omega)
      clear hX hY r1 r2 hR hK hh hph
      cases hkk : decide (key X < key Y)
      case' false => have HD := Lib.hid (of_decide_eq_false hkk)
      case' true => have HD := Lib.hid (of_decide_eq_true hkk)
      all_goals
        go_wp2_with fail
        go_region_held3 (fun w' => w'.cell? ⟨g, ph, none⟩ = some (.int .i64 X) ∧ w'.cell? ⟨g, h, none⟩ = some (.int .i64 Y) ∧ Below wA.heap.size wA w')
          (first | (exact ⟨Below.cellOf ((Below.refl _ _).drew) rfl x1, Below.cellOf ((Below.refl _ _).drew) rfl x2, (Below.refl _ _).drew⟩) | (go_split_ands; refine ⟨Below.cellOf hb5 rfl (by assumption), Below.cellOf hb5 rfl (by assumption), bnext (by assumption) hb5⟩))
          ((first | (go_at_call 39; (try go_split_ands); refine (HC.out _ (Kept.next HK.out (by assumption)) X Y R1.out R2.out).mono ?_; rintro e w5 ⟨r5, rfl, hr5, hb5⟩; rw [hkk] at hr5)))
        rename_i hH
        have hH2 := hH.2.2
        have hR5 := HR.out.below hgA hH2
        have hK5 := HK.out.next hH2
        clear hH hb5 hH2 e1
      · go_wp2_with fail
        go_roundw
        case rel => exact ⟨s, h, hLs, by omega, by omega, rfl, rfl, hA, HTr.out HD.out, hR5, hK5⟩
        case measure => simp [intOf]; omega
      · go_wp2_with fail
        go_roundw
        case rel => exact ⟨h + 1, r, by omega, by omega, hrR, by go_num, rfl, HFa.out HD.out, hB, hR5, hK5⟩
        case measure => simp [intOf]; omega
    · obtain rfl : r = s := by omega
      obtain ⟨e, he⟩ : ∃ e, r + e = mid + m := ⟨mid + m - r, by omega⟩
      have ee : (mid : Int) + m - r = e := by omega
      have ee3 : IntKind.i64.wrap (e : Int) = e := IntWalk.i64_in _ (by omega)
      have ee2 : IntKind.i64.wrap ((mid : Int) + m - r) = e := by rw [ee]; exact IntWalk.i64_in _ (by omega)
      have HCUT := Lib.hid (Cut.of HE.out HM.out ham hmb hp S1.out S2.out LW.out hLs hrR he hA.out hB.out)
      have HMX : Hid (Mix a b f (rot f r m e)) := (Mix.rot f (by omega) (by omega)).mono (by omega) (by omega)
      have HX := Lib.hid HCUT.out.cross
      have HRG : Hid (Rng n (rot f r m e) 0 n) := RG.out.mix HMX.out hbn
      have HL := Lib.hid HCUT.out.left
      have HRt := Lib.hid HCUT.out.right
      have HI1 : Hid (a < r → r < mid → MergeC_pt w0 g n c b1 key a r mid (rot f r m e)) := fun x1 x2 => IH.out a r mid _ (by omega) HRG.out HCUT.out.srt1 HCUT.out.srt2 HCUT.out.lw1 x1 x2 (by omega)
      have HI2 : Hid (mid < e → e < b → ∀ h1, Mix a mid (rot f r m e) h1 → MergeC_pt w0 g n c b1 key mid e b h1) := fun x1 x2 h1 mx => IH.out mid e b _ (by omega) (HRG.out.mix mx (by omega)) (HCUT.out.srt3.out mx (Nat.le_refl _)) (HCUT.out.srt4.out mx (by omega)) (HCUT.out.lw2.out mx (Nat.le_refl _)) x1 x2 hbn
      have HTR : Hid (¬ (r < m ∧ m < e) → rot f r m e = f) := fun x => rot_triv f (by omega) (by omega) (by omega)
      have E1 : a ≤ mid := by omega
      have E2 : mid ≤ e := by omega
      have E3 : r ≤ mid := by omega
      have E4 : e ≤ b := by omega
      obtain ⟨GG, hGG⟩ : ∃ GG, rot f r m e = GG := ⟨_, rfl⟩
      have HGG := Lib.hid hGG
      rw [hGG] at HMX HX HRG HL HRt HI1 HI2 HTR
      clear HCUT F hA hB hGG
      by_cases c1 : r < m ∧ m < e
      case' pos =>
        obtain ⟨c1a, c1b⟩ := c1
        have HROT := Lib.hid (rotate_any n g c r m e (.func (.func 39) #[] #[b1]) f wA hn hR c1a c1b (by omega))
        go_wp2_with fail
        refine HROT.out.mono ?_
        rintro e9 w2 ⟨rfl, hR2, hK2'⟩
        have hK2 := hK.trans hK2'
        rw [HGG.out] at hR2
        clear hR hK hK2'
      case' neg =>
        have hR2 := hR
        rw [← HTR.out c1] at hR2
        have hK2 := hK
        clear hR hK
      all_goals
        by_cases c2 : a < r ∧ r < mid
        all_goals (try (exfalso; omega))
        try case' pos =>
          obtain ⟨c2a, c2b⟩ := c2
          go_wp2_with fail
          refine (HI1.out c2a c2b _ hK2 hR2).mono ?_
          rintro e9 w3 ⟨rfl, h1, hR3, hM3, hS3, hK3⟩
        try case' neg =>
          obtain ⟨h1, hR3, hM3, hS3, hK3⟩ := (⟨GG, hR2, Mix.refl _ _ _, HL.out E1 c2 E3, hK2⟩ : ∃ h1, RowAt _ g n h1 ∧ Mix a mid GG h1 ∧ Srt key h1 a mid ∧ Kept (fun k => k = g) w0 _)
        all_goals
          clear hR2 hK2
          by_cases c3 : mid < e ∧ e < b
          all_goals (try (exfalso; omega))
          try case' pos =>
            obtain ⟨c3a, c3b⟩ := c3
            go_wp2_with fail
            refine (HI2.out c3a c3b h1 hM3 _ hK3 hR3).mono ?_
            rintro e9 w4 ⟨rfl, h2, hR4, hM4, hS4, hK4⟩
          try case' neg =>
            obtain ⟨h2, hR4, hM4, hS4, hK4⟩ := (⟨h1, hR3, Mix.refl _ _ _, (HRt.out E2 c3).out hM3 (Nat.le_refl _), hK3⟩ : ∃ h2, RowAt _ g n h2 ∧ Mix mid b h1 h2 ∧ Srt key h2 mid b ∧ Kept (fun k => k = g) w0 _)
          all_goals
            go_wp2_with fail
            go_end0
            exact ⟨rfl, h2, hR4, HMX.out.trans ((hM3.mono (Nat.le_refl _) (by omega)).trans (hM4.mono (by omega) (Nat.le_refl _))), srt_join HX.out hM3 hM4 hS3 hS4, hK4⟩
end Go.Proofs.Ytcpjbnfmkhaadaa
