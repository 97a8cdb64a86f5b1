/-
  slices.insertionSortCmpFunc at int, over a comparison that tells which of two keys is less. Conditions: fewer than 1000000 integers, each of them below their count, ascending at first.
-/
import Derived.Test.YtcpjbnfmkhaadaaSortW
import Derived.Deep.RegionHeld3
namespace Go.Proofs.Ytcpjbnfmkhaadaa
open Go.RowKit
set_option linter.unusedVariables false

/-- What is asked of the comparison: in every world that parts from w0 in the row alone. -/
def Cmp_pd (w0 : World) (g n : Nat) (key : Int → Int) (b1 b2 : Value) : Prop := ∀ w', Kept (fun k => k = g) w0 w' → ∀ x y : Int, (0 ≤ x ∧ x < n) → (0 ≤ y ∧ y < n) →
  Calls Try.prog 31 #[.int .i64 x, .int .i64 y, b1, b2] w' (fun e w'' => ∃ r : Int, e = .returned (.int .i64 r) ∧ decide (r < 0) = decide (key x < key y) ∧ Below w'.heap.size w' w'')

set_option maxHeartbeats 3200000 in
theorem ins_pd (n g c a b : Nat) (b1 b2 : Value) (key : Int → Int) (f : Nat → Int) (w0 w : World) (hn : n < 1000000) (hc : Cmp_pd w0 g n key b1 b2) (hk : Kept (fun k => k = g) w0 w) (hr : RowAt w g n f)
    (hf : Hid (∀ p q, a ≤ p → p < q → q < b → f p < f q)) (hrg : Hid (Rng n f 0 n)) (hab : a < b) (hbn : b ≤ n) :
    Calls Try.prog 47 #[.slice (some ⟨g, 0, none⟩) n c, .int .i64 a, .int .i64 b, .func (.func 31) #[] #[b1, b2]] w
      fun e w' => e = .returned (.tuple #[]) ∧ ∃ h, RowAt w' g n h ∧ Mix a b f h ∧ Srt key h a b ∧ Kept (fun k => k = g) w0 w' := by
  have HC := Lib.hid hc
  clear hc
  go_enter Try.func47, Try.ntmps47
  go_wp2
  go_loopw [8] (fun i wr => ∃ (k : Nat) (h : Nat → Int), a < k ∧ k ≤ b ∧ i = .int .i64 k ∧ RowAt wr g n h ∧ Hid (Mix a k f h) ∧ Hid (Srt key h a k) ∧ Kept (fun k => k = g) w0 wr) (fun i _ => b - (intOf i).toNat)
  case atStart => exact ⟨a + 1, f, by omega, by omega, by go_num, hr, Mix.refl _ _ _, (fun i j x1 x2 x3 => by omega), hk⟩
  case round =>
    obtain ⟨i, h, hai, hib, rfl, hR, hM, hS, hK⟩ := hrel
    by_cases hlt : i < b
    · have HI := Lib.hid (InsI.start hf.out hM.out hS.out (by omega) hlt)
      go_wp2_with fail
      go_loopw [9] (fun v wr => ∃ (j : Nat) (h' : Nat → Int), v = .int .i64 j ∧ Hid (InsI key f h' a i j) ∧ RowAt wr g n h' ∧ Kept (fun k => k = g) w0 wr) (fun v _ => (intOf v).toNat)
      case atStart => exact ⟨i, h, rfl, HI, hR, hK⟩
      case round =>
        obtain ⟨j, h', rfl, HJ, hR, hK⟩ := hrel
        have haj := HJ.out.aj
        have hji := HJ.out.ji
        have HG : Hid (Rng n h' 0 n) := hrg.out.mix HJ.out.mix (by omega)
        generalize hwA : wr = wA at *
        clear hwA
        by_cases hja : a < j
        · obtain ⟨jp, rfl⟩ : ∃ jp, j = jp + 1 := ⟨j - 1, by omega⟩
          have hg := hR.lt (by omega)
          have x1 := hR.at (jp + 1) (by omega)
          have x2 := hR.at jp (by omega)
          have f1 := hR.2 (jp + 1)
          have f2 := hR.2 jp
          have r1 := HG.out (jp + 1) (Nat.zero_le _) (by omega)
          have r2 := HG.out jp (Nat.zero_le _) (by omega)
          have l1 : (a : Int) < (jp : Int) + 1 := by omega
          have l2 : (jp : Int) + 1 < n := by omega
          have l3 : (jp : Int) < n := by omega
          have l4 : (0 : Int) ≤ (jp : Int) + 1 := by omega
          have l5 : ((jp : Int) + 1).toNat = jp + 1 := by omega
          have e1 : IntKind.i64.wrap ((jp : Int) + 1 - 1) = jp := by rw [show (jp : Int) + 1 - 1 = jp by omega]; exact IntWalk.i64_in _ (by omega)
          have e2 : IntKind.i64.wrap (jp : Int) = jp := IntWalk.i64_in _ (by omega)
          have HR := Lib.hid hR
          have HK := Lib.hid hK
          clear hR hK
          obtain ⟨X, hX⟩ : ∃ X, h' (jp + 1) = X := ⟨_, rfl⟩
          obtain ⟨Y, hY⟩ : ∃ Y, h' jp = Y := ⟨_, rfl⟩
          rw [hX] at x1 r1
          rw [hY] at x2 r2
          have R1 := Lib.hid r1
          have R2 := Lib.hid r2
          clear r1 r2
          have HX := Lib.hid hX
          have HY := Lib.hid hY
          clear hX hY
          have HSTOP : Hid (¬ key X < key Y → Srt key h' a (i + 1)) := fun hn => HJ.out.stop (.inr (by rw [Nat.add_sub_cancel, HX.out, HY.out]; exact hn))
          have HSTEP : Hid (key X < key Y → InsI key f (swp h' (jp + 1) jp) a i jp) := fun hl => HJ.out.step (by omega) (by rw [HX.out, HY.out]; exact hl)
          have HMX : Hid (Mix a (i + 1) f h') := HJ.out.mix
          cases hkk : decide (key X < key Y)
          case' false => have HD := Lib.hid (of_decide_eq_false hkk)
          case' true => have HD := Lib.hid (of_decide_eq_true hkk)
          all_goals
            go_wp2_with fail
            go_region_held3 (fun w' => w'.cell? ⟨g, jp + 1, none⟩ = some (.int .i64 X) ∧ w'.cell? ⟨g, jp, none⟩ = some (.int .i64 Y) ∧ Below wA.heap.size wA w')
              (first | (exact ⟨Below.cellOf ((Below.refl _ _).drew) rfl x1, Below.cellOf ((Below.refl _ _).drew) rfl x2, (Below.refl _ _).drew⟩) | (go_split_ands; refine ⟨Below.cellOf hb5 rfl (by assumption), Below.cellOf hb5 rfl (by assumption), bnext (by assumption) hb5⟩))
              ((first | (go_at_call 31; (try go_split_ands); refine (HC.out _ (Kept.next HK.out (by assumption)) X Y R1.out R2.out).mono ?_; rintro e w5 ⟨r, rfl, hr5, hb5⟩; rw [hkk] at hr5)))
            rename_i hH
            have hH2 := hH.2.2
            have hR5 := HR.out.below hg hH2
            have hK5 := HK.out.next hH2
            clear hH
          · have y1 := hR5.at (jp + 1) (by omega)
            have y2 := hR5.at jp (by omega)
            have g1 := hR5.2 (jp + 1)
            have g2 := hR5.2 jp
            have HR5 := Lib.hid hR5
            have HK5 := Lib.hid hK5
            have hSW := Lib.hid (HR5.out.swapD (i := jp + 1) (j := jp) (by omega) (by omega) (by omega))
            clear hR5 hK5 hb5 hH2
            obtain ⟨j1, hj1⟩ : ∃ j1, j1 = jp + 1 := ⟨_, rfl⟩
            rw [← hj1] at y1 g1 l5
            have hne : j1 ≠ jp := by omega
            have hne2 : jp ≠ j1 := by omega
            have J1 := Lib.hid hj1
            clear hj1
            go_wp2_with fail
            go_region
            go_wp2_with fail
            go_roundw
            case rel => exact ⟨jp, swp h' (jp + 1) jp, by go_num, HSTEP.out HD.out, by rw [J1.out]; exact hSW.out, HK5.out.swapD rfl _ _ _ _⟩
            case measure => first | (simp [intOf]; done) | (simp [intOf]; omega)
          · go_wp2_with fail
            go_roundw
            case rel => exact ⟨i + 1, h', by omega, by omega, by go_num, hR5, HMX, HSTOP.out HD.out, hK5⟩
            case measure => simp [intOf]; omega
        · obtain rfl : j = a := by omega
          have hg := hR.lt (by omega)
          have l1 : decide ((j : Int) < (j : Int)) = false := decide_eq_false (by omega)
          have HST := Lib.hid (HJ.out.stop (.inl rfl))
          have HMX : Hid (Mix j (i + 1) f h') := HJ.out.mix
          go_wp2_with fail
          go_quiet (fail)
          go_wp2
          go_roundw
          case rel => exact ⟨i + 1, h', by omega, by omega, by go_num, hR.drewN hg _, HMX, HST, hK.drewN' _⟩
          case measure => simp [intOf]; omega
    · obtain rfl : i = b := by omega
      go_wp2
      go_end0
      exact ⟨rfl, h, hR, hM.out, hS.out, hK⟩
end Go.Proofs.Ytcpjbnfmkhaadaa
