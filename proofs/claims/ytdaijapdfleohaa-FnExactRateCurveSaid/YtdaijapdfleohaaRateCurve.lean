/-
  impl.RateCurve and spec.RateCurve answer alike: every scale of fewer than 1000000000 integers a list, every list of fewer than 1000000000 amounts. No other condition.
-/
import Derived.Test.YtdaijapdfleohaaScaleW
import Derived.Test.YtdaijapdfleohaaScaleD
import Derived.Test.YtdaijapdfleohaaScaleO
import Derived.Test.YtdaijapdfleohaaFloat32S
import Derived.Deep.RegionHeld3
namespace Go.Proofs.Ytdaijapdfleohaa
open Go.RowKit
set_option linter.unusedVariables false

def tabN (h : Nat → Nat) : Nat → List Nat
  | 0 => []
  | k + 1 => tabN h k ++ [h k]
theorem tabN_length (h : Nat → Nat) (k : Nat) : (tabN h k).length = k := by
  induction k with
  | zero => rfl
  | succ k ih => simp [tabN, ih]
def rcOk (fb : Nat → Int) (nb : Nat) (fr : Nat → Int) (nr : Nat) (f : Nat → Int) (n : Nat) : Bool := scaleOk fb nb fr nr && cntB f n 1 60 1 1000000000000
def rcQ (fb fr : Nat → Int) (nb : Nat) (f : Nat → Int) (k : Nat) : Nat := fQuo (dueF fb fr nb (f k) 0) (f k)
def rcL (fb : Nat → Int) (nb : Nat) (fr : Nat → Int) (nr : Nat) (f : Nat → Int) (n : Nat) : List Nat := bif rcOk fb nb fr nr f n then tabN (rcQ fb fr nb f) n else []
section
variable {fb fr : Nat → Int} {nb nr : Nat} {f : Nat → Int} {n : Nat}
theorem rc_no (h : rcOk fb nb fr nr f n = false) : rcL fb nb fr nr f n = [] := by simp only [rcL, h, cond_false]
theorem rc_yes (h : rcOk fb nb fr nr f n = true) : rcL fb nb fr nr f n = tabN (rcQ fb fr nb f) n := by simp only [rcL, h, cond_true]
theorem rc_is (hs : ScaleIs fb nb fr nr) {c : Int} (c0 : 1 ≤ c) (c1 : c ≤ 1000000000000) : floatBits .quo .f32 (floatOfInt .f32 (dueF fb fr nb c 0)) (floatOfInt .f32 c) = some (fQuo (dueF fb fr nb c 0) c) ∧ fQuo (dueF fb fr nb c 0) c ≤ 2139095040 := by
  have := dueF_bd hs (show 0 ≤ c by omega) 0
  exact fQuo_is this.1 (by omega) c0 (by omega)
end
theorem rc_infoF : (Try.prog.info? 48).map (fun i => (i.zero, i.size, i.bytes)) = some (some (.float .f32 0), 1, 4) := by kernel_rfl

set_option maxHeartbeats 3200000 in
set_option maxRecDepth 100000 in
theorem rc_impl (gb cb gr cr nb nr : Nat) (fb fr : Nat → Int) (n g c : Nat) (f : Nat → Int) (w : World) (mb : nb < 1000000000) (mr : nr < 1000000000) (Ib : Ints w gb 0 nb fb) (Ir : Ints w gr 0 nr fr) (mn : n < 1000000000) (I : Ints w g 0 n f) :
    Calls Try.prog 10 #[.agg #[.slice (some ⟨gb, 0, none⟩) nb cb, .slice (some ⟨gr, 0, none⟩) nr cr], .slice (some ⟨g, 0, none⟩) n c] w (RetF 48 w (rcL fb nb fr nr f n) (rcOk fb nb fr nr f n)) := by
  have bA : Below w.heap.size w (w.alloc (.cells #[.slice (some ⟨gb, 0, none⟩) nb cb, .slice (some ⟨gr, 0, none⟩) nr cr] 29)) := by go_grown
  have HK0 : Hid ((w.alloc (.cells #[.slice (some ⟨gb, 0, none⟩) nb cb, .slice (some ⟨gr, 0, none⟩) nr cr] 29)).cell? ⟨w.heap.size, 0, none⟩ = some (.slice (some ⟨gb, 0, none⟩) nb cb)) := by show (w.alloc (.cells #[.slice (some ⟨gb, 0, none⟩) nb cb, .slice (some ⟨gr, 0, none⟩) nr cr] 29)).cell? _ = _; simp [go_sem]
  have HK1 : Hid ((w.alloc (.cells #[.slice (some ⟨gb, 0, none⟩) nb cb, .slice (some ⟨gr, 0, none⟩) nr cr] 29)).cell? ⟨w.heap.size, 1, none⟩ = some (.slice (some ⟨gr, 0, none⟩) nr cr)) := by show (w.alloc (.cells #[.slice (some ⟨gb, 0, none⟩) nb cb, .slice (some ⟨gr, 0, none⟩) nr cr] 29)).cell? _ = _; simp [go_sem]
  have HV : Hid (∀ w', Below w.heap.size w w' → Calls Try.prog 28 #[.agg #[.slice (some ⟨gb, 0, none⟩) nb cb, .slice (some ⟨gr, 0, none⟩) nr cr]] w' (RetV w' (.bool (scaleOk fb nb fr nr)))) := fun w' hb => valid_impl gb cb gr cr nb nr fb fr w' mb mr (Ib.below hb) (Ir.below hb)
  have HH : Hid (∀ w', Below w.heap.size w w' → Calls Try.prog 29 #[.slice (some ⟨g, 0, none⟩) n c, .int .i64 1, .int .i64 60, .int .i64 1, .int .i64 1000000000000] w' (RetV w' (.bool (cntB f n 1 60 1 1000000000000)))) := fun w' hb => hasCount_any n g 0 c f 1 60 1 1000000000000 w' mn (I.below hb)
  cases h : rcOk fb nb fr nr f n
  · rw [rc_no h]
    rcases first_no2 h with h1 | ⟨h1, h2⟩
    · rw [h1] at HV
      clear h
      go_enter Try.func10, Try.ntmps10
      go_wp2_with (first | (go_at_call 28; refine (HV.out _ bA).mono ?_; rintro e w1 ⟨rfl, b1⟩; have C1 := bnext bA b1))
      go_ret2
      exact RetF.no _ C1
    · rw [h1] at HV
      rw [h2] at HH
      clear h
      go_enter Try.func10, Try.ntmps10
      go_wp2_with (first | (go_at_call 28; refine (HV.out _ bA).mono ?_; rintro e w1 ⟨rfl, b1⟩; have C1 := bnext bA b1) | (go_at_call 29; refine (HH.out _ C1).mono ?_; rintro e w2 ⟨rfl, b2⟩; have C2 := bnext C1 b2))
      go_ret2
      exact RetF.no _ C2
  · rw [rc_yes h]
    obtain ⟨h1, h2⟩ := all_yes2 h
    have hs := scale_is h1
    have HS := Lib.hid hs
    obtain ⟨⟨n1, n60⟩, hf⟩ := cntB_iff.1 h2
    have HF := Lib.hid hf
    rw [h1] at HV
    rw [h2] at HH
    clear h h1 h2 hs hf
    go_enter Try.func10, Try.ntmps10
    go_wp2_with (first | (go_at_call 28; refine (HV.out _ bA).mono ?_; rintro e w1 ⟨rfl, b1⟩; have C1 := bnext bA b1) | (go_at_call 29; refine (HH.out _ C1).mono ?_; rintro e w2 ⟨rfl, b2⟩; have C2 := bnext C1 b2))
    have kb0 := Below.cellOf b2 rfl (Below.cellOf b1 rfl HK0.out)
    have kb1 := Below.cellOf b2 rfl (Below.cellOf b1 rfl HK1.out)
    have K0 := Lib.hid kb0
    have K1 := Lib.hid kb1
    clear kb0 kb1
    go_loopw [20, 6] (fun i v wr => ∃ k : Nat, k ≤ n ∧ i = .int .i64 k ∧ OwnF 48 wr w2.heap.size v (tabN (rcQ fb fr nb f) k) ∧ Below w2.heap.size w2 wr) (fun i _ _ => n - (intOf i).toNat)
    case atStart => exact ⟨0, Nat.zero_le _, rfl, OwnF.made _ _ (Nat.le_refl _), (Below.refl _ _).alloc (Nat.le_refl _) _⟩
    case round =>
      obtain ⟨k, hk, rfl, hown, hbr⟩ := hrel
      have hbw := C2.trans (hbr.mono C2.size)
      have k0 := Below.cellOf hbr rfl K0.out
      have k1 := Below.cellOf hbr rfl K1.out
      by_cases hlt : k < n
      · have d3 := (I.below hbw).at0 k hlt
        have hfk := HF.out k hlt
        have HQ : Hid (rcQ fb fr nb f k = fQuo (dueF fb fr nb (f k) 0) (f k)) := rfl
        have HT := Lib.hid (tabN_length (rcQ fb fr nb f) k)
        obtain ⟨x1, x2⟩ := rc_is HS.out hfk.1 hfk.2
        have HD : Hid (Calls Try.prog 30 #[.agg #[.slice (some ⟨gb, 0, none⟩) nb cb, .slice (some ⟨gr, 0, none⟩) nr cr], .int .i64 (f k), .int .i64 0] wr (RetV wr (.int .i64 (dueF fb fr nb (f k) 0)))) := due_impl gb cb gr cr nb nr fb fr (f k) 0 wr mb mr (Ib.below hbw) (Ir.below hbw) HS.out (by omega) hfk.2
        have l1 : (k : Int) < n := by omega
        obtain ⟨X, hX⟩ : ∃ X, f k = X := ⟨_, rfl⟩
        rw [hX] at d3 hfk HQ x1 x2 HD
        obtain ⟨D, hD⟩ : ∃ D, dueF fb fr nb X 0 = D := ⟨_, rfl⟩
        rw [hD] at HQ x1 x2 HD
        have hop : ∀ t w, (binOp .quo t (.float .f32 (floatOfInt .f32 D)) (.float .f32 (floatOfInt .f32 X))).run Try.prog w = .ok (.float .f32 (fQuo D X)) w := fun t w => run_float_arith w .quo t .f32 _ _ _ x1
        have hbs := hbr.size
        have HX2 := Lib.hid x2
        clear hX hD x1 x2
        go_wp2_with (first | (go_at_call 30; refine HD.out.mono ?_; rintro e w3 ⟨rfl, b3⟩; have hown3 := hown.below b3) | (at_builtin; refine wpList_appF _ rfl _ _ 26 rfl w2.heap.size 48 rc_infoF Try.underlying26 _ _ rfl hown3 _ HX2.out rfl (by have := HT.out; omega) (Nat.le_trans hbs b3.size) ?_; intro v5 w5 hown5 b5))
        go_roundw
        case rel => exact ⟨k + 1, by omega, by go_num, by rw [tabN, HQ.out]; exact hown5, (hbr.trans (b3.mono hbs)).trans b5⟩
        case measure => simp [intOf]; omega
      · obtain rfl : k = n := by omega
        have HT := Lib.hid (tabN_length (rcQ fb fr nb f) k)
        go_wp2_with fail
        go_ret2
        exact ⟨_, rfl, hown.mono C2.size, by rw [HT.out]; exact mn, hbw⟩

theorem one_split (x : Int) : win x 1 1000000000000 = (isAmount x && !decide (x = 0)) := by
  cases h : win x 1 1000000000000
  · have h0 := win_not.1 h
    cases h1 : isAmount x
    · rfl
    · have h2 := win_iff.1 h1
      have : x = 0 := by omega
      simp [this]
  · obtain ⟨a, b⟩ := win_iff.1 h
    have h1 : isAmount x = true := win_iff.2 ⟨by omega, b⟩
    have h2 : ¬ x = 0 := by omega
    simp [h1, h2]
theorem rc_n1 {fb fr : Nat → Int} {nb nr : Nat} {f : Nat → Int} {n : Nat} (h : scaleOk fb nb fr nr = false) : rcOk fb nb fr nr f n = false := by simp only [rcOk, h, Bool.false_and]
theorem rc_n2 {fb fr : Nat → Int} {nb nr : Nat} {f : Nat → Int} {n : Nat} (h : win n 1 60 = false) : rcOk fb nb fr nr f n = false := by simp only [rcOk, cntB, h, Bool.false_and, Bool.and_false]
theorem rc_n3 {fb fr : Nat → Int} {nb nr : Nat} {f : Nat → Int} {n k : Nat} (hk : k < n) (h : win (f k) 1 1000000000000 = false) : rcOk fb nb fr nr f n = false := by simp only [rcOk, cntB, allW_false k hk h, Bool.and_false]
theorem rc_y {fb fr : Nat → Int} {nb nr : Nat} {f : Nat → Int} {n : Nat} (h : scaleOk fb nb fr nr = true) (h1 : win n 1 60 = true) (h2 : allW f 1 1000000000000 n = true) : rcOk fb nb fr nr f n = true := by simp only [rcOk, cntB, h, h1, h2, Bool.and_true]

set_option maxHeartbeats 6400000 in
set_option maxRecDepth 100000 in
theorem rc_spec (gb cb gr cr nb nr : Nat) (fb fr : Nat → Int) (n g c : Nat) (f : Nat → Int) (w : World) (mb : nb < 1000000000) (mr : nr < 1000000000) (Ib : Ints w gb 0 nb fb) (Ir : Ints w gr 0 nr fr) (mn : n < 1000000000) (I : Ints w g 0 n f) :
    Calls Try.prog 7 #[.agg #[.slice (some ⟨gb, 0, none⟩) nb cb, .slice (some ⟨gr, 0, none⟩) nr cr], .slice (some ⟨g, 0, none⟩) n c] w (RetF 48 w (rcL fb nb fr nr f n) (rcOk fb nb fr nr f n)) := by
  have bA : Below w.heap.size w (w.alloc (.cells #[.slice (some ⟨gb, 0, none⟩) nb cb, .slice (some ⟨gr, 0, none⟩) nr cr] 29)) := by go_grown
  have HK0 : Hid ((w.alloc (.cells #[.slice (some ⟨gb, 0, none⟩) nb cb, .slice (some ⟨gr, 0, none⟩) nr cr] 29)).cell? ⟨w.heap.size, 0, none⟩ = some (.slice (some ⟨gb, 0, none⟩) nb cb)) := by show (w.alloc (.cells #[.slice (some ⟨gb, 0, none⟩) nb cb, .slice (some ⟨gr, 0, none⟩) nr cr] 29)).cell? _ = _; simp [go_sem]
  have HK1 : Hid ((w.alloc (.cells #[.slice (some ⟨gb, 0, none⟩) nb cb, .slice (some ⟨gr, 0, none⟩) nr cr] 29)).cell? ⟨w.heap.size, 1, none⟩ = some (.slice (some ⟨gr, 0, none⟩) nr cr)) := by show (w.alloc (.cells #[.slice (some ⟨gb, 0, none⟩) nb cb, .slice (some ⟨gr, 0, none⟩) nr cr] 29)).cell? _ = _; simp [go_sem]
  have HV : Hid (∀ w', w'.cell? ⟨w.heap.size, 0, none⟩ = some (.slice (some ⟨gb, 0, none⟩) nb cb) → w'.cell? ⟨w.heap.size, 1, none⟩ = some (.slice (some ⟨gr, 0, none⟩) nr cr) → Below w.heap.size w w' → Calls Try.prog 25 #[.pointer (some ⟨w.heap.size, 0, none⟩)] w' (RetV w' (.bool (scaleOk fb nb fr nr)))) := fun w' a b hb => is_spec w.heap.size gb cb gr cr nb nr fb fr w' a b mb mr (Ib.below hb) (Ir.below hb)
  cases h1 : scaleOk fb nb fr nr
  · rw [rc_no (rc_n1 h1), rc_n1 h1]
    rw [h1] at HV
    go_enter Try.func7, Try.ntmps7
    go_wp2_with (first | (go_at_call 25; refine (HV.out _ HK0.out HK1.out bA).mono ?_; rintro e w1 ⟨rfl, b1⟩; have C1 := bnext bA b1))
    go_ret2
    exact RetF.no _ C1
  cases h2 : win n 1 60
  · rw [rc_no (rc_n2 h2), rc_n2 h2]
    rw [h1] at HV
    rcases win_not.1 h2 with h3 | h3
    all_goals
      go_enter Try.func7, Try.ntmps7
      go_wp2_with (first | (go_at_call 25; refine (HV.out _ HK0.out HK1.out bA).mono ?_; rintro e w1 ⟨rfl, b1⟩; have C1 := bnext bA b1))
      go_ret2
      exact RetF.no _ C1
  have HS := Lib.hid (scale_is h1)
  have HNO : Hid (∀ k, k < n → win (f k) 1 1000000000000 = false → rcOk fb nb fr nr f n = false) := fun k hk h => rc_n3 hk h
  have HYES : Hid (allW f 1 1000000000000 n = true → rcOk fb nb fr nr f n = true) := fun h => rc_y h1 h2 h
  have HL0 : Hid (rcOk fb nb fr nr f n = false → rcL fb nb fr nr f n = []) := rc_no
  have HL1 : Hid (rcOk fb nb fr nr f n = true → rcL fb nb fr nr f n = tabN (rcQ fb fr nb f) n) := rc_yes
  obtain ⟨n1, n60⟩ := win_iff.1 h2
  rw [h1] at HV
  obtain ⟨OK, hOK⟩ : ∃ OK, rcOk fb nb fr nr f n = OK := ⟨_, rfl⟩
  obtain ⟨RL, hRL⟩ : ∃ RL, rcL fb nb fr nr f n = RL := ⟨_, rfl⟩
  rw [hOK] at HNO HYES HL0 HL1
  rw [hRL] at HL0 HL1
  rw [hOK, hRL]
  clear h1 h2 hOK hRL
  go_enter Try.func7, Try.ntmps7
  go_wp2_with (first | (go_at_call 25; refine (HV.out _ HK0.out HK1.out bA).mono ?_; rintro e w2 ⟨rfl, b2⟩; have C2 := bnext bA b2))
  have kb0 := Below.cellOf b2 rfl HK0.out
  have kb1 := Below.cellOf b2 rfl HK1.out
  have K0 := Lib.hid kb0
  have K1 := Lib.hid kb1
  clear kb0 kb1
  go_loopw [7, 6] (fun i v wr => ∃ k : Nat, k ≤ n ∧ i = .int .i64 k ∧ OwnF 48 wr w2.heap.size v (tabN (rcQ fb fr nb f) k) ∧ Hid (allW f 1 1000000000000 k = true) ∧ Below w2.heap.size w2 wr) (fun i _ _ => n - (intOf i).toNat)
  case atStart => exact ⟨0, Nat.zero_le _, rfl, OwnF.made _ _ (Nat.le_refl _), rfl, (Below.refl _ _).alloc (Nat.le_refl _) _⟩
  case round =>
    obtain ⟨k, hk, rfl, hown, hall, hbr⟩ := hrel
    have hbw := C2.trans (hbr.mono C2.size)
    by_cases hlt : k < n
    · have d3 := (I.below hbw).at0 k hlt
      have l1 : (k : Int) < n := by omega
      cases hw : win (f k) 1 1000000000000
      · have HO : Hid (OK = false) := HNO.out k hlt hw
        have Z := Lib.hid (HL0.out HO.out)
        rw [one_split] at hw
        rcases first_no2 hw with h3 | ⟨h3, h4⟩
        · clear hw
          go_wp2_with (first | (go_at_call 26; refine (spec_l02Cents_any _ _).mono ?_; rintro e w' ⟨rfl, rfl⟩))
          go_ret2
          rw [Z.out, HO.out]
          exact RetF.no _ hbw
        · have h5 : f k = 0 := by simpa using h4
          rw [h5] at d3
          have h6 : isAmount 0 = true := by decide
          clear hw h4
          go_wp2_with (first | (go_at_call 26; refine (spec_l02Cents_any _ _).mono ?_; rintro e w' ⟨rfl, rfl⟩))
          go_ret2
          rw [Z.out, HO.out]
          exact RetF.no _ hbw
      · have HW := Lib.hid (allW_succ hall.out hw)
        have hfk := win_iff.1 hw
        have ha : isAmount (f k) = true := win_iff.2 ⟨by omega, hfk.2⟩
        have hz : ¬ f k = 0 := by omega
        have HQ : Hid (rcQ fb fr nb f k = fQuo (dueF fb fr nb (f k) 0) (f k)) := rfl
        have HT := Lib.hid (tabN_length (rcQ fb fr nb f) k)
        obtain ⟨x1, x2⟩ := rc_is HS.out hfk.1 hfk.2
        have HD : Hid (∀ w', Below w2.heap.size w2 w' → Calls Try.prog 27 #[.pointer (some ⟨w.heap.size, 0, none⟩), .int .i64 (f k), .int .i64 0] w' (RetV w' (.int .i64 (dueF fb fr nb (f k) 0)))) := fun w' hb => by
          have hb2 := C2.trans (hb.mono C2.size)
          refine (due_spec w.heap.size gb cb gr cr nb nr fb fr (f k) 0 w' (Below.cellOf hb rfl K0.out) (Below.cellOf hb rfl K1.out) mb mr (Ib.below hb2) (Ir.below hb2) HS.out (by omega) hfk.2).mono ?_
          rintro e w'' ⟨he, m, rfl⟩
          exact ⟨he, Go.Proofs.Ytdaijapdfleohaa.Below.drewN' (Below.refl _ _) m⟩
        have HC : Hid (∀ w', Below w2.heap.size w2 w' → w'.cell? ⟨g, k, none⟩ = some (.int .i64 (f k))) := fun w' hb => (I.below (C2.trans (hb.mono C2.size))).at0 k hlt
        obtain ⟨X, hX⟩ : ∃ X, f k = X := ⟨_, rfl⟩
        rw [hX] at d3 hfk HQ x1 x2 HD ha hz HC
        obtain ⟨D, hD⟩ : ∃ D, dueF fb fr nb X 0 = D := ⟨_, rfl⟩
        rw [hD] at HQ x1 x2 HD
        have hop : ∀ t w, (binOp .quo t (.float .f32 (floatOfInt .f32 D)) (.float .f32 (floatOfInt .f32 X))).run Try.prog w = .ok (.float .f32 (fQuo D X)) w := fun t w => run_float_arith w .quo t .f32 _ _ _ x1
        have hbs := hbr.size
        have HX2 := Lib.hid x2
        clear hX hD x1 x2 hw
        go_wp2_with (first | (go_at_call 26; refine (spec_l02Cents_any _ _).mono ?_; rintro e w' ⟨rfl, rfl⟩))
        go_region_held3 (fun w' => w'.cell? ⟨g, k, none⟩ = some (.int .i64 X) ∧ Below w2.heap.size w2 w')
          (first | exact ⟨HC.out _ hbr.drew, hbr.drew⟩ | (go_split_ands; exact ⟨HC.out _ (Below.trans (by assumption) (Below.mono hb3 (Below.size (by assumption)))), Below.trans (by assumption) (Below.mono hb3 (Below.size (by assumption)))⟩) | (go_split_ands; exact ⟨Below.cellOf ((Below.refl _ _).alloc (Nat.le_refl _) _) rfl (by assumption), Below.alloc (by assumption) (Below.size (by assumption)) _⟩) | (go_split_ands; exact ⟨HC.out _ (Below.trans (by assumption) hb6), Below.trans (by assumption) hb6⟩))
          ((first | (go_at_call 27; (try go_split_ands); refine (HD.out _ (by assumption)).mono ?_; rintro e w3 ⟨rfl, hb3⟩; have hown3 := (hown.below (Below.drew (Below.refl _ wr))).below hb3) | (refine step_appF _ rfl _ _ 26 rfl w2.heap.size 48 rc_infoF Try.underlying26 _ _ rfl hown3 _ HX2.out rfl (by have := HT.out; omega) (Nat.le_trans hbs hb3.size) ?_; intro v5 w5 hown5 hb5 hb6)))
        go_wp2
        go_roundw
        case rel => exact ⟨k + 1, by omega, by go_num, by rw [tabN, HQ.out]; exact hown5, HW, (hbr.drew.trans (hb3.mono hbs)).trans hb5⟩
        case measure => simp [intOf]; omega
    · obtain rfl : k = n := by omega
      have HO : Hid (OK = true) := HYES.out hall.out
      have Z := Lib.hid (HL1.out HO.out)
      have HT := Lib.hid (tabN_length (rcQ fb fr nb f) k)
      go_wp2_with fail
      go_ret2
      rw [Z.out, HO.out]
      exact ⟨_, rfl, hown.mono C2.size, by rw [HT.out]; exact mn, hbw⟩
def RateCurve_r0 (xb xr xs : List Int) : List Nat := rcL (fun i => xb.getD i 0) xb.length (fun i => xr.getD i 0) xr.length (fun i => xs.getD i 0) xs.length
def RateCurve_r1 (xb xr xs : List Int) : Bool := rcOk (fun i => xb.getD i 0) xb.length (fun i => xr.getD i 0) xr.length (fun i => xs.getD i 0) xs.length
theorem RateCurve_impl {w : World} {B B2 : Nat} {v u : Value} {xb xr xs : List Int} (h : RowS 2 w B v xb xr) (h2 : RowI 2 w B2 u xs) : Calls Try.prog 10 #[v, u] w (RetF 48 w (RateCurve_r0 xb xr xs) (RateCurve_r1 xb xr xs)) := by
  obtain ⟨gb, cb, gr, cr, rfl, mb, mr, Ib, Ir, l1, l2⟩ := h.form2
  obtain ⟨g, c, rfl, _, _, _, _, I1, _, m1⟩ := h2.form
  exact rc_impl gb cb gr cr _ _ _ _ _ g c _ w mb mr Ib Ir m1 I1
theorem RateCurve_spec {w : World} {B B2 : Nat} {v u : Value} {xb xr xs : List Int} (h : RowS 2 w B v xb xr) (h2 : RowI 2 w B2 u xs) : Calls Try.prog 7 #[v, u] w (RetF 48 w (RateCurve_r0 xb xr xs) (RateCurve_r1 xb xr xs)) := by
  obtain ⟨gb, cb, gr, cr, rfl, mb, mr, Ib, Ir, l1, l2⟩ := h.form2
  obtain ⟨g, c, rfl, _, _, _, _, I1, _, m1⟩ := h2.form
  exact rc_spec gb cb gr cr _ _ _ _ _ g c _ w mb mr Ib Ir m1 I1
end Go.Proofs.Ytdaijapdfleohaa
