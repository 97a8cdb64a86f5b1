/-
  slices.SortStableFunc at int, over a comparison that tells which of two keys is less. Conditions: fewer than 40 integers, each below their count, ascending at first.
-/
import Derived.Test.YtcpjbnfmkhaadaaSortMPd
namespace Go.Proofs.Ytcpjbnfmkhaadaa
open Go.RowKit
set_option linter.unusedVariables false

set_option maxHeartbeats 1600000 in
theorem ins0_pd (n g c a b : Nat) (b1 b2 : Value) (w : World) (hn : n < 1000000) (hab : b ≤ a + 1) (hbn : b ≤ n) (han : a ≤ n) :
    Calls Try.prog 47 #[.slice (some ⟨g, 0, none⟩) n c, .int .i64 a, .int .i64 b, .func (.func 31) #[] #[b1, b2]] w
      fun e w' => e = .returned (.tuple #[]) ∧ w = w' := by
  go_enter Try.func47, Try.ntmps47
  go_wp2
  go_loopw [8] (fun i wr => i = .int .i64 ((a : Int) + 1) ∧ wr = w) (fun i _ => 0)
  case atStart => exact ⟨by go_num, rfl⟩
  case round =>
    obtain ⟨rfl, rfl⟩ := hrel
    have l1 : ¬ ((a : Int) + 1 < (b : Int)) := by omega
    go_wp2
    go_end0
    exact ⟨rfl, rfl⟩

theorem Srt.shortPd {key : Int → Int} {f : Nat → Int} {a b : Nat} (h : b ≤ a + 1) : Srt key f a b := fun i j x1 x2 x3 => by omega

set_option maxHeartbeats 3200000 in
set_option maxRecDepth 100000 in
theorem stable_pd (n g c : Nat) (b1 b2 : Value) (key : Int → Int) (f : Nat → Int) (w : World) (hn : n < 40) (hc : Cmp_pd w g n key b1 b2) (hr : RowAt w g n f)
    (hf : Hid (∀ p q, p < q → q < n → f p < f q)) (hrg : Hid (Rng n f 0 n)) :
    Calls Try.prog 42 #[.slice (some ⟨g, 0, none⟩) n c, .int .i64 n, .func (.func 31) #[] #[b1, b2]] w
      fun e w' => e = .returned (.tuple #[]) ∧ ∃ h, RowAt w' g n h ∧ Mix 0 n f h ∧ Srt key h 0 n ∧ Kept (fun k => k = g) w w' := by
  have HC := Lib.hid hc
  have hn6 : n < 1000000 := by omega
  have HI1 : Hid (20 ≤ n → Calls Try.prog 47 #[.slice (some ⟨g, 0, none⟩) n c, .int .i64 0, .int .i64 20, .func (.func 31) #[] #[b1, b2]] w
      fun e w' => e = .returned (.tuple #[]) ∧ ∃ h, RowAt w' g n h ∧ Mix 0 20 f h ∧ Srt key h 0 20 ∧ Kept (fun k => k = g) w w') := fun h => ins_pd n g c 0 20 b1 b2 key f w w hn6 hc (Kept.refl _ _) hr (fun p q _ x2 x3 => hf.out p q x2 (by omega)) hrg (by omega) h
  have HI0 : Hid (0 < n → Calls Try.prog 47 #[.slice (some ⟨g, 0, none⟩) n c, .int .i64 0, .int .i64 n, .func (.func 31) #[] #[b1, b2]] w
      fun e w' => e = .returned (.tuple #[]) ∧ ∃ h, RowAt w' g n h ∧ Mix 0 n f h ∧ Srt key h 0 n ∧ Kept (fun k => k = g) w w') := fun h => ins_pd n g c 0 n b1 b2 key f w w hn6 hc (Kept.refl _ _) hr (fun p q _ x2 x3 => hf.out p q x2 (by omega)) hrg h (Nat.le_refl _)
  have HI2 : Hid (20 < n → ∀ (h : Nat → Int) w', Mix 0 20 f h → RowAt w' g n h → Kept (fun k => k = g) w w' → Calls Try.prog 47 #[.slice (some ⟨g, 0, none⟩) n c, .int .i64 20, .int .i64 n, .func (.func 31) #[] #[b1, b2]] w'
      fun e w'' => e = .returned (.tuple #[]) ∧ ∃ h', RowAt w'' g n h' ∧ Mix 20 n h h' ∧ Srt key h' 20 n ∧ Kept (fun k => k = g) w w'') := fun h20 h w' mx ra kp => ins_pd n g c 20 n b1 b2 key h w w' hn6 hc kp ra (fun p q x1 x2 x3 => by rw [mx.out p (.inr x1), mx.out q (.inr (by omega))]; exact hf.out p q x2 x3) (hrg.out.mix mx (by omega)) h20 (Nat.le_refl _)
  have HM2 : Hid (20 < n → ∀ (h h' : Nat → Int) w', Mix 0 20 f h → Srt key h 0 20 → Mix 20 n h h' → Srt key h' 20 n → RowAt w' g n h' → Kept (fun k => k = g) w w' → Calls Try.prog 48 #[.slice (some ⟨g, 0, none⟩) n c, .int .i64 0, .int .i64 20, .int .i64 n, .func (.func 31) #[] #[b1, b2]] w'
      fun e w'' => e = .returned (.tuple #[]) ∧ ∃ h2, RowAt w'' g n h2 ∧ Mix 0 n h' h2 ∧ Srt key h2 0 n ∧ Kept (fun k => k = g) w w'') := fun h20 h h' w' mx st mx' st' ra kp =>
    symM_pd n g c b1 b2 key w hn6 hc n 0 20 n h' (by omega) ((hrg.out.mix mx (by omega)).mix mx' (Nat.le_refl _)) (fun i j x1 x2 x3 => by rw [mx'.out i (.inl (by omega)), mx'.out j (.inl x3)]; exact st i j x1 x2 x3) st' (lower_of (fun p q _ x2 x3 => hf.out p q x2 x3) mx mx') (by omega) h20 (Nat.le_refl _) w' kp ra
  clear hc
  by_cases c0 : n < 20
  · have l1 : ¬ ((20 : Int) ≤ n) := by omega
    have l2 : ¬ ((20 : Int) < n) := by omega
    go_enter Try.func42, Try.ntmps42
    go_wp2_with fail
    go_loopw [7, 8] (fun x y wr => x = .int .i64 0 ∧ y = .int .i64 20 ∧ wr = w) (fun _ _ _ => 0)
    case atStart => exact ⟨rfl, rfl, rfl⟩
    case round =>
      obtain ⟨rfl, rfl, rfl⟩ := hrel
      by_cases n0 : n = 0
      · have HZ : Hid (Calls Try.prog 47 #[.slice (some ⟨g, 0, none⟩) n c, .int .i64 0, .int .i64 n, .func (.func 31) #[] #[b1, b2]] wr fun e w' => e = .returned (.tuple #[]) ∧ wr = w') := ins0_pd n g c 0 n b1 b2 wr hn6 (by omega) (Nat.le_refl _) (Nat.zero_le _)
        have N0 := Lib.hid n0
        clear n0
        go_wp2_with (first | (go_at_call 47; refine HZ.out.mono ?_; rintro e w2 ⟨rfl, rfl⟩))
        go_loopw [6, 7, 8] (fun x y z wq => x = .int .i64 20 ∧ wq = wr) (fun _ _ _ _ => 0)
        case atStart => exact ⟨rfl, rfl⟩
        case round =>
          obtain ⟨rfl, rfl⟩ := hrel
          go_wp2
          go_end0
          exact ⟨rfl, f, hr, Mix.refl _ _ _, Srt.shortPd (by have := N0.out; omega), Kept.refl _ _⟩
      · have HZ := Lib.hid (HI0.out (by omega))
        clear n0
        go_wp2_with (first | (go_at_call 47; refine HZ.out.mono ?_; rintro e w2 ⟨rfl, h2, hR2, hM2, hS2, hK2⟩))
        go_loopw [6, 7, 8] (fun x y z wq => x = .int .i64 20 ∧ wq = w2) (fun _ _ _ _ => 0)
        case atStart => exact ⟨rfl, rfl⟩
        case round =>
          obtain ⟨rfl, rfl⟩ := hrel
          go_wp2
          go_end0
          exact ⟨rfl, h2, hR2, hM2, hS2, hK2⟩
  · have l1 : (20 : Int) ≤ n := by omega
    have l5 : ¬ ((40 : Int) ≤ n) := by omega
    have l6 : ¬ ((40 : Int) < n) := by omega
    have H1 := Lib.hid (HI1.out (by omega))
    clear HI0
    go_enter Try.func42, Try.ntmps42
    go_wp2_with fail
    go_loopw [7, 8] (fun x y wr => (x = .int .i64 0 ∧ y = .int .i64 20 ∧ wr = w) ∨ (x = .int .i64 20 ∧ y = .int .i64 40 ∧ ∃ h, RowAt wr g n h ∧ Mix 0 20 f h ∧ Srt key h 0 20 ∧ Kept (fun k => k = g) w wr)) (fun x _ _ => (20 - intOf x).toNat)
    case atStart => exact .inl ⟨rfl, rfl, rfl⟩
    case round =>
      rcases hrel with ⟨rfl, rfl, rfl⟩ | ⟨rfl, rfl, h, hR, hM, hS, hK⟩
      · go_wp2_with (first | (go_at_call 47; refine H1.out.mono ?_; rintro e w2 ⟨rfl, h2, hR2, hM2, hS2, hK2⟩))
        go_roundw
        case rel => exact .inr ⟨rfl, rfl, h2, hR2, hM2, hS2, hK2⟩
        case measure => simp [intOf]
      · by_cases c1 : 20 < n
        · have H2 := Lib.hid (HI2.out c1 h wr hM hR hK)
          have H3 := HM2.out c1 h
          have H4 : Hid (∀ h' w', Mix 20 n h h' → Srt key h' 20 n → RowAt w' g n h' → Kept (fun k => k = g) w w' → _) := fun h' w' x1 x2 x3 x4 => H3 h' w' hM hS x1 x2 x3 x4
          clear H3
          go_wp2_with (first | (go_at_call 47; refine H2.out.mono ?_; rintro e w2 ⟨rfl, h2, hR2, hM2, hS2, hK2⟩))
          have H5 : Hid (∀ w', RowAt w' g n h2 → Kept (fun k => k = g) w w' → _) := fun w' x3 x4 => H4.out h2 w' hM2 hS2 x3 x4
          have HMM : Hid (Mix 0 n f h2) := (hM.mono (Nat.le_refl _) (by omega)).trans (hM2.mono (by omega) (Nat.le_refl _))
          have l7 : (20 : Int) < n := by omega
          go_loopw [6, 7, 8] (fun x y z wq => (x = .int .i64 20 ∧ RowAt wq g n h2 ∧ Kept (fun k => k = g) w wq) ∨ (x = .int .i64 40 ∧ ∃ h3, RowAt wq g n h3 ∧ Mix 0 n h2 h3 ∧ Srt key h3 0 n ∧ Kept (fun k => k = g) w wq)) (fun x _ _ _ => (40 - intOf x).toNat)
          case atStart => exact .inl ⟨rfl, hR2, hK2⟩
          case round =>
            rcases hrel with ⟨rfl, hRq, hKq⟩ | ⟨rfl, h3, hR3, hM3, hS3, hK3⟩
            · go_wp2_with fail
              go_loopw [7, 8] (fun x y wv => x = .int .i64 0 ∧ y = .int .i64 40 ∧ RowAt wv g n h2 ∧ Kept (fun k => k = g) w wv) (fun _ _ _ => 0)
              case atStart => exact ⟨rfl, by go_num, hRq, hKq⟩
              case round =>
                obtain ⟨rfl, rfl, hRv, hKv⟩ := hrel
                go_wp2_with (first | (go_at_call 48; refine (H5.out _ hRv hKv).mono ?_; rintro e w3 ⟨rfl, h3, hR3, hM3, hS3, hK3⟩))
                go_roundw
                case rel => exact .inr ⟨by go_num, h3, hR3, hM3, hS3, hK3⟩
                case measure => simp [intOf]
            · go_wp2
              go_end0
              exact ⟨rfl, h3, hR3, HMM.out.trans hM3, hS3, hK3⟩
        · have e20 : n = 20 := by omega
          have l8 : ¬ (20 : Int) < n := by omega
          have H2 : Hid (Calls Try.prog 47 #[.slice (some ⟨g, 0, none⟩) n c, .int .i64 20, .int .i64 n, .func (.func 31) #[] #[b1, b2]] wr fun e w' => e = .returned (.tuple #[]) ∧ wr = w') := ins0_pd n g c 20 n b1 b2 wr hn6 (by omega) (Nat.le_refl _) (by omega)
          have HE20 := Lib.hid e20
          clear e20
          go_wp2_with (first | (go_at_call 47; refine H2.out.mono ?_; rintro e w2 ⟨rfl, rfl⟩))
          go_loopw [6, 7, 8] (fun x y z wq => x = .int .i64 20 ∧ wq = wr) (fun _ _ _ _ => 0)
          case atStart => exact ⟨rfl, rfl⟩
          case round =>
            obtain ⟨rfl, rfl⟩ := hrel
            go_wp2
            go_end0
            exact ⟨rfl, h, hR, by rw [HE20.out]; exact hM, by rw [HE20.out]; exact hS, hK⟩

theorem sortStable_pd (n g c : Nat) (b1 b2 : Value) (key : Int → Int) (f : Nat → Int) (w : World) (hn : n < 40) (hc : Cmp_pd w g n key b1 b2) (hr : RowAt w g n f)
    (hf : Hid (∀ p q, p < q → q < n → f p < f q)) (hrg : Hid (Rng n f 0 n)) :
    Calls Try.prog 30 #[.slice (some ⟨g, 0, none⟩) n c, .func (.func 31) #[] #[b1, b2]] w
      fun e w' => e = .returned (.tuple #[]) ∧ ∃ h, RowAt w' g n h ∧ Mix 0 n f h ∧ Srt key h 0 n ∧ Kept (fun k => k = g) w w' := by
  have H := Lib.hid (stable_pd n g c b1 b2 key f w hn hc hr hf hrg)
  go_enter Try.func30, Try.ntmps30
  go_wp2_with (first | (go_at_call 42; refine H.out.mono ?_; rintro e w2 ⟨rfl, h2, hR2, hM2, hS2, hK2⟩))
  go_end0
  exact ⟨rfl, h2, hR2, hM2, hS2, hK2⟩
end Go.Proofs.Ytcpjbnfmkhaadaa
