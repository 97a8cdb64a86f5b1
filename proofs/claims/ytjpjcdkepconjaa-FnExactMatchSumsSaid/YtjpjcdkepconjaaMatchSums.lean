/-
  impl.MatchSums and spec.MatchSums answer alike: all lists of fewer than 1000000000 integers. No other condition.
-/
import Derived.Test.YtjpjcdkepconjaaMatchP
import Derived.Test.YtjpjcdkepconjaaBoolRow
import Derived.Test.YtjpjcdkepconjaaSmall
import Derived.Test.YtjpjcdkepconjaaMatchSumsI
namespace Go.Proofs.Ytjpjcdkepconjaa
open Go.RowKit
set_option linter.unusedVariables false


theorem firstB_cases (P : Nat → Bool) (m : Nat) : firstB P m = -1 ∨ ∃ j, j < m ∧ firstB P m = j := by
  induction m with
  | zero => exact .inl rfl
  | succ m ih =>
    rcases ih with h | ⟨j, hj, h⟩
    · cases hp : P m
      · exact .inl (firstB_none h hp)
      · exact .inr ⟨m, by omega, firstB_here h hp⟩
    · refine .inr ⟨j, by omega, ?_⟩
      have := firstB_stays (P := P) (k := m) (by rw [h]; omega) 1
      rw [this, h]

theorem l03Sums_any (n g c : Nat) (f : Nat → Int) (w : World) (hn : n < 1000000000) (hI : Ints w g 0 n f) :
    Calls Try.prog 70 #[.slice (some ⟨g, 0, none⟩) n c] w (RetV w (.bool (cntB f n 0 64 (-1000000000) 1000000000))) := by
  go_enter Try.func70, Try.ntmps70
  go_wp2
  go_loop [6] (fun i => ∃ k : Nat, k ≤ n ∧ i = .int .i64 k ∧ Hid (allW f (-1000000000) 1000000000 k = true)) (fun i => n - (intOf i).toNat)
  case atStart => exact ⟨0, Nat.zero_le _, rfl, rfl⟩
  case round =>
    obtain ⟨k, hk, rfl, ha⟩ := hrel
    by_cases hlt : k < n
    · have hc := hI.at0 k hlt
      cases hw : win (f k) (-1000000000) 1000000000
      · have HF := Lib.hid (cnt_no2 (a := 0) (b := 64) (allW_false k hlt hw))
        go_wp2_with (first | (go_at_call 73; refine (spec_l00In_any _ _ _ _).mono ?_; rintro e w' ⟨rfl, rfl⟩))
        go_ret
        exact ⟨ret_bool HF.out.symm, Below.refl _ _⟩
      · have HF := Lib.hid (allW_succ ha.out hw)
        go_wp2_with (first | (go_at_call 73; refine (spec_l00In_any _ _ _ _).mono ?_; rintro e w' ⟨rfl, rfl⟩))
        go_round
        case rel => exact ⟨k + 1, by omega, by go_num, HF⟩
        case measure => simp [intOf]; omega
    · obtain rfl : k = n := by omega
      by_cases h1 : (k : Int) ≤ 64
      · go_wp2_with fail
        go_ret
        exact ⟨ret_bool (by simp only [cntB, ha.out]; simp [win]; omega), Below.refl _ _⟩
      · go_wp2_with fail
        go_ret
        exact ⟨ret_bool (by simp only [cntB, ha.out]; simp [win]; omega), Below.refl _ _⟩

set_option maxHeartbeats 3000000 in
theorem mat_spec (n g1 c1 m g2 c2 : Nat) (a b : Nat → Int) (w : World) (hn : n < 1000000000) (hm : m < 1000000000) (I1 : Ints w g1 0 n a) (I2 : Ints w g2 0 m b) :
    Calls Try.prog 28 #[.slice (some ⟨g1, 0, none⟩) n c1, .slice (some ⟨g2, 0, none⟩) m c2] w (RetL2 2 w (matA a n b m) (matB a n b m) (matOk a n b m)) := by
  cases h : matOk a n b m
  · rw [(mat_no h).1, (mat_no h).2]
    rcases first_no2 h with h1 | ⟨h1, h2⟩
    · clear h
      have HA : Hid (∀ w', Ints w' g1 0 n a → Calls Try.prog 70 #[.slice (some ⟨g1, 0, none⟩) n c1] w' (RetV w' (.bool false))) := fun w' I => by have := l03Sums_any n g1 c1 a w' hn I; rwa [h1] at this
      go_enter Try.func28, Try.ntmps28
      go_wp2_with fail
      refine (HA.out _ I1).mono ?_
      rintro e w1 ⟨rfl, b1⟩
      go_wp2
      go_ret3
      exact RetL2.no _ b1
    · clear h
      have HA : Hid (∀ w', Ints w' g1 0 n a → Calls Try.prog 70 #[.slice (some ⟨g1, 0, none⟩) n c1] w' (RetV w' (.bool true))) := fun w' I => by have := l03Sums_any n g1 c1 a w' hn I; rwa [h1] at this
      have HB : Hid (∀ w', Ints w' g2 0 m b → Calls Try.prog 70 #[.slice (some ⟨g2, 0, none⟩) m c2] w' (RetV w' (.bool false))) := fun w' I => by have := l03Sums_any m g2 c2 b w' hm I; rwa [h2] at this
      go_enter Try.func28, Try.ntmps28
      go_wp2_with fail
      refine (HA.out _ I1).mono ?_
      rintro e w1 ⟨rfl, b1⟩
      go_wp2_with fail
      refine (HB.out _ (I2.below b1)).mono ?_
      rintro e w2 ⟨rfl, b2⟩
      go_wp2
      go_ret3
      exact RetL2.no _ (bnext b1 b2)
  · rw [(mat_yes h).1, (mat_yes h).2]
    obtain ⟨h1, h2⟩ := all_yes2 h
    obtain ⟨⟨_, n64⟩, ha⟩ := cntB_iff.1 h1
    obtain ⟨⟨_, m64⟩, hb'⟩ := cntB_iff.1 h2
    have HA : Hid (∀ w', Ints w' g1 0 n a → Calls Try.prog 70 #[.slice (some ⟨g1, 0, none⟩) n c1] w' (RetV w' (.bool true))) := fun w' I => by have := l03Sums_any n g1 c1 a w' hn I; rwa [h1] at this
    have HB : Hid (∀ w', Ints w' g2 0 m b → Calls Try.prog 70 #[.slice (some ⟨g2, 0, none⟩) m c2] w' (RetV w' (.bool true))) := fun w' I => by have := l03Sums_any m g2 c2 b w' hm I; rwa [h2] at this
    clear h h1 h2 ha hb'
    go_enter Try.func28, Try.ntmps28
    go_wp2_with fail
    refine (HA.out _ I1).mono ?_
    rintro e w1 ⟨rfl, b1⟩
    go_wp2_with fail
    refine (HB.out _ (I2.below b1)).mono ?_
    rintro e w2 ⟨rfl, b2⟩
    have C2 := bnext b1 b2
    go_wp2_with (first | (at_make; refine wpList_mkB _ rfl _ _ 89 rfl 4 mat_infoB Try.underlying89 _ _ _ _ m rfl rfl rfl rfl (by omega) ?_; intro w3 hu3 b3))
    have z3 := hu3.1
    have C3 := bnext C2 b3
    go_loopw [28, 8] (fun i v wr => ∃ k : Nat, k ≤ n ∧ i = .int .i64 k ∧ Own 2 wr w.heap.size v (onesL a b m k) ∧ Bools wr w2.heap.size m (usedA a b m k) ∧ Hid (v.ownBlock = some w2.heap.size → False) ∧ Below w.heap.size w wr) (fun i _ _ => n - (intOf i).toNat)
    case atStart =>
      have q1 : Below w3.heap.size w3 (w3.alloc (.cells #[] 2)) := by go_grown
      exact ⟨0, Nat.zero_le _, rfl, Own.made 2 w3 (B := w.heap.size) C3.size, hu3.below q1, (fun h => by have h' : w3.heap.size = w2.heap.size := Option.some.inj h; omega), bnext C3 q1⟩
    case round =>
      obtain ⟨i, hi, rfl, hv, hu, hd, hbr⟩ := hrel
      by_cases hlt : i < n
      · have x1 := Below.cellOf hbr rfl (I1.at0 i hlt)
        have X1 := Lib.hid x1
        clear x1
        have J2 := I2.below hbr
        have HL := Lib.hid (onesL_len a b m i)
        have l1 : (i : Int) < n := by omega
        go_wp2_with fail
        go_loopw [33, 10] (fun k at' wq => ∃ j : Nat, j ≤ m ∧ k = .int .i64 j ∧ at' = .int .i64 (firstB (meet b (usedA a b m i) (a i)) j) ∧ Below wr.heap.size wr wq) (fun k _ _ => m - (intOf k).toNat)
        case atStart => exact ⟨0, Nat.zero_le _, rfl, rfl, Below.refl _ _⟩
        case round =>
          obtain ⟨j, hj, rfl, rfl, hbq⟩ := hrel
          by_cases hlj : j < m
          · have y1 := Below.cellOf hbq rfl (J2.at0 j hlj)
            have y0 := Below.cellOf hbq rfl X1.out
            have y2 := Below.cellOf hbq rfl (hu.2.1 j hlj)
            have l2 : (j : Int) < m := by omega
            rcases firstB_cases (meet b (usedA a b m i) (a i)) j with hf | ⟨q, hq, hf⟩
            · cases hx : meet b (usedA a b m i) (a i) j
              · have HF := Lib.hid (firstB_none hf hx)
                rw [hf]
                clear hf
                rcases first_no2 hx with h1 | ⟨h1, h2⟩
                · have h1' : (b j == a i) = false := by
                    have h0 : ¬ a i = b j := by simpa using h1
                    simpa using fun h => h0 h.symm
                  clear hx h1
                  cases hy : usedA a b m i j
                  all_goals
                    rw [hy] at y2
                    clear hy
                    go_wp2_with fail
                    go_quiet (fail)
                    go_wp2
                    go_roundw
                    case rel => exact ⟨j + 1, by omega, by go_num, by rw [HF.out], Below.drewN' hbq _⟩
                    case measure => simp [intOf]; omega
                · have h2' : usedA a b m i j = true := by simpa using h2
                  rw [h2'] at y2
                  clear hx h2 h2' h1
                  go_wp2_with fail
                  go_quiet (fail)
                  go_wp2
                  go_roundw
                  case rel => exact ⟨j + 1, by omega, by go_num, by rw [HF.out], Below.drewN' hbq _⟩
                  case measure => simp [intOf]; omega
              · have HF := Lib.hid (firstB_here hf hx)
                rw [hf]
                clear hf
                obtain ⟨h1, h2⟩ := all_yes2 hx
                have h1' : (b j == a i) = true := by
                  have h0 : a i = b j := by simpa using h1
                  simpa using h0.symm
                have h2' : usedA a b m i j = false := by simpa using h2
                rw [h2'] at y2
                clear hx h2 h2' h1
                go_wp2_with fail
                go_quiet (fail)
                go_wp2
                go_roundw
                case rel => exact ⟨j + 1, by omega, by go_num, by rw [HF.out], Below.drewN' hbq _⟩
                case measure => simp [intOf]; omega
            · have HF : Hid (firstB (meet b (usedA a b m i) (a i)) (j + 1) = q) := (firstB_stays (by rw [hf]; omega) 1).trans hf
              rw [hf]
              clear hf
              have l3 : decide ((q : Int) < 0) = false := decide_eq_false (by omega)
              cases hy : usedA a b m i j
              all_goals
                rw [hy] at y2
                clear hy
                go_wp2_with fail
                go_quiet (fail)
                go_wp2
                go_roundw
                case rel => exact ⟨j + 1, by omega, by go_num, by rw [HF.out], Below.drewN' hbq _⟩
                case measure => simp [intOf]; omega
          · obtain rfl : j = m := by omega
            have hvq := hv.below hbq
            have huq := hu.below hbq
            have hbq' := bnext hbr hbq
            clear hv hu
            rcases firstB_cases (meet b (usedA a b j i) (a i)) j with hf | ⟨q, hq, hf⟩
            · have HM : Hid (metAt b (usedA a b j i) j (a i) = -1) := hf
              rw [hf]
              clear hf
              go_wp2_with (first | (at_builtin; refine wpList_app3 _ rfl _ _ 29 rfl w.heap.size 2 Try.infoI Try.underlying29 _ _ rfl hvq _ rfl (by have := HL.out; omega) hbq'.size ?_; intro v' w5 hv5 b5 k5))
              have hu5 := k5.bools huq hd.out
              go_roundw
              case rel => exact ⟨i + 1, by omega, by go_num, by rw [ones_none HM.out]; exact hv5, by rw [used_none HM.out]; exact hu5.1, hu5.2, hbq'.trans b5⟩
              case measure => simp [intOf]; omega
            · have HM : Hid (metAt b (usedA a b j i) j (a i) = q) := hf
              rw [hf]
              clear hf
              have y2 := huq.2.1 q hq
              have y3 := huq.2.2 q
              have l2 : (q : Int) < j := by omega
              have l3 : (0 : Int) ≤ (q : Int) := by omega
              go_wp2
              go_roundw
              have hO := fun wq : World => (Only.refl w2.heap.size (w2.heap.size + 1) wq).setCell (p := ⟨w2.heap.size, q, none⟩) (Nat.le_refl _) (Nat.lt_succ_self _) (.bool true)
              case rel => exact ⟨i + 1, by omega, by go_num, by rw [ones_here HM.out]; exact hvq.only (hO _) (fun k hk => by have : k ≠ w2.heap.size := (fun e => hd.out (e ▸ hk)); omega), huq.set q hq true (used_here HM.out) (fun k hk => used_other HM.out k hk), hd, hbq'.setCell C2.size _⟩
              case measure => simp [intOf]; omega
      · obtain rfl : i = n := by omega
        have HL := Lib.hid (onesL_len a b m i)
        generalize onesL a b m i = L1 at *
        generalize usedA a b m i = U at *
        clear hi
        have zr := hu.1
        go_wp2_with fail
        go_loopw [71, 12] (fun q u wq => ∃ k : Nat, k ≤ m ∧ q = .int .i64 k ∧ Own 2 wq w.heap.size u (twosL U k) ∧ Bools wq w2.heap.size m U ∧ Own 2 wq w.heap.size u8 L1 ∧ Hid (u.ownBlock = some w2.heap.size → False) ∧ Hid (Apart u u8) ∧ Below w.heap.size w wq) (fun q _ _ => m - (intOf q).toNat)
        case atStart =>
          have q1 : Below wr.heap.size wr (wr.alloc (.cells #[] 2)) := by go_grown
          exact ⟨0, Nat.zero_le _, rfl, Own.made 2 wr (B := w.heap.size) hbr.size, hu.below q1, hv.below q1, (fun h => by have h' : wr.heap.size = w2.heap.size := Option.some.inj h; omega), (fun k h1 h2 => by have h' : wr.heap.size = k := Option.some.inj h1; have := (hv.lt k h2).2; omega), bnext hbr q1⟩
        case round =>
          obtain ⟨k, hk, rfl, hu', hB, hv', hd', hd2', hbr'⟩ := hrel
          by_cases hlk : k < m
          · have y2 := hB.2.1 k hlk
            have HL2 := Lib.hid (twosL_len U k)
            have l2 : (k : Int) < m := by omega
            cases hx : U k
            · rw [hx] at y2
              have HT : Hid (twosL U (k + 1) = twosL U k ++ [(k : Int)]) := by show twosL U (k + 1) = _; simp [twosL, hx]
              clear hx
              go_wp2_with (first | (at_builtin; refine wpList_app3 _ rfl _ _ 29 rfl w.heap.size 2 Try.infoI Try.underlying29 _ _ rfl hu' _ rfl (by have := HL2.out; omega) hbr'.size ?_; intro v' w5 hv5 b5 k5))
              have hu5 := k5.bools hB hd'.out
              have ht5 := k5.own hv' hd2'.out
              go_roundw
              case rel => exact ⟨k + 1, by omega, by go_num, by rw [HT.out]; exact hv5, hu5.1, ht5.1, hu5.2, ht5.2, hbr'.trans b5⟩
              case measure => simp [intOf]; omega
            · rw [hx] at y2
              have HT : Hid (twosL U (k + 1) = twosL U k) := by show twosL U (k + 1) = _; simp [twosL, hx]
              clear hx
              go_wp2
              go_roundw
              case rel => exact ⟨k + 1, by omega, by go_num, by rw [HT.out]; exact hu', hB, hv', hd', hd2', hbr'⟩
              case measure => simp [intOf]; omega
          · obtain rfl : k = m := by omega
            have HL2 := Lib.hid (twosL_len U k)
            go_wp2
            go_ret3
            exact ⟨_, _, rfl, hv', by have := HL.out; omega, hu', by have := HL2.out; omega, hd2'.out.symm, hbr'⟩
theorem MatchSums_impl {w : World} {B1 B2 : Nat} {v u : Value} {xs ys : List Int} (h1 : RowI 2 w B1 v xs) (h2 : RowI 2 w B2 u ys) : Calls Try.prog 30 #[v, u] w (RetL2 2 w (MatchSums_r0 xs ys) (MatchSums_r1 xs ys) (MatchSums_r2 xs ys)) := by
  obtain ⟨g1, c1, rfl, _, _, _, _, I1, _, m1⟩ := h1.form
  obtain ⟨g2, c2, rfl, _, _, _, _, I2, _, m2⟩ := h2.form
  exact mat_impl _ g1 c1 _ g2 c2 _ _ w m1 m2 I1 I2
theorem MatchSums_spec {w : World} {B1 B2 : Nat} {v u : Value} {xs ys : List Int} (h1 : RowI 2 w B1 v xs) (h2 : RowI 2 w B2 u ys) : Calls Try.prog 28 #[v, u] w (RetL2 2 w (MatchSums_r0 xs ys) (MatchSums_r1 xs ys) (MatchSums_r2 xs ys)) := by
  obtain ⟨g1, c1, rfl, _, _, _, _, I1, _, m1⟩ := h1.form
  obtain ⟨g2, c2, rfl, _, _, _, _, I2, _, m2⟩ := h2.form
  exact mat_spec _ g1 c1 _ g2 c2 _ _ w m1 m2 I1 I2
end Go.Proofs.Ytjpjcdkepconjaa
