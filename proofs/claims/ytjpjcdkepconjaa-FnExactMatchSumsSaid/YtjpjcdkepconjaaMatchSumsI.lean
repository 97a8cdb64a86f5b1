/-
  impl.MatchSums matches as the plain law tells. Condition: fewer than 1000000000 integers.
-/
import Derived.Test.YtjpjcdkepconjaaMatchP
import Derived.Test.YtjpjcdkepconjaaBoolRow
import Derived.Test.YtjpjcdkepconjaaSmall
import Derived.Test.YtjpjcdkepconjaaWithin
namespace Go.Proofs.Ytjpjcdkepconjaa
open Go.RowKit
set_option linter.unusedVariables false

theorem mat_infoB : (Try.prog.info? 4).map (fun i => (i.zero, i.size, i.bytes)) = some (some (.bool false), 1, 1) := by kernel_rfl

set_option maxHeartbeats 1600000 in
theorem mat_impl (n g1 c1 m g2 c2 : Nat) (a b : Nat → Int) (w : World) (hn : n < 1000000000) (hm : m < 1000000000) (I1 : Ints w g1 0 n a) (I2 : Ints w g2 0 m b) :
    Calls Try.prog 30 #[.slice (some ⟨g1, 0, none⟩) n c1, .slice (some ⟨g2, 0, none⟩) m c2] w (RetL2 2 w (matA a n b m) (matB a n b m) (matOk a n b m)) := by
  cases h : matOk a n b m
  · rw [(mat_no h).1, (mat_no h).2]
    rcases first_no2 h with h1 | ⟨h1, h2⟩
    · clear h
      have HA : Hid (∀ w', Ints w' g1 0 n a → Calls Try.prog 71 #[.slice (some ⟨g1, 0, none⟩) n c1, .int .i64 0, .int .i64 64, .int .i64 (-1000000000), .int .i64 1000000000] w' (RetV w' (.bool false))) := fun w' I => by have := hasCount_any n g1 0 c1 a 0 64 (-1000000000) 1000000000 w' hn I; rwa [h1] at this
      go_enter Try.func30, Try.ntmps30
      go_wp2_with fail
      refine (HA.out _ I1).mono ?_
      rintro e w1 ⟨rfl, b1⟩
      go_wp2
      go_ret3
      exact RetL2.no _ b1
    · clear h
      have HA : Hid (∀ w', Ints w' g1 0 n a → Calls Try.prog 71 #[.slice (some ⟨g1, 0, none⟩) n c1, .int .i64 0, .int .i64 64, .int .i64 (-1000000000), .int .i64 1000000000] w' (RetV w' (.bool true))) := fun w' I => by have := hasCount_any n g1 0 c1 a 0 64 (-1000000000) 1000000000 w' hn I; rwa [h1] at this
      have HB : Hid (∀ w', Ints w' g2 0 m b → Calls Try.prog 71 #[.slice (some ⟨g2, 0, none⟩) m c2, .int .i64 0, .int .i64 64, .int .i64 (-1000000000), .int .i64 1000000000] w' (RetV w' (.bool false))) := fun w' I => by have := hasCount_any m g2 0 c2 b 0 64 (-1000000000) 1000000000 w' hm I; rwa [h2] at this
      go_enter Try.func30, Try.ntmps30
      go_wp2_with fail
      refine (HA.out _ I1).mono ?_
      rintro e w1 ⟨rfl, b1⟩
      go_wp2_with fail
      refine (HB.out _ (I2.below b1)).mono ?_
      rintro e w2 ⟨rfl, b2⟩
      go_wp2
      go_ret3
      exact RetL2.no _ (bnext b1 b2)
  · rw [(mat_yes h).1, (mat_yes h).2]
    obtain ⟨h1, h2⟩ := all_yes2 h
    obtain ⟨⟨_, n64⟩, ha⟩ := cntB_iff.1 h1
    obtain ⟨⟨_, m64⟩, hb'⟩ := cntB_iff.1 h2
    have HA : Hid (∀ w', Ints w' g1 0 n a → Calls Try.prog 71 #[.slice (some ⟨g1, 0, none⟩) n c1, .int .i64 0, .int .i64 64, .int .i64 (-1000000000), .int .i64 1000000000] w' (RetV w' (.bool true))) := fun w' I => by have := hasCount_any n g1 0 c1 a 0 64 (-1000000000) 1000000000 w' hn I; rwa [h1] at this
    have HB : Hid (∀ w', Ints w' g2 0 m b → Calls Try.prog 71 #[.slice (some ⟨g2, 0, none⟩) m c2, .int .i64 0, .int .i64 64, .int .i64 (-1000000000), .int .i64 1000000000] w' (RetV w' (.bool true))) := fun w' I => by have := hasCount_any m g2 0 c2 b 0 64 (-1000000000) 1000000000 w' hm I; rwa [h2] at this
    clear h h1 h2 ha hb'
    go_enter Try.func30, Try.ntmps30
    go_wp2_with fail
    refine (HA.out _ I1).mono ?_
    rintro e w1 ⟨rfl, b1⟩
    go_wp2_with fail
    refine (HB.out _ (I2.below b1)).mono ?_
    rintro e w2 ⟨rfl, b2⟩
    have C2 := bnext b1 b2
    go_wp2_with (first | (at_make; refine wpList_mkB _ rfl _ _ 89 rfl 4 mat_infoB Try.underlying89 _ _ _ _ m rfl rfl rfl rfl (by omega) ?_; intro w3 hu3 b3))
    have z3 := hu3.1
    have C3 := bnext C2 b3
    go_loopw [32, 8] (fun i v wr => ∃ k : Nat, k ≤ n ∧ i = .int .i64 k ∧ Own 2 wr w.heap.size v (onesL a b m k) ∧ Bools wr w2.heap.size m (usedA a b m k) ∧ Own 2 wr w.heap.size (.slice (some ⟨w3.heap.size + 1, 0, none⟩) 0 0) [] ∧ Hid (v.ownBlock = some w2.heap.size → False) ∧ Hid (Apart v (.slice (some ⟨w3.heap.size + 1, 0, none⟩) 0 0)) ∧ Below w.heap.size w wr) (fun i _ _ => n - (intOf i).toNat)
    case atStart =>
      have hz1 : (w3.alloc (.cells #[] 2)).heap.size = w3.heap.size + 1 := by simp
      have q1 : Below w3.heap.size w3 (w3.alloc (.cells #[] 2)) := by go_grown
      have q2 : Below (w3.alloc (.cells #[] 2)).heap.size (w3.alloc (.cells #[] 2)) ((w3.alloc (.cells #[] 2)).alloc (.cells #[] 2)) := by go_grown
      have A1 := (Own.made 2 w3 (B := w.heap.size) C3.size).below q2
      have A2 := Own.made 2 (w3.alloc (.cells #[] 2)) (B := w.heap.size) (by have := C3.size; omega)
      rw [hz1] at A2
      exact ⟨0, Nat.zero_le _, rfl, A1, (hu3.below q1).below q2, A2, (fun h => by have h' : w3.heap.size = w2.heap.size := Option.some.inj h; omega), Apart.two (by omega), bnext C3 (bnext q1 q2)⟩
    case round =>
      obtain ⟨i, hi, rfl, hv, hu, ht, hd, hd2, hbr⟩ := hrel
      by_cases hlt : i < n
      · have x1 := Below.cellOf hbr rfl (I1.at0 i hlt)
        have J2 := I2.below hbr
        have HL := Lib.hid (onesL_len a b m i)
        have l1 : (i : Int) < n := by omega
        go_wp2_with fail
        go_loopw [39, 12] (fun k fd wq => ∃ j : Nat, j ≤ m ∧ k = .int .i64 j ∧ fd = .bool false ∧ Hid (firstB (meet b (usedA a b m i) (a i)) j = -1) ∧ wq = wr) (fun k _ _ => m - (intOf k).toNat)
        case atStart => exact ⟨0, Nat.zero_le _, rfl, rfl, rfl, rfl⟩
        case round =>
          obtain ⟨j, hj, rfl, rfl, hf, rfl⟩ := hrel
          by_cases hlj : j < m
          · have y1 := J2.at0 j hlj
            have y2 := hu.2.1 j hlj
            have y3 := hu.2.2 j
            have l2 : (j : Int) < m := by omega
            cases hx : meet b (usedA a b m i) (a i) j
            · have HF := Lib.hid (firstB_none hf.out hx)
              rcases first_no2 hx with h1 | ⟨h1, h2⟩
              · clear hx
                go_wp2
                go_roundw
                case rel => exact ⟨j + 1, by omega, by go_num, rfl, HF, trivial⟩
                case measure => simp [intOf]; omega
              · have h2' : usedA a b m i j = true := by simpa using h2
                rw [h2'] at y2
                clear hx h2 h2'
                go_wp2
                go_roundw
                case rel => exact ⟨j + 1, by omega, by go_num, rfl, HF, trivial⟩
                case measure => simp [intOf]; omega
            · have HM : Hid (metAt b (usedA a b m i) m (a i) = j) := firstB_found hlj hf.out hx
              obtain ⟨h1, h2⟩ := all_yes2 hx
              have h2' : usedA a b m i j = false := by simpa using h2
              rw [h2'] at y2
              clear hx h2 h2'
              go_wp2
              go_roundw
              have hO : Only w2.heap.size (w2.heap.size + 1) wr (wr.setCell ⟨w2.heap.size, j, none⟩ (.bool true)) := (Only.refl w2.heap.size (w2.heap.size + 1) wr).setCell (p := ⟨w2.heap.size, j, none⟩) (Nat.le_refl _) (Nat.lt_succ_self _) _
              case rel => exact ⟨i + 1, by omega, by go_num, by rw [ones_here HM.out]; exact hv.only hO (fun k hk => by have : k ≠ w2.heap.size := (fun e => hd.out (e ▸ hk)); omega), hu.set j hlj true (used_here HM.out) (fun k hk => used_other HM.out k hk), ht.only hO (fun k hk => by have h' : w3.heap.size + 1 = k := Option.some.inj hk; omega), hd, hd2, hbr.setCell C2.size _⟩
              case measure => simp [intOf]; omega
          · obtain rfl : j = m := by omega
            have HM : Hid (metAt b (usedA a b j i) j (a i) = -1) := hf.out
            go_wp2_with (first | (at_builtin; refine wpList_app3 _ rfl _ _ 29 rfl w.heap.size 2 Try.infoI Try.underlying29 _ _ rfl hv _ rfl (by have := HL.out; omega) hbr.size ?_; intro v' w5 hv5 b5 k5))
            have hu5 := k5.bools hu hd.out
            have ht5 := k5.own ht hd2.out
            go_roundw
            case rel => exact ⟨i + 1, by omega, by go_num, by rw [ones_none HM.out]; exact hv5, by rw [used_none HM.out]; exact hu5.1, ht5.1, hu5.2, ht5.2, hbr.trans b5⟩
            case measure => simp [intOf]; omega
      · obtain rfl : i = n := by omega
        have HL := Lib.hid (onesL_len a b m i)
        generalize onesL a b m i = L1 at *
        generalize usedA a b m i = U at *
        clear hi
        go_wp2_with fail
        go_loopw [67, 9] (fun q u wr => ∃ k : Nat, k ≤ m ∧ q = .int .i64 k ∧ Own 2 wr w.heap.size u (twosL U k) ∧ Bools wr w2.heap.size m U ∧ Own 2 wr w.heap.size u8 L1 ∧ Hid (u.ownBlock = some w2.heap.size → False) ∧ Hid (Apart u u8) ∧ Below w.heap.size w wr) (fun q _ _ => m - (intOf q).toNat)
        case atStart => exact ⟨0, Nat.zero_le _, rfl, ht, hu, hv, (fun h => by have h' : w3.heap.size + 1 = w2.heap.size := Option.some.inj h; omega), hd2.out.symm, hbr⟩
        case round =>
          obtain ⟨k, hk, rfl, hu', hB, hv', hd', hd2', hbr'⟩ := hrel
          by_cases hlk : k < m
          · have y2 := hB.2.1 k hlk
            have HL2 := Lib.hid (twosL_len U k)
            have l2 : (k : Int) < m := by omega
            cases hx : U k
            · rw [hx] at y2
              have HT : Hid (twosL U (k + 1) = twosL U k ++ [(k : Int)]) := by show twosL U (k + 1) = _; simp [twosL, hx]
              clear hx
              go_wp2_with (first | (at_builtin; refine wpList_app3 _ rfl _ _ 29 rfl w.heap.size 2 Try.infoI Try.underlying29 _ _ rfl hu' _ rfl (by have := HL2.out; omega) hbr'.size ?_; intro v' w5 hv5 b5 k5))
              have hu5 := k5.bools hB hd'.out
              have ht5 := k5.own hv' hd2'.out
              go_roundw
              case rel => exact ⟨k + 1, by omega, by go_num, by rw [HT.out]; exact hv5, hu5.1, ht5.1, hu5.2, ht5.2, hbr'.trans b5⟩
              case measure => simp [intOf]; omega
            · rw [hx] at y2
              have HT : Hid (twosL U (k + 1) = twosL U k) := by show twosL U (k + 1) = _; simp [twosL, hx]
              clear hx
              go_wp2
              go_roundw
              case rel => exact ⟨k + 1, by omega, by go_num, by rw [HT.out]; exact hu', hB, hv', hd', hd2', hbr'⟩
              case measure => simp [intOf]; omega
          · obtain rfl : k = m := by omega
            have HL2 := Lib.hid (twosL_len U k)
            go_wp2
            go_ret3
            exact ⟨_, _, rfl, hv', by have := HL.out; omega, hu', by have := HL2.out; omega, hd2'.out.symm, hbr'⟩
end Go.Proofs.Ytjpjcdkepconjaa
