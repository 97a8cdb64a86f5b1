/-
  impl.SettleAccounts answers as the plain law tells. Condition: fewer than 1000000000 integers.
-/
import Derived.Test.YtjopeidmfgkhnaaSlicesI
import Derived.Test.YtjopeidmfgkhnaaWithin
import Derived.Test.YtjopeidmfgkhnaaTotal
import Derived.Deep.LoopGhost
namespace Go.Proofs.Ytjopeidmfgkhnaa
open Go.RowKit
set_option linter.unusedVariables false

theorem stl_sums {f : Nat → Int} {n : Nat} (h : cntB f n 1 12 (-1000000000) 1000000000 = true) : ∀ k, k ≤ n → -9000000000000000000 ≤ sumTo f k ∧ sumTo f k ≤ 9000000000000000000 := fun k hk => by
  obtain ⟨⟨a, b⟩, c⟩ := cntB_iff.1 h
  have := sumTo_bd c (by omega) (by omega) k hk
  omega

set_option maxHeartbeats 3200000 in
set_option maxRecDepth 100000 in
theorem stl_impl (n g c : Nat) (f : Nat → Int) (w : World) (hn : n < 1000000000) (hI : Ints w g 0 n f) :
    Calls Try.prog 33 #[.slice (some ⟨g, 0, none⟩) n c] w (RetL1 2 w (stlL f n) (stlOk f n)) := by
  cases h : stlOk f n
  · rw [stl_no h]
    rcases first_no2 h with h1 | ⟨h1, h2⟩
    · clear h
      go_enter Try.func33, Try.ntmps33
      go_wp2_with (first | (go_at_call 54; refine (hasCount_any n g 0 c f _ _ _ _ _ hn hI).mono ?_; rintro e w1 ⟨rfl, hb⟩))
      go_ret2
      exact RetL1.no _ hb
    · have HS : Hid (∀ k, k ≤ n → -9000000000000000000 ≤ sumTo f k ∧ sumTo f k ≤ 9000000000000000000) := stl_sums h1
      have h3 : (sumTo f n == 0) = false := by
        have : sumTo f n ≠ 0 := of_decide_eq_false h2
        simpa using this
      have h4 : (sumTo f n != 0) = true := by simp [bne, h3]
      clear h h2
      go_enter Try.func33, Try.ntmps33
      go_wp2_with (first | (go_at_call 54; refine (hasCount_any n g 0 c f _ _ _ _ _ hn hI).mono ?_; rintro e w1 ⟨rfl, hb⟩) | (go_at_call 64; refine (total_any n g 0 c f _ hn (hI.below hb) HS).mono ?_; rintro e w2 ⟨rfl, rfl⟩))
      go_ret2
      exact RetL1.no _ hb
  · rw [stl_yes h]
    obtain ⟨n0, n12, hS⟩ := stl_is h
    obtain ⟨h1, h2⟩ := all_yes2 h
    have HS : Hid (∀ k, k ≤ n → -9000000000000000000 ≤ sumTo f k ∧ sumTo f k ≤ 9000000000000000000) := stl_sums h1
    have h3 : (sumTo f n == 0) = true := by
      have : sumTo f n = 0 := of_decide_eq_true h2
      simpa using this
    have h4 : (sumTo f n != 0) = false := by simp [bne, h3]
    have HSE := Lib.hid hS
    clear h h2 hS
    go_enter Try.func33, Try.ntmps33
    go_wp2_with (first | (go_at_call 54; refine (hasCount_any n g 0 c f _ _ _ _ _ hn hI).mono ?_; rintro e w1 ⟨rfl, hb⟩) | (go_at_call 64; refine (total_any n g 0 c f _ hn (hI.below hb) HS).mono ?_; rintro e w2 ⟨rfl, rfl⟩))
    clear h1 h3 h4 HS
    refine (slices_Clone n g c f _ hn (hI.below hb)).mono ?_
    rintro e w2 ⟨gl, cl, rfl, hO, b2⟩
    have C2 := bnext hb b2
    have HO := Lib.hid (hO.mono hb.size)
    clear hO
    go_wp2_with fail
    go_loopg [5] (n + 1) (fun G v wr => ∃ (b : Nat → Int) (out : List Int), SetIs b n G ∧ Hid (setOut n G b out = setOut n (n + 1) f []) ∧ out.length + 3 * G ≤ 3 * (n + 1) ∧ Own 2 wr w.heap.size (.slice (some ⟨gl, 0, none⟩) n cl) (tab b n) ∧ Own 2 wr w.heap.size v out ∧ Hid (v.ownBlock = some gl → False) ∧ Below w.heap.size w wr)
    case atStart =>
      have q1 : Below w2.heap.size w2 (w2.alloc (.cells #[] 2)) := by go_grown
      exact ⟨f, [], HSE.out, rfl, by simp, HO.out.below q1, (Own.made 2 w2 (B := w2.heap.size) (Nat.le_refl _)).mono C2.size, (fun h => by have h' : w2.heap.size = gl := Option.some.inj h; have := HO.out.lt0; omega), bnext C2 q1⟩
    case round =>
      obtain ⟨b, out, hs, ho, hln, hl, hv, hd, hbr⟩ := hrel
      have x0 : 0 < gk := by have := hs.z; omega
      obtain ⟨G', rfl⟩ : ∃ G', gk = G' + 1 := ⟨gk - 1, by omega⟩
      have l1 := (amn_lt b n).2 n0
      have l2 := (amx_lt b n).2 n0
      have I1 : Ints wr gl 0 n b := fun i hi => by rw [Nat.zero_add]; exact hl.cellTab i hi
      have r1 := hs.r _ l1
      have r2 := hs.r _ l2
      have FL : Hid (∀ j, j < amn b n → b j ≠ b (amn b n)) := fun j hj => by have := amn_first b n j hj; omega
      have FH : Hid (∀ j, j < amx b n → b j ≠ b (amx b n)) := fun j hj => by have := amx_first b n j hj; omega
      have f1 := hl.freeAt (amn b n)
      have f2 := hl.freeAt (amx b n)
      have d1 := I1.at0 _ l1
      have d2 := I1.at0 _ l2
      have HC1 := Lib.hid (slices_Min n gl cl b wr n0 hn I1)
      have HC2 := Lib.hid (slices_Max n gl cl b wr n0 hn I1)
      have HI := Lib.hid I1
      clear I1
      by_cases h0 : b (amx b n) = 0
      · have h1 := set_end hs n0 h0
        have hE : Hid (setOut n (G' + 1) b out = out) := if_pos h0
        have h5 : (b (amn b n) == b (amx b n)) = true := by rw [h0, h1]; rfl
        clear h0 h1 d1 d2 f1 f2
        go_wp2_with fail
        refine HC1.out.mono ?_
        rintro e w7 ⟨rfl, rfl⟩
        go_wp2_with fail
        refine HC2.out.mono ?_
        rintro e w7 ⟨rfl, rfl⟩
        go_wp2_with fail
        go_ret2
        rw [← ho.out, hE.out]
        exact ⟨u5, rfl, hv, by omega, hbr⟩
      · obtain ⟨m1, m2, m3⟩ := set_more hs n0 h0
        have hN := Lib.hid (set_next hs n0 h0)
        have hE : Hid (setOut n (G' + 1) b out = setOut n G' (setB b n) (out ++ [((amn b n : Nat) : Int), ((amx b n : Nat) : Int), setX b n])) := if_neg h0
        have h5 : (b (amn b n) == b (amx b n)) = false := by simp; omega
        obtain ⟨X, hX⟩ : ∃ X, setX b n = X := ⟨_, rfl⟩
        have e1 : min (-(b (amn b n))) (b (amx b n)) = X := hX
        have e2 : (if b (amx b n) < -(b (amn b n)) then b (amx b n) else -(b (amn b n))) = X := by rw [← e1]; split <;> omega
        have hB : setB b n = upd (upd b (amn b n) (b (amn b n) + X)) (amx b n) (b (amx b n) - X) := by rw [← hX]; rfl
        have x1 : 0 ≤ X ∧ X ≤ 1000000000 := by omega
        rw [hX] at hE
        have HB := Lib.hid hB
        have HV : Hid (∀ u1 u2, Own 2 ((wr.setCell ⟨gl, amn b n, none⟩ u1).setCell ⟨gl, amx b n, none⟩ u2) w.heap.size u5 out) := fun u1 u2 => (hv.keepV ⟨gl, amn b n, none⟩ hd.out u1).keepV ⟨gl, amx b n, none⟩ hd.out u2
        have HL := Lib.hid hl
        clear hB hX h0 hs hl hv
        generalize hLL : amn b n = L at *
        generalize hHH : amx b n = H at *
        clear hLL hHH
        have m4 : H ≠ L := Ne.symm m3
        have HCL := Lib.hid (slices_Index n gl cl L b (b L) wr hn HI.out l1 rfl FL)
        have HCH := Lib.hid (slices_Index n gl cl H b (b H) wr hn HI.out l2 rfl FH)
        go_wp2_with fail
        refine HC1.out.mono ?_
        rintro e w7 ⟨rfl, rfl⟩
        go_wp2_with fail
        refine HC2.out.mono ?_
        rintro e w7 ⟨rfl, rfl⟩
        go_wp2_with fail
        refine HCL.out.mono ?_
        rintro e w7 ⟨rfl, rfl⟩
        go_wp2_with fail
        refine HCH.out.mono ?_
        rintro e w7 ⟨rfl, rfl⟩
        go_wp2_with (first | (at_builtin; refine wpList_app33 _ rfl _ _ 29 rfl w.heap.size 2 Try.infoI Try.underlying29 _ _ rfl (HV.out _ _) _ _ _ (by show Value.slice (some ⟨wr.heap.size, 0, none⟩) 3 3 = _; simp) (by omega) (by simpa using hbr.size) ?_; intro v7 w7 hv7 hb7 k7))
        have hL1 := HL.out.tabSet (upd b L (b L + X)) L l1 (b L + X) (upd_at _ _ _) (fun j _ hj => (upd_ne _ _ hj).symm)
        have hL2 := hL1.tabSet (setB b n) H l2 (b H - X) (by rw [HB.out, upd_at]) (fun j _ hj => by rw [HB.out, upd_ne _ _ hj])
        have ap : Apart u5 (.slice (some ⟨gl, 0, none⟩) n cl) := fun k h1 h2 => hd.out (by cases h2; exact h1)
        obtain ⟨hL3, ap3⟩ := k7.own hL2 ap
        go_roundg G'
        case measure => omega
        case rel => exact ⟨setB b n, _, hN.out, hE.out.symm.trans ho.out, by simp; omega, hL3, hv7, (fun h => ap3 gl h rfl), ((hbr.setCell HL.out.lt0.1 _).setCell HL.out.lt0.1 _).trans hb7⟩
end Go.Proofs.Ytjopeidmfgkhnaa
