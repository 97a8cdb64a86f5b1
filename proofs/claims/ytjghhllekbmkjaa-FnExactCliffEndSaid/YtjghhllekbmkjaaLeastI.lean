/-
  impl.least over the two closures that ask whether a scale's net is at least a number. Conditions: the scale is valid, the number from which it begins is from 0 to 1000000000001.
-/
import Derived.Test.YtjghhllekbmkjaaLeastP
import Derived.Test.YtjghhllekbmkjaaScaleD
import Derived.Test.YtjghhllekbmkjaaScaleW
import Derived.Deep.RegionHeld3
namespace Go.Proofs.Ytjghhllekbmkjaa
open Go.RowKit
set_option linter.unusedVariables false

set_option maxHeartbeats 1600000 in
theorem ge_gross (c r t : Int) (B1 B2 B3 : Nat) (gb cb gr cr nb nr : Nat) (fb fr : Nat → Int) (w : World) (k0 : w.cell? ⟨B1, 0, none⟩ = some (.slice (some ⟨gb, 0, none⟩) nb cb)) (k1 : w.cell? ⟨B1, 1, none⟩ = some (.slice (some ⟨gr, 0, none⟩) nr cr)) (k2 : w.cell? ⟨B2, 0, none⟩ = some (.int .i64 r)) (k3 : w.cell? ⟨B3, 0, none⟩ = some (.int .i64 t)) (mb : nb < 1000000000) (mr : nr < 1000000000) (Ib : Ints w gb 0 nb fb) (Ir : Ints w gr 0 nr fr)
    (hs : ScaleIs fb nb fr nr) (c0 : 0 ≤ c) (c1 : c ≤ 1000000000000) :
    Calls Try.prog 78 #[.int .i64 c, .pointer (some ⟨B1, 0, none⟩), .pointer (some ⟨B2, 0, none⟩), .pointer (some ⟨B3, 0, none⟩)] w (RetV w (.bool (geB fb fr nb r t c))) := by
  have HS := Lib.hid hs
  have HG : Hid (geB fb fr nb r t c = decide (t ≤ netF fb fr nb c r)) := rfl
  have bw : Below w.heap.size w w := Below.refl _ _
  clear hs
  go_enter Try.func78, Try.ntmps78
  go_wp2_with fail
  go_region_held3 (fun w' => w'.cell? ⟨B1, 0, none⟩ = some (.slice (some ⟨gb, 0, none⟩) nb cb) ∧ w'.cell? ⟨B1, 1, none⟩ = some (.slice (some ⟨gr, 0, none⟩) nr cr) ∧ w'.cell? ⟨B2, 0, none⟩ = some (.int .i64 r) ∧ w'.cell? ⟨B3, 0, none⟩ = some (.int .i64 t) ∧ Ints w' gb 0 nb fb ∧ Ints w' gr 0 nr fr ∧ Below w.heap.size w w')
    (first | (exact ⟨Below.cellOf ((Below.refl _ _).drew) rfl k0, Below.cellOf ((Below.refl _ _).drew) rfl k1, Below.cellOf ((Below.refl _ _).drew) rfl k2, Below.cellOf ((Below.refl _ _).drew) rfl k3, Ib.below ((Below.refl _ _).drew), Ir.below ((Below.refl _ _).drew), bw.drew⟩) | (go_split_ands; refine ⟨Below.cellOf hb3 rfl (by assumption), Below.cellOf hb3 rfl (by assumption), Below.cellOf hb3 rfl (by assumption), Below.cellOf hb3 rfl (by assumption), Ints.below (by assumption) hb3, Ints.below (by assumption) hb3, bnext (by assumption) hb3⟩))
    ((first | (go_at_call 67; refine (net_impl gb cb gr cr nb nr fb fr _ _ _ mb mr (by assumption) (by assumption) HS.out (by omega) (by omega)).mono ?_; rintro e w3 ⟨rfl, hb3⟩)))
  go_wp2
  go_ret
  rename_i hH
  exact ⟨ret_bool HG.out.symm, hH.2.2.2.2.2.2⟩

set_option maxHeartbeats 1600000 in
theorem least_gross (a : Int) (p : Int → Bool) (caps : Array Value) (w : World) (a0 : 0 ≤ a) (a1 : a ≤ 1000000000001)
    (HC : Hid (∀ w' : World, Below w.heap.size w w' → ∀ c : Int, 0 ≤ c → c ≤ 1000000000000 → Calls Try.prog 78 (#[.int .i64 c] ++ caps) w' (RetV w' (.bool (p c))))) :
    Calls Try.prog 72 #[.int .i64 a, .func (.func 78) #[] caps] w (RetV w (.tuple #[.int .i64 (ls0 p a), .bool (ls1 p a)])) := by
  by_cases h1 : ¬ a ≤ 1000000000000
  · have HF : Hid (ls1 p a = false) := by show _ = _; simp only [ls1, decide_eq_false h1, Bool.false_and]
    have HF0 := Lib.hid (ls_no HF.out)
    go_enter Try.func72, Try.ntmps72
    go_wp2
    go_ret2
    exact ⟨ret_ib2 HF0.out.symm HF.out.symm, Below.refl _ _⟩
  have h1 := Classical.not_not.1 h1
  cases h2 : p 1000000000000
  · have HF : Hid (ls1 p a = false) := by show _ = _; simp only [ls1, h2, Bool.and_false]
    have HF0 := Lib.hid (ls_no HF.out)
    go_enter Try.func72, Try.ntmps72
    go_wp2_with fail
    refine (HC.out _ (Below.refl _ _) _ (by omega) (by omega)).mono ?_
    rintro e w1 ⟨rfl, hb⟩
    go_wp2
    go_ret2
    exact ⟨ret_ib2 HF0.out.symm HF.out.symm, hb⟩
  · have HF : Hid (ls1 p a = true) := by show _ = _; simp only [ls1, decide_eq_true h1, h2, Bool.and_true]
    have HF0 := Lib.hid (ls_yes HF.out)
    go_enter Try.func72, Try.ntmps72
    go_wp2_with fail
    refine (HC.out _ (Below.refl _ _) _ (by omega) (by omega)).mono ?_
    rintro e w1 ⟨rfl, hb⟩
    go_wp2_with fail
    go_loopw [6, 7] (fun lo hi wr => ∃ l h : Int, 0 ≤ l ∧ l ≤ h ∧ h ≤ 1000000000000 ∧ lo = .int .i64 l ∧ hi = .int .i64 h ∧ Hid (bs p a 1000000000000 = bs p l h) ∧ Below w.heap.size w wr) (fun lo hi _ => (intOf hi - intOf lo).toNat)
    case atStart => exact ⟨a, _, a0, h1, Int.le_refl _, rfl, rfl, rfl, hb⟩
    case round =>
      obtain ⟨l, h, l0, lh, h9, rfl, rfl, hbs, hbr⟩ := hrel
      by_cases hlt : l < h
      · have hm : l + h ≤ 2000000000000 := by omega
        cases hp : p ((l + h) / 2)
        · have HB := Lib.hid (bs_high hlt hp)
          go_wp2_with fail
          refine (HC.out _ hbr _ (by omega) (by omega)).mono ?_
          rintro e w2 ⟨rfl, hb2⟩
          go_wp2
          go_roundw
          case rel => exact ⟨(l + h) / 2 + 1, h, by omega, by omega, by omega, rfl, rfl, by show _ = _; rw [hbs.out, HB.out], bnext hbr hb2⟩
          case measure => simp [intOf]; omega
        · have HB := Lib.hid (bs_low hlt hp)
          go_wp2_with fail
          refine (HC.out _ hbr _ (by omega) (by omega)).mono ?_
          rintro e w2 ⟨rfl, hb2⟩
          go_wp2
          go_roundw
          case rel => exact ⟨l, (l + h) / 2, by omega, by omega, by omega, rfl, rfl, by show _ = _; rw [hbs.out, HB.out], bnext hbr hb2⟩
          case measure => simp [intOf]; omega
      · have HB := Lib.hid (bs_end (p := p) hlt)
        go_wp2
        go_ret2
        exact ⟨ret_ib2 (by rw [HF0.out, hbs.out, HB.out]) HF.out.symm, hbr⟩

set_option maxHeartbeats 1600000 in
theorem ge_cliff (c r t : Int) (B1 B2 B3 : Nat) (gb cb gr cr nb nr : Nat) (fb fr : Nat → Int) (w : World) (k0 : w.cell? ⟨B1, 0, none⟩ = some (.slice (some ⟨gb, 0, none⟩) nb cb)) (k1 : w.cell? ⟨B1, 1, none⟩ = some (.slice (some ⟨gr, 0, none⟩) nr cr)) (k2 : w.cell? ⟨B2, 0, none⟩ = some (.int .i64 r)) (k3 : w.cell? ⟨B3, 0, none⟩ = some (.int .i64 t)) (mb : nb < 1000000000) (mr : nr < 1000000000) (Ib : Ints w gb 0 nb fb) (Ir : Ints w gr 0 nr fr)
    (hs : ScaleIs fb nb fr nr) (c0 : 0 ≤ c) (c1 : c ≤ 1000000000000) :
    Calls Try.prog 73 #[.int .i64 c, .pointer (some ⟨B1, 0, none⟩), .pointer (some ⟨B2, 0, none⟩), .pointer (some ⟨B3, 0, none⟩)] w (RetV w (.bool (geB fb fr nb r t c))) := by
  have HS := Lib.hid hs
  have HG : Hid (geB fb fr nb r t c = decide (t ≤ netF fb fr nb c r)) := rfl
  have bw : Below w.heap.size w w := Below.refl _ _
  clear hs
  go_enter Try.func73, Try.ntmps73
  go_wp2_with fail
  go_region_held3 (fun w' => w'.cell? ⟨B1, 0, none⟩ = some (.slice (some ⟨gb, 0, none⟩) nb cb) ∧ w'.cell? ⟨B1, 1, none⟩ = some (.slice (some ⟨gr, 0, none⟩) nr cr) ∧ w'.cell? ⟨B2, 0, none⟩ = some (.int .i64 r) ∧ w'.cell? ⟨B3, 0, none⟩ = some (.int .i64 t) ∧ Ints w' gb 0 nb fb ∧ Ints w' gr 0 nr fr ∧ Below w.heap.size w w')
    (first | (exact ⟨Below.cellOf ((Below.refl _ _).drew) rfl k0, Below.cellOf ((Below.refl _ _).drew) rfl k1, Below.cellOf ((Below.refl _ _).drew) rfl k2, Below.cellOf ((Below.refl _ _).drew) rfl k3, Ib.below ((Below.refl _ _).drew), Ir.below ((Below.refl _ _).drew), bw.drew⟩) | (go_split_ands; refine ⟨Below.cellOf hb3 rfl (by assumption), Below.cellOf hb3 rfl (by assumption), Below.cellOf hb3 rfl (by assumption), Below.cellOf hb3 rfl (by assumption), Ints.below (by assumption) hb3, Ints.below (by assumption) hb3, bnext (by assumption) hb3⟩))
    ((first | (go_at_call 67; refine (net_impl gb cb gr cr nb nr fb fr _ _ _ mb mr (by assumption) (by assumption) HS.out (by omega) (by omega)).mono ?_; rintro e w3 ⟨rfl, hb3⟩)))
  go_wp2
  go_ret
  rename_i hH
  exact ⟨ret_bool HG.out.symm, hH.2.2.2.2.2.2⟩

set_option maxHeartbeats 1600000 in
theorem least_cliff (a : Int) (p : Int → Bool) (caps : Array Value) (w : World) (a0 : 0 ≤ a) (a1 : a ≤ 1000000000001)
    (HC : Hid (∀ w' : World, Below w.heap.size w w' → ∀ c : Int, 0 ≤ c → c ≤ 1000000000000 → Calls Try.prog 73 (#[.int .i64 c] ++ caps) w' (RetV w' (.bool (p c))))) :
    Calls Try.prog 72 #[.int .i64 a, .func (.func 73) #[] caps] w (RetV w (.tuple #[.int .i64 (ls0 p a), .bool (ls1 p a)])) := by
  by_cases h1 : ¬ a ≤ 1000000000000
  · have HF : Hid (ls1 p a = false) := by show _ = _; simp only [ls1, decide_eq_false h1, Bool.false_and]
    have HF0 := Lib.hid (ls_no HF.out)
    go_enter Try.func72, Try.ntmps72
    go_wp2
    go_ret2
    exact ⟨ret_ib2 HF0.out.symm HF.out.symm, Below.refl _ _⟩
  have h1 := Classical.not_not.1 h1
  cases h2 : p 1000000000000
  · have HF : Hid (ls1 p a = false) := by show _ = _; simp only [ls1, h2, Bool.and_false]
    have HF0 := Lib.hid (ls_no HF.out)
    go_enter Try.func72, Try.ntmps72
    go_wp2_with fail
    refine (HC.out _ (Below.refl _ _) _ (by omega) (by omega)).mono ?_
    rintro e w1 ⟨rfl, hb⟩
    go_wp2
    go_ret2
    exact ⟨ret_ib2 HF0.out.symm HF.out.symm, hb⟩
  · have HF : Hid (ls1 p a = true) := by show _ = _; simp only [ls1, decide_eq_true h1, h2, Bool.and_true]
    have HF0 := Lib.hid (ls_yes HF.out)
    go_enter Try.func72, Try.ntmps72
    go_wp2_with fail
    refine (HC.out _ (Below.refl _ _) _ (by omega) (by omega)).mono ?_
    rintro e w1 ⟨rfl, hb⟩
    go_wp2_with fail
    go_loopw [6, 7] (fun lo hi wr => ∃ l h : Int, 0 ≤ l ∧ l ≤ h ∧ h ≤ 1000000000000 ∧ lo = .int .i64 l ∧ hi = .int .i64 h ∧ Hid (bs p a 1000000000000 = bs p l h) ∧ Below w.heap.size w wr) (fun lo hi _ => (intOf hi - intOf lo).toNat)
    case atStart => exact ⟨a, _, a0, h1, Int.le_refl _, rfl, rfl, rfl, hb⟩
    case round =>
      obtain ⟨l, h, l0, lh, h9, rfl, rfl, hbs, hbr⟩ := hrel
      by_cases hlt : l < h
      · have hm : l + h ≤ 2000000000000 := by omega
        cases hp : p ((l + h) / 2)
        · have HB := Lib.hid (bs_high hlt hp)
          go_wp2_with fail
          refine (HC.out _ hbr _ (by omega) (by omega)).mono ?_
          rintro e w2 ⟨rfl, hb2⟩
          go_wp2
          go_roundw
          case rel => exact ⟨(l + h) / 2 + 1, h, by omega, by omega, by omega, rfl, rfl, by show _ = _; rw [hbs.out, HB.out], bnext hbr hb2⟩
          case measure => simp [intOf]; omega
        · have HB := Lib.hid (bs_low hlt hp)
          go_wp2_with fail
          refine (HC.out _ hbr _ (by omega) (by omega)).mono ?_
          rintro e w2 ⟨rfl, hb2⟩
          go_wp2
          go_roundw
          case rel => exact ⟨l, (l + h) / 2, by omega, by omega, by omega, rfl, rfl, by show _ = _; rw [hbs.out, HB.out], bnext hbr hb2⟩
          case measure => simp [intOf]; omega
      · have HB := Lib.hid (bs_end (p := p) hlt)
        go_wp2
        go_ret2
        exact ⟨ret_ib2 (by rw [HF0.out, hbs.out, HB.out]) HF.out.symm, hbr⟩
end Go.Proofs.Ytjghhllekbmkjaa
