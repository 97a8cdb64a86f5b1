/-
  impl.LoanTable and spec.LoanTable answer alike: every number. No condition.
-/
import Derived.Test.YtiblnnianaaddaaLoanI
import Derived.Test.YtiblnnianaaddaaLoanS
namespace Go.Proofs.Ytiblnnianaaddaa
open Go.RowKit
set_option linter.unusedVariables false

def tableOk (c a p n : Int) : Bool := isLoanB c a p && win n 1 120
def LoanTable_r2 (c a p n : Int) : Bool := tableOk c a p n && loanOk c a p n.toNat
def LoanTable_r0 (c a p n : Int) : List Int := if LoanTable_r2 c a p n then tab (intN c a p) n.toNat else []
def LoanTable_r1 (c a p n : Int) : List Int := if LoanTable_r2 c a p n then tab (restS c a p) n.toNat else []
theorem tab_no {c a p n : Int} (h : LoanTable_r2 c a p n = false) : LoanTable_r0 c a p n = [] ∧ LoanTable_r1 c a p n = [] := by simp [LoanTable_r0, LoanTable_r1, h]
theorem tab_yes {c a p n : Int} (h : LoanTable_r2 c a p n = true) : LoanTable_r0 c a p n = tab (intN c a p) n.toNat ∧ LoanTable_r1 c a p n = tab (restS c a p) n.toNat := by simp [LoanTable_r0, LoanTable_r1, h]
theorem table_no {c a p n : Int} (h : tableOk c a p n = false) : LoanTable_r2 c a p n = false := by simp only [LoanTable_r2, h, Bool.false_and]

set_option maxHeartbeats 800000 in
theorem LoanTable_impl (c a p n : Int) (w : World) :
    Calls Try.prog 23 #[.int .i64 c, .int .i64 a, .int .i64 p, .int .i64 n] w (RetL2 2 w (LoanTable_r0 c a p n) (LoanTable_r1 c a p n) (LoanTable_r2 c a p n)) := by
  cases h : tableOk c a p n
  · rw [(tab_no (table_no h)).1, (tab_no (table_no h)).2, table_no h]
    have h' : (isLoanB c a p && win n 1 120) = false := h
    clear h
    go_enter Try.func23, Try.ntmps23
    go_wp2_with (first | (go_at_call 56; refine (impl_isLoan_any _ _ _ _ _).mono ?_; rintro e w' ⟨rfl, rfl⟩))
    go_ret3
    exact RetL2.no _ (Below.refl _ _)
  · obtain ⟨h1, h2⟩ := all_yes2 h
    obtain ⟨⟨c0, c1⟩, ⟨a0, a1⟩, p0, p1⟩ := isLoanB_iff.1 h1
    obtain ⟨n0, n1⟩ := win_iff.1 h2
    obtain ⟨k, rfl⟩ : ∃ k : Nat, n = k := ⟨n.toNat, by omega⟩
    have h' : (isLoanB c a p && win k 1 120) = true := h
    have HE : Hid (LoanTable_r2 c a p k = loanOk c a p k) := by show (tableOk c a p k && _) = _; rw [h]; rfl
    clear h h1 h2
    have main : ∀ X Y b, LoanTable_r0 c a p k = X → LoanTable_r1 c a p k = Y → LoanTable_r2 c a p k = b → Calls Try.prog 23 #[.int .i64 c, .int .i64 a, .int .i64 p, .int .i64 k] w (RetL2 2 w X Y b) := by
      intro X Y b hX hY hb
      have HX := Lib.hid hX
      have HY := Lib.hid hY
      have HB := Lib.hid hb
      clear hX hY hb
      go_enter Try.func23, Try.ntmps23
      go_wp2_with (first | (go_at_call 56; refine (impl_isLoan_any _ _ _ _ _).mono ?_; rintro e w' ⟨rfl, rfl⟩))
      refine (impl_loan c a p k _ c0 c1 a0 a1 p0 p1 (by omega)).mono ?_
      intro e w1 hp
      cases hl : loanOk c a p k
      · obtain ⟨v, u, rfl, hv, hlv, hu, hlu, hd, hb⟩ := loan_no hl hp
        go_wp2
        go_ret3
        rw [← HX.out, ← HY.out, ← HB.out, HE.out, hl, (tab_no (HE.out.trans hl)).1, (tab_no (HE.out.trans hl)).2]
        exact ⟨_, _, rfl, hv, hlv, hu, hlu, hd, hb⟩
      · obtain ⟨v, u, rfl, hv, hlv, hu, hlu, hd, hb⟩ := loan_yes hl hp
        go_wp2
        go_ret3
        rw [← HX.out, ← HY.out, ← HB.out, HE.out, hl, (tab_yes (HE.out.trans hl)).1, (tab_yes (HE.out.trans hl)).2]
        exact ⟨_, _, rfl, hv, hlv, hu, hlu, hd, hb⟩
    exact main _ _ _ rfl rfl rfl

set_option maxHeartbeats 1600000 in
theorem LoanTable_spec (c a p n : Int) (w : World) :
    Calls Try.prog 31 #[.int .i64 c, .int .i64 a, .int .i64 p, .int .i64 n] w (RetL2 2 w (LoanTable_r0 c a p n) (LoanTable_r1 c a p n) (LoanTable_r2 c a p n)) := by
  cases h : tableOk c a p n
  · rw [(tab_no (table_no h)).1, (tab_no (table_no h)).2, table_no h]
    rcases first_no2 h with h1 | ⟨h1, h2⟩
    all_goals
      clear h
      go_enter Try.func31, Try.ntmps31
      go_wp2_with (first | (go_at_call 65; refine (spec_l03Loan_any _ _ _ _).mono ?_; rintro e w' ⟨rfl, rfl⟩) | (go_at_call 42; refine (spec_l00In_any _ _ _ _).mono ?_; rintro e w' ⟨rfl, rfl⟩))
      go_ret3
      exact RetL2.no _ (Below.refl _ _)
  · obtain ⟨h1, h2⟩ := all_yes2 h
    obtain ⟨⟨c0, c1⟩, ⟨a0, a1⟩, p0, p1⟩ := isLoanB_iff.1 h1
    obtain ⟨n0, n1⟩ := win_iff.1 h2
    obtain ⟨m, rfl⟩ : ∃ k : Nat, n = k := ⟨n.toNat, by omega⟩
    have HE : Hid (LoanTable_r2 c a p m = loanOk c a p m) := by show (tableOk c a p m && _) = _; rw [h]; rfl
    have HB : Hid (∀ k, loanOk c a p k = true → 0 ≤ restN c a p k ∧ restN c a p k ≤ 1000000000000) := fun k h => restN_bd c0 (by omega) h
    clear h
    have main : ∀ X Y b, LoanTable_r0 c a p m = X → LoanTable_r1 c a p m = Y → LoanTable_r2 c a p m = b → Calls Try.prog 31 #[.int .i64 c, .int .i64 a, .int .i64 p, .int .i64 m] w (RetL2 2 w X Y b) := by
      intro X Y b hX hY hb
      have HX := Lib.hid hX
      have HY := Lib.hid hY
      have Hb := Lib.hid hb
      clear hX hY hb
      go_enter Try.func31, Try.ntmps31
      go_wp2_with (first | (go_at_call 65; refine (spec_l03Loan_any _ _ _ _).mono ?_; rintro e w' ⟨rfl, rfl⟩) | (go_at_call 42; refine (spec_l00In_any _ _ _ _).mono ?_; rintro e w' ⟨rfl, rfl⟩))
      go_loopw [3, 0, 11, 12] (fun i t v u wr => ∃ k : Nat, k ≤ m ∧ i = .int .i64 ((m : Int) - k) ∧ t = .int .i64 (restN c a p k) ∧ Own 2 wr w.heap.size v (tab (intN c a p) k) ∧ Own 2 wr w.heap.size u (tab (restS c a p) k) ∧ Hid (Apart v u) ∧ Below w.heap.size w wr ∧ Hid (loanOk c a p k = true)) (fun i _ _ _ _ => (intOf i).toNat)
      case atStart =>
        have hz1 : (w.alloc (.cells #[] 2)).heap.size = w.heap.size + 1 := by simp
        have A1 := (Own.made 2 w (Nat.le_refl _)).below ((Below.refl _ (w.alloc (.cells #[] 2))).alloc (Nat.le_refl _) (.cells #[] 2))
        have A2 := Own.made 2 (w.alloc (.cells #[] 2)) (B := w.heap.size) (by omega)
        rw [hz1] at A2
        exact ⟨0, Nat.zero_le _, by go_num, rfl, A1, A2, Apart.two (by omega), ((Below.refl _ _).alloc (Nat.le_refl _) _).alloc (by omega) _, rfl⟩
      case round =>
        obtain ⟨k, hk, rfl, rfl, hv, hu, hd, hbr, hok⟩ := hrel
        by_cases hlt : k < m
        · obtain ⟨r0, r1⟩ := HB.out k hok.out
          have HL1 := Lib.hid (tab_length (intN c a p) k)
          have HL2 := Lib.hid (tab_length (restS c a p) k)
          by_cases hbig : 1000000000000 < restN c a p (k + 1)
          · have HF : Hid (LoanTable_r2 c a p m = false) := by show LoanTable_r2 c a p m = false; rw [HE.out]; exact loanOk_false k hlt hbig
            go_wp2_with (first | (go_at_call 66; refine (spec_l03Term c a p k _ r0 r1 a0 a1 p0 p1).mono ?_; rintro e w3 ⟨rfl, rfl⟩))
            go_ret3
            rw [← HX.out, ← HY.out, ← Hb.out, HF.out, (tab_no HF.out).1, (tab_no HF.out).2]
            exact RetL2.no _ hbr
          · have HF := Lib.hid (loanOk_succ hok.out (by omega : restN c a p (k + 1) ≤ 1000000000000))
            go_wp2_with (first | (go_at_call 66; refine (spec_l03Term c a p k _ r0 r1 a0 a1 p0 p1).mono ?_; rintro e w3 ⟨rfl, rfl⟩) | (at_builtin; refine wpList_app2 _ rfl _ _ 28 rfl w.heap.size 2 Try.infoI Try.underlying28 _ _ rfl hv _ rfl (by have := HL1.out; omega) (hbr.size) ?_; intro v' w4 hv4 hb4 hs4) | (at_builtin; refine wpList_app2 _ rfl _ _ 28 rfl w.heap.size 2 Try.infoI Try.underlying28 _ _ rfl (hs4 _ _ _ hu hd.out).1 _ rfl (by have := HL2.out; omega) (Nat.le_trans hbr.size hb4.size) ?_; intro u' w5 hu5 hb5 hs5))
            have hd4 := (hs4 _ _ _ hu hd.out).2
            obtain ⟨hv5, hd5⟩ := hs5 _ _ _ hv4 hd4.symm
            go_roundw
            case rel => exact ⟨k + 1, by omega, by go_num, rfl, hv5, hu5, hd5.symm, (hbr.trans hb4).trans hb5, HF⟩
            case measure => simp [intOf]; omega
        · obtain rfl : k = m := by omega
          have HL1 := Lib.hid (tab_length (intN c a p) k)
          have HL2 := Lib.hid (tab_length (restS c a p) k)
          have HF : Hid (LoanTable_r2 c a p k = true) := HE.out.trans hok.out
          go_wp2
          go_ret3
          rw [← HX.out, ← HY.out, ← Hb.out, HF.out, (tab_yes HF.out).1, (tab_yes HF.out).2]
          exact ⟨_, _, rfl, hv, by rw [Int.toNat_natCast, HL1.out]; omega, hu, by rw [Int.toNat_natCast, HL2.out]; omega, hd, hbr⟩
    exact main _ _ _ rfl rfl rfl
end Go.Proofs.Ytiblnnianaaddaa
