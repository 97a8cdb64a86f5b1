/-
  impl.loan and impl.isPaid give a loan's interests and rests, and whether it is paid. Conditions: the sums are from 0 to 1000000000, the rate from 0 to 100000, the count from 0 (1) to 120.
-/
import Derived.Test.YtiblnnianaaddaaLoanP
import Derived.Test.YtiblnnianaaddaaTwo
import Derived.Test.YtiblnnianaaddaaSmall
namespace Go.Proofs.Ytiblnnianaaddaa
open Go.RowKit
set_option linter.unusedVariables false

theorem near_own (x a : Int) (w : World) (h0 : 0 ≤ x) (h1 : x ≤ 1000000000000) (h2 : 0 ≤ a) (h3 : a ≤ 100000) :
    Calls Try.prog 53 #[.int .i64 (x * a), .int .i64 10000] w fun e w' => e = .returned (.int .i64 (ownI x a)) ∧ ∃ n, w' = w.drewN n := by
  obtain ⟨p0, p1⟩ := own_prod h0 h1 h2 h3
  have := impl_nearest (x * a) 10000 w (by omega) (by omega) (by omega) (by omega)
  rwa [ownI_nrst p0] at this

set_option maxHeartbeats 1600000 in
theorem impl_loan (c a p : Int) (n : Nat) (w : World) (c0 : 0 ≤ c) (c1 : c ≤ 1000000000) (a0 : 0 ≤ a) (a1 : a ≤ 100000) (p0 : 0 ≤ p) (p1 : p ≤ 1000000000) (hn : n ≤ 120) :
    Calls Try.prog 58 #[.int .i64 c, .int .i64 a, .int .i64 p, .int .i64 n] w
      (RetL2 2 w (if loanOk c a p n then tab (intN c a p) n else []) (if loanOk c a p n then tab (restS c a p) n else []) (loanOk c a p n)) := by
  generalize hX : (if loanOk c a p n then tab (intN c a p) n else []) = X
  generalize hY : (if loanOk c a p n then tab (restS c a p) n else []) = Y
  have HX := Lib.hid hX
  have HY := Lib.hid hY
  clear hX hY
  have HB : Hid (∀ k, loanOk c a p k = true → 0 ≤ restN c a p k ∧ restN c a p k ≤ 1000000000000) := fun k h => restN_bd c0 (by omega) h
  go_enter Try.func58, Try.ntmps58
  go_wp2
  go_loopw [17, 0, 11, 12] (fun i t v u wr => ∃ k : Nat, k ≤ n ∧ i = .int .i64 k ∧ t = .int .i64 (restN c a p k) ∧ Own 2 wr w.heap.size v (tab (intN c a p) k) ∧ Own 2 wr w.heap.size u (tab (restS c a p) k) ∧ Hid (Apart v u) ∧ Below w.heap.size w wr ∧ Hid (loanOk c a p k = true)) (fun i _ _ _ _ => n + 1 - (intOf i).toNat)
  case atStart =>
    have hz1 : (w.alloc (.cells #[] 2)).heap.size = w.heap.size + 1 := by simp
    have A1 := (Own.made 2 w (Nat.le_refl _)).below ((Below.refl _ (w.alloc (.cells #[] 2))).alloc (Nat.le_refl _) (.cells #[] 2))
    have A2 := Own.made 2 (w.alloc (.cells #[] 2)) (B := w.heap.size) (by omega)
    rw [hz1] at A2
    exact ⟨0, Nat.zero_le _, rfl, rfl, A1, A2, Apart.two (by omega), ((Below.refl _ _).alloc (Nat.le_refl _) _).alloc (by omega) _, rfl⟩
  case round =>
    obtain ⟨k, hk, rfl, rfl, hv, hu, hd, hbr, hok⟩ := hrel
    by_cases hlt : k < n
    · obtain ⟨r0, r1⟩ := HB.out k hok.out
      obtain ⟨o0, o1⟩ := ownI_bd r0 r1 a0 a1
      obtain ⟨q0, q1⟩ := own_prod r0 r1 a0 a1
      have HE : Hid (restN c a p (k + 1) = max (restN c a p k + ownI (restN c a p k) a - p) 0) := rfl
      have HM : Hid ((if restN c a p k + ownI (restN c a p k) a - p < 0 then 0 else restN c a p k + ownI (restN c a p k) a - p) = restN c a p (k + 1)) := by
        show _ = _
        rw [HE.out]
        split <;> omega
      have HL1 := Lib.hid (tab_length (intN c a p) k)
      have HL2 := Lib.hid (tab_length (restS c a p) k)
      by_cases hbig : 1000000000000 < max (restN c a p k + ownI (restN c a p k) a - p) 0
      · have HF : Hid (loanOk c a p n = false) := loanOk_false k hlt (by rw [HE.out]; exact hbig)
        go_wp2_with (first | (go_at_call 53; refine (near_own _ _ _ (by omega) (by omega) (by omega) (by omega)).mono ?_; rintro e w3 ⟨rfl, m, rfl⟩))
        go_ret3
        have eX : X = [] := by rw [← HX.out, HF.out]; rfl
        have eY : Y = [] := by rw [← HY.out, HF.out]; rfl
        rw [eX, eY, HF.out]
        exact RetL2.no _ (Below.drewN' hbr _)
      · have HF := Lib.hid (loanOk_succ hok.out (by rw [HE.out]; omega))
        go_wp2_with (first | (go_at_call 53; refine (near_own _ _ _ (by omega) (by omega) (by omega) (by omega)).mono ?_; rintro e w3 ⟨rfl, m, hw3⟩; have hb3 : Below wr.heap.size wr w3 := (by rw [hw3]; exact Below.drewN' (Below.refl _ _) m); clear hw3; have hv3 := hv.below hb3; have hu3 := hu.below hb3) | (at_builtin; refine wpList_app2 _ rfl _ _ 28 rfl w.heap.size 2 Try.infoI Try.underlying28 _ _ rfl hv3 _ rfl (by have := HL1.out; omega) (Nat.le_trans hbr.size hb3.size) ?_; intro v' w4 hv4 hb4 hs4) | (at_builtin; refine wpList_app2 _ rfl _ _ 28 rfl w.heap.size 2 Try.infoI Try.underlying28 _ _ rfl (hs4 _ _ _ hu3 hd.out).1 _ rfl (by have := HL2.out; omega) (Nat.le_trans (Nat.le_trans hbr.size hb3.size) hb4.size) ?_; intro u' w5 hu5 hb5 hs5))
        have hd4 := (hs4 _ _ _ hu3 hd.out).2
        obtain ⟨hv5, hd5⟩ := hs5 _ _ _ hv4 hd4.symm
        go_roundw
        case rel => exact ⟨k + 1, by omega, by go_num, by rw [HM.out], hv5, by rw [HM.out] at hu5; exact hu5, hd5.symm, ((hbr.trans (hb3.mono hbr.size)).trans hb4).trans hb5, HF⟩
        case measure => simp [intOf]; omega
    · obtain rfl : k = n := by omega
      have HL1 := Lib.hid (tab_length (intN c a p) k)
      have HL2 := Lib.hid (tab_length (restS c a p) k)
      go_wp2
      go_ret3
      have eX : X = tab (intN c a p) k := by rw [← HX.out, hok.out]; rfl
      have eY : Y = tab (restS c a p) k := by rw [← HY.out, hok.out]; rfl
      rw [eX, eY, hok.out]
      exact ⟨_, _, rfl, hv, by rw [HL1.out]; omega, hu, by rw [HL2.out]; omega, hd, hbr⟩

theorem loan_yes {c a p : Int} {n : Nat} (h : loanOk c a p n = true) {w : World} {e : Ending} {w' : World} (hp : RetL2 2 w (if loanOk c a p n then tab (intN c a p) n else []) (if loanOk c a p n then tab (restS c a p) n else []) (loanOk c a p n) e w') : RetL2 2 w (tab (intN c a p) n) (tab (restS c a p) n) true e w' := by
  rw [h] at hp; exact hp
theorem loan_no {c a p : Int} {n : Nat} (h : loanOk c a p n = false) {w : World} {e : Ending} {w' : World} (hp : RetL2 2 w (if loanOk c a p n then tab (intN c a p) n else []) (if loanOk c a p n then tab (restS c a p) n else []) (loanOk c a p n) e w') : RetL2 2 w [] [] false e w' := by
  rw [h] at hp; exact hp

set_option maxHeartbeats 1600000 in
theorem isPaid_any (c a p : Int) (n : Nat) (w : World) (c0 : 0 ≤ c) (c1 : c ≤ 1000000000) (a0 : 0 ≤ a) (a1 : a ≤ 100000) (p0 : 0 ≤ p) (p1 : p ≤ 1000000000) (hn0 : 1 ≤ n) (hn : n ≤ 120) :
    Calls Try.prog 57 #[.int .i64 c, .int .i64 a, .int .i64 p, .int .i64 n] w (RetV w (.bool (paidB c a p n))) := by
  obtain ⟨m, rfl⟩ : ∃ m, n = m + 1 := ⟨n - 1, by omega⟩
  cases h : loanOk c a p (m + 1)
  · have HF : Hid (paidB c a p (m + 1) = false) := by show (loanOk c a p (m + 1) && _) = false; rw [h]; rfl
    have H := Lib.hid h
    clear h
    go_enter Try.func57, Try.ntmps57
    go_wp2_with fail
    refine (impl_loan c a p (m + 1) _ c0 c1 a0 a1 p0 p1 hn).mono ?_
    intro e w1 hp
    obtain ⟨v, u, rfl, hv, hlv, hu, hlu, hd, hb⟩ := loan_no H.out hp
    go_wp2
    go_ret
    exact ⟨ret_bool HF.out.symm, hb⟩
  · have HF : Hid (paidB c a p (m + 1) = decide (restN c a p (m + 1) = 0)) := by show (loanOk c a p (m + 1) && _) = _; rw [h]; rfl
    have H := Lib.hid h
    clear h
    go_enter Try.func57, Try.ntmps57
    go_wp2_with fail
    refine (impl_loan c a p (m + 1) _ c0 c1 a0 a1 p0 p1 hn).mono ?_
    intro e w1 hp
    obtain ⟨v, u, rfl, hv, hlv, hu, hlu, hd, hb⟩ := loan_yes H.out hp
    obtain ⟨ad, cap, rfl, hne⟩ := hu.shape
    obtain ⟨g, rfl, _, _, _, _, hI, _⟩ := hne (by intro e; rw [← List.length_eq_zero_iff, tab_length] at e; omega)
    rw [tab_length] at hI
    have hc := hI.at0 m (by omega)
    rw [tab_get _ _ _ (by omega)] at hc
    have hL := tab_length (restS c a p) (m + 1)
    rw [hL]
    have e0 : restS c a p m = restN c a p (m + 1) := rfl
    rw [e0] at hc
    clear hI hne hu hv hlu hlv e0 hd hL
    cases hz : (restN c a p (m + 1) == 0)
    · have HZ : Hid (decide (restN c a p (m + 1) = 0) = false) := by show decide _ = _; simpa using hz
      go_wp2
      go_ret
      exact ⟨ret_bool (by rw [HF.out, HZ.out]), hb⟩
    · have HZ : Hid (decide (restN c a p (m + 1) = 0) = true) := by show decide _ = _; simpa using hz
      go_wp2
      go_ret
      exact ⟨ret_bool (by rw [HF.out, HZ.out]), hb⟩
end Go.Proofs.Ytiblnnianaaddaa
