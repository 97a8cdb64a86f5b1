/-
  impl.CustomsDue and spec.CustomsDue answer alike: every tariff and number. No condition.
-/
import Derived.Test.YtegfajmhblpcoaaValidTariffI
import Derived.Test.YtegfajmhblpcoaaAmount
import Derived.Test.YtegfajmhblpcoaaDueI
import Derived.Test.YtegfajmhblpcoaaDueS
namespace Go.Proofs.Ytegfajmhblpcoaa
open Go.RowKit
set_option linter.unusedVariables false

def custF (a b c v p r : Int) : Int := if (v == 0) && (p == 0) then 0 else max c (rnd (v * a) 10000 r + p * b)
def custOk (a b c v p r : Int) : Bool := ValidTariff_r0 a b c && isImportB v p r
def CustomsDue_r1 (a b c v p r : Int) : Bool := custOk a b c v p r && isAmount (custF a b c v p r)
def CustomsDue_r0 (a b c v p r : Int) : Int := if CustomsDue_r1 a b c v p r then custF a b c v p r else 0
theorem cust_no {a b c v p r : Int} (h : custOk a b c v p r = false) : CustomsDue_r0 a b c v p r = 0 ∧ CustomsDue_r1 a b c v p r = false := by
  have : CustomsDue_r1 a b c v p r = false := by simp only [CustomsDue_r1, h, Bool.false_and]
  exact ⟨by simp [CustomsDue_r0, this], this⟩
theorem cust_out {a b c v p r : Int} (h : custOk a b c v p r = true) : CustomsDue_r0 a b c v p r = amt (custF a b c v p r) ∧ CustomsDue_r1 a b c v p r = isAmount (custF a b c v p r) := by
  have : CustomsDue_r1 a b c v p r = isAmount (custF a b c v p r) := by simp only [CustomsDue_r1, h, Bool.true_and]
  exact ⟨by simp only [CustomsDue_r0, this, amt], this⟩
theorem cust_zero (a b c : Int) {v p : Int} (r : Int) (h1 : (v == 0) = true) (h2 : (p == 0) = true) : custF a b c v p r = 0 := by simp only [custF, h1, h2]; rfl
theorem cust_one (a b c : Int) {v p : Int} (r : Int) (h1 : (v == 0) = false) : custF a b c v p r = max c (rnd (v * a) 10000 r + p * b) := by simp only [custF, h1]; rfl
theorem cust_two (a b c : Int) {v p : Int} (r : Int) (h2 : (p == 0) = false) : custF a b c v p r = max c (rnd (v * a) 10000 r + p * b) := by simp only [custF, h2, Bool.and_false]; rfl
theorem cust_bd {a b c v p r : Int} (h : custOk a b c v p r = true) : (0 ≤ a ∧ a ≤ 10000) ∧ (0 ≤ b ∧ b ≤ 1000000) ∧ (0 ≤ c ∧ c ≤ 1000000) ∧ (0 ≤ v ∧ v ≤ 1000000000000) ∧ (0 ≤ p ∧ p ≤ 100000) ∧ (0 ≤ p * b ∧ p * b ≤ 100000000000) ∧ 0 ≤ rnd (v * a) 10000 r ∧ rnd (v * a) 10000 r ≤ v + 1 := by
  obtain ⟨h1, h2⟩ := all_yes2 h
  obtain ⟨t1, t2, t3⟩ := all_yes3 (show (isRate a && win b 0 1000000 && win c 0 1000000) = true from h1)
  obtain ⟨i1, i2, i3⟩ := all_yes3 (show (isAmount v && win p 0 100000 && isRound r) = true from h2)
  rw [win_iff] at t1 t2 t3 i1 i2
  have p1 : 0 ≤ p * b := Int.mul_nonneg i2.1 t2.1
  have p2 : p * b ≤ 100000 * 1000000 := Int.mul_le_mul i2.2 t2.2 t2.1 (by omega)
  exact ⟨t1, t2, t3, i1, i2, ⟨p1, by omega⟩, due_bd v a r i1.1 t1.1 t1.2⟩

set_option maxHeartbeats 800000 in
theorem customs_any (a b c v p r : Int) (w : World) (a0 : 0 ≤ a) (a1 : a ≤ 10000) (b0 : 0 ≤ b) (b1 : b ≤ 1000000) (c0 : 0 ≤ c) (c1 : c ≤ 1000000) (v0 : 0 ≤ v) (v1 : v ≤ 1000000000000) (p0 : 0 ≤ p) (p1 : p ≤ 100000)
    (m0 : 0 ≤ p * b) (m1 : p * b ≤ 100000000000) (d0 : 0 ≤ rnd (v * a) 10000 r) (d1 : rnd (v * a) 10000 r ≤ v + 1) :
    Calls Try.prog 70 #[.agg #[.int .i64 a, .int .i64 b, .int .i64 c], .int .i64 v, .int .i64 p, .int .i64 r] w (RetV w (.int .i64 (custF a b c v p r))) := by
  cases h1 : (v == 0)
  · have HE := Lib.hid (cust_one a b c r h1 (p := p))
    have e1 : IntKind.i64.wrap (p * b) = p * b := IntWalk.i64_in _ (by omega)
    have e2 : IntKind.i64.wrap (rnd (v * a) 10000 r + p * b) = rnd (v * a) 10000 r + p * b := IntWalk.i64_in _ (by omega)
    go_enter Try.func70, Try.ntmps70
    go_wp2
    go_quiet ((go_at_call 77; exact Calls.quiet_of (impl_dueBy v a r _ v0 (by omega) a0 a1)))
    clear e1 e2
    go_wp2
    all_goals (go_ret; exact ⟨ret_int (by rw [HE.out]; omega), Below.drewN' (by go_grown) _⟩)
  · cases h2 : (p == 0)
    · have HE := Lib.hid (cust_two a b c r h2 (v := v))
      have e1 : IntKind.i64.wrap (p * b) = p * b := IntWalk.i64_in _ (by omega)
      have e2 : IntKind.i64.wrap (rnd (v * a) 10000 r + p * b) = rnd (v * a) 10000 r + p * b := IntWalk.i64_in _ (by omega)
      go_enter Try.func70, Try.ntmps70
      go_wp2
      go_quiet ((go_at_call 77; exact Calls.quiet_of (impl_dueBy v a r _ v0 (by omega) a0 a1)))
      clear e1 e2
      go_wp2
      all_goals (go_ret; exact ⟨ret_int (by rw [HE.out]; omega), Below.drewN' (by go_grown) _⟩)
    · have HE := Lib.hid (cust_zero a b c r h1 h2)
      go_enter Try.func70, Try.ntmps70
      go_wp2
      go_ret
      exact ⟨ret_int HE.out.symm, by go_grown⟩

theorem CustomsDue_impl (a b c v p r : Int) (w : World) :
    Calls Try.prog 25 #[.agg #[.int .i64 a, .int .i64 b, .int .i64 c], .int .i64 v, .int .i64 p, .int .i64 r] w (RetV w (.tuple #[.int .i64 (CustomsDue_r0 a b c v p r), .bool (CustomsDue_r1 a b c v p r)])) := by
  have bA : Below w.heap.size w (w.alloc (.cells #[.int .i64 a, .int .i64 b, .int .i64 c] 36)) := by go_grown
  have K0 : (w.alloc (.cells #[.int .i64 a, .int .i64 b, .int .i64 c] 36)).cell? ⟨w.heap.size, 0, none⟩ = some (.int .i64 a) := by simp [go_sem]
  have K1 : (w.alloc (.cells #[.int .i64 a, .int .i64 b, .int .i64 c] 36)).cell? ⟨w.heap.size, 1, none⟩ = some (.int .i64 b) := by simp [go_sem]
  have K2 : (w.alloc (.cells #[.int .i64 a, .int .i64 b, .int .i64 c] 36)).cell? ⟨w.heap.size, 2, none⟩ = some (.int .i64 c) := by simp [go_sem]
  have HK0 := Lib.hid K0
  have HK1 := Lib.hid K1
  have HK2 := Lib.hid K2
  clear K0 K1 K2
  cases h : custOk a b c v p r
  · rw [(cust_no h).1, (cust_no h).2]
    rcases first_no2 h with h1 | ⟨h1, h2⟩
    all_goals
      clear h
      go_enter Try.func25, Try.ntmps25
      go_wp2_with (first | (go_at_call 69; refine (impl_isImport_any _ _ _ _).mono ?_; rintro e w' ⟨rfl, rfl⟩) | (go_at_call 68; refine (ValidTariff_impl _ _ _ _).mono ?_; rintro e w1 ⟨rfl, hb⟩))
      go_ret2
      exact ⟨rfl, bnext bA hb⟩
  · rw [(cust_out h).1, (cust_out h).2]
    obtain ⟨⟨a0, a1⟩, ⟨b0, b1⟩, ⟨c0, c1⟩, ⟨v0, v1⟩, ⟨p0, p1⟩, ⟨m0, m1⟩, d0, d1⟩ := cust_bd h
    obtain ⟨h1, h2⟩ := all_yes2 h
    clear h
    go_enter Try.func25, Try.ntmps25
    go_wp2_with (first | (go_at_call 69; refine (impl_isImport_any _ _ _ _).mono ?_; rintro e w' ⟨rfl, rfl⟩) | (go_at_call 68; refine (ValidTariff_impl _ _ _ _).mono ?_; rintro e w1 ⟨rfl, hb⟩; have k0 := Below.cellOf hb rfl HK0.out; have k1 := Below.cellOf hb rfl HK1.out; have k2 := Below.cellOf hb rfl HK2.out) | (go_at_call 70; refine (customs_any _ _ _ _ _ _ _ a0 a1 b0 b1 c0 c1 v0 v1 p0 p1 m0 m1 d0 d1).mono ?_; rintro e w2 ⟨rfl, hb2⟩) | (go_at_call 56; refine (amount_any _ _).mono ?_; rintro e w3 ⟨rfl, rfl⟩))
    go_ret2
    exact ⟨rfl, bnext (bnext bA hb) hb2⟩

theorem l04Tariff_any (a b c : Int) (g : Nat) (w : World) (k0 : w.cell? ⟨g, 0, none⟩ = some (.int .i64 a)) (k1 : w.cell? ⟨g, 1, none⟩ = some (.int .i64 b)) (k2 : w.cell? ⟨g, 2, none⟩ = some (.int .i64 c)) :
    Calls Try.prog 64 #[.pointer (some ⟨g, 0, none⟩)] w fun e w' => e = .returned (.bool (ValidTariff_r0 a b c)) ∧ w = w' := by
  go_enter Try.func64, Try.ntmps64
  go_wp2
  all_goals (go_ret; exact ⟨ret_bool (by simp_all [ValidTariff_r0, win]; try omega), rfl⟩)
theorem l00Max_any (a b : Int) (w : World) : Calls Try.prog 66 #[.int .i64 a, .int .i64 b] w fun e w' => e = .returned (.int .i64 (max a b)) ∧ w' = w := by
  go_enter Try.func66, Try.ntmps66
  go_wp2
  all_goals (go_ret; exact ⟨ret_int (by omega), rfl⟩)

set_option maxHeartbeats 1600000 in
theorem CustomsDue_spec (a b c v p r : Int) (w : World) :
    Calls Try.prog 23 #[.agg #[.int .i64 a, .int .i64 b, .int .i64 c], .int .i64 v, .int .i64 p, .int .i64 r] w (RetV w (.tuple #[.int .i64 (CustomsDue_r0 a b c v p r), .bool (CustomsDue_r1 a b c v p r)])) := by
  have bA : Below w.heap.size w (w.alloc (.cells #[.int .i64 a, .int .i64 b, .int .i64 c] 36)) := by go_grown
  have K0 : (w.alloc (.cells #[.int .i64 a, .int .i64 b, .int .i64 c] 36)).cell? ⟨w.heap.size, 0, none⟩ = some (.int .i64 a) := by simp [go_sem]
  have K1 : (w.alloc (.cells #[.int .i64 a, .int .i64 b, .int .i64 c] 36)).cell? ⟨w.heap.size, 1, none⟩ = some (.int .i64 b) := by simp [go_sem]
  have K2 : (w.alloc (.cells #[.int .i64 a, .int .i64 b, .int .i64 c] 36)).cell? ⟨w.heap.size, 2, none⟩ = some (.int .i64 c) := by simp [go_sem]
  cases h : custOk a b c v p r
  · rw [(cust_no h).1, (cust_no h).2]
    rcases first_no4 (show (ValidTariff_r0 a b c && isAmount v && win p 0 100000 && isRound r) = false by simpa only [custOk, isImportB, Bool.and_assoc] using h) with h1 | ⟨h1, h2 | ⟨h2, h3 | ⟨h3, h4⟩⟩⟩
    all_goals
      clear h
      go_enter Try.func23, Try.ntmps23
      go_wp2_with (first | (go_at_call 53; refine (spec_l02Cents_any _ _).mono ?_; rintro e w' ⟨rfl, rfl⟩) | (go_at_call 52; refine (spec_l00In_any _ _ _ _).mono ?_; rintro e w' ⟨rfl, rfl⟩) | (go_at_call 65; refine (spec_l02Way_any _ _).mono ?_; rintro e w' ⟨rfl, rfl⟩) | (go_at_call 64; refine (l04Tariff_any a b c _ _ K0 K1 K2).mono ?_; rintro e w1 ⟨rfl, rfl⟩))
      go_ret2
      exact ⟨rfl, bA⟩
  · rw [(cust_out h).1, (cust_out h).2]
    obtain ⟨⟨a0, a1⟩, ⟨b0, b1⟩, ⟨c0, c1⟩, ⟨v0, v1⟩, ⟨p0, p1⟩, ⟨m0, m1⟩, d0, d1⟩ := cust_bd h
    obtain ⟨h1, h2, h3, h4⟩ := all_yes4 (show (ValidTariff_r0 a b c && isAmount v && win p 0 100000 && isRound r) = true by simpa only [custOk, isImportB, Bool.and_assoc] using h)
    have main : ∀ X, custF a b c v p r = X → X = max c (rnd (v * a) 10000 r + p * b) → ((v == 0) = false ∨ (v == 0) = true ∧ (p == 0) = false) →
        Calls Try.prog 23 #[.agg #[.int .i64 a, .int .i64 b, .int .i64 c], .int .i64 v, .int .i64 p, .int .i64 r] w (RetV w (.tuple #[.int .i64 (amt X), .bool (isAmount X)])) := by
      intro X _ hX hz
      subst hX
      have e1 : IntKind.i64.wrap (p * b) = p * b := IntWalk.i64_in _ (by omega)
      have e2 : IntKind.i64.wrap (rnd (v * a) 10000 r + p * b) = rnd (v * a) 10000 r + p * b := IntWalk.i64_in _ (by omega)
      cases hx : isAmount (max c (rnd (v * a) 10000 r + p * b))
      all_goals
        have ha := amt_of hx
        have HA := Lib.hid ha
        clear ha h
        rcases hz with hz | ⟨hz, hz2⟩
        all_goals
          go_enter Try.func23, Try.ntmps23
          go_wp2_with (first | (go_at_call 53; refine (spec_l02Cents_any _ _).mono ?_; rintro e w' ⟨rfl, rfl⟩) | (go_at_call 52; refine (spec_l00In_any _ _ _ _).mono ?_; rintro e w' ⟨rfl, rfl⟩) | (go_at_call 65; refine (spec_l02Way_any _ _).mono ?_; rintro e w' ⟨rfl, rfl⟩) | (go_at_call 64; refine (l04Tariff_any a b c _ _ K0 K1 K2).mono ?_; rintro e w1 ⟨rfl, rfl⟩))
          go_quiet ((first | (go_at_call 67; exact Calls.quiet_of (spec_l04Due v a r _ v0 (by omega) a0 a1)) | (go_at_call 66; exact Calls.quiet_of_same (l00Max_any _ _ _))))
          go_wp2_with (first | (go_at_call 53; refine (spec_l02Cents_any _ _).mono ?_; rintro e w' ⟨rfl, rfl⟩))
          go_ret2
          exact ⟨ret_ib2 (by rw [HA.out]; rfl) rfl, Below.drewN' bA _⟩
    cases hz : (v == 0)
    · have e := cust_one a b c r hz (p := p)
      rw [e]
      exact main _ e rfl (.inl hz)
    · cases hz2 : (p == 0)
      · have e := cust_two a b c r hz2 (v := v)
        rw [e]
        exact main _ e rfl (.inr ⟨hz, hz2⟩)
      · rw [cust_zero a b c r hz hz2]
        clear h main
        have E0 : Hid (amt 0 = 0 ∧ isAmount 0 = true) := ⟨by decide, by decide⟩
        go_enter Try.func23, Try.ntmps23
        go_wp2_with (first | (go_at_call 53; refine (spec_l02Cents_any _ _).mono ?_; rintro e w' ⟨rfl, rfl⟩) | (go_at_call 52; refine (spec_l00In_any _ _ _ _).mono ?_; rintro e w' ⟨rfl, rfl⟩) | (go_at_call 65; refine (spec_l02Way_any _ _).mono ?_; rintro e w' ⟨rfl, rfl⟩) | (go_at_call 64; refine (l04Tariff_any a b c _ _ K0 K1 K2).mono ?_; rintro e w1 ⟨rfl, rfl⟩))
        go_ret2
        exact ⟨ret_ib2 E0.out.1.symm E0.out.2.symm, bA⟩
end Go.Proofs.Ytegfajmhblpcoaa
