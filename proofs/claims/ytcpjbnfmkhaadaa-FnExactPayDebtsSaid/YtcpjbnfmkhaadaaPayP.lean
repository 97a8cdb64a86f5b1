/-
  How debts are paid: plain law, and the reference's comparison of two debts. Conditions as the laws say.
-/
import Derived.Test.YtcpjbnfmkhaadaaPayC
import Derived.Test.YtcpjbnfmkhaadaaPartP
import Derived.Test.YtcpjbnfmkhaadaaSharesP
import Derived.Test.YtcpjbnfmkhaadaaDebtsC
import Derived.Test.YtcpjbnfmkhaadaaSortFPd
namespace Go.Proofs.Ytcpjbnfmkhaadaa
open Go.RowKit
set_option linter.unusedVariables false

def pyL (f : Nat → Int) (i : Nat) : Int := f (i * 3 + 2)
def pyR (f : Nat → Int) (k : Int) (i : Nat) : Int := 1000000 - pdK f k i
def pyA (f : Nat → Int) (k : Int) (n j : Nat) : Nat := gB (gR (pyR f k) n j) n
def pyC (f : Nat → Int) (k c : Int) (n : Nat) : Nat → Int
  | 0 => c
  | j + 1 => pyC f k c n j - min (pyC f k c n j) (pyL f (pyA f k n j))
def pyO (f : Nat → Int) (k c : Int) (n : Nat) : Nat → Nat → Int
  | 0, _ => 0
  | j + 1, i => if i = pyA f k n j then min (pyC f k c n j) (pyL f i) else pyO f k c n j i
def payOk (f : Nat → Int) (n : Nat) (c k : Int) : Bool := debtsOk f n && win c 0 1000000000000 && win k 0 2
def payL (f : Nat → Int) (n : Nat) (c k : Int) : List Int := if payOk f n c k then (if k = 2 then (if sumTo (pyL f) n ≤ c then tab (pyL f) n else tab (ptO c (pyL f) n) n) else tab (pyO f k c n n) n) else []
def payV (f : Nat → Int) (n : Nat) (c k : Int) : Int := if payOk f n c k then (if k = 2 then (if sumTo (pyL f) n ≤ c then c - sumTo (pyL f) n else 0) else pyC f k c n n) else 0
section
variable {f : Nat → Int} {n : Nat} {c k : Int}
theorem pay_no (h : payOk f n c k = false) : payL f n c k = [] ∧ payV f n c k = 0 := by simp [payL, payV, h]
theorem pay_2a (h : payOk f n c 2 = true) (h2 : sumTo (pyL f) n ≤ c) : payL f n c 2 = tab (pyL f) n ∧ payV f n c 2 = c - sumTo (pyL f) n := by simp [payL, payV, h, h2]
theorem pay_2b (h : payOk f n c 2 = true) (h2 : ¬ sumTo (pyL f) n ≤ c) : payL f n c 2 = tab (ptO c (pyL f) n) n ∧ payV f n c 2 = 0 := by simp [payL, payV, h, h2]
theorem pay_1 (h : payOk f n c k = true) (h2 : ¬ k = 2) : payL f n c k = tab (pyO f k c n n) n ∧ payV f n c k = pyC f k c n n := by simp [payL, payV, h, h2]
structure PayF (f : Nat → Int) (n : Nat) (c k : Int) : Prop where
  n1 : 1 ≤ n
  n2 : n ≤ 24
  day : ∀ i, i < n → 0 ≤ f (i * 3) ∧ f (i * 3) ≤ 36524
  rank : ∀ i, i < n → 0 ≤ f (i * 3 + 1) ∧ f (i * 3 + 1) ≤ 9
  cents : ∀ i, i < n → 0 ≤ pyL f i ∧ pyL f i ≤ 1000000000
  c0 : 0 ≤ c
  c1 : c ≤ 1000000000000
  k0 : 0 ≤ k
  k1 : k ≤ 2
theorem pay_is (h : payOk f n c k = true) : PayF f n c k := by
  obtain ⟨h1, h3, h4⟩ := all_yes3 h
  obtain ⟨h5, h6⟩ := all_yes2 h1
  obtain ⟨a, b⟩ := win_iff.1 h3
  obtain ⟨d, e⟩ := win_iff.1 h4
  obtain ⟨p, q⟩ := win_iff.1 h6
  have hd := allB_iff.1 h5
  refine ⟨by omega, by omega, fun i hi => ?_, fun i hi => ?_, fun i hi => ?_, a, b, d, e⟩
  · obtain ⟨x, _, _⟩ := all_yes3 (hd i hi); exact win_iff.1 x
  · obtain ⟨_, x, _⟩ := all_yes3 (hd i hi); exact win_iff.1 x
  · obtain ⟨_, _, x⟩ := all_yes3 (hd i hi); exact win_iff.1 x
theorem PayF.key (h : PayF f n c k) {i : Nat} (hi : i < n) : 0 ≤ pdK f k i ∧ pdK f k i ≤ 936524 := by
  have a := h.day i hi
  have b := h.rank i hi
  unfold pdK
  split <;> omega
theorem PayF.r (h : PayF f n c k) : ∀ i, i < n → 0 ≤ pyR f k i := fun i hi => by have := h.key hi; unfold pyR; omega
theorem pyA_lt (hn : 0 < n) (j : Nat) : pyA f k n j < n := gB_lt _ n hn
theorem PayF.left (h : PayF f n c k) : ∀ j, 0 ≤ pyC f k c n j ∧ pyC f k c n j ≤ 1000000000000 := by
  intro j
  induction j with
  | zero => exact ⟨h.c0, h.c1⟩
  | succ j ih =>
    have a := h.cents _ (pyA_lt (f := f) (k := k) (n := n) h.n1 j)
    show 0 ≤ pyC f k c n j - min (pyC f k c n j) (pyL f (pyA f k n j)) ∧ pyC f k c n j - min (pyC f k c n j) (pyL f (pyA f k n j)) ≤ 1000000000000
    omega
theorem pyO_next (j : Nat) : pyO f k c n (j + 1) (pyA f k n j) = min (pyC f k c n j) (pyL f (pyA f k n j)) := if_pos rfl
theorem pyO_other (j : Nat) {i : Nat} (h : i ≠ pyA f k n j) : pyO f k c n j i = pyO f k c n (j + 1) i := (if_neg h).symm
theorem pyC_next (j : Nat) : pyC f k c n (j + 1) = pyC f k c n j - min (pyC f k c n j) (pyL f (pyA f k n j)) := rfl
theorem py_sum (h : PayF f n c k) : ∀ j, j ≤ n → 0 ≤ sumTo (pyL f) j ∧ sumTo (pyL f) j ≤ 24000000000 := fun j hj => by
  have a := sumTo_bd h.cents (by omega) (by omega) j hj
  have b := sumTo_nonneg (fun i hi => (h.cents i hi).1) j hj
  have := h.n2
  omega
/-- The reference's choice, step by step. -/
theorem py_t {R : Nat → Int} {i : Nat} (h : R i < 0) : sB R (i + 1) = sB R i := by simp only [sB]; rw [if_neg (by omega)]
theorem py_n {R : Nat → Int} {i : Nat} (h : 0 ≤ R i) (h2 : sB R i < 0) : sB R (i + 1) = i := by simp only [sB]; rw [if_pos ⟨h, .inl h2⟩]
theorem py_y {R : Nat → Int} {i b : Nat} (h : 0 ≤ R i) (h2 : sB R i = b) (h3 : R b < R i) : sB R (i + 1) = i := by
  simp only [sB]
  rw [if_pos ⟨h, .inr (by rw [h2, Int.toNat_natCast]; exact h3)⟩]
theorem py_z {R : Nat → Int} {i b : Nat} (h2 : sB R i = b) (h3 : ¬ R b < R i) : sB R (i + 1) = b := by
  simp only [sB]
  rw [if_neg (by rw [h2, Int.toNat_natCast]; omega), h2]
theorem sB_lt {R : Nat → Int} {i b : Nat} (h : sB R i = b) : b < i ∧ 0 ≤ R b := by
  rcases sB_is R i with ⟨h1, _⟩ | ⟨b', h1, h2, h3⟩
  · omega
  · obtain rfl : b = b' := by omega
    exact ⟨h2.1, h3⟩
theorem gR_val {r : Nat → Int} {n j i : Nat} (h : 0 ≤ gR r n j i) : gR r n j i = r i := by
  rcases gR_cases r n j i with e | e
  · exact e
  · omega
theorem py_cmp {i b j : Nat} (h1 : 0 ≤ gR (pyR f k) n j i) (h2 : 0 ≤ gR (pyR f k) n j b) : gR (pyR f k) n j b < gR (pyR f k) n j i ↔ pdK f k i < pdK f k b := by
  rw [gR_val h1, gR_val h2]
  unfold pyR
  omega
theorem gR_next (r : Nat → Int) (n j : Nat) : gR r n (j + 1) = upd (gR r n j) (gB (gR r n j) n) (-1) := rfl
end

theorem pd_cmp {f : Nat → Int} {n : Nat} {c k : Int} (hF : PayF f n c k) (g cp pL pK gd : Nat) (w : World) (k1 : w.cell? ⟨pL, 0, none⟩ = some (.slice (some ⟨g, 0, none⟩) n cp)) (k2 : w.cell? ⟨pK, 0, none⟩ = some (.int .i64 k)) (hc : ∀ i, i < n * 3 → w.cell? ⟨g, i, none⟩ = some (.int .i64 (f i))) (d1 : pL ≠ gd) (d2 : pK ≠ gd) (d3 : g ≠ gd) :
    Cmp_pd w gd n (pkey (pyR f k)) (.pointer (some ⟨pL, 0, none⟩)) (.pointer (some ⟨pK, 0, none⟩)) := by
  intro w' hk x y hx hy
  obtain ⟨i, rfl⟩ := Int.eq_ofNat_of_zero_le hx.1
  obtain ⟨j, rfl⟩ := Int.eq_ofNat_of_zero_le hy.1
  have e1 : ((i : Nat) : Int).toNat = i := by omega
  have e2 : ((j : Nat) : Int).toNat = j := by omega
  have hn := hF.n2
  have K1 := hk.cellOf d1 k1
  have K2 := hk.cellOf d2 k2
  have HC : ∀ i, i < n * 3 → w'.cell? ⟨g, i, none⟩ = some (.int .i64 (f i)) := fun i hi => hk.cellOf d3 (hc i hi)
  have fin : ∀ {e : Ending} {w'' : World}, (∃ q : Int, e = .returned (.int .i64 q) ∧ decide (q < 0) = decide (pdK f k i < pdK f k j) ∧ Below w'.heap.size w' w'') → ∃ r : Int, e = .returned (.int .i64 r) ∧ decide (r < 0) = decide (pkey (pyR f k) ((i : Nat) : Int) < pkey (pyR f k) ((j : Nat) : Int)) ∧ Below w'.heap.size w' w'' := by
    rintro e w'' ⟨q, he, hd, hb⟩
    refine ⟨q, he, ?_, hb⟩
    rw [hd]
    unfold pkey pyR
    rw [e1, e2]
    exact decide_eq_decide.2 (by omega)
  by_cases h1 : k = 1
  · subst h1
    exact (pd_at1 n g cp pL pK f w' (by omega) hF.day K1 K2 HC i j (by omega) (by omega)).mono fun _ _ h => fin h
  · exact (pd_at0 n g cp pL pK k f w' (by omega) h1 K1 K2 HC i j (by omega) (by omega)).mono fun _ _ h => fin h

set_option maxHeartbeats 1600000 in
theorem before_any (g : Nat) (k : Int) (f : Nat → Int) (i j : Nat) (w : World) (x1 : w.cell? ⟨g, i * 3, none⟩ = some (.int .i64 (f (i * 3)))) (x2 : w.cell? ⟨g, j * 3, none⟩ = some (.int .i64 (f (j * 3)))) (x3 : w.cell? ⟨g, i * 3 + 1, none⟩ = some (.int .i64 (f (i * 3 + 1)))) (x4 : w.cell? ⟨g, j * 3 + 1, none⟩ = some (.int .i64 (f (j * 3 + 1))))
    (h1 : 0 ≤ f (i * 3) ∧ f (i * 3) ≤ 36524) (h2 : 0 ≤ f (j * 3) ∧ f (j * 3) ≤ 36524) :
    Calls Try.prog 24 #[.pointer (some ⟨g, i * 3, none⟩), .pointer (some ⟨g, j * 3, none⟩), .int .i64 k] w fun e w' => e = .returned (.bool (decide (pdK f k i < pdK f k j))) ∧ ∃ m, w' = w.drewN m := by
  by_cases hk : k = 1
  · subst hk
    have HK : Hid (∀ a b : Nat, pdK f 1 a = f (a * 3 + 1) * 100000 + f (a * 3)) := fun a b => if_pos rfl
    have HD : Hid (pdK f 1 i < pdK f 1 j ↔ (f (i * 3 + 1) < f (j * 3 + 1) ∨ (f (i * 3 + 1) = f (j * 3 + 1) ∧ f (i * 3) < f (j * 3)))) := by
      show _ ↔ _
      rw [HK.out i 0, HK.out j 0]
      omega
    clear h1 h2
    by_cases he : f (i * 3 + 1) = f (j * 3 + 1)
    · have HR : Hid (decide (pdK f 1 i < pdK f 1 j) = decide (f (i * 3) < f (j * 3))) := decide_eq_decide.2 (by have := HD.out; omega)
      rw [HR.out]
      have hb : (f (i * 3 + 1) != f (j * 3 + 1)) = false := by simp [he]
      rw [he] at x3
      generalize f (i * 3) = X at *
      generalize f (j * 3) = Y at *
      generalize f (j * 3 + 1) = T at *
      clear HD HR HK he hb
      go_enter Try.func24, Try.ntmps24
      go_wp2_with fail
      go_quiet (fail)
      go_wp2_with fail
      go_quiet (fail)
      go_wp2
      go_ret
      exact ⟨rfl, _, by simp; rfl⟩
    · have HR : Hid (decide (pdK f 1 i < pdK f 1 j) = decide (f (i * 3 + 1) < f (j * 3 + 1))) := decide_eq_decide.2 (by have := HD.out; omega)
      rw [HR.out]
      generalize f (i * 3 + 1) = R at *
      generalize f (j * 3 + 1) = T at *
      clear HD HR HK
      go_enter Try.func24, Try.ntmps24
      go_wp2_with fail
      go_quiet (fail)
      go_wp2_with fail
      go_quiet (fail)
      go_wp2
      go_ret
      exact ⟨rfl, _, by simp; rfl⟩
  · have HR : Hid (decide (pdK f k i < pdK f k j) = decide (f (i * 3) < f (j * 3))) := decide_eq_decide.2 (by unfold pdK; rw [if_neg hk, if_neg hk])
    rw [HR.out]
    have hb : (k == 1) = false := by simp [hk]
    generalize f (i * 3) = X at *
    generalize f (j * 3) = Y at *
    clear HR
    go_enter Try.func24, Try.ntmps24
    go_wp2_with fail
    go_quiet (fail)
    go_wp2_with fail
    go_quiet (fail)
    go_wp2
    go_ret
    exact ⟨rfl, _, by simp; rfl⟩
end Go.Proofs.Ytcpjbnfmkhaadaa
