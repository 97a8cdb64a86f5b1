/-
  Bits of small numbers: whether one's are among another's. No program in sight. No condition.
-/
import Derived.Test.YtjpjcdkepconjaaAllW
import Derived.Test.YtjpjcdkepconjaaRec
import Derived.Laws.BitsLemmas
namespace Go.Proofs.Ytjpjcdkepconjaa
open Go.RowKit
set_option linter.unusedVariables false

def subB (x y : Int) : Bool := bits BinOp.and IntKind.i64 x y == x
theorem bv_sub (A B : BitVec 64) : (A &&& ~~~B = 0#64) ↔ (A &&& B = A) := by
  constructor
  · intro h
    apply BitVec.eq_of_getLsbD_eq
    intro i hi
    have := congrArg (fun x => x.getLsbD i) h
    simp only [BitVec.getLsbD_and, BitVec.getLsbD_not, BitVec.getLsbD_zero, hi, decide_true, Bool.true_and] at this ⊢
    revert this
    cases A.getLsbD i <;> cases B.getLsbD i <;> simp
  · intro h
    apply BitVec.eq_of_getLsbD_eq
    intro i hi
    have := congrArg (fun x => x.getLsbD i) h
    simp only [BitVec.getLsbD_and, BitVec.getLsbD_not, BitVec.getLsbD_zero, hi, decide_true, Bool.true_and] at this ⊢
    revert this
    cases A.getLsbD i <;> cases B.getLsbD i <;> simp
theorem wrap63 (n : Int) (h0 : 0 ≤ n) (h1 : n < 2 ^ 63) : IntKind.i64.wrap n = n := by
  have e : (2 : Int) ^ 63 = 9223372036854775808 := by decide
  rw [e] at h1
  rw [IntKind.wrap_i64]
  omega
theorem sub_is {x y : Int} (x0 : 0 ≤ x) (x1 : x ≤ 255) (y0 : 0 ≤ y) (y1 : y ≤ 255) : ((bits BinOp.andNot IntKind.i64 x y != 0) = !(subB x y)) ∧ (subB x y = true → x ≤ y) := by
  obtain ⟨a, rfl⟩ : ∃ a : Nat, x = a := ⟨x.toNat, by omega⟩
  obtain ⟨b, rfl⟩ : ∃ b : Nat, y = b := ⟨y.toNat, by omega⟩
  have e63 : (2 : Nat) ^ 63 = 9223372036854775808 := by decide
  have h1 := (bits_nat .i64 63 (by decide) wrap63 a b (by rw [e63]; omega) (by rw [e63]; omega)).1
  have hs : subB (a : Int) (b : Int) = decide (a &&& b = a) := by
    unfold subB
    rw [h1, Bool.eq_iff_iff]
    simp only [beq_iff_eq, decide_eq_true_eq]
    omega
  have ha : (BitVec.ofInt 64 (a : Int)).toNat = a := by
    rw [BitVec.ofInt_natCast, BitVec.toNat_ofNat]; omega
  have hb : (BitVec.ofInt 64 (b : Int)).toNat = b := by
    rw [BitVec.ofInt_natCast, BitVec.toNat_ofNat]; omega
  have hbv := bv_sub (BitVec.ofInt 64 (a : Int)) (BitVec.ofInt 64 (b : Int))
  have hand : (BitVec.ofInt 64 (a : Int) &&& BitVec.ofInt 64 (b : Int) = BitVec.ofInt 64 (a : Int)) ↔ a &&& b = a := by
    rw [← BitVec.toNat_inj, BitVec.toNat_and, ha, hb]
  have hle : (BitVec.ofInt 64 (a : Int) &&& ~~~BitVec.ofInt 64 (b : Int)).toNat ≤ 255 := by
    rw [BitVec.toNat_and, ha]
    exact Nat.le_trans Nat.and_le_left (by omega)
  have hn : bits BinOp.andNot IntKind.i64 (a : Int) (b : Int) = ((BitVec.ofInt 64 (a : Int) &&& ~~~BitVec.ofInt 64 (b : Int)).toNat : Int) := by
    show IntKind.i64.wrap ((BitVec.ofInt 64 (a : Int) &&& ~~~BitVec.ofInt 64 (b : Int)).toNat : Int) = _
    exact wrap63 _ (by omega) (by have e : (2 : Int) ^ 63 = 9223372036854775808 := by decide
                                  rw [e]; omega)
  have hz : (BitVec.ofInt 64 (a : Int) &&& ~~~BitVec.ofInt 64 (b : Int) = 0#64) ↔ (BitVec.ofInt 64 (a : Int) &&& ~~~BitVec.ofInt 64 (b : Int)).toNat = 0 := by
    rw [← BitVec.toNat_inj]; rfl
  refine ⟨?_, fun h => ?_⟩
  · rw [hs, hn]
    by_cases hc : a &&& b = a
    · have := hz.1 (hbv.2 (hand.2 hc))
      rw [this, decide_eq_true hc]; rfl
    · have : ¬ (BitVec.ofInt 64 (a : Int) &&& ~~~BitVec.ofInt 64 (b : Int)).toNat = 0 := fun h => hc (hand.1 (hbv.1 (hz.2 h)))
      rw [decide_eq_false hc]
      simp only [Bool.not_false, bne_iff_ne, ne_eq]
      omega
  · rw [hs] at h
    have h' : a &&& b = a := of_decide_eq_true h
    have : a &&& b ≤ b := Nat.and_le_right
    omega
end Go.Proofs.Ytjpjcdkepconjaa
