/-
  markScale, by its contract. Condition: fewer than 1000000000 integers in each list.
-/
import Derived.Test.YtdaijapdfleohaaProg
import Derived.Test.YtdaijapdfleohaaInt64S
import Derived.Test.YtdaijapdfleohaaScaleO
namespace Go.Proofs.Ytdaijapdfleohaa
open Go.RowKit
set_option linter.unusedVariables false

/-- What marking a scale leaves. -/
def MarkedS (E : TypeId) (w : World) (B : Nat) (v : Value) (n m : Nat) (k0 : Int) (e : Ending) (w' : World) : Prop :=
  e = .returned (.int .i64 (k0 + n + m)) ∧ OwnS E w' B v (marks k0 n) (marks (k0 + n) m) ∧ ∀ lo hi, (∀ b, inS v b → lo ≤ b ∧ b < hi) → Only lo hi w w'
theorem Only.trans' {lo hi : Nat} {a b c : World} (h : Only lo hi a b) (h' : Only lo hi b c) : Only lo hi a c :=
  ⟨h'.os.trans h.os, h'.tape.trans h.tape, h'.output.trans h.output, Nat.le_trans h.size h'.size, fun k hk hd => (h'.block k (Nat.lt_of_lt_of_le hk h.size) hd).trans (h.block k hk hd)⟩
theorem Only.ofBelow {lo hi : Nat} {a b : World} (h : Below a.heap.size a b) : Only lo hi a b := ⟨h.os, h.tape, h.output, h.size, fun k hk _ => h.block k hk⟩
set_option maxHeartbeats 400000 in
theorem mark_s {w : World} {B : Nat} {v : Value} {b r : List Int} (k0 : Int) (h : OwnS 2 w B v b r) (hn : b.length < 1000000000 ∧ r.length < 1000000000) (hk0 : 0 ≤ k0) (hk1 : k0 < 90000000000) :
    Calls Try.prog 14 #[v, .int .i64 k0] w (MarkedS 2 w B v b.length r.length k0) := by
  obtain ⟨vb, vr, rfl, x, y, d⟩ := h
  obtain ⟨mb, mr⟩ := hn
  have D := Lib.hid d
  clear d
  have bA : Below w.heap.size w (w.alloc (.cells #[vb, vr] 29)) := by go_grown
  have K0 : (w.alloc (.cells #[vb, vr] 29)).cell? ⟨w.heap.size, 1, none⟩ = some vr := by simp [go_sem]
  have hz : (w.alloc (.cells #[vb, vr] 29)).heap.size = w.heap.size + 1 := by simp
  have HK0 := Lib.hid K0
  have HZ := Lib.hid hz
  clear K0 hz
  have x' := x.below bA
  have y' := y.below bA
  have lb := Lib.hid x.lt
  have lr := Lib.hid y.lt
  go_enter Try.func14, Try.ntmps14
  go_wp2_with fail
  refine (mark_i k0 x' mb hk0 (by omega)).mono ?_
  rintro e w1 ⟨rfl, q, n1⟩
  have N1 := Lib.hid n1
  have o1 : ∀ hi, w.heap.size ≤ hi → Only 0 hi (w.alloc (.cells #[vb, vr] 29)) w1 := fun hi h0 => N1.out 0 hi (fun k hk => ⟨Nat.zero_le _, by have := (lb.out k hk).2; omega⟩)
  have k0' : w1.cell? ⟨w.heap.size, 1, none⟩ = some vr := by
    have hlt : w.heap.size < (w.alloc (.cells #[vb, vr] 29)).heap.size := by rw [HZ.out]; omega
    have hbk := (o1 w.heap.size (Nat.le_refl _)).block w.heap.size hlt (.inr (Nat.le_refl _))
    have hc := HK0.out
    unfold World.cell? at hc ⊢
    simp only at hc ⊢
    rw [hbk]
    exact hc
  have y1 : Own 2 w1 B vr r := y'.onlyOf n1 (fun k h1 h2 => D.out k h2 h1)
  clear n1 o1
  go_wp2_with fail
  refine (mark_i (k0 + b.length) y1 mr (by omega) (by omega)).mono ?_
  rintro e w2 ⟨rfl, q2, n2⟩
  have q1 : Own 2 w2 B vb (marks k0 b.length) := q.onlyOf n2 (fun k h1 h2 => D.out k h1 h2)
  go_wp2_with fail
  go_ret
  refine ⟨rfl, ⟨vb, vr, rfl, q1, q2, D.out⟩, fun lo hi hk => ?_⟩
  have t1 : Only lo hi w (w.alloc (.cells #[vb, vr] 29)) := Only.ofBelow bA
  exact (t1.trans' (N1.out lo hi fun k h => hk k ⟨vb, vr, rfl, .inl h⟩)).trans' (n2 lo hi fun k h => hk k ⟨vb, vr, rfl, .inr h⟩)
end Go.Proofs.Ytdaijapdfleohaa
