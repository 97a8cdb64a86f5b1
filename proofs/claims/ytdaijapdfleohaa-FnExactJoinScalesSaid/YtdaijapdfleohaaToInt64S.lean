/-
  toInt64S gives a copy in new memory. Condition: at most 1048576 integers.
-/
import Derived.Test.YtdaijapdfleohaaProg
import Derived.Test.YtdaijapdfleohaaBase
import Derived.Test.YtdaijapdfleohaaSmall
namespace Go.Proofs.Ytdaijapdfleohaa
open Go.RowKit
set_option linter.unusedVariables false

theorem copy_set (xs : List Int) (k : Nat) (h : k < xs.length) : (xs.take k ++ List.replicate (xs.length - k) 0).set k (xs.getD k 0) = xs.take (k + 1) ++ List.replicate (xs.length - (k + 1)) 0 := by
  rw [List.set_append]
  have hl : (xs.take k).length = k := by simp; omega
  have hr : xs.length - k = (xs.length - (k + 1)) + 1 := by omega
  rw [hl, if_neg (by omega), Nat.sub_self, hr, List.replicate_succ, List.set_cons_zero, List.take_succ_eq_append_getElem h, List.append_assoc, List.singleton_append]
  simp [List.getD, h]

set_option maxHeartbeats 400000 in
theorem to_core (a : Option Addr) (cap : Nat) (xs : List Int) (w : World) (hn : xs.length < 1000000000) (ha : xs ≠ [] → ∃ g off, a = some ⟨g, off, none⟩ ∧ Ints w g off xs.length (fun i => xs.getD i 0)) :
    Calls Try.prog 9 #[.slice a xs.length cap] w fun e w' =>
      e = .returned (.slice (some ⟨w.heap.size, 0, none⟩) xs.length xs.length) ∧ Own 2 w' w.heap.size (.slice (some ⟨w.heap.size, 0, none⟩) xs.length xs.length) xs ∧ Below w.heap.size w w' := by
  obtain ⟨n, hN⟩ : ∃ n, n = xs.length := ⟨_, rfl⟩
  have HN := Lib.hid hN
  have H0 : n = 0 ∨ ∃ g off, a = some ⟨g, off, none⟩ ∧ Ints w g off n (fun i => xs.getD i 0) := by
    by_cases hx : xs = []
    · left; rw [hN, hx]; rfl
    · right; rw [hN]; exact ha hx
  rw [← hN] at hn ⊢
  clear hN ha
  rcases H0 with h0 | ⟨g, off, rfl, hI⟩
  · subst h0
    have hx : xs = [] := List.eq_nil_of_length_eq_zero HN.out.symm
    have HX := Lib.hid hx
    clear hx
    go_enter Try.func9, Try.ntmps9
    go_wp2_with (at_make; refine wpList_mk _ rfl _ _ 22 rfl w.heap.size 2 Try.infoI Try.underlying22 _ _ _ _ 0 rfl rfl rfl rfl (by omega) (Nat.le_refl _) ?_; intro w1 hown hb)
    go_rounds 1
    go_ret
    exact ⟨rfl, by rw [HX.out]; exact hown, hb⟩
  · go_enter Try.func9, Try.ntmps9
    go_wp2_with (at_make; refine wpList_mk _ rfl _ _ 22 rfl w.heap.size 2 Try.infoI Try.underlying22 _ _ _ _ n rfl rfl rfl rfl hn (Nat.le_refl _) ?_; intro w1 hown hb)
    go_loopw [4] (fun i wr => ∃ k : Nat, k ≤ n ∧ i = .int .i64 k ∧ Own 2 wr w.heap.size (.slice (some ⟨w.heap.size, 0, none⟩) n n) (xs.take k ++ List.replicate (n - k) 0) ∧ Below w.heap.size w wr) (fun i _ => n - (intOf i).toNat)
    case atStart => exact ⟨0, Nat.zero_le _, rfl, by simpa using hown, hb⟩
    case round =>
      obtain ⟨k, hk, rfl, ho, hbr⟩ := hrel
      have hl : (xs.take k ++ List.replicate (n - k) 0).length = n := by have := HN.out; simp; omega
      by_cases hlt : k < n
      · have hc := Below.cellOf hbr rfl (hI.at k hlt)
        obtain ⟨x, hx⟩ : ∃ x, wr.cell? ⟨w.heap.size, k, none⟩ = some x := ⟨_, ho.cellAt k (by omega)⟩
        have hf := ho.freeAt k
        have hd : (xs.getD k 0) = xs.getD k 0 := rfl
        have R := ho.set hl.symm k (xs.getD k 0)
        rw [HN.out, copy_set xs k (by rw [← HN.out]; exact hlt), ← HN.out] at R
        have HR := Lib.hid R
        have HL := Lib.hid hl
        generalize xs.getD k 0 = y at hc HR
        clear R hl ho hd
        go_wp2
        go_roundw
        case rel => exact ⟨k + 1, by omega, by go_num, HR.out, hbr.setCell (Nat.le_refl _) _⟩
        case measure => simp [intOf]; omega
      · obtain rfl : k = n := by omega
        have R : Own 2 wr w.heap.size (.slice (some ⟨w.heap.size, 0, none⟩) k k) xs := by
          have := ho
          rwa [List.take_of_length_le (by rw [HN.out]; exact Nat.le_refl _), Nat.sub_self, List.replicate_zero, List.append_nil] at this
        have HR := Lib.hid R
        have HL := Lib.hid hl
        clear R hl ho
        go_wp2
        go_ret
        exact ⟨rfl, HR.out, hbr⟩

/-- What toInt64S gives. -/
def CopyI (E : TypeId) (w : World) (xs : List Int) (e : Ending) (w' : World) : Prop := ∃ v, e = .returned v ∧ RowI E w' w.heap.size v xs ∧ Below w.heap.size w w'

theorem to_i {w : World} {v : Value} {xs : List Int} (h : InI w v xs) (hn : xs.length < 1000000000) :
    Calls Try.prog 9 #[v] w (CopyI 2 w xs) := by
  obtain ⟨a, cap, rfl, ha⟩ := h
  exact (to_core a cap xs w hn ha).mono fun e w' ⟨he, ho, hb⟩ => ⟨_, he, ⟨ho, ⟨_, _, rfl⟩, hn⟩, hb⟩
end Go.Proofs.Ytdaijapdfleohaa
