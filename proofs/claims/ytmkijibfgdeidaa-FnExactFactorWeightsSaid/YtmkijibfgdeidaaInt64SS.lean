/-
  eqInt64SS of two copies of the same lists is true; markInt64SS turns own lists alone. Condition: fewer than 1000000000 integers in each.
-/
import Derived.Test.YtmkijibfgdeidaaToInt64SS
import Derived.Test.YtmkijibfgdeidaaInt64S
import Derived.Deep.RegionHeld3
namespace Go.Proofs.Ytmkijibfgdeidaa
open Go.RowKit
set_option linter.unusedVariables false

set_option maxHeartbeats 800000 in
theorem eq_ii {w : World} {B1 B2 T1 T2 : Nat} {v1 v2 : Value} {X : RecL} (h1 : RowII 2 w B1 T1 v1 X) (h2 : RowII 2 w B2 T2 v2 X) (hn : (X.length : Int) + tot X ≤ 1048576) :
    Calls Try.prog 10 #[v1, v2] w (RetV w (.bool true)) := by
  obtain ⟨g1, vs, rfl, _, _, _, m, I1, _⟩ := h1
  obtain ⟨g2, us, rfl, _, _, _, _, I2, _⟩ := h2
  obtain ⟨n, f⟩ := X
  dsimp only at *
  have H1 := Lib.hid I1
  have H2 := Lib.hid I2
  clear I1 I2 hn
  go_enter Try.func10, Try.ntmps10
  go_wp2
  go_loopw [5] (fun i wr => ∃ k : Nat, k ≤ n ∧ i = .int .i64 k ∧ Below w.heap.size w wr) (fun i _ => n - (intOf i).toNat)
  case atStart => exact ⟨0, Nat.zero_le _, rfl, Below.refl _ _⟩
  case round =>
    obtain ⟨k, hk, rfl, hb⟩ := hrel
    by_cases hlt : k < n
    · obtain ⟨a1, a2, _⟩ := H1.out k hlt
      obtain ⟨b1, b2, _⟩ := H2.out k hlt
      have x1 := Below.cellOf hb rfl a1
      have x2 := Below.cellOf hb rfl b1
      have HE : Hid (∀ w', Below w.heap.size w w' → Calls Try.prog 9 #[vs k, us k] w' (fun e w'' => e = .returned (.bool true) ∧ Below w'.heap.size w' w'')) := fun w' hb' => eq_i (a2.1.below hb') (b2.1.below hb') a2.2.2
      have l1 : (k : Int) < n := by omega
      have hbd := hb.drew
      clear a1 a2 b1 b2
      go_wp2_with fail
      go_region_held3 (fun w' => w'.cell? ⟨g1, k, none⟩ = some (vs k) ∧ w'.cell? ⟨g2, k, none⟩ = some (us k))
        (first | go_keep | (go_split_ands; refine ⟨?_, ?_⟩ <;> (apply Below.cellOf (by assumption) rfl; assumption)))
        ((first | (go_at_call 9; refine (HE.out _ hbd).mono ?_; rintro e w3 ⟨rfl, hb3⟩)))
      go_wp2
      go_roundw
      case rel => exact ⟨k + 1, by omega, by go_num, hbd.trans (hb3.mono hb.size)⟩
      case measure => simp [intOf]; omega
    · obtain rfl : k = n := by omega
      go_wp2
      go_ret
      exact ⟨rfl, hb⟩

/-- What is left of marked lists. -/
structure TokII (w : World) (B T : Nat) : Prop where
  s : B ≤ w.heap.size
theorem TokII.below {w w' : World} {B T : Nat} (h : TokII w B T) (hb : Below w.heap.size w w') : TokII w' B T := ⟨Nat.le_trans h.s hb.size⟩
theorem TokII.only {w w' : World} {B T lo hi : Nat} (h : TokII w B T) (ho : Only lo hi w w') (hd : ∀ k, B ≤ k ∧ k < T → k < lo ∨ hi ≤ k) : TokII w' B T := ⟨Nat.le_trans h.s ho.size⟩
theorem only_trans {lo hi : Nat} {a b c : World} (h : Only lo hi a b) (h' : Only lo hi b c) : Only lo hi a c :=
  ⟨h'.os.trans h.os, h'.tape.trans h.tape, h'.output.trans h.output, Nat.le_trans h.size h'.size, fun k hk hd => (h'.block k (Nat.lt_of_lt_of_le hk h.size) hd).trans (h.block k hk hd)⟩

set_option maxHeartbeats 1600000 in
theorem mark_ii {w : World} {B T : Nat} {v : Value} {X : RecL} (k0 : Int) (h : RowII 2 w B T v X) (hn : (X.length : Int) + tot X ≤ 1048576) (hk0 : 0 ≤ k0) (hk1 : k0 < 1000000) :
    Calls Try.prog 11 #[v, .int .i64 k0] w (fun e w' => e = .returned (.int .i64 (k0 + tot X)) ∧ TokII w' B T ∧ ∀ lo hi, (∀ k, B ≤ k ∧ k < T → lo ≤ k ∧ k < hi) → Only lo hi w w') := by
  obtain ⟨g, vs, rfl, z1, z2, z3, m, I1, I2⟩ := h
  obtain ⟨n, f⟩ := X
  dsimp only at *
  have HTT : Hid (tot ⟨n, f⟩ = lsum f n) := rfl
  rw [HTT.out] at hn ⊢
  have HA : Hid (∀ k, k ≤ n → lsum f k ≤ lsum f n) := fun k hk => lsum_mono f n k hk
  have HAA : Hid (∀ k, k < n → lsum f k + (f k).length ≤ lsum f n) := fun k hk => lsum_at f hk
  have H1 := Lib.hid I1
  have H2 := Lib.hid I2
  clear I1 I2
  go_enter Try.func11, Try.ntmps11
  go_wp2
  go_loopw [1, 5] (fun kv i wr => ∃ k : Nat, k ≤ n ∧ i = .int .i64 k ∧ kv = .int .i64 (k0 + lsum f k) ∧ Hid (∀ i, i < n → wr.cell? ⟨g, i, none⟩ = some (vs i)) ∧ Hid (∀ i, k ≤ i → i < n → RowI 2 wr B (vs i) (f i)) ∧ Only B T w wr) (fun _ i _ => n - (intOf i).toNat)
  case atStart => exact ⟨0, Nat.zero_le _, rfl, by show Value.int .i64 k0 = Value.int .i64 (k0 + (0 : Nat)); go_num, fun i hi => (H1.out i hi).1, fun i _ hi => (H1.out i hi).2.1, Only.refl _ _ _⟩
  case round =>
    obtain ⟨k, hk, rfl, rfl, hc, hr, ho⟩ := hrel
    by_cases hlt : k < n
    · have hrk := hr.out k (Nat.le_refl _) hlt
      obtain ⟨b, cb, hvb⟩ := hrk.2.1
      have x1 := hc.out k hlt
      rw [hvb] at x1
      have HB : Hid (b ≠ g ∧ B ≤ b ∧ b < T) := by
        have a := (H1.out k hlt).2.2 b (by rw [hvb]; rfl)
        have c := hrk.lt b (by rw [hvb]; rfl)
        exact ⟨a.1, c.1, a.2⟩
      have hown := hrk.1
      rw [hvb] at hown
      have ha := HA.out k hk
      have hfl : (f k).length < 1000000000 := hrk.2.2
      have l1 : (k : Int) < n := by omega
      have hmk := mark_i (k0 + lsum f k) hown hfl (by omega) (by omega)
      have HMK := Lib.hid hmk
      have HVB := Lib.hid hvb
      have HNX : Hid (k0 + (lsum f (k + 1) : Nat) = k0 + lsum f k + (f k).length) := by show k0 + ((lsum f k + (f k).length : Nat) : Int) = _; omega
      clear hown hmk hrk hvb
      go_wp2_with (first | (go_at_call 12; refine HMK.out.mono ?_; rintro e w2 ⟨rfl, hm2, hn2⟩))
      have hO : Only b (b + 1) wr w2 := hn2 b (b + 1) (fun b' hb' => by have : b' = b := (Option.some.inj hb').symm; omega)
      have hO2 : Only B T wr w2 := ⟨hO.os, hO.tape, hO.output, hO.size, fun k hk hd => hO.block k hk (by have := HB.out; omega)⟩
      go_roundw
      case rel =>
        refine ⟨k + 1, by omega, by go_num, by rw [HNX.out], fun i hi => only_cell hO (by have := HB.out; omega) (hc.out i hi), fun i h1 h2 => (hr.out i (by omega) h2).only hO (fun c hc' => ?_), only_trans ho hO2⟩
        have : c ≠ b := fun e => H2.out k i b (by omega) h2 (by rw [HVB.out]; rfl) (by rw [← e]; exact hc')
        omega
      case measure => simp [intOf]; omega
    · obtain rfl : k = n := by omega
      go_wp2
      go_ret
      exact ⟨rfl, ⟨by have := ho.size; omega⟩, fun lo hi hl => ⟨ho.os, ho.tape, ho.output, ho.size, fun c hc hd => ho.block c hc (by have := hl B ⟨Nat.le_refl _, by omega⟩; have := hl (T - 1) (by omega); omega)⟩⟩
end Go.Proofs.Ytmkijibfgdeidaa
