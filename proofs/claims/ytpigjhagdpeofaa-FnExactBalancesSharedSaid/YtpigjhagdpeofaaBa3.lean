/-
  The small tests of the program and of the reference, each by its contract: it answers as a plain Bool says. No condition.
  Slices of structs of integers: a list of records is its length and its cells, one after another. No program in sight. No condition.
  impl.AreEntries and spec.l03Ledger tell whether a list is a ledger. Condition: fewer than 1000000000 entries.
  A list told by its rule, and running sums by kind. No program in sight. No condition.
  impl.balances and spec.l03Balances give the accounts' balances. Conditions: the list is a ledger of at most 64 entries.
  Whether all of some numbers lie in a range, and their sum. No program in sight. No condition.
  impl.positives, and the literal that impl.BalancesShared hands over: the sum of the balances above 0. Condition: the entries are valid.
  impl.areWithin and impl.hasCount answer whether all integers of a row lie in a range, and whether their count does. Condition: fewer than 1000000000 integers.
  Values and worlds that are alike up to a renaming of blocks; what one operation does in both. No condition.
-/
import Derived.Test.YtpigjhagdpeofaaBa2
import Derived.Test.YtpigjhagdpeofaaProg
import Derived.Test.YtpigjhagdpeofaaBa1
import Derived.Laws.OwnMore
import Derived.Laws.IdiomCopy
import Derived.StillTailTactics
import Derived.Conc.Events
import Derived.Conc.Own

namespace Go.Proofs.Ytpigjhagdpeofaa
open Go.RowKit
set_option linter.unusedVariables false
theorem Sq.infoI : (Sq.prog.info? 2).map (fun i => (i.zero, i.size, i.bytes)) = some (some (.int .i64 0), 1, 8) := by kernel_rfl

theorem impl_within_any (n l h : Int) (w : World) : Calls Sq.prog 52 #[.int .i64 n, .int .i64 l, .int .i64 h] w fun e w' => e = .returned (.bool (win n l h)) ∧ w = w' := by
  go_enter Sq.func52, Sq.ntmps52
  go_wp2
  all_goals (go_ret; exact ⟨ret_bool (by simp_all [win]; try omega), rfl⟩)
theorem spec_l00In_any (n l h : Int) (w : World) : Calls Sq.prog 25 #[.int .i64 n, .int .i64 l, .int .i64 h] w fun e w' => e = .returned (.bool (win n l h)) ∧ w = w' := by
  go_enter Sq.func25, Sq.ntmps25
  go_wp2
  all_goals (go_ret; exact ⟨ret_bool (by simp_all [win]; try omega), rfl⟩)
theorem impl_isAmount_any (n : Int) (w : World) : Calls Sq.prog 61 #[.int .i64 n] w fun e w' => e = .returned (.bool (isAmount n)) ∧ w = w' := by
  go_enter Sq.func61, Sq.ntmps61
  go_wp2
  all_goals (go_ret; exact ⟨ret_bool (by simp_all [win, isAmount]; try omega), rfl⟩)
theorem spec_l02Cents_any (n : Int) (w : World) : Calls Sq.prog 39 #[.int .i64 n] w fun e w' => e = .returned (.bool (isAmount n)) ∧ w = w' := by
  go_enter Sq.func39, Sq.ntmps39
  go_wp2
  all_goals (go_ret; exact ⟨ret_bool (by simp_all [win, isAmount]; try omega), rfl⟩)
theorem spec_l02Rate_any (n : Int) (w : World) : Calls Sq.prog 72 #[.int .i64 n] w fun e w' => e = .returned (.bool (isRate n)) ∧ w = w' := by
  go_enter Sq.func72, Sq.ntmps72
  go_wp2
  all_goals (go_ret; exact ⟨ret_bool (by simp_all [win, isRate]; try omega), rfl⟩)
theorem impl_isRound_any (n : Int) (w : World) : Calls Sq.prog 62 #[.int .i64 n] w fun e w' => e = .returned (.bool (isRound n)) ∧ w = w' := by
  go_enter Sq.func62, Sq.ntmps62
  go_wp2
  all_goals (go_ret; exact ⟨ret_bool (by simp_all [win, isRound]; try omega), rfl⟩)
theorem spec_l02Way_any (n : Int) (w : World) : Calls Sq.prog 57 #[.int .i64 n] w fun e w' => e = .returned (.bool (isRound n)) ∧ w = w' := by
  go_enter Sq.func57, Sq.ntmps57
  go_wp2
  all_goals (go_ret; exact ⟨ret_bool (by simp_all [win, isRound]; try omega), rfl⟩)
theorem impl_isWorkers_any (n : Int) (w : World) : Calls Sq.prog 32 #[.int .i64 n] w fun e w' => e = .returned (.bool (isWorkers n)) ∧ w = w' := by
  go_enter Sq.func32, Sq.ntmps32
  go_wp2
  all_goals (go_ret; exact ⟨ret_bool (by simp_all [win, isWorkers]; try omega), rfl⟩)
theorem impl_isDay_any (n : Int) (w : World) : Calls Sq.prog 50 #[.int .i64 n] w fun e w' => e = .returned (.bool (isDay n)) ∧ w = w' := by
  go_enter Sq.func50, Sq.ntmps50
  go_wp2
  all_goals (go_ret; exact ⟨ret_bool (by simp_all [win, isDay]; try omega), rfl⟩)
theorem spec_l03Day_any (n : Int) (w : World) : Calls Sq.prog 26 #[.int .i64 n] w fun e w' => e = .returned (.bool (isDay n)) ∧ w = w' := by
  go_enter Sq.func26, Sq.ntmps26
  go_wp2
  all_goals (go_ret; exact ⟨ret_bool (by simp_all [win, isDay]; try omega), rfl⟩)
theorem impl_isAccount_any (n : Int) (w : World) : Calls Sq.prog 51 #[.int .i64 n] w fun e w' => e = .returned (.bool (isAccount n)) ∧ w = w' := by
  go_enter Sq.func51, Sq.ntmps51
  go_wp2
  all_goals (go_ret; exact ⟨ret_bool (by simp_all [win, isAccount]; try omega), rfl⟩)
theorem spec_l03Account_any (n : Int) (w : World) : Calls Sq.prog 49 #[.int .i64 n] w fun e w' => e = .returned (.bool (isAccount n)) ∧ w = w' := by
  go_enter Sq.func49, Sq.ntmps49
  go_wp2
  all_goals (go_ret; exact ⟨ret_bool (by simp_all [win, isAccount]; try omega), rfl⟩)
end Go.Proofs.Ytpigjhagdpeofaa

namespace Go.Proofs.Ytpigjhagdpeofaa
open Go.RowKit
set_option linter.unusedVariables false

/-- So many records; their fields in a row. -/
structure Rec where
  length : Nat
  f : Nat → Int

/-- The cells of a slice of records of k integers. -/
def RowC (w : World) (g off n k : Nat) (f : Nat → Int) : Prop := ∀ i, i < n → ∀ j, j < k → w.cell? ⟨g, off + i * k + j, none⟩ = some (.int .i64 (f (i * k + j)))
theorem RowC.below {w w' : World} {g off n k : Nat} {f : Nat → Int} (h : RowC w g off n k f) (hb : Below w.heap.size w w') : RowC w' g off n k f :=
  fun i hi j hj => Below.cellOf hb rfl (h i hi j hj)
theorem RowC.c0 {w : World} {g n k : Nat} {f : Nat → Int} (h : RowC w g 0 n k f) (i : Nat) (hi : i < n) (hk : 0 < k) : w.cell? ⟨g, i * k, none⟩ = some (.int .i64 (f (i * k))) := by
  have := h i hi 0 hk; rwa [Nat.zero_add, Nat.add_zero] at this
theorem RowC.cs {w : World} {g n k : Nat} {f : Nat → Int} (h : RowC w g 0 n k f) (i j : Nat) (hi : i < n) (hj : j < k) : w.cell? ⟨g, i * k + j, none⟩ = some (.int .i64 (f (i * k + j))) := by
  have := h i hi j hj; rwa [Nat.zero_add] at this
/-- Whether all of the first n are so. -/
def allB (P : Nat → Bool) : Nat → Bool
  | 0 => true
  | k + 1 => allB P k && P k
theorem allB_false {P : Nat → Bool} {n : Nat} (k : Nat) (hk : k < n) (h : P k = false) : allB P n = false := by
  induction n with
  | zero => omega
  | succ n ih =>
    by_cases e : k < n
    · simp [allB, ih e]
    · obtain rfl : k = n := by omega
      simp [allB, h]
theorem allB_succ {P : Nat → Bool} {k : Nat} (h1 : allB P k = true) (h2 : P k = true) : allB P (k + 1) = true := by simp [allB, h1, h2]
theorem allB_iff {P : Nat → Bool} {n : Nat} : allB P n = true ↔ ∀ i, i < n → P i = true := by
  induction n with
  | zero => simp [allB]
  | succ n ih =>
    simp only [allB, Bool.and_eq_true, ih]
    constructor
    · rintro ⟨h1, h2⟩ i hi
      rcases Nat.lt_succ_iff_lt_or_eq.1 hi with h3 | rfl
      · exact h1 i h3
      · exact h2
    · exact fun h => ⟨fun i hi => h i (by omega), h n (by omega)⟩
/-- A slice of records that came in. -/
def InR (k : Nat) (w : World) (v : Value) (X : Rec) : Prop :=
  ∃ a cap, v = .slice a X.length cap ∧ X.length ≤ maxLen ∧ (X.length ≠ 0 → ∃ g off, a = some ⟨g, off, none⟩ ∧ RowC w g off X.length k X.f)
theorem InR.below {k : Nat} {w w' : World} {v : Value} {X : Rec} (h : InR k w v X) (hb : Below w.heap.size w w') : InR k w' v X := by
  obtain ⟨a, cap, hv, hm, h⟩ := h
  exact ⟨a, cap, hv, hm, fun hx => by obtain ⟨g, off, ha, hi⟩ := h hx; exact ⟨g, off, ha, hi.below hb⟩⟩
/-- A slice of records in the call's own memory, not nil. -/
def RowR (k : Nat) (w : World) (B : Nat) (v : Value) (X : Rec) : Prop :=
  ∃ g, v = .slice (some ⟨g, 0, none⟩) X.length X.length ∧ B ≤ g ∧ g < w.heap.size ∧ X.length < 1000000000 ∧ RowC w g 0 X.length k X.f ∧ ∀ i, w.frozen? ⟨g, i, none⟩ = false
theorem RowR.lt {k : Nat} {w : World} {B : Nat} {v : Value} {X : Rec} (h : RowR k w B v X) : ∀ b, v.ownBlock = some b → B ≤ b ∧ b < w.heap.size := by
  obtain ⟨g, rfl, h1, h2, _⟩ := h
  intro b hb
  cases hb
  exact ⟨h1, h2⟩
theorem RowR.below {k : Nat} {w w' : World} {B : Nat} {v : Value} {X : Rec} (h : RowR k w B v X) (hb : Below w.heap.size w w') : RowR k w' B v X := by
  obtain ⟨g, rfl, h1, h2, h3, h4, h5⟩ := h
  refine ⟨g, rfl, h1, Nat.lt_of_lt_of_le h2 hb.size, h3, h4.below hb, fun i => ?_⟩
  rw [hb.frozen h2]
  exact h5 i

/-- Cells that are there and may be written. -/
def There (w : World) (g m : Nat) : Prop := g < w.heap.size ∧ (∀ i, i < m → (w.cell? ⟨g, i, none⟩).isSome = true) ∧ ∀ i, w.frozen? ⟨g, i, none⟩ = false
theorem There.below {w w' : World} {g m : Nat} (h : There w g m) (hb : Below w.heap.size w w') : There w' g m :=
  ⟨Nat.lt_of_lt_of_le h.1 hb.size, fun i hi => by rw [hb.cell h.1]; exact h.2.1 i hi, fun i => by rw [hb.frozen h.1]; exact h.2.2 i⟩
theorem There.set {w : World} {g m : Nat} (h : There w g m) (i : Nat) (v : Value) : There (w.setCell ⟨g, i, none⟩ v) g m := by
  refine ⟨by simpa using h.1, fun j hj => ?_, fun j => by rw [World.frozen?_setCell]; exact h.2.2 j⟩
  obtain ⟨x, hx⟩ := Option.isSome_iff_exists.1 (h.2.1 j hj)
  by_cases e : i = j
  · subst e; rw [World.cell?_setCell_same _ _ _ hx]; rfl
  · rw [World.cell?_setCell_other _ _ _ _ (by intro h; cases h; exact e rfl)]; exact h.2.1 j hj
/-- The first m cells of a block. -/
def CellsTo (w : World) (g m : Nat) (f : Nat → Int) : Prop := ∀ i, i < m → w.cell? ⟨g, i, none⟩ = some (.int .i64 (f i))
theorem CellsTo.below {w w' : World} {g m : Nat} {f : Nat → Int} (h : CellsTo w g m f) (hb : Below w.heap.size w w') : CellsTo w' g m f := fun i hi => Below.cellOf hb rfl (h i hi)
theorem CellsTo.set {w : World} {g v M : Nat} {f : Nat → Int} (h : CellsTo w g v f) (ht : There w g M) (hv : v < M) : CellsTo (w.setCell ⟨g, v, none⟩ (.int .i64 (f v))) g (v + 1) f := by
  intro i hi
  by_cases e : v = i
  · subst e
    obtain ⟨x, hx⟩ := Option.isSome_iff_exists.1 (ht.2.1 v hv)
    rw [World.cell?_setCell_same _ _ _ hx]
  · rw [World.cell?_setCell_other _ _ _ _ (by intro h; cases h; exact e rfl)]; exact h i (by omega)
theorem CellsTo.row {w : World} {g n k : Nat} {f : Nat → Int} (h : CellsTo w g (n * k) f) : RowC w g 0 n k f := by
  intro i hi j hj
  have : i * k + j < n * k := by
    have : (i + 1) * k ≤ n * k := Nat.mul_le_mul_right k (by omega)
    rw [Nat.add_mul] at this
    omega
  have := h (i * k + j) this
  rwa [← Nat.zero_add (i * k + j), ← Nat.add_assoc] at this ⊢
theorem There.at {w : World} {g m : Nat} (h : There w g m) (i : Nat) (hi : i < m) : ∃ x, w.cell? ⟨g, i, none⟩ = some x := Option.isSome_iff_exists.1 (h.2.1 i hi)
theorem wpList_mkR {P : Program} (w : World) {ops : Array Oper} {rest : List Oper} {o : Oper} {a : Act} {Q : Exit → Act → World → Prop}
    (hg : o.guard = none) (l c : Operand) (t : TypeId) (hop : o.op = Op.makeSlice t l c)
    (E : TypeId) (z : Value) (size bytes : Nat) (hi : (P.info? E).map (fun i => (i.zero, i.size, i.bytes)) = some (some z, size, bytes)) (hby : bytes ≤ 100) (ht : P.underlying t = some (.slice E))
    (kl kc : IntKind) (L C : Int) (n : Nat) (hl : a.eval l = .int kl L) (hc : a.eval c = .int kc C) (hL : L = (n : Int)) (hC : C = (n : Int)) (hn : n < 1000000000)
    (hK : ∀ w', There w' w.heap.size (n * size) → Below w.heap.size w w' → wpList P ops Q rest (a.put o.dst (.slice (some ⟨w.heap.size, 0, none⟩) n n)) w') :
    wpList P ops Q (o :: rest) a w := by
  obtain ⟨i0, hi0, hz0, hz1, hz2⟩ := info_parts hi
  have hb : i0.bytes * n ≤ 281474976710656 := by
    rw [hz2]
    have : bytes * n ≤ 100 * n := Nat.mul_le_mul_right n hby
    omega
  refine wpList_make_full w hg l c t hop w.heap.size E i0 z size ht hi0 hz0 hz1 kl kc L C n hl hc hL hC hb (by unfold maxLen; omega) (Nat.le_refl _) fun w' hown hgr => hK w' ⟨(World.ownsRow.lt hown _ rfl).2, fun i hi => ?_, fun i => World.ownsRow.frozenAt hown i⟩ ((Below.refl _ _).grown hgr (Nat.le_refl _) (fun k hk => by cases hk))
  have hlen := hown.1
  have := World.ownsRow.cells hown rfl i _ (List.getElem?_eq_getElem (by omega))
  have e1 : (⟨w.heap.size, 0, none⟩ : Addr).add i = ⟨w.heap.size, i, none⟩ := by unfold Addr.add; split <;> simp_all
  rw [e1] at this
  rw [this]
  rfl
end Go.Proofs.Ytpigjhagdpeofaa

namespace Go.Proofs.Ytpigjhagdpeofaa
open Go.RowKit
set_option linter.unusedVariables false

def entryOk (f : Nat → Int) (i : Nat) : Bool := isDay (f (i * 4)) && isAccount (f (i * 4 + 1)) && isAccount (f (i * 4 + 2)) && !(f (i * 4 + 1) == f (i * 4 + 2)) && win (f (i * 4 + 3)) 1 1000000000 && (decide (i = 0) || decide (f ((i - 1) * 4) ≤ f (i * 4)))
def entriesOk (f : Nat → Int) (n : Nat) : Bool := allB (entryOk f) n && decide (n ≤ 64)
theorem entries_no {f : Nat → Int} {n : Nat} (h : allB (entryOk f) n = false) : entriesOk f n = false := by simp only [entriesOk, h, Bool.false_and]
theorem entries_out {f : Nat → Int} {n : Nat} (h : allB (entryOk f) n = true) : entriesOk f n = decide (n ≤ 64) := by simp only [entriesOk, h, Bool.true_and]

set_option maxHeartbeats 3200000 in
theorem entries_impl (n g : Nat) (f : Nat → Int) (w : World) (hn : n < 1000000000) (hI : RowC w g 0 n 4 f) :
    Calls Sq.prog 30 #[.slice (some ⟨g, 0, none⟩) n n] w (RetV w (.bool (entriesOk f n))) := by
  go_enter Sq.func30, Sq.ntmps30
  go_wp2
  go_loopw [7] (fun i wr => ∃ k : Nat, k ≤ n ∧ i = .int .i64 k ∧ Hid (allB (entryOk f) k = true) ∧ Below w.heap.size w wr) (fun i _ => n - (intOf i).toNat)
  case atStart => exact ⟨0, Nat.zero_le _, rfl, rfl, Below.refl _ _⟩
  case round =>
    obtain ⟨k, hk, rfl, ha, hb⟩ := hrel
    by_cases hlt : k < n
    · have c0 := Below.cellOf hb rfl (hI.c0 k hlt (by decide))
      have c1 := Below.cellOf hb rfl (hI.cs k 1 hlt (by decide))
      have c2 := Below.cellOf hb rfl (hI.cs k 2 hlt (by decide))
      have c3 := Below.cellOf hb rfl (hI.cs k 3 hlt (by decide))
      have l1 : (k : Int) < n := by omega
      obtain ⟨j, hj⟩ : ∃ j, (k = 0 ∧ j = 0) ∨ k = j + 1 := ⟨k - 1, by omega⟩
      cases hx : entryOk f k
      · have HF : Hid (entriesOk f n = false) := entries_no (allB_false k hlt hx)
        have hx' : (isDay (f (k * 4)) && isAccount (f (k * 4 + 1)) && isAccount (f (k * 4 + 2)) && !(f (k * 4 + 1) == f (k * 4 + 2)) && win (f (k * 4 + 3)) 1 1000000000 && (decide (k = 0) || decide (f ((k - 1) * 4) ≤ f (k * 4)))) = false := hx
        rcases first_no6 hx' with h1 | ⟨h1, h2 | ⟨h2, h3 | ⟨h3, h4 | ⟨h4, h5 | ⟨h5, h6⟩⟩⟩⟩⟩
        case inr.inr.inr.inr.inr =>
          have h4' : (f (k * 4 + 1) == f (k * 4 + 2)) = false := by simpa using h4
          have h7 : ¬ k = 0 ∧ f (k * 4) < f ((k - 1) * 4) := by simpa using h6
          have hj' : k = j + 1 := by omega
          have h8 : f (k * 4) < f (j * 4) := by have := h7.2; rwa [show k - 1 = j by omega] at this
          have cj := Below.cellOf hb rfl (hI.c0 j (by omega) (by decide))
          have cjj : (wr.alloc (.cells #[.int .i64 (f (k * 4)), .int .i64 (f (k * 4 + 1)), .int .i64 (f (k * 4 + 2)), .int .i64 (f (k * 4 + 3))] 52)).cell? ⟨g, j * 4, none⟩ = some (.int .i64 (f (j * 4))) := Below.cellOf (by go_grown) rfl cj
          have e1 : IntKind.i64.wrap ((k : Int) - 1) = j := by rw [show (k : Int) - 1 = j by omega]; exact IntWalk.i64_in _ (by omega)
          have l2 : (0 : Int) < k := by omega
          have l2' : 0 < k := by omega
          have l3 : (j : Int) < n := by omega
          have l4 : j < n := by omega
          clear hx hx' h4 h6 h7 hj' hj
          go_wp2_with fail
          go_quiet ((first | (go_at_call 50; exact Calls.quiet_of_same ((impl_isDay_any _ _).mono (fun _ _ h => ⟨h.1, h.2.symm⟩))) | (go_at_call 52; exact Calls.quiet_of_same ((impl_within_any _ _ _ _).mono (fun _ _ h => ⟨h.1, h.2.symm⟩))) | (go_at_call 51; exact Calls.quiet_of_same ((impl_isAccount_any _ _).mono (fun _ _ h => ⟨h.1, h.2.symm⟩))))); go_wp2
          go_ret
          exact ⟨ret_bool HF.out.symm, hb.trans (Below.mono (B := wr.heap.size) (Below.drewN' (by first | go_grown | exact Below.refl _ _) _) hb.size)⟩
        all_goals
          try have h4' : (f (k * 4 + 1) == f (k * 4 + 2)) = true := by simpa using h4
          try have h4'' : (f (k * 4 + 1) == f (k * 4 + 2)) = false := by simpa using h4
          clear hx hx' hj
          try clear h4
          go_wp2_with fail
          go_quiet ((first | (go_at_call 50; exact Calls.quiet_of_same ((impl_isDay_any _ _).mono (fun _ _ h => ⟨h.1, h.2.symm⟩))) | (go_at_call 52; exact Calls.quiet_of_same ((impl_within_any _ _ _ _).mono (fun _ _ h => ⟨h.1, h.2.symm⟩))) | (go_at_call 51; exact Calls.quiet_of_same ((impl_isAccount_any _ _).mono (fun _ _ h => ⟨h.1, h.2.symm⟩))))); go_wp2
          go_ret
          exact ⟨ret_bool HF.out.symm, hb.trans (Below.mono (B := wr.heap.size) (Below.drewN' (by first | go_grown | exact Below.refl _ _) _) hb.size)⟩
      · have HF := Lib.hid (allB_succ ha.out hx)
        obtain ⟨h1, h2, h3, h4, h5, h6⟩ := all_yes6 hx
        have h4' : (f (k * 4 + 1) == f (k * 4 + 2)) = false := by simpa using h4
        rcases hj with ⟨hk0, _⟩ | hj
        · have l2 : decide ((0 : Int) < (k : Int)) = false := decide_eq_false (by omega)
          have l2' : decide (0 < k) = false := decide_eq_false (by omega)
          clear hx h4 h6 hk0
          go_wp2_with fail
          go_quiet ((first | (go_at_call 50; exact Calls.quiet_of_same ((impl_isDay_any _ _).mono (fun _ _ h => ⟨h.1, h.2.symm⟩))) | (go_at_call 52; exact Calls.quiet_of_same ((impl_within_any _ _ _ _).mono (fun _ _ h => ⟨h.1, h.2.symm⟩))) | (go_at_call 51; exact Calls.quiet_of_same ((impl_isAccount_any _ _).mono (fun _ _ h => ⟨h.1, h.2.symm⟩))))); go_wp2
          go_roundw
          case rel => exact ⟨k + 1, by omega, by go_num, HF, hb.trans (Below.mono (B := wr.heap.size) (Below.drewN' (by first | go_grown | exact Below.refl _ _) _) hb.size)⟩
          case measure => simp [intOf]; omega
        · have h8 : ¬ f (k * 4) < f (j * 4) := by
            have h6' : k = 0 ∨ f ((k - 1) * 4) ≤ f (k * 4) := by simpa using h6
            rw [show k - 1 = j by omega] at h6'
            omega
          have cj := Below.cellOf hb rfl (hI.c0 j (by omega) (by decide))
          have cjj : (wr.alloc (.cells #[.int .i64 (f (k * 4)), .int .i64 (f (k * 4 + 1)), .int .i64 (f (k * 4 + 2)), .int .i64 (f (k * 4 + 3))] 52)).cell? ⟨g, j * 4, none⟩ = some (.int .i64 (f (j * 4))) := Below.cellOf (by go_grown) rfl cj
          have e1 : IntKind.i64.wrap ((k : Int) - 1) = j := by rw [show (k : Int) - 1 = j by omega]; exact IntWalk.i64_in _ (by omega)
          have l2 : (0 : Int) < k := by omega
          have l2' : 0 < k := by omega
          have l3 : (j : Int) < n := by omega
          have l4 : j < n := by omega
          have h8' : decide (f (k * 4) < f (j * 4)) = false := decide_eq_false h8
          clear hx h4 h6 hj
          go_wp2_with fail
          go_quiet ((first | (go_at_call 50; exact Calls.quiet_of_same ((impl_isDay_any _ _).mono (fun _ _ h => ⟨h.1, h.2.symm⟩))) | (go_at_call 52; exact Calls.quiet_of_same ((impl_within_any _ _ _ _).mono (fun _ _ h => ⟨h.1, h.2.symm⟩))) | (go_at_call 51; exact Calls.quiet_of_same ((impl_isAccount_any _ _).mono (fun _ _ h => ⟨h.1, h.2.symm⟩))))); go_wp2
          go_roundw
          case rel => exact ⟨k + 1, by omega, by go_num, HF, hb.trans (Below.mono (B := wr.heap.size) (Below.drewN' (by first | go_grown | exact Below.refl _ _) _) hb.size)⟩
          case measure => simp [intOf]; omega
    · obtain rfl : k = n := by omega
      have HF : Hid (entriesOk f k = decide (k ≤ 64)) := entries_out ha.out
      by_cases h1 : k ≤ 64
      · have HW : Hid (decide (k ≤ 64) = true) := decide_eq_true h1
        go_wp2
        go_ret
        exact ⟨ret_bool (by rw [HF.out, HW.out]; try (simp; omega)), hb⟩
      · have HW : Hid (decide (k ≤ 64) = false) := decide_eq_false h1
        go_wp2
        go_ret
        exact ⟨ret_bool (by rw [HF.out, HW.out]; try (simp; omega)), hb⟩

set_option maxHeartbeats 3200000 in
theorem entries_spec (n g : Nat) (f : Nat → Int) (w : World) (hn : n < 1000000000) (hI : RowC w g 0 n 4 f) :
    Calls Sq.prog 24 #[.slice (some ⟨g, 0, none⟩) n n] w (RetV w (.bool (entriesOk f n))) := by
  go_enter Sq.func24, Sq.ntmps24
  go_wp2
  go_loopw [7] (fun i wr => ∃ k : Nat, k ≤ n ∧ i = .int .i64 k ∧ Hid (allB (entryOk f) k = true) ∧ Below w.heap.size w wr) (fun i _ => n - (intOf i).toNat)
  case atStart => exact ⟨0, Nat.zero_le _, rfl, rfl, Below.refl _ _⟩
  case round =>
    obtain ⟨k, hk, rfl, ha, hb⟩ := hrel
    by_cases hlt : k < n
    · have c0 := Below.cellOf hb rfl (hI.c0 k hlt (by decide))
      have c1 := Below.cellOf hb rfl (hI.cs k 1 hlt (by decide))
      have c2 := Below.cellOf hb rfl (hI.cs k 2 hlt (by decide))
      have c3 := Below.cellOf hb rfl (hI.cs k 3 hlt (by decide))
      have l1 : (k : Int) < n := by omega
      obtain ⟨j, hj⟩ : ∃ j, (k = 0 ∧ j = 0) ∨ k = j + 1 := ⟨k - 1, by omega⟩
      cases hx : entryOk f k
      · have HF : Hid (entriesOk f n = false) := entries_no (allB_false k hlt hx)
        have hx' : (isDay (f (k * 4)) && isAccount (f (k * 4 + 1)) && isAccount (f (k * 4 + 2)) && !(f (k * 4 + 1) == f (k * 4 + 2)) && win (f (k * 4 + 3)) 1 1000000000 && (decide (k = 0) || decide (f ((k - 1) * 4) ≤ f (k * 4)))) = false := hx
        rcases first_no6 hx' with h1 | ⟨h1, h2 | ⟨h2, h3 | ⟨h3, h4 | ⟨h4, h5 | ⟨h5, h6⟩⟩⟩⟩⟩
        case inr.inr.inr.inr.inr =>
          have h4' : (f (k * 4 + 1) == f (k * 4 + 2)) = false := by simpa using h4
          have h7 : ¬ k = 0 ∧ f (k * 4) < f ((k - 1) * 4) := by simpa using h6
          have hj' : k = j + 1 := by omega
          have h8 : f (k * 4) < f (j * 4) := by have := h7.2; rwa [show k - 1 = j by omega] at this
          have cj := Below.cellOf hb rfl (hI.c0 j (by omega) (by decide))
          have cjj := cj
          have e1 : IntKind.i64.wrap ((k : Int) - 1) = j := by rw [show (k : Int) - 1 = j by omega]; exact IntWalk.i64_in _ (by omega)
          have l2 : (0 : Int) < k := by omega
          have l2' : 0 < k := by omega
          have l3 : (j : Int) < n := by omega
          have l4 : j < n := by omega
          clear hx hx' h4 h6 h7 hj' hj
          go_wp2_with fail
          go_quiet ((first | (go_at_call 26; exact Calls.quiet_of_same ((spec_l03Day_any _ _).mono (fun _ _ h => ⟨h.1, h.2.symm⟩))) | (go_at_call 25; exact Calls.quiet_of_same ((spec_l00In_any _ _ _ _).mono (fun _ _ h => ⟨h.1, h.2.symm⟩))) | (go_at_call 49; exact Calls.quiet_of_same ((spec_l03Account_any _ _).mono (fun _ _ h => ⟨h.1, h.2.symm⟩))))); go_wp2
          go_ret
          exact ⟨ret_bool HF.out.symm, hb.trans (Below.mono (B := wr.heap.size) (Below.drewN' (by first | go_grown | exact Below.refl _ _) _) hb.size)⟩
        all_goals
          try have h4' : (f (k * 4 + 1) == f (k * 4 + 2)) = true := by simpa using h4
          try have h4'' : (f (k * 4 + 1) == f (k * 4 + 2)) = false := by simpa using h4
          clear hx hx' hj
          try clear h4
          go_wp2_with fail
          go_quiet ((first | (go_at_call 26; exact Calls.quiet_of_same ((spec_l03Day_any _ _).mono (fun _ _ h => ⟨h.1, h.2.symm⟩))) | (go_at_call 25; exact Calls.quiet_of_same ((spec_l00In_any _ _ _ _).mono (fun _ _ h => ⟨h.1, h.2.symm⟩))) | (go_at_call 49; exact Calls.quiet_of_same ((spec_l03Account_any _ _).mono (fun _ _ h => ⟨h.1, h.2.symm⟩))))); go_wp2
          go_ret
          exact ⟨ret_bool HF.out.symm, hb.trans (Below.mono (B := wr.heap.size) (Below.drewN' (by first | go_grown | exact Below.refl _ _) _) hb.size)⟩
      · have HF := Lib.hid (allB_succ ha.out hx)
        obtain ⟨h1, h2, h3, h4, h5, h6⟩ := all_yes6 hx
        have h4' : (f (k * 4 + 1) == f (k * 4 + 2)) = false := by simpa using h4
        rcases hj with ⟨hk0, _⟩ | hj
        · have l2 : decide ((0 : Int) < (k : Int)) = false := decide_eq_false (by omega)
          have l2' : decide (0 < k) = false := decide_eq_false (by omega)
          clear hx h4 h6 hk0
          go_wp2_with fail
          go_quiet ((first | (go_at_call 26; exact Calls.quiet_of_same ((spec_l03Day_any _ _).mono (fun _ _ h => ⟨h.1, h.2.symm⟩))) | (go_at_call 25; exact Calls.quiet_of_same ((spec_l00In_any _ _ _ _).mono (fun _ _ h => ⟨h.1, h.2.symm⟩))) | (go_at_call 49; exact Calls.quiet_of_same ((spec_l03Account_any _ _).mono (fun _ _ h => ⟨h.1, h.2.symm⟩))))); go_wp2
          go_roundw
          case rel => exact ⟨k + 1, by omega, by go_num, HF, hb.trans (Below.mono (B := wr.heap.size) (Below.drewN' (by first | go_grown | exact Below.refl _ _) _) hb.size)⟩
          case measure => simp [intOf]; omega
        · have h8 : ¬ f (k * 4) < f (j * 4) := by
            have h6' : k = 0 ∨ f ((k - 1) * 4) ≤ f (k * 4) := by simpa using h6
            rw [show k - 1 = j by omega] at h6'
            omega
          have cj := Below.cellOf hb rfl (hI.c0 j (by omega) (by decide))
          have cjj := cj
          have e1 : IntKind.i64.wrap ((k : Int) - 1) = j := by rw [show (k : Int) - 1 = j by omega]; exact IntWalk.i64_in _ (by omega)
          have l2 : (0 : Int) < k := by omega
          have l2' : 0 < k := by omega
          have l3 : (j : Int) < n := by omega
          have l4 : j < n := by omega
          have h8' : decide (f (k * 4) < f (j * 4)) = false := decide_eq_false h8
          clear hx h4 h6 hj
          go_wp2_with fail
          go_quiet ((first | (go_at_call 26; exact Calls.quiet_of_same ((spec_l03Day_any _ _).mono (fun _ _ h => ⟨h.1, h.2.symm⟩))) | (go_at_call 25; exact Calls.quiet_of_same ((spec_l00In_any _ _ _ _).mono (fun _ _ h => ⟨h.1, h.2.symm⟩))) | (go_at_call 49; exact Calls.quiet_of_same ((spec_l03Account_any _ _).mono (fun _ _ h => ⟨h.1, h.2.symm⟩))))); go_wp2
          go_roundw
          case rel => exact ⟨k + 1, by omega, by go_num, HF, hb.trans (Below.mono (B := wr.heap.size) (Below.drewN' (by first | go_grown | exact Below.refl _ _) _) hb.size)⟩
          case measure => simp [intOf]; omega
    · obtain rfl : k = n := by omega
      have HF : Hid (entriesOk f k = decide (k ≤ 64)) := entries_out ha.out
      by_cases h1 : k ≤ 64
      · have HW : Hid (decide (k ≤ 64) = true) := decide_eq_true h1
        go_wp2
        go_ret
        exact ⟨ret_bool (by rw [HF.out, HW.out]; try (simp; omega)), hb⟩
      · have HW : Hid (decide (k ≤ 64) = false) := decide_eq_false h1
        go_wp2
        go_ret
        exact ⟨ret_bool (by rw [HF.out, HW.out]; try (simp; omega)), hb⟩
end Go.Proofs.Ytpigjhagdpeofaa

namespace Go.Proofs.Ytpigjhagdpeofaa
open Go.RowKit
set_option linter.unusedVariables false

/-- h 0, h 1, .. h (k - 1). -/
def tab (h : Nat → Int) : Nat → List Int
  | 0 => []
  | k + 1 => tab h k ++ [h k]
theorem tab_length (h : Nat → Int) (k : Nat) : (tab h k).length = k := by
  induction k with
  | zero => rfl
  | succ k ih => simp [tab, ih]
theorem tab_get (h : Nat → Int) (n i : Nat) (hi : i < n) : (tab h n).getD i 0 = h i := by
  induction n with
  | zero => omega
  | succ n ih =>
    have hl := tab_length h n
    by_cases e : i < n
    · rw [tab, List.getD_eq_getElem?_getD, List.getElem?_append_left (by omega), ← List.getD_eq_getElem?_getD]; exact ih e
    · obtain rfl : i = n := by omega
      rw [tab, List.getD_eq_getElem?_getD, List.getElem?_append_right (by omega), hl, Nat.sub_self]; rfl
theorem tab_congr (h h' : Nat → Int) (n : Nat) (e : ∀ i, i < n → h i = h' i) : tab h n = tab h' n := by
  induction n with
  | zero => rfl
  | succ n ih => rw [tab, tab, ih (fun i hi => e i (by omega)), e n (by omega)]
theorem tab_set (h h' : Nat → Int) (n j : Nat) (hj : j < n) (e : ∀ i, i < n → i ≠ j → h i = h' i) : (tab h n).set j (h' j) = tab h' n := by
  induction n with
  | zero => omega
  | succ n ih =>
    have hl := tab_length h n
    by_cases e1 : j < n
    · rw [tab, tab, List.set_append_left _ _ (by omega), ih e1 (fun i hi => e i (by omega)), e n (by omega) (by omega)]
    · obtain rfl : j = n := by omega
      rw [tab, tab, List.set_append_right _ _ (by omega), hl, Nat.sub_self, tab_congr h h' j (fun i hi => e i (by omega) (by omega))]; rfl
theorem tab_rep (n : Nat) (h : Nat → Int) (e : ∀ i, h i = 0) : List.replicate n 0 = tab h n := by
  induction n with
  | zero => rfl
  | succ n ih => rw [List.replicate_succ', ih, tab, e n]
end Go.Proofs.Ytpigjhagdpeofaa

namespace Go.Proofs.Ytpigjhagdpeofaa
open Go.RowKit
set_option linter.unusedVariables false

/-- An account's balance behind the first entries, of those up to a day. -/
def balF (f : Nat → Int) (d : Int) : Nat → Nat → Int
  | 0, _ => 0
  | k + 1, a => balF f d k a + (if f (k * 4) ≤ d then (if f (k * 4 + 1) = (a : Int) then f (k * 4 + 3) else 0) - (if f (k * 4 + 2) = (a : Int) then f (k * 4 + 3) else 0) else 0)
section
variable {f : Nat → Int} {d : Int} {k x y : Nat}
theorem bal_skip (h : ¬ f (k * 4) ≤ d) : tab (balF f d (k + 1)) 12 = tab (balF f d k) 12 := tab_congr _ _ _ fun i _ => by simp [balF, h]
/-- The balances with one of them raised. -/
def balH (f : Nat → Int) (d : Int) (k x : Nat) (a : Nat) : Int := if a = x then balF f d k x + f (k * 4 + 3) else balF f d k a
theorem balH_at : balH f d k x x = balF f d k x + f (k * 4 + 3) := by simp [balH]
theorem balH_off (h : y ≠ x) : balH f d k x y = balF f d k y := by simp [balH, h]
theorem bal_one (hx : x < 12) : (tab (balF f d k) 12).set x (balF f d k x + f (k * 4 + 3)) = tab (balH f d k x) 12 := by
  rw [← balH_at]; exact tab_set _ _ 12 x hx (fun i _ hi => (balH_off hi).symm)
theorem bal_two (h : f (k * 4) ≤ d) (h1 : f (k * 4 + 1) = (x : Int)) (h2 : f (k * 4 + 2) = (y : Int)) (hxy : x ≠ y) (hy : y < 12) :
    (tab (balH f d k x) 12).set y (balF f d k y - f (k * 4 + 3)) = tab (balF f d (k + 1)) 12 := by
  have e : balF f d (k + 1) y = balF f d k y - f (k * 4 + 3) := by
    have : ¬ (x : Int) = (y : Int) := by omega
    simp only [balF, h, h1, h2, if_true, this, if_false]; omega
  rw [← e]
  refine tab_set _ _ 12 y hy (fun i _ hi => ?_)
  have n2 : ¬ (y : Int) = (i : Int) := by omega
  by_cases hix : i = x
  · subst hix
    rw [balH_at]
    simp only [balF, h, h1, h2, if_true, n2, if_false]; omega
  · rw [balH_off hix]
    have n1 : ¬ (x : Int) = (i : Int) := by omega
    simp only [balF, h, h1, h2, if_true, n1, n2, if_false]; omega
theorem bal_bd {n : Nat} (hc : ∀ i, i < n → 0 ≤ f (i * 4 + 3) ∧ f (i * 4 + 3) ≤ 1000000000) : ∀ k, k ≤ n → ∀ a, -1000000000 * (k : Int) ≤ balF f d k a ∧ balF f d k a ≤ 1000000000 * (k : Int) := by
  intro k
  induction k with
  | zero => intro _ a; simp [balF]
  | succ k ih =>
    intro hk a
    have h1 := ih (by omega) a
    have h2 := hc k (by omega)
    simp only [balF]
    split
    · split <;> split <;> omega
    · omega
end
theorem entries_is {f : Nat → Int} {n : Nat} (h : entriesOk f n = true) : n ≤ 64 ∧ ∀ i, i < n → (0 ≤ f (i * 4 + 1) ∧ f (i * 4 + 1) ≤ 11) ∧ (0 ≤ f (i * 4 + 2) ∧ f (i * 4 + 2) ≤ 11) ∧ f (i * 4 + 1) ≠ f (i * 4 + 2) ∧ 0 ≤ f (i * 4 + 3) ∧ f (i * 4 + 3) ≤ 1000000000 := by
  obtain ⟨h1, h2⟩ := all_yes2 h
  refine ⟨of_decide_eq_true h2, fun i hi => ?_⟩
  obtain ⟨a, b, c, e, g, _⟩ := all_yes6 (allB_iff.1 h1 i hi)
  have e' : ¬ f (i * 4 + 1) = f (i * 4 + 2) := by simpa using e
  exact ⟨win_iff.1 b, win_iff.1 c, e', by have := (win_iff.1 g).1; omega, (win_iff.1 g).2⟩

def BalOf (E : TypeId) (w : World) (xs : List Int) (e : Ending) (w' : World) : Prop := ∃ v, e = .returned v ∧ Own E w' w.heap.size v xs ∧ Below w.heap.size w w'

set_option maxRecDepth 4000 in
set_option maxHeartbeats 3200000 in
theorem bal_impl (n c g : Nat) (f : Nat → Int) (d : Int) (w : World) (hI : RowC w g 0 n 4 f) (h : entriesOk f n = true) :
    Calls Sq.prog 55 #[.slice (some ⟨g, 0, none⟩) n c, .int .i64 d] w (BalOf 2 w (tab (balF f d n) 12)) := by
  obtain ⟨hn, he⟩ := entries_is h
  have HE := Lib.hid he
  have HS : Hid (∀ k, k ≤ n → ∀ a, -64000000000 ≤ balF f d k a ∧ balF f d k a ≤ 64000000000) := fun k hk a => by
    have := bal_bd (d := d) (fun i hi => (he i hi).2.2.2) k hk a
    omega
  clear he h
  have T0 : Hid (List.replicate 12 0 = tab (balF f d 0) 12) := tab_rep 12 _ (fun _ => rfl)
  go_enter Sq.func55, Sq.ntmps55
  go_wp2_with (first | (at_make; refine wpList_mk _ rfl _ _ 23 rfl w.heap.size 2 Sq.infoI Sq.underlying23 _ _ _ _ 12 rfl rfl rfl rfl (by omega) (Nat.le_refl _) ?_; intro w4 hown4 hb4))
  have hown0 := hown4
  rw [T0.out] at hown0
  clear hown4
  go_loopw [11] (fun i wr => ∃ k : Nat, k ≤ n ∧ i = .int .i64 k ∧ Own 2 wr w.heap.size (.slice (some ⟨w.heap.size, 0, none⟩) 12 12) (tab (balF f d k) 12) ∧ Below w.heap.size w wr) (fun i _ => n - (intOf i).toNat)
  case atStart => exact ⟨0, Nat.zero_le _, rfl, hown0, hb4⟩
  case round =>
    obtain ⟨k, hk, rfl, hown, hbr⟩ := hrel
    by_cases hlt : k < n
    · have c0 := Below.cellOf hbr rfl (hI.c0 k hlt (by decide))
      have c1 := Below.cellOf hbr rfl (hI.cs k 1 hlt (by decide))
      have c2 := Below.cellOf hbr rfl (hI.cs k 2 hlt (by decide))
      have c3 := Below.cellOf hbr rfl (hI.cs k 3 hlt (by decide))
      have l1 : (k : Int) < n := by omega
      by_cases hd : f (k * 4) ≤ d
      · obtain ⟨⟨x0, x1⟩, ⟨y0, y1⟩, hne, q0, q1⟩ := HE.out k hlt
        obtain ⟨x, hx⟩ : ∃ x : Nat, f (k * 4 + 1) = x := ⟨(f (k * 4 + 1)).toNat, by omega⟩
        obtain ⟨y, hy⟩ : ∃ y : Nat, f (k * 4 + 2) = y := ⟨(f (k * 4 + 2)).toNat, by omega⟩
        have hx12 : x < 12 := by omega
        have hy12 : y < 12 := by omega
        have hxy : x ≠ y := by omega
        have H1 := Lib.hid (bal_one (f := f) (d := d) (k := k) hx12)
        have H2 := Lib.hid (bal_two hd hx hy hxy hy12)
        have H3 := Lib.hid (balH_off (f := f) (d := d) (k := k) (Ne.symm hxy))
        rw [hx] at c1
        rw [hy] at c2
        have s1 := HS.out k hk x
        have s2 := HS.out k hk y
        have HT := Lib.hid (tab_length (balF f d k) 12)
        have HT2 := Lib.hid (tab_length (balH f d k x) 12)
        have hb1 : Below wr.heap.size wr (wr.alloc (.cells #[.int .i64 (f (k * 4)), .int .i64 (x : Int), .int .i64 (y : Int), .int .i64 (f (k * 4 + 3))] 52)) := by go_grown
        have hownA := hown.below hb1
        have b1 : (wr.alloc (.cells #[.int .i64 (f (k * 4)), .int .i64 (x : Int), .int .i64 (y : Int), .int .i64 (f (k * 4 + 3))] 52)).cell? ⟨wr.heap.size, 1, none⟩ = some (.int .i64 (x : Int)) := by simp [go_sem]
        have b2 : (wr.alloc (.cells #[.int .i64 (f (k * 4)), .int .i64 (x : Int), .int .i64 (y : Int), .int .i64 (f (k * 4 + 3))] 52)).cell? ⟨wr.heap.size, 2, none⟩ = some (.int .i64 (y : Int)) := by simp [go_sem]
        have b3 : (wr.alloc (.cells #[.int .i64 (f (k * 4)), .int .i64 (x : Int), .int .i64 (y : Int), .int .i64 (f (k * 4 + 3))] 52)).cell? ⟨wr.heap.size, 3, none⟩ = some (.int .i64 (f (k * 4 + 3))) := by simp [go_sem]
        have hlo := (hown.lt _ rfl).2
        have d4 := hownA.cellAt x (by rw [HT.out]; exact hx12)
        rw [tab_get _ _ _ hx12] at d4
        have d5 := hownA.freeAt x
        have HR := Lib.hid hown
        have HRA := Lib.hid hownA
        have e1 : IntKind.i64.wrap (balF f d k x + f (k * 4 + 3)) = balF f d k x + f (k * 4 + 3) := IntWalk.i64_in _ (by omega)
        have e2 : IntKind.i64.wrap (balF f d k y - f (k * 4 + 3)) = balF f d k y - f (k * 4 + 3) := IntWalk.i64_in _ (by omega)
        have x2 : (x : Int) < 12 := by omega
        have y2 : (y : Int) < 12 := by omega
        clear hx hy x0 x1 y0 y1 hne hown hownA hxy
        go_wp2_with fail
        generalize hW1 : (wr.alloc (.cells #[.int .i64 (f (k * 4)), .int .i64 (x : Int), .int .i64 (y : Int), .int .i64 (f (k * 4 + 3))] 52)) = W1 at *
        clear hW1
        go_still_tail 9, (by kernel_rfl)
        change wpList _ _ _ _ _ W1.drew
        go_wp2
        have hb2 : Below wr.heap.size wr (W1.drew) := hb1.drew
        have hown2 : Own 2 ((W1.setCell ⟨w.heap.size, x, none⟩ (.int .i64 (balF f d k x + f (k * 4 + 3)))).drew) w.heap.size (.slice (some ⟨w.heap.size, 0, none⟩) 12 12) ((tab (balF f d k) 12).set x (balF f d k x + f (k * 4 + 3))) := (HRA.out.below ((Below.refl W1.heap.size W1).drew)).set HT.out.symm x (balF f d k x + f (k * 4 + 3))
        rw [H1.out] at hown2
        have k4 := hown2.cellAt y (by rw [HT2.out]; exact hy12)
        rw [tab_get _ _ _ hy12, H3.out] at k4
        have k5 := hown2.freeAt y
        have hbW : Below w.heap.size w ((W1.setCell ⟨w.heap.size, x, none⟩ (.int .i64 (balF f d k x + f (k * 4 + 3)))).drew) := (hbr.trans (hb2.mono hbr.size)).setCell (Nat.le_refl _) _
        have k2 : ((W1.setCell ⟨w.heap.size, x, none⟩ (.int .i64 (balF f d k x + f (k * 4 + 3)))).drew).cell? ⟨wr.heap.size, 2, none⟩ = some (.int .i64 (y : Int)) := (World.cell?_setCell_other W1 _ _ _ (by intro e; have e1 : w.heap.size = wr.heap.size := congrArg Addr.block e; omega)).trans b2
        have k3 : ((W1.setCell ⟨w.heap.size, x, none⟩ (.int .i64 (balF f d k x + f (k * 4 + 3)))).drew).cell? ⟨wr.heap.size, 3, none⟩ = some (.int .i64 (f (k * 4 + 3))) := (World.cell?_setCell_other W1 _ _ _ (by intro e; have e1 : w.heap.size = wr.heap.size := congrArg Addr.block e; omega)).trans b3
        have HR2 := Lib.hid hown2
        clear hown2 d4 d5
        generalize hW2 : (W1.setCell ⟨w.heap.size, x, none⟩ (.int .i64 (balF f d k x + f (k * 4 + 3)))).drew = W2 at *
        clear hW2
        go_still_tail 9, (by kernel_rfl)
        change wpList _ _ _ _ _ W2.drew
        go_wp2
        have hown3 := (HR2.out.below ((Below.refl W2.heap.size W2).drew)).set HT2.out.symm y (balF f d k y - f (k * 4 + 3))
        rw [H2.out] at hown3
        go_roundw
        case rel => exact ⟨k + 1, by omega, by go_num, hown3, hbW.drew.setCell (Nat.le_refl _) _⟩
        case measure => simp [intOf]; omega
      · have H1 := Lib.hid (bal_skip (f := f) (d := d) (k := k) hd)
        have HR := Lib.hid hown
        clear hown
        go_wp2
        go_roundw
        case rel => exact ⟨k + 1, by omega, by go_num, by rw [H1.out]; exact HR.out.below (by first | go_grown | exact Below.refl _ _), hbr.trans (Below.mono (B := wr.heap.size) (by first | go_grown | exact Below.refl _ _) hbr.size)⟩
        case measure => simp [intOf]; omega
    · obtain rfl : k = n := by omega
      have HR := Lib.hid hown
      clear hown
      go_wp2
      go_ret
      exact ⟨_, rfl, HR.out, hbr⟩

set_option maxRecDepth 4000 in
set_option maxHeartbeats 3200000 in
theorem bal_spec (n c g : Nat) (f : Nat → Int) (d : Int) (w : World) (hI : RowC w g 0 n 4 f) (h : entriesOk f n = true) :
    Calls Sq.prog 27 #[.slice (some ⟨g, 0, none⟩) n c, .int .i64 d] w (BalOf 2 w (tab (balF f d n) 12)) := by
  obtain ⟨hn, he⟩ := entries_is h
  have HE := Lib.hid he
  have HS : Hid (∀ k, k ≤ n → ∀ a, -64000000000 ≤ balF f d k a ∧ balF f d k a ≤ 64000000000) := fun k hk a => by
    have := bal_bd (d := d) (fun i hi => (he i hi).2.2.2) k hk a
    omega
  clear he h
  have T0 : Hid (List.replicate 12 0 = tab (balF f d 0) 12) := tab_rep 12 _ (fun _ => rfl)
  go_enter Sq.func27, Sq.ntmps27
  go_wp2_with (first | (at_make; refine wpList_mk _ rfl _ _ 23 rfl w.heap.size 2 Sq.infoI Sq.underlying23 _ _ _ _ 12 rfl rfl rfl rfl (by omega) (Nat.le_refl _) ?_; intro w4 hown4 hb4))
  have hown0 := hown4
  rw [T0.out] at hown0
  clear hown4
  go_loopw [10] (fun i wr => ∃ k : Nat, k ≤ n ∧ i = .int .i64 k ∧ Own 2 wr w.heap.size (.slice (some ⟨w.heap.size, 0, none⟩) 12 12) (tab (balF f d k) 12) ∧ Below w.heap.size w wr) (fun i _ => n - (intOf i).toNat)
  case atStart => exact ⟨0, Nat.zero_le _, rfl, hown0, hb4⟩
  case round =>
    obtain ⟨k, hk, rfl, hown, hbr⟩ := hrel
    by_cases hlt : k < n
    · have c0 := Below.cellOf hbr rfl (hI.c0 k hlt (by decide))
      have c1 := Below.cellOf hbr rfl (hI.cs k 1 hlt (by decide))
      have c2 := Below.cellOf hbr rfl (hI.cs k 2 hlt (by decide))
      have c3 := Below.cellOf hbr rfl (hI.cs k 3 hlt (by decide))
      have l1 : (k : Int) < n := by omega
      by_cases hd : f (k * 4) ≤ d
      · obtain ⟨⟨x0, x1⟩, ⟨y0, y1⟩, hne, q0, q1⟩ := HE.out k hlt
        obtain ⟨x, hx⟩ : ∃ x : Nat, f (k * 4 + 1) = x := ⟨(f (k * 4 + 1)).toNat, by omega⟩
        obtain ⟨y, hy⟩ : ∃ y : Nat, f (k * 4 + 2) = y := ⟨(f (k * 4 + 2)).toNat, by omega⟩
        have hx12 : x < 12 := by omega
        have hy12 : y < 12 := by omega
        have hxy : x ≠ y := by omega
        have H1 := Lib.hid (bal_one (f := f) (d := d) (k := k) hx12)
        have H2 := Lib.hid (bal_two hd hx hy hxy hy12)
        have H3 := Lib.hid (balH_off (f := f) (d := d) (k := k) (Ne.symm hxy))
        rw [hx] at c1
        rw [hy] at c2
        have s1 := HS.out k hk x
        have s2 := HS.out k hk y
        have HT := Lib.hid (tab_length (balF f d k) 12)
        have HT2 := Lib.hid (tab_length (balH f d k x) 12)
        have hownA := hown
        have glt : g < w.heap.size := World.block_lt_of_cell? w _ (hI.c0 k hlt (by decide))
        have d4 := hownA.cellAt x (by rw [HT.out]; exact hx12)
        rw [tab_get _ _ _ hx12] at d4
        have d5 := hownA.freeAt x
        have HR := Lib.hid hown
        have HRA := Lib.hid hownA
        have e1 : IntKind.i64.wrap (balF f d k x + f (k * 4 + 3)) = balF f d k x + f (k * 4 + 3) := IntWalk.i64_in _ (by omega)
        have e2 : IntKind.i64.wrap (balF f d k y - f (k * 4 + 3)) = balF f d k y - f (k * 4 + 3) := IntWalk.i64_in _ (by omega)
        have x2 : (x : Int) < 12 := by omega
        have y2 : (y : Int) < 12 := by omega
        clear hx hy x0 x1 y0 y1 hne hown hownA hxy
        go_wp2_with fail
        generalize hW1 : wr = W1 at *
        clear hW1
        go_still_tail 15, (by kernel_rfl)
        change wpList _ _ _ _ _ W1.drew
        go_wp2
        have hb2 : Below W1.heap.size W1 (W1.drew) := (Below.refl _ _).drew
        have hown2 : Own 2 ((W1.setCell ⟨w.heap.size, x, none⟩ (.int .i64 (balF f d k x + f (k * 4 + 3)))).drew) w.heap.size (.slice (some ⟨w.heap.size, 0, none⟩) 12 12) ((tab (balF f d k) 12).set x (balF f d k x + f (k * 4 + 3))) := (HRA.out.below ((Below.refl W1.heap.size W1).drew)).set HT.out.symm x (balF f d k x + f (k * 4 + 3))
        rw [H1.out] at hown2
        have k4 := hown2.cellAt y (by rw [HT2.out]; exact hy12)
        rw [tab_get _ _ _ hy12, H3.out] at k4
        have k5 := hown2.freeAt y
        have hbW : Below w.heap.size w ((W1.setCell ⟨w.heap.size, x, none⟩ (.int .i64 (balF f d k x + f (k * 4 + 3)))).drew) := (hbr.trans (hb2.mono hbr.size)).setCell (Nat.le_refl _) _
        have k2 : ((W1.setCell ⟨w.heap.size, x, none⟩ (.int .i64 (balF f d k x + f (k * 4 + 3)))).drew).cell? ⟨g, k * 4 + 2, none⟩ = some (.int .i64 (y : Int)) := (World.cell?_setCell_other W1 _ _ _ (by intro e; have e1 : w.heap.size = g := congrArg Addr.block e; omega)).trans c2
        have k3 : ((W1.setCell ⟨w.heap.size, x, none⟩ (.int .i64 (balF f d k x + f (k * 4 + 3)))).drew).cell? ⟨g, k * 4 + 3, none⟩ = some (.int .i64 (f (k * 4 + 3))) := (World.cell?_setCell_other W1 _ _ _ (by intro e; have e1 : w.heap.size = g := congrArg Addr.block e; omega)).trans c3
        have HR2 := Lib.hid hown2
        clear hown2 d4 d5
        generalize hW2 : (W1.setCell ⟨w.heap.size, x, none⟩ (.int .i64 (balF f d k x + f (k * 4 + 3)))).drew = W2 at *
        clear hW2
        go_still_tail 15, (by kernel_rfl)
        change wpList _ _ _ _ _ W2.drew
        go_wp2
        have hown3 := (HR2.out.below ((Below.refl W2.heap.size W2).drew)).set HT2.out.symm y (balF f d k y - f (k * 4 + 3))
        rw [H2.out] at hown3
        go_roundw
        case rel => exact ⟨k + 1, by omega, by go_num, hown3, hbW.drew.setCell (Nat.le_refl _) _⟩
        case measure => simp [intOf]; omega
      · have H1 := Lib.hid (bal_skip (f := f) (d := d) (k := k) hd)
        have HR := Lib.hid hown
        clear hown
        go_wp2
        go_roundw
        case rel => exact ⟨k + 1, by omega, by go_num, by rw [H1.out]; exact HR.out.below (by first | go_grown | exact Below.refl _ _), hbr.trans (Below.mono (B := wr.heap.size) (by first | go_grown | exact Below.refl _ _) hbr.size)⟩
        case measure => simp [intOf]; omega
    · obtain rfl : k = n := by omega
      have HR := Lib.hid hown
      clear hown
      go_wp2
      go_ret
      exact ⟨_, rfl, HR.out, hbr⟩
end Go.Proofs.Ytpigjhagdpeofaa

namespace Go.Proofs.Ytpigjhagdpeofaa
open Go.RowKit

/-- Whether the first n numbers lie in a range. -/
def allW (f : Nat → Int) (l h : Int) : Nat → Bool
  | 0 => true
  | k + 1 => allW f l h k && win (f k) l h
theorem allW_iff {f : Nat → Int} {l h : Int} {n : Nat} : allW f l h n = true ↔ ∀ i, i < n → l ≤ f i ∧ f i ≤ h := by
  induction n with
  | zero => simp [allW]
  | succ n ih =>
    simp only [allW, Bool.and_eq_true, ih, win_iff]
    constructor
    · rintro ⟨h1, h2⟩ i hi
      rcases Nat.lt_succ_iff_lt_or_eq.1 hi with h3 | rfl
      · exact h1 i h3
      · exact h2
    · exact fun h => ⟨fun i hi => h i (by omega), h n (by omega)⟩
theorem allW_false {f : Nat → Int} {l h : Int} {n : Nat} (k : Nat) (hk : k < n) (hf : win (f k) l h = false) : allW f l h n = false := by
  cases ha : allW f l h n
  · rfl
  · have := win_iff.2 (allW_iff.1 ha k hk)
    rw [hf] at this; cases this
theorem allW_succ {f : Nat → Int} {l h : Int} {k : Nat} (h1 : allW f l h k = true) (h2 : win (f k) l h = true) : allW f l h (k + 1) = true := by simp [allW, h1, h2]

/-- Whether there are so many numbers, all of them in a range. -/
def cntB (f : Nat → Int) (n : Nat) (a b l h : Int) : Bool := win n a b && allW f l h n
theorem cntB_iff {f : Nat → Int} {n : Nat} {a b l h : Int} : cntB f n a b l h = true ↔ (a ≤ n ∧ (n : Int) ≤ b) ∧ ∀ i, i < n → l ≤ f i ∧ f i ≤ h := by
  simp only [cntB, Bool.and_eq_true, win_iff, allW_iff]

theorem cnt_no {f : Nat → Int} {n : Nat} {a b l h : Int} (z : win n a b = false) : cntB f n a b l h = false := by simp only [cntB, z]; rfl
theorem cnt_no2 {f : Nat → Int} {n : Nat} {a b l h : Int} (z : allW f l h n = false) : cntB f n a b l h = false := by simp only [cntB, z]; simp
/-- The sum of the first n numbers. -/
def sumTo (f : Nat → Int) : Nat → Int
  | 0 => 0
  | k + 1 => sumTo f k + f k
theorem sumTo_bd {f : Nat → Int} {l h : Int} {n : Nat} (hf : ∀ i, i < n → l ≤ f i ∧ f i ≤ h) (hl : l ≤ 0) (hh : 0 ≤ h) : ∀ k, k ≤ n → l * n ≤ sumTo f k ∧ sumTo f k ≤ h * n := by
  have key : ∀ k, k ≤ n → l * k ≤ sumTo f k ∧ sumTo f k ≤ h * k := by
    intro k
    induction k with
    | zero => intro _; simp [sumTo]
    | succ k ih =>
      intro hk
      have h1 := ih (by omega)
      have h2 := hf k (by omega)
      simp only [sumTo]
      rw [show ((k + 1 : Nat) : Int) = (k : Int) + 1 from by omega, Int.mul_add, Int.mul_add, Int.mul_one, Int.mul_one]
      omega
  intro k hk
  have h1 := key k hk
  have h2 : l * (n : Int) ≤ l * k := Int.mul_le_mul_of_nonpos_left hl (by omega)
  have h3 : h * (k : Int) ≤ h * n := Int.mul_le_mul_of_nonneg_left (by omega) hh
  omega
theorem sumTo_nonneg {f : Nat → Int} {n : Nat} (hf : ∀ i, i < n → 0 ≤ f i) : ∀ k, k ≤ n → 0 ≤ sumTo f k := by
  intro k
  induction k with
  | zero => intro _; simp [sumTo]
  | succ k ih => intro hk; have := ih (by omega); have := hf k (by omega); simp only [sumTo]; omega
end Go.Proofs.Ytpigjhagdpeofaa

namespace Go.Proofs.Ytpigjhagdpeofaa
open Go.RowKit
set_option linter.unusedVariables false

def posF (f : Nat → Int) (n : Nat) (d : Int) : Int := sumTo (fun j => max (balF f d n j) 0) 12
set_option maxHeartbeats 1600000 in
theorem positives_impl (n c g : Nat) (f : Nat → Int) (d : Int) (w : World) (hI : RowC w g 0 n 4 f) (h : entriesOk f n = true) :
    Calls Sq.prog 35 #[.slice (some ⟨g, 0, none⟩) n c, .int .i64 d] w fun e w' => e = .returned (.int .i64 (posF f n d)) ∧ Below w.heap.size w w' := by
  have H := Lib.hid h
  obtain ⟨hn, he⟩ := entries_is h
  have HB : Hid (∀ a, balF f d n a ≤ 64000000000) := fun a => by
    have := bal_bd (d := d) (fun i hi => (he i hi).2.2.2) n (Nat.le_refl _) a
    omega
  have HS : Hid (∀ k, k ≤ 12 → 0 ≤ sumTo (fun j => max (balF f d n j) 0) k ∧ sumTo (fun j => max (balF f d n j) 0) k ≤ 64000000000 * 12) := fun k hk => by
    have := sumTo_bd (f := fun j => max (balF f d n j) 0) (l := 0) (h := 64000000000) (n := 12) (fun i _ => ⟨by omega, by have := HB.out i; omega⟩) (by omega) (by omega) k hk
    omega
  clear he h
  go_enter Sq.func35, Sq.ntmps35
  go_wp2_with fail
  refine (bal_impl n c g f d _ hI H.out).mono ?_
  rintro e w2 ⟨v, rfl, hv, hb⟩
  obtain ⟨a, cap, rfl, hs⟩ := hv.shape
  obtain ⟨g2, rfl, _⟩ := hs (by intro e; have := congrArg List.length e; rw [tab_length] at this; cases this)
  have HT := Lib.hid (tab_length (balF f d n) 12)
  rw [HT.out]
  rw [HT.out] at hv
  clear hs
  go_wp2
  go_loop [5, 12] (fun s i => ∃ k : Nat, k ≤ 12 ∧ i = .int .i64 k ∧ s = .int .i64 (sumTo (fun j => max (balF f d n j) 0) k)) (fun _ i => 12 - (intOf i).toNat)
  case atStart => exact ⟨0, Nat.zero_le _, rfl, rfl⟩
  case round =>
    obtain ⟨k, hk, rfl, rfl⟩ := hrel
    by_cases hlt : k < 12
    · have hc := hv.cellAt k (by rw [tab_length]; exact hlt)
      rw [tab_get _ _ _ hlt] at hc
      have s1 := HS.out k hk
      have b1 := HB.out k
      have HE : Hid (sumTo (fun j => max (balF f d n j) 0) (k + 1) = sumTo (fun j => max (balF f d n j) 0) k + max (balF f d n k) 0) := rfl
      go_wp2
      go_round
      case rel => exact ⟨k + 1, by omega, by go_num, by rw [HE.out]; congr 2; split <;> omega⟩
      case measure => simp [intOf]; omega
    · obtain rfl : k = 12 := by omega
      go_wp2
      go_ret
      exact ⟨rfl, hb⟩
theorem lit34_impl (n c g p : Nat) (f : Nat → Int) (d : Int) (w : World) (hp : w.cell? ⟨p, 0, none⟩ = some (.slice (some ⟨g, 0, none⟩) n c)) (hI : RowC w g 0 n 4 f) (h : entriesOk f n = true) :
    Calls Sq.prog 34 #[.int .i64 d, .pointer (some ⟨p, 0, none⟩)] w fun e w' => e = .returned (.int .i64 (posF f n d)) ∧ Below w.heap.size w w' := by
  go_enter Sq.func34, Sq.ntmps34
  go_wp2_with fail
  refine (positives_impl n c g f d _ hI h).mono ?_
  rintro e w2 ⟨rfl, hb⟩
  go_wp2
  go_ret
  exact ⟨rfl, hb⟩
end Go.Proofs.Ytpigjhagdpeofaa

namespace Go.Proofs.Ytpigjhagdpeofaa
open Go.RowKit
set_option linter.unusedVariables false

theorem areOut_any (n l h : Int) (B1 B2 : Nat) (w : World) (c1 : w.cell? ⟨B1, 0, none⟩ = some (.int .i64 l)) (c2 : w.cell? ⟨B2, 0, none⟩ = some (.int .i64 h)) :
    Calls Sq.prog 71 #[.int .i64 n, .pointer (some ⟨B1, 0, none⟩), .pointer (some ⟨B2, 0, none⟩)] w fun e w' => e = .returned (.bool (!win n l h)) ∧ w = w' := by
  go_enter Sq.func71, Sq.ntmps71
  go_wp2_with (first | (go_at_call 52; refine (impl_within_any _ _ _ _).mono ?_; rintro e w' ⟨rfl, rfl⟩))
  go_ret
  exact ⟨rfl, rfl⟩

/-- An index, or -1. -/
def IdxOut (b : Bool) (w : World) (e : Ending) (w' : World) : Prop := ∃ r : Int, e = .returned (.int .i64 r) ∧ decide (0 ≤ r) = !b ∧ w = w'

set_option maxHeartbeats 800000 in
theorem indexOut_any (n g off c B1 B2 : Nat) (f : Nat → Int) (l h : Int) (w : World) (hn : n < 1000000000) (hI : Ints w g off n f) (c1 : w.cell? ⟨B1, 0, none⟩ = some (.int .i64 l)) (c2 : w.cell? ⟨B2, 0, none⟩ = some (.int .i64 h)) :
    Calls Sq.prog 77 #[.slice (some ⟨g, off, none⟩) n c, .func (.func 71) #[] #[.pointer (some ⟨B1, 0, none⟩), .pointer (some ⟨B2, 0, none⟩)]] w (IdxOut (allW f l h n) w) := by
  go_enter Sq.func77, Sq.ntmps77
  go_wp2
  go_loop [8] (fun i => ∃ k : Nat, k ≤ n ∧ i = .int .i64 k ∧ Hid (allW f l h k = true)) (fun i => n - (intOf i).toNat)
  case atStart => exact ⟨0, Nat.zero_le _, rfl, rfl⟩
  case round =>
    obtain ⟨k, hk, rfl, ha⟩ := hrel
    by_cases hlt : k < n
    · have hc := hI.at k hlt
      cases hw : win (f k) l h
      · have HF := Lib.hid (allW_false k hlt hw)
        go_wp2_with (go_at_call 71; refine (areOut_any _ l h B1 B2 _ c1 c2).mono ?_; rintro e w' ⟨rfl, rfl⟩)
        go_ret
        exact ⟨k, rfl, by rw [HF.out]; simp, rfl⟩
      · have HF := Lib.hid (allW_succ ha.out hw)
        go_wp2_with (go_at_call 71; refine (areOut_any _ l h B1 B2 _ c1 c2).mono ?_; rintro e w' ⟨rfl, rfl⟩)
        go_round
        case rel => exact ⟨k + 1, by omega, by go_num, HF⟩
        case measure => simp [intOf]; omega
    · obtain rfl : k = n := by omega
      go_wp2
      go_ret
      exact ⟨-1, rfl, by rw [ha.out]; rfl, rfl⟩

theorem containsOut_any (n g off c B1 B2 : Nat) (f : Nat → Int) (l h : Int) (w : World) (hn : n < 1000000000) (hI : Ints w g off n f) (c1 : w.cell? ⟨B1, 0, none⟩ = some (.int .i64 l)) (c2 : w.cell? ⟨B2, 0, none⟩ = some (.int .i64 h)) :
    Calls Sq.prog 70 #[.slice (some ⟨g, off, none⟩) n c, .func (.func 71) #[] #[.pointer (some ⟨B1, 0, none⟩), .pointer (some ⟨B2, 0, none⟩)]] w fun e w' => e = .returned (.bool (!allW f l h n)) ∧ w = w' := by
  go_enter Sq.func70, Sq.ntmps70
  go_wp2_with (go_at_call 77; refine (indexOut_any n g off c B1 B2 f l h _ hn hI c1 c2).mono ?_; rintro e w' ⟨r, rfl, hr, rfl⟩)
  go_ret
  first
    | exact ⟨rfl, rfl⟩
    | exact ⟨ret_bool hr, rfl⟩

theorem areWithin_any (n g off c : Nat) (f : Nat → Int) (l h : Int) (w : World) (hn : n < 1000000000) (hI : Ints w g off n f) :
    Calls Sq.prog 53 #[.slice (some ⟨g, off, none⟩) n c, .int .i64 l, .int .i64 h] w (RetV w (.bool (allW f l h n))) := by
  have hb : Below w.heap.size w ((w.alloc (.cells #[.int .i64 l] 2)).alloc (.cells #[.int .i64 h] 2)) := by go_grown
  have hI2 := hI.below hb
  have k1 : ((w.alloc (.cells #[.int .i64 l] 2)).alloc (.cells #[.int .i64 h] 2)).cell? ⟨w.heap.size, 0, none⟩ = some (.int .i64 l) := by simp [go_sem]
  have k2 : ((w.alloc (.cells #[.int .i64 l] 2)).alloc (.cells #[.int .i64 h] 2)).cell? ⟨w.heap.size + 1, 0, none⟩ = some (.int .i64 h) := by simp [go_sem]
  go_enter Sq.func53, Sq.ntmps53
  go_wp2_with (go_at_call 70; refine (containsOut_any n g off c _ _ f l h _ hn hI2 k1 k2).mono ?_; rintro e w' ⟨rfl, rfl⟩)
  go_ret
  exact ⟨ret_bool (by simp), hb⟩

theorem hasCount_any (n g off c : Nat) (f : Nat → Int) (a b : Int) (l h : Int) (w : World) (hn : n < 1000000000) (hI : Ints w g off n f) :
    Calls Sq.prog 31 #[.slice (some ⟨g, off, none⟩) n c, .int .i64 a, .int .i64 b, .int .i64 l, .int .i64 h] w (RetV w (.bool (cntB f n a b l h))) := by
  by_cases h1 : a ≤ (n : Int)
  · by_cases h2 : (n : Int) ≤ b
    · go_enter Sq.func31, Sq.ntmps31
      go_wp2_with (go_at_call 53; refine (areWithin_any n g off c f l h _ hn hI).mono ?_; rintro e w' ⟨rfl, hb⟩)
      go_ret
      exact ⟨ret_bool (by simp [cntB, win, h1, h2]), hb⟩
    · go_enter Sq.func31, Sq.ntmps31
      go_wp2_with fail
      go_ret
      exact ⟨ret_bool (by first | (rw [cnt_no (by rw [win_not]; omega)]; done) | (rw [cnt_no (by rw [win_not]; omega)]; simp; done) | (rw [cnt_no (by rw [win_not]; omega)]; simp; omega)), Below.refl _ _⟩
  · go_enter Sq.func31, Sq.ntmps31
    go_wp2_with fail
    go_ret
    exact ⟨ret_bool (by first | (rw [cnt_no (by rw [win_not]; omega)]; done) | (rw [cnt_no (by rw [win_not]; omega)]; simp; done) | (rw [cnt_no (by rw [win_not]; omega)]; simp; omega)), Below.refl _ _⟩
end Go.Proofs.Ytpigjhagdpeofaa

namespace Go.Proofs.Ytpigjhagdpeofaa.Sim
open Go
set_option linter.unusedVariables false

/-- A renaming: of a lone block, the block in company and the shift of its places. -/
abbrev Ren := Nat → Option (Nat × Nat)
def Ren.Le (r s : Ren) : Prop := ∀ b x, r b = some x → s b = some x
theorem Ren.Le.refl (r : Ren) : r.Le r := fun _ _ h => h
theorem Ren.Le.trans {r s t : Ren} (h : r.Le s) (k : s.Le t) : r.Le t := fun b x e => k b x (h b x e)

def flat : Value → Bool
  | .bool _ | .int _ _ | .float _ _ | .complex _ _ _ | .string _ | .nilFunc | .nilIface | .pointer none | .slice none _ _ => true
  | _ => false

inductive VRel (ok : FuncId → Bool) (r : Ren) : Value → Value → Prop
  | flat {v : Value} (h : flat v = true) : VRel ok r v v
  | ptr {a : Addr} {c s : Nat} (h : r a.block = some (c, s)) : VRel ok r (.pointer (some a)) (.pointer (some ⟨c, s + a.off, a.spot⟩))
  | slice {a : Addr} {c s l k : Nat} (h : r a.block = some (c, s)) : VRel ok r (.slice (some a) l k) (.slice (some ⟨c, s + a.off, a.spot⟩) l k)
  | func {f : FuncId} {fs gs cs ds : Array Value} (hf : ok f = true) (h1 : fs.size = gs.size) (h2 : ∀ (i : Nat) x y, fs[i]? = some x → gs[i]? = some y → VRel ok r x y)
      (h3 : cs.size = ds.size) (h4 : ∀ (i : Nat) x y, cs[i]? = some x → ds[i]? = some y → VRel ok r x y) : VRel ok r (.func (.func f) fs cs) (.func (.func f) gs ds)
  | agg {cs ds : Array Value} (h1 : cs.size = ds.size) (h2 : ∀ (i : Nat) x y, cs[i]? = some x → ds[i]? = some y → VRel ok r x y) : VRel ok r (.agg cs) (.agg ds)
  | tuple {cs ds : Array Value} (h1 : cs.size = ds.size) (h2 : ∀ (i : Nat) x y, cs[i]? = some x → ds[i]? = some y → VRel ok r x y) : VRel ok r (.tuple cs) (.tuple ds)

/-- Rows of values. -/
def ARel (ok : FuncId → Bool) (r : Ren) (cs ds : Array Value) : Prop := cs.size = ds.size ∧ ∀ (i : Nat) x y, cs[i]? = some x → ds[i]? = some y → VRel ok r x y

section
variable {ok : FuncId → Bool} {r s : Ren}
theorem VRel.mono (hl : r.Le s) {v w : Value} (h : VRel ok r v w) : VRel ok s v w := by
  induction h with
  | flat h => exact .flat h
  | ptr h => exact .ptr (hl _ _ h)
  | slice h => exact .slice (hl _ _ h)
  | func hf h1 _ h3 _ i2 i4 => exact .func hf h1 i2 h3 i4
  | agg h1 _ i2 => exact .agg h1 i2
  | tuple h1 _ i2 => exact .tuple h1 i2
theorem ARel.mono (hl : r.Le s) {v w : Array Value} (h : ARel ok r v w) : ARel ok s v w := ⟨h.1, fun i x y a b => (h.2 i x y a b).mono hl⟩
theorem VRel.int (k : IntKind) (n : Int) : VRel ok r (.int k n) (.int k n) := .flat rfl
theorem VRel.bool (b : Bool) : VRel ok r (.bool b) (.bool b) := .flat rfl
theorem ARel.nil : ARel ok r #[] #[] := ⟨rfl, fun i x y h => by simp at h⟩
theorem ARel.get {cs ds : Array Value} (h : ARel ok r cs ds) {i : Nat} {x : Value} (hx : cs[i]? = some x) : ∃ y, ds[i]? = some y ∧ VRel ok r x y := by
  obtain ⟨hlt, rfl⟩ := Array.getElem?_eq_some_iff.1 hx
  have hlt' : i < ds.size := h.1 ▸ hlt
  exact ⟨ds[i], Array.getElem?_eq_getElem hlt', h.2 i _ _ hx (Array.getElem?_eq_getElem hlt')⟩
theorem ARel.getD {cs ds : Array Value} (h : ARel ok r cs ds) (i : Nat) {x y : Value} (hd : VRel ok r x y) : VRel ok r (cs.getD i x) (ds.getD i y) := by
  by_cases hlt : i < cs.size
  · have hlt' : i < ds.size := h.1 ▸ hlt
    have := h.2 i cs[i] ds[i] (Array.getElem?_eq_getElem hlt) (Array.getElem?_eq_getElem hlt')
    simpa [Array.getD, hlt, hlt'] using this
  · have hlt' : ¬ i < ds.size := h.1 ▸ hlt
    simpa [Array.getD, hlt, hlt'] using hd
theorem ARel.push {cs ds : Array Value} (h : ARel ok r cs ds) {x y : Value} (hx : VRel ok r x y) : ARel ok r (cs.push x) (ds.push y) := by
  refine ⟨by simp [h.1], fun i u v hu hv => ?_⟩
  rw [Array.getElem?_push] at hu hv
  rw [← h.1] at hv
  split at hu
  · rename_i e
    rw [if_pos e] at hv
    cases hu; cases hv; exact hx
  · rename_i e
    rw [if_neg e] at hv
    exact h.2 i u v hu hv
theorem ARel.append {cs ds cs' ds' : Array Value} (h : ARel ok r cs ds) (h' : ARel ok r cs' ds') : ARel ok r (cs ++ cs') (ds ++ ds') := by
  refine ⟨by simp [h.1, h'.1], fun i u v hu hv => ?_⟩
  rw [Array.getElem?_append] at hu hv
  rw [← h.1] at hv
  split at hu
  · rename_i e
    rw [if_pos e] at hv
    exact h.2 i u v hu hv
  · rename_i e
    rw [if_neg e] at hv
    exact h'.2 _ u v hu hv
theorem ARel.set {cs ds : Array Value} (h : ARel ok r cs ds) {x y : Value} (hx : VRel ok r x y) (i : Nat) : ARel ok r (cs.setIfInBounds i x) (ds.setIfInBounds i y) := by
  refine ⟨by simp [h.1], fun j u v hu hv => ?_⟩
  rw [Array.getElem?_setIfInBounds] at hu hv
  rw [← h.1] at hv
  split at hu
  · rename_i e
    rw [if_pos e] at hv
    split at hu
    · rename_i e2
      rw [if_pos e2] at hv
      cases hu; cases hv; exact hx
    · cases hu
  · rename_i e
    rw [if_neg e] at hv
    exact h.2 j u v hu hv
theorem ARel.replicate (n : Nat) {x y : Value} (hx : VRel ok r x y) : ARel ok r (Array.replicate n x) (Array.replicate n y) := by
  refine ⟨by simp, fun j u v hu hv => ?_⟩
  rw [Array.getElem?_replicate] at hu hv
  split at hu
  · rename_i e
    rw [if_pos e] at hv
    cases hu; cases hv; exact hx
  · cases hu
theorem ARel.map {α : Type} {f g : α → Value} (h : ∀ a, VRel ok r (f a) (g a)) (xs : Array α) : ARel ok r (xs.map f) (xs.map g) := by
  refine ⟨by simp, fun j u v hu hv => ?_⟩
  rw [Array.getElem?_map] at hu hv
  cases hx : xs[j]? with
  | none => rw [hx] at hu; cases hu
  | some a =>
    rw [hx] at hu hv
    simp only [Option.map_some, Option.some.injEq] at hu hv
    subst hu; subst hv
    exact h a
theorem ARel.extract {cs ds : Array Value} (h : ARel ok r cs ds) (a b : Nat) : ARel ok r (cs.extract a b) (ds.extract a b) := by
  refine ⟨by simp [h.1], fun j u v hu hv => ?_⟩
  rw [Array.getElem?_extract] at hu hv
  rw [← h.1] at hv
  split at hu
  · rename_i e
    rw [if_pos e] at hv
    exact h.2 _ u v hu hv
  · cases hu
theorem VRel.cells {v w : Value} (h : VRel ok r v w) : ARel ok r v.cells w.cells := by
  cases h with
  | agg h1 h2 => exact ⟨h1, h2⟩
  | flat h =>
    have e : v.cells = #[v] := by cases v <;> first | rfl | cases h
    rw [e]
    exact ARel.nil.push (.flat h)
  | ptr h => exact ARel.nil.push (.ptr h)
  | slice h => exact ARel.nil.push (.slice h)
  | func hf h1 h2 h3 h4 => exact ARel.nil.push (.func hf h1 h2 h3 h4)
  | tuple h1 h2 => exact ARel.nil.push (.tuple h1 h2)
theorem VRel.undef : VRel ok r undef undef := .tuple rfl (fun i x y h => by simp at h)
end
end Go.Proofs.Ytpigjhagdpeofaa.Sim
