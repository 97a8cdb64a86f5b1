/-
  The comparison that impl.PayDebts hands to the sort. Conditions: two places that lie in the row; days and ranks that are not negative.
-/
import Derived.Test.YtcpjbnfmkhaadaaSmall
import Derived.Test.YtcpjbnfmkhaadaaRec
import Derived.Test.YtcpjbnfmkhaadaaKept
import Derived.Deep.QuietTactic
import Derived.Deep.RegionHeld3
import Derived.BigQuiet
import Derived.BigRegion
namespace Go.Proofs.Ytcpjbnfmkhaadaa
open Go.RowKit
set_option linter.unusedVariables false

def cmpV (a b : Int) : Int := if a < b then -1 else if b < a then 1 else 0
theorem cmpV_lt {a b : Int} : cmpV a b < 0 ↔ a < b := by
  unfold cmpV
  split
  · omega
  · split <;> omega
theorem cmpV_eq {a b : Int} : cmpV a b = 0 ↔ a = b := by
  unfold cmpV
  split
  · omega
  · split <;> omega
theorem cmpV_one {a b : Int} (h : a < b) : cmpV a b = -1 := if_pos h
theorem cmpV_two {a b : Int} (h : b < a) : cmpV a b = 1 := by unfold cmpV; rw [if_neg (by omega), if_pos h]
theorem cmpV_self (a : Int) : cmpV a a = 0 := by unfold cmpV; rw [if_neg (by omega), if_neg (by omega)]
theorem isNaN_i (x : Int) (w : World) : Calls Try.prog 49 #[.int .i64 x] w fun e w' => e = .returned (.bool false) ∧ w' = w := by
  go_enter Try.func49, Try.ntmps49
  go_wp2
  go_ret
  exact ⟨ret_bool (by simp), rfl⟩
theorem cmp_i (a b : Int) (w : World) : Calls Try.prog 43 #[.int .i64 a, .int .i64 b] w fun e w' => e = .returned (.int .i64 (cmpV a b)) ∧ w' = w := by
  rcases Int.lt_trichotomy a b with h | h | h
  · rw [cmpV_one h]
    go_enter Try.func43, Try.ntmps43
    go_wp2_with (first | (go_at_call 49; refine (isNaN_i _ _).mono ?_; rintro e w' ⟨rfl, rfl⟩))
    go_ret
    exact ⟨rfl, rfl⟩
  · subst h
    rw [cmpV_self]
    go_enter Try.func43, Try.ntmps43
    go_wp2_with (first | (go_at_call 49; refine (isNaN_i _ _).mono ?_; rintro e w' ⟨rfl, rfl⟩))
    go_ret
    exact ⟨rfl, rfl⟩
  · rw [cmpV_two h]
    go_enter Try.func43, Try.ntmps43
    go_wp2_with (first | (go_at_call 49; refine (isNaN_i _ _).mono ?_; rintro e w' ⟨rfl, rfl⟩))
    go_ret
    exact ⟨rfl, rfl⟩
set_option maxHeartbeats 800000 in
theorem compare1 (g1 g2 c1 c2 : Nat) (a b r : Int) (w : World) (h1 : w.cell? ⟨g1, 0, none⟩ = some (.int .i64 a)) (h2 : w.cell? ⟨g2, 0, none⟩ = some (.int .i64 b)) (hr : cmpV a b = r) :
    Calls Try.prog 32 #[.slice (some ⟨g1, 0, none⟩) 1 c1, .slice (some ⟨g2, 0, none⟩) 1 c2] w fun e w' => e = .returned (.int .i64 r) ∧ w' = w := by
  have HC : Hid (Calls Try.prog 43 #[.int .i64 a, .int .i64 b] w fun e w' => e = .returned (.int .i64 r) ∧ w' = w) := hr ▸ cmp_i a b w
  by_cases h0 : r = 0
  · subst h0
    clear hr
    go_enter Try.func32, Try.ntmps32
    go_wp2
    refine wp_loop_rounds 2 ?_
    repeat any_goals (rw [rounds_succ]; go_wp2_with (first | (go_at_call 43; refine HC.out.mono ?_; rintro e w' ⟨rfl, rfl⟩)))
    go_ret
    exact ⟨rfl, rfl⟩
  · clear hr
    go_enter Try.func32, Try.ntmps32
    go_wp2
    refine wp_loop_rounds 2 ?_
    repeat any_goals (rw [rounds_succ]; go_wp2_with (first | (go_at_call 43; refine HC.out.mono ?_; rintro e w' ⟨rfl, rfl⟩)))
    go_ret
    exact ⟨rfl, rfl⟩
set_option maxHeartbeats 1600000 in
theorem compare2 (g1 g2 c1 c2 : Nat) (a b a' b' : Int) (w : World) (h1 : w.cell? ⟨g1, 0, none⟩ = some (.int .i64 a)) (h2 : w.cell? ⟨g2, 0, none⟩ = some (.int .i64 b)) (h3 : w.cell? ⟨g1, 1, none⟩ = some (.int .i64 a')) (h4 : w.cell? ⟨g2, 1, none⟩ = some (.int .i64 b')) {r : Int} (hr : (if cmpV a b = 0 then cmpV a' b' else cmpV a b) = r) :
    Calls Try.prog 32 #[.slice (some ⟨g1, 0, none⟩) 2 c1, .slice (some ⟨g2, 0, none⟩) 2 c2] w fun e w' => e = .returned (.int .i64 r) ∧ w' = w := by
  subst hr
  by_cases h0 : cmpV a b = 0
  · rw [if_pos h0]
    by_cases h5 : cmpV a' b' = 0
    · rw [h5]
      go_enter Try.func32, Try.ntmps32
      go_wp2
      refine wp_loop_rounds 3 ?_
      repeat any_goals (rw [rounds_succ]; go_wp2_with (first | (go_at_call 43; refine (cmp_i _ _ _).mono ?_; rintro e w' ⟨rfl, rfl⟩)))
      go_ret
      exact ⟨rfl, rfl⟩
    · go_enter Try.func32, Try.ntmps32
      go_wp2
      refine wp_loop_rounds 3 ?_
      repeat any_goals (rw [rounds_succ]; go_wp2_with (first | (go_at_call 43; refine (cmp_i _ _ _).mono ?_; rintro e w' ⟨rfl, rfl⟩)))
      go_ret
      exact ⟨rfl, rfl⟩
  · rw [if_neg h0]
    go_enter Try.func32, Try.ntmps32
    go_wp2
    refine wp_loop_rounds 3 ?_
    repeat any_goals (rw [rounds_succ]; go_wp2_with (first | (go_at_call 43; refine (cmp_i _ _ _).mono ?_; rintro e w' ⟨rfl, rfl⟩)))
    go_ret
    exact ⟨rfl, rfl⟩

def pdK (f : Nat → Int) (kind : Int) (i : Nat) : Int := if kind = 1 then f (i * 3 + 1) * 100000 + f (i * 3) else f (i * 3)
theorem pdK_lt1 {f : Nat → Int} {i j : Nat} (h1 : 0 ≤ f (i * 3) ∧ f (i * 3) ≤ 36524) (h2 : 0 ≤ f (j * 3) ∧ f (j * 3) ≤ 36524) :
    decide ((if cmpV (f (i * 3 + 1)) (f (j * 3 + 1)) = 0 then cmpV (f (i * 3)) (f (j * 3)) else cmpV (f (i * 3 + 1)) (f (j * 3 + 1))) < 0) = decide (pdK f 1 i < pdK f 1 j) := by
  unfold pdK
  rw [if_pos rfl, if_pos rfl]
  apply decide_eq_decide.2
  by_cases h : f (i * 3 + 1) = f (j * 3 + 1)
  · rw [if_pos (cmpV_eq.2 h), cmpV_lt]; omega
  · rw [if_neg (fun e => h (cmpV_eq.1 e)), cmpV_lt]; omega
theorem pdK_lt0 {f : Nat → Int} {kind : Int} {i j : Nat} (hk : ¬ kind = 1) : decide (cmpV (f (i * 3)) (f (j * 3)) < 0) = decide (pdK f kind i < pdK f kind j) := by
  unfold pdK
  rw [if_neg hk, if_neg hk]
  exact decide_eq_decide.2 cmpV_lt

set_option maxHeartbeats 3200000 in
set_option maxRecDepth 100000 in
theorem pd_at0 (n g c pL pK : Nat) (kind : Int) (f : Nat → Int) (w : World) (hn : n < 1000000) (hk : ¬ kind = 1) (k1 : w.cell? ⟨pL, 0, none⟩ = some (.slice (some ⟨g, 0, none⟩) n c)) (k2 : w.cell? ⟨pK, 0, none⟩ = some (.int .i64 kind)) (hc : ∀ i, i < n * 3 → w.cell? ⟨g, i, none⟩ = some (.int .i64 (f i))) (i j : Nat) (hi : i < n) (hj : j < n) :
    Calls Try.prog 31 #[.int .i64 i, .int .i64 j, .pointer (some ⟨pL, 0, none⟩), .pointer (some ⟨pK, 0, none⟩)] w (fun e w' => ∃ q : Int, e = .returned (.int .i64 q) ∧ decide (q < 0) = decide (pdK f kind i < pdK f kind j) ∧ Below w.heap.size w w') := by
  have HD := Lib.hid (pdK_lt0 (f := f) (i := i) (j := j) hk)
  have hlk := World.block_lt_of_cell? w _ k2
  have hkb : (kind == 1) = false := by simp [hk]
  have x1 := hc (i * 3) (by omega)
  have x2 := hc (j * 3) (by omega)
  have l1 : (i : Int) < n := by omega
  have l2 : (j : Int) < n := by omega
  generalize f (i * 3) = X at *
  generalize f (j * 3) = Y at *
  go_enter Try.func31, Try.ntmps31
  go_wp2_with fail
  go_region_held3 (fun w' => w'.cell? ⟨pL, 0, none⟩ = some (.slice (some ⟨g, 0, none⟩) n c) ∧ w'.cell? ⟨g, i * 3, none⟩ = some (.int .i64 X) ∧ w'.cell? ⟨g, j * 3, none⟩ = some (.int .i64 Y)) 
    (first | exact ⟨Below.cellOf (Below.refl _ _).drew rfl k1, Below.cellOf (Below.refl _ _).drew rfl x1, Below.cellOf (Below.refl _ _).drew rfl x2⟩ | (go_split_ands; exact ⟨Below.cellOf ((Below.refl _ _).alloc (Nat.le_refl _) _) rfl (by assumption), Below.cellOf ((Below.refl _ _).alloc (Nat.le_refl _) _) rfl (by assumption), Below.cellOf ((Below.refl _ _).alloc (Nat.le_refl _) _) rfl (by assumption)⟩)) (fail)
  all_goals
    go_wp2_with fail
    trace_state
    go_wp2_with (first | (go_at_call 32; refine (compare1 _ _ _ _ X Y _ _ (by simp [go_sem]) (by simp [go_sem]) rfl).mono ?_; rintro e w' ⟨rfl, rfl⟩))
    go_ret
    exact ⟨_, rfl, HD.out, by go_grown⟩

theorem abs_world {F : Act → World → Prop} {a : Act} {W : World} (S : World → Prop) (h : S W) (k : ∀ W', S W' → F a W') : F a W := k W h
set_option maxHeartbeats 6400000 in
set_option maxRecDepth 100000 in
theorem pd_at1 (n g c pL pK : Nat) (f : Nat → Int) (w : World) (hn : n < 1000000) (hf : ∀ i, i < n → 0 ≤ f (i * 3) ∧ f (i * 3) ≤ 36524) (k1 : w.cell? ⟨pL, 0, none⟩ = some (.slice (some ⟨g, 0, none⟩) n c)) (k2 : w.cell? ⟨pK, 0, none⟩ = some (.int .i64 1)) (hc : ∀ i, i < n * 3 → w.cell? ⟨g, i, none⟩ = some (.int .i64 (f i))) (i j : Nat) (hi : i < n) (hj : j < n) :
    Calls Try.prog 31 #[.int .i64 i, .int .i64 j, .pointer (some ⟨pL, 0, none⟩), .pointer (some ⟨pK, 0, none⟩)] w (fun e w' => ∃ q : Int, e = .returned (.int .i64 q) ∧ decide (q < 0) = decide (pdK f 1 i < pdK f 1 j) ∧ Below w.heap.size w w') := by
  have hd := pdK_lt1 (hf i hi) (hf j hj)
  have x1 := hc (i * 3) (by omega)
  have x2 := hc (j * 3) (by omega)
  have x3 := hc (i * 3 + 1) (by omega)
  have x4 := hc (j * 3 + 1) (by omega)
  have l1 : (i : Int) < n := by omega
  have l2 : (j : Int) < n := by omega
  generalize f (i * 3) = X at *
  generalize f (j * 3) = Y at *
  generalize f (i * 3 + 1) = R at *
  generalize f (j * 3 + 1) = T at *
  obtain ⟨r, hr⟩ : ∃ r, (if cmpV R T = 0 then cmpV X Y else cmpV R T) = r := ⟨_, rfl⟩
  rw [hr] at hd
  have HD := Lib.hid hd
  have HR := Lib.hid hr
  clear hd hr
  go_enter Try.func31, Try.ntmps31
  go_wp2_with fail
  go_region_held3 (fun w' => w'.cell? ⟨pL, 0, none⟩ = some (.slice (some ⟨g, 0, none⟩) n c) ∧ w'.cell? ⟨g, i * 3, none⟩ = some (.int .i64 X) ∧ w'.cell? ⟨g, j * 3, none⟩ = some (.int .i64 Y))
    (first | exact ⟨Below.cellOf (Below.refl _ _).drew rfl k1, Below.cellOf (Below.refl _ _).drew rfl x1, Below.cellOf (Below.refl _ _).drew rfl x2⟩ | (go_split_ands; exact ⟨Below.cellOf ((Below.refl _ _).alloc (Nat.le_refl _) _) rfl (by assumption), Below.cellOf ((Below.refl _ _).alloc (Nat.le_refl _) _) rfl (by assumption), Below.cellOf ((Below.refl _ _).alloc (Nat.le_refl _) _) rfl (by assumption)⟩)) (fail)
  all_goals
    refine abs_world (fun W => Below w.heap.size w W) (by go_grown) ?_
    intro W hW
    have k1' := Below.cellOf hW rfl k1
    have k2' := Below.cellOf hW rfl k2
    have x1' := Below.cellOf hW rfl x1
    have x2' := Below.cellOf hW rfl x2
    have x3' := Below.cellOf hW rfl x3
    have x4' := Below.cellOf hW rfl x4
    go_wp2_with fail
    go_region_held3 (fun w' => w'.cell? ⟨pL, 0, none⟩ = some (.slice (some ⟨g, 0, none⟩) n c) ∧ w'.cell? ⟨g, i * 3, none⟩ = some (.int .i64 X) ∧ w'.cell? ⟨g, j * 3, none⟩ = some (.int .i64 Y) ∧ w'.cell? ⟨g, i * 3 + 1, none⟩ = some (.int .i64 R) ∧ w'.cell? ⟨g, j * 3 + 1, none⟩ = some (.int .i64 T))
      (first | exact ⟨Below.cellOf (Below.refl _ _).drew rfl k1', Below.cellOf (Below.refl _ _).drew rfl x1', Below.cellOf (Below.refl _ _).drew rfl x2', Below.cellOf (Below.refl _ _).drew rfl x3', Below.cellOf (Below.refl _ _).drew rfl x4'⟩ | (go_split_ands; exact ⟨Below.cellOf ((Below.refl _ _).alloc (Nat.le_refl _) _) rfl (by assumption), Below.cellOf ((Below.refl _ _).alloc (Nat.le_refl _) _) rfl (by assumption), Below.cellOf ((Below.refl _ _).alloc (Nat.le_refl _) _) rfl (by assumption), Below.cellOf ((Below.refl _ _).alloc (Nat.le_refl _) _) rfl (by assumption), Below.cellOf ((Below.refl _ _).alloc (Nat.le_refl _) _) rfl (by assumption)⟩)) (fail)
    all_goals
      go_wp2_with (first | (go_at_call 32; refine (compare2 _ _ _ _ R T X Y _ (by simp [go_sem]) (by simp [go_sem]) (by simp [go_sem]) (by simp [go_sem]) HR.out).mono ?_; rintro e w' ⟨rfl, rfl⟩))
      go_ret
      exact ⟨_, rfl, HD.out, bnext hW (by go_grown)⟩
end Go.Proofs.Ytcpjbnfmkhaadaa
