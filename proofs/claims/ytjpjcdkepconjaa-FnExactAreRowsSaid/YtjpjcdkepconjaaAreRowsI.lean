/-
  impl.AreRows tells whether a list has rows. Condition: fewer than 1000000000 rows.
-/
import Derived.Test.YtjpjcdkepconjaaSmall
import Derived.Test.YtjpjcdkepconjaaAreRowsP
import Derived.Deep.QuietTactic
import Derived.BigQuiet
namespace Go.Proofs.Ytjpjcdkepconjaa
open Go.RowKit
set_option linter.unusedVariables false

def rowOk (L : Int) (f : Nat → Int) (i : Nat) : Bool := win (f (i * 3)) 0 L && win (f (i * 3 + 1)) 0 L && subB (f (i * 3 + 1)) (f (i * 3)) && win (f (i * 3 + 2)) 0 100
def lastF (c : Int) : Int := 2 ^ c.toNat - 1
def rowsOk (c : Int) (f : Nat → Int) (n : Nat) : Bool := win c 1 8 && win n 1 32 && allB (rowOk (lastF c) f) n
def AreRows_r0 (c : Int) (X : Rec) : Bool := rowsOk c X.f X.length
section
variable {c : Int} {f : Nat → Int} {n : Nat}
theorem rows_no1 (h : win c 1 8 = false) : rowsOk c f n = false := by simp only [rowsOk, h, Bool.false_and]
theorem rows_no2 (h : win (n : Int) 1 32 = false) : rowsOk c f n = false := by simp only [rowsOk, h, Bool.false_and, Bool.and_false]
theorem rows_out (h1 : win c 1 8 = true) (h2 : win (n : Int) 1 32 = true) : rowsOk c f n = allB (rowOk (lastF c) f) n := by simp only [rowsOk, h1, h2, Bool.true_and]
end

set_option maxHeartbeats 800000 in
theorem rowOut_any (a b r L : Int) (B : Nat) (w : World) (hL : L ≤ 255) (c0 : w.cell? ⟨B, 0, none⟩ = some (.int .i64 L)) :
    Calls Try.prog 56 #[.agg #[.int .i64 a, .int .i64 b, .int .i64 r], .pointer (some ⟨B, 0, none⟩)] w (RetV w (.bool (!(win a 0 L && win b 0 L && subB b a && win r 0 100)))) := by
  have blt := World.block_lt_of_cell? w _ c0
  have bA : Below w.heap.size w (w.alloc (.cells #[.int .i64 a, .int .i64 b, .int .i64 r] 71)) := by go_grown
  have c1 : (w.alloc (.cells #[.int .i64 a, .int .i64 b, .int .i64 r] 71)).cell? ⟨B, 0, none⟩ = some (.int .i64 L) := Below.cellOf bA rfl c0
  cases h1 : win a 0 L
  · go_enter Try.func56, Try.ntmps56
    go_wp2_with (first | (go_at_call 54; refine (impl_within_any _ _ _ _).mono ?_; rintro e w' ⟨rfl, rfl⟩))
    go_ret
    exact ⟨rfl, bA⟩
  cases h2 : win b 0 L
  · go_enter Try.func56, Try.ntmps56
    go_wp2_with (first | (go_at_call 54; refine (impl_within_any _ _ _ _).mono ?_; rintro e w' ⟨rfl, rfl⟩))
    go_ret
    exact ⟨rfl, bA⟩
  have a1 := win_iff.1 h1
  have b1 := win_iff.1 h2
  have hs := (sub_is b1.1 (by omega) a1.1 (by omega)).1
  cases h3 : subB b a
  · rw [h3] at hs
    have hs' : (bits BinOp.andNot IntKind.i64 b a != 0) = true := hs
    clear hs
    go_enter Try.func56, Try.ntmps56
    go_wp2_with (first | (go_at_call 54; refine (impl_within_any _ _ _ _).mono ?_; rintro e w' ⟨rfl, rfl⟩))
    go_ret
    exact ⟨rfl, bA⟩
  · rw [h3] at hs
    have hs' : (bits BinOp.andNot IntKind.i64 b a != 0) = false := hs
    clear hs
    cases h4 : win r 0 100
    all_goals
      go_enter Try.func56, Try.ntmps56
      go_wp2_with (first | (go_at_call 54; refine (impl_within_any _ _ _ _).mono ?_; rintro e w' ⟨rfl, rfl⟩))
      go_ret
      exact ⟨rfl, bA⟩

/-- An index, or -1. -/
def IdxB (b : Bool) (w : World) (e : Ending) (w' : World) : Prop := ∃ r : Int, e = .returned (.int .i64 r) ∧ decide (0 ≤ r) = !b ∧ Below w.heap.size w w'
set_option maxHeartbeats 800000 in
theorem rowIdx_any (n g c B : Nat) (f : Nat → Int) (L : Int) (w : World) (hn : n < 1000000000) (hL : L ≤ 255) (hI : RowC w g 0 n 3 f) (c0 : w.cell? ⟨B, 0, none⟩ = some (.int .i64 L)) :
    Calls Try.prog 92 #[.slice (some ⟨g, 0, none⟩) n c, .func (.func 56) #[] #[.pointer (some ⟨B, 0, none⟩)]] w (IdxB (allB (rowOk L f) n) w) := by
  go_enter Try.func92, Try.ntmps92
  go_wp2
  go_loopw [8] (fun i wr => ∃ k : Nat, k ≤ n ∧ i = .int .i64 k ∧ Hid (allB (rowOk L f) k = true) ∧ Below w.heap.size w wr) (fun i _ => n - (intOf i).toNat)
  case atStart => exact ⟨0, Nat.zero_le _, rfl, rfl, Below.refl _ _⟩
  case round =>
    obtain ⟨k, hk, rfl, ha, hb⟩ := hrel
    by_cases hlt : k < n
    · have d0 := Below.cellOf hb rfl (hI.c0 k hlt (by decide))
      have d1 := Below.cellOf hb rfl (hI.cs k 1 hlt (by decide))
      have d2 := Below.cellOf hb rfl (hI.cs k 2 hlt (by decide))
      have e0 := Below.cellOf hb rfl c0
      have HC : Hid (∀ x, rowOk L f k = x → Calls Try.prog 56 #[.agg #[.int .i64 (f (k * 3)), .int .i64 (f (k * 3 + 1)), .int .i64 (f (k * 3 + 2))], .pointer (some ⟨B, 0, none⟩)] wr (RetV wr (.bool (!x)))) := fun x hx => by
        have := rowOut_any (f (k * 3)) (f (k * 3 + 1)) (f (k * 3 + 2)) L B wr hL e0
        rw [← hx]; exact this
      cases hw : rowOk L f k
      · have HF := Lib.hid (allB_false k hlt hw)
        go_wp2_with fail
        refine (HC.out _ hw).mono ?_
        rintro e w2 ⟨rfl, hb2⟩
        go_wp2
        go_ret
        exact ⟨k, rfl, by rw [HF.out]; simp, bnext hb hb2⟩
      · have HF := Lib.hid (allB_succ ha.out hw)
        go_wp2_with fail
        refine (HC.out _ hw).mono ?_
        rintro e w2 ⟨rfl, hb2⟩
        go_wp2
        go_roundw
        case rel => exact ⟨k + 1, by omega, by go_num, HF, bnext hb hb2⟩
        case measure => simp [intOf]; omega
    · obtain rfl : k = n := by omega
      go_wp2
      go_ret
      exact ⟨-1, rfl, by rw [ha.out]; rfl, hb⟩
theorem rowCont_any (n g c B : Nat) (f : Nat → Int) (L : Int) (w : World) (hn : n < 1000000000) (hL : L ≤ 255) (hI : RowC w g 0 n 3 f) (c0 : w.cell? ⟨B, 0, none⟩ = some (.int .i64 L)) :
    Calls Try.prog 55 #[.slice (some ⟨g, 0, none⟩) n c, .func (.func 56) #[] #[.pointer (some ⟨B, 0, none⟩)]] w (RetV w (.bool (!(allB (rowOk L f) n)))) := by
  go_enter Try.func55, Try.ntmps55
  go_wp2_with (go_at_call 92; refine (rowIdx_any n g c B f L _ hn hL hI c0).mono ?_; rintro e w' ⟨r, rfl, hr, hb⟩)
  go_ret
  first
    | exact ⟨rfl, hb⟩
    | exact ⟨ret_bool hr, hb⟩

theorem rowCont_box (n g c : Nat) (f : Nat → Int) (L : Int) (w : World) (hn : n < 1000000000) (hL : L ≤ 255) (hI : RowC w g 0 n 3 f) :
    Calls Try.prog 55 #[.slice (some ⟨g, 0, none⟩) n c, .func (.func 56) #[] #[.pointer (some ⟨w.heap.size, 0, none⟩)]] (w.alloc (.cells #[.int .i64 L] 2)) (RetV (w.alloc (.cells #[.int .i64 L] 2)) (.bool (!(allB (rowOk L f) n)))) :=
  rowCont_any n g c w.heap.size f L _ hn hL (hI.below (by go_grown)) (by simp [go_sem])
theorem last_cases {c : Int} (h0 : 1 ≤ c) (h1 : c ≤ 8) : (c = 1 ∧ lastF c = 1) ∨ (c = 2 ∧ lastF c = 3) ∨ (c = 3 ∧ lastF c = 7) ∨ (c = 4 ∧ lastF c = 15) ∨ (c = 5 ∧ lastF c = 31) ∨ (c = 6 ∧ lastF c = 63) ∨ (c = 7 ∧ lastF c = 127) ∨ (c = 8 ∧ lastF c = 255) := by
  rcases (show c = 1 ∨ c = 2 ∨ c = 3 ∨ c = 4 ∨ c = 5 ∨ c = 6 ∨ c = 7 ∨ c = 8 by omega) with rfl | rfl | rfl | rfl | rfl | rfl | rfl | rfl <;> decide

set_option maxHeartbeats 1600000 in
theorem rows_impl (c : Int) (n g : Nat) (f : Nat → Int) (w : World) (hn : n < 1000000000) (hI : RowC w g 0 n 3 f) :
    Calls Try.prog 16 #[.int .i64 c, .slice (some ⟨g, 0, none⟩) n n] w (RetV w (.bool (rowsOk c f n))) := by
  cases h1 : win c 1 8
  · rw [rows_no1 h1]
    go_enter Try.func16, Try.ntmps16
    go_wp2_with (first | (go_at_call 54; refine (impl_within_any _ _ _ _).mono ?_; rintro e w' ⟨rfl, rfl⟩))
    go_ret
    exact ⟨rfl, Below.refl _ _⟩
  by_cases n1 : ¬ (1 : Int) ≤ n
  · rw [rows_no2 (win_not.2 (by omega))]
    go_enter Try.func16, Try.ntmps16
    go_wp2_with (first | (go_at_call 54; refine (impl_within_any _ _ _ _).mono ?_; rintro e w' ⟨rfl, rfl⟩))
    go_ret
    exact ⟨rfl, Below.refl _ _⟩
  have n1 := Classical.not_not.1 n1
  by_cases n2 : ¬ (n : Int) ≤ 32
  · rw [rows_no2 (win_not.2 (by omega))]
    go_enter Try.func16, Try.ntmps16
    go_wp2_with (first | (go_at_call 54; refine (impl_within_any _ _ _ _).mono ?_; rintro e w' ⟨rfl, rfl⟩))
    go_ret
    exact ⟨rfl, Below.refl _ _⟩
  have n2 := Classical.not_not.1 n2
  have HO := Lib.hid (rows_out (f := f) h1 (win_iff.2 ⟨n1, n2⟩))
  obtain ⟨x0, x1⟩ := win_iff.1 h1
  rcases last_cases x0 x1 with ⟨rfl, hl⟩ | ⟨rfl, hl⟩ | ⟨rfl, hl⟩ | ⟨rfl, hl⟩ | ⟨rfl, hl⟩ | ⟨rfl, hl⟩ | ⟨rfl, hl⟩ | ⟨rfl, hl⟩
  all_goals
    rw [hl] at HO
    generalize hr : rowsOk _ f n = R at *
    clear hr hl
    go_enter Try.func16, Try.ntmps16
    go_wp2_with (first | (go_at_call 54; refine (impl_within_any _ _ _ _).mono ?_; rintro e w' ⟨rfl, rfl⟩))
    refine (rowCont_box n g n f _ w hn (by omega) hI).mono ?_
    rintro e w2 ⟨rfl, hb2⟩
    go_wp2
    go_ret
    exact ⟨ret_bool (by rw [HO.out]), bnext (by go_grown) hb2⟩
theorem row_alt (L : Int) (hL : L ≤ 255) (f : Nat → Int) (i : Nat) : rowOk L f i = (win (f (i * 3)) 0 L && win (f (i * 3 + 1)) 0 (f (i * 3)) && subB (f (i * 3 + 1)) (f (i * 3)) && win (f (i * 3 + 2)) 0 100) := by
  unfold rowOk
  cases h1 : win (f (i * 3)) 0 L
  · simp
  · have a := win_iff.1 h1
    cases h2 : win (f (i * 3 + 1)) 0 L
    · have h3 : win (f (i * 3 + 1)) 0 (f (i * 3)) = false := win_not.2 (by have := win_not.1 h2; omega)
      simp [h3]
    · have b := win_iff.1 h2
      have hs := (sub_is b.1 (by omega) a.1 (by omega)).2
      cases h3 : subB (f (i * 3 + 1)) (f (i * 3))
      · simp
      · have h4 : win (f (i * 3 + 1)) 0 (f (i * 3)) = true := win_iff.2 ⟨b.1, hs h3⟩
        simp [h4]

end Go.Proofs.Ytjpjcdkepconjaa
