/-
  impl.AreRows and spec.AreRows answer alike: every number, every list of fewer than 1000000000 rows. No other condition.
-/
import Derived.Test.YtjpjcdkepconjaaAreRowsI
import Derived.Test.YtjpjcdkepconjaaAreRowsS
namespace Go.Proofs.Ytjpjcdkepconjaa
open Go.RowKit
set_option linter.unusedVariables false

theorem l05_all (c : Int) (n g : Nat) (f : Nat → Int) (w : World) (hn : n < 1000000000) (hI : RowC w g 0 n 3 f) :
    Calls Try.prog 52 #[.int .i64 c, .slice (some ⟨g, 0, none⟩) n n] w (RetV w (.bool (rowsOk c f n))) := by
  cases h1 : win c 1 8
  · rw [rows_no1 h1]
    go_enter Try.func52, Try.ntmps52
    go_wp2_with (first | (go_at_call 73; refine (spec_l00In_any _ _ _ _).mono ?_; rintro e w' ⟨rfl, rfl⟩))
    go_ret
    exact ⟨rfl, Below.refl _ _⟩
  by_cases n1 : ¬ (1 : Int) ≤ n
  · rw [rows_no2 (win_not.2 (by omega))]
    go_enter Try.func52, Try.ntmps52
    go_wp2_with (first | (go_at_call 73; refine (spec_l00In_any _ _ _ _).mono ?_; rintro e w' ⟨rfl, rfl⟩))
    go_ret
    exact ⟨rfl, Below.refl _ _⟩
  have n1 := Classical.not_not.1 n1
  by_cases n2 : ¬ (n : Int) ≤ 32
  · rw [rows_no2 (win_not.2 (by omega))]
    go_enter Try.func52, Try.ntmps52
    go_wp2_with (first | (go_at_call 73; refine (spec_l00In_any _ _ _ _).mono ?_; rintro e w' ⟨rfl, rfl⟩))
    go_ret
    exact ⟨rfl, Below.refl _ _⟩
  have n2 := Classical.not_not.1 n2
  have HO := rows_out (f := f) h1 (win_iff.2 ⟨n1, n2⟩)
  obtain ⟨x0, x1⟩ := win_iff.1 h1
  rcases last_cases x0 x1 with ⟨rfl, hl⟩ | ⟨rfl, hl⟩ | ⟨rfl, hl⟩ | ⟨rfl, hl⟩ | ⟨rfl, hl⟩ | ⟨rfl, hl⟩ | ⟨rfl, hl⟩ | ⟨rfl, hl⟩ <;> rw [hl] at HO
  · exact l05_1 n g f w _ hn hI n1 n2 HO
  · exact l05_2 n g f w _ hn hI n1 n2 HO
  · exact l05_3 n g f w _ hn hI n1 n2 HO
  · exact l05_4 n g f w _ hn hI n1 n2 HO
  · exact l05_5 n g f w _ hn hI n1 n2 HO
  · exact l05_6 n g f w _ hn hI n1 n2 HO
  · exact l05_7 n g f w _ hn hI n1 n2 HO
  · exact l05_8 n g f w _ hn hI n1 n2 HO

theorem AreRows_impl {w : World} {B : Nat} {v : Value} {X : Rec} (c : Int) (hv : RowR 3 w B v X) : Calls Try.prog 16 #[.int .i64 c, v] w (RetV w (.bool (AreRows_r0 c X))) := by
  obtain ⟨g, rfl, _, _, hn, hI, _⟩ := hv
  exact rows_impl c X.length g X.f w hn hI
theorem AreRows_spec {w : World} {B : Nat} {v : Value} {X : Rec} (c : Int) (hv : RowR 3 w B v X) : Calls Try.prog 14 #[.int .i64 c, v] w (RetV w (.bool (AreRows_r0 c X))) := by
  obtain ⟨g, rfl, _, _, hn, hI, _⟩ := hv
  show Calls _ _ _ _ (RetV w (.bool (rowsOk c X.f X.length)))
  generalize X.length = n at *
  generalize X.f = f at *
  go_enter Try.func14, Try.ntmps14
  go_wp2_with (first | (go_at_call 52; refine (l05_all c n g f _ hn hI).mono ?_; rintro e w1 ⟨rfl, hb⟩))
  go_ret
  exact ⟨rfl, hb⟩
end Go.Proofs.Ytjpjcdkepconjaa
