/-
  impl.AreEntries and spec.AreEntries answer alike: every list of fewer than 1000000000 entries. No other condition.
-/
import Derived.Test.YtmifnjcpnaaocaaEntries
namespace Go.Proofs.Ytmifnjcpnaaocaa
open Go.RowKit
set_option linter.unusedVariables false

def AreEntries_r0 (X : Rec) : Bool := entriesOk X.f X.length
theorem AreEntries_impl {w : World} {B : Nat} {v : Value} {X : Rec} (hv : RowR 4 w B v X) : Calls Try.prog 25 #[v] w (RetV w (.bool (AreEntries_r0 X))) := by
  obtain ⟨g, rfl, _, _, hn, hI, _⟩ := hv
  exact entries_impl X.length g X.f w hn hI
theorem AreEntries_spec {w : World} {B : Nat} {v : Value} {X : Rec} (hv : RowR 4 w B v X) : Calls Try.prog 24 #[v] w (RetV w (.bool (AreEntries_r0 X))) := by
  obtain ⟨g, rfl, _, _, hn, hI, _⟩ := hv
  show Calls _ _ _ _ (RetV w (.bool (entriesOk X.f X.length)))
  generalize X.length = n at *
  generalize X.f = f at *
  go_enter Try.func24, Try.ntmps24
  go_wp2_with (first | (go_at_call 63; refine (entries_spec n g f _ hn hI).mono ?_; rintro e w1 ⟨rfl, hb⟩))
  go_ret
  exact ⟨rfl, hb⟩
end Go.Proofs.Ytmifnjcpnaaocaa
