/-
  No cell of these rows narrows 'for every input' (looked for: loops, veiled, ifaces, maps, wideKeys, modest, calm, conditions, laid).
  DERIVED. THE GIVEN ROWS OF THIS SEAT. 6 by the template 'for every input the law returns true; each argument reads behind the call as it read before'; 0 by the template 'total and deterministic' (their statements: YtjopeidmfgkhnaaTotals.lean).
  GIVEN WITH THE SEED: the statements are not yours to turn. If you find one false, say at which input.
  Laid BY PROGRAM, IN A SANDBOX (cutbox-rows.mjs): the forced cells as the released guide's own fill.sh prints them over the translation c39a22aa8a2432b3… (all of the seat's roots in one cut). By AI agents, Wed Nov 11 2026. No macro, syntax, notation, axiom, sorry.
-/
import Derived.Test.YtjopeidmfgkhnaaChecked
import GoSem.Claim
import GoSem.ClaimJoined
import GoSem.ClaimMapViews
import Derived.JoinedTies
import Derived.KernelRfl
namespace Go.Proofs.Ytjopeidmfgkhnaa
/- THE CELL 'sum', in the pinned program and in every row, IS THE sha256 OF THE DUMP (.gsa) THAT YtjopeidmfgkhnaaProg.lean LOADS. Nothing in Lean hashes anything: it is a label: what it is worth is what the hold of that sum in a sandbox is worth. -/
noncomputable def Try.pinned : Pinned := { name := "ytjopeidmfgkhnaa", sum := "c39a22aa8a2432b3872a4e829c27aef356c9c0373eee0d1c13383a72bd2e0037", checked := Try.checked }
namespace Rows
def none {H : Type} : Left H := { results := [], args := [] }

/-- 'laws.FnExactAreRows': WHATEVER THE INPUT: true; the input reads as it did. -/
def fnExactAreRowsSpec : ChangeSpec := { name := "fnExactAreRows", fn := fun _ => fun
  | [d1, d2] => { results := [.lit (.bool true)], args := [d1, d2] }
  | _ => none }
def fnExactAreRowsRow : OpenClaim := { program := "ytjopeidmfgkhnaa", sum := "c39a22aa8a2432b3872a4e829c27aef356c9c0373eee0d1c13383a72bd2e0037", func := "loop.example/g01393/laws.FnExactAreRows", spec := "fnExactAreRows", unfollowed := true, recurses := true, apart := false }
def FnExactAreRowsSaid : Prop := fnExactAreRowsRow.holds Try.pinned (OpenSpec.ofChange fnExactAreRowsSpec)

/-- ITS FALSE NEIGHBOUR: 'it returns false'. Refute it at one input. -/
def fnExactAreRowsWrong : ChangeSpec := { name := "fnExactAreRows", fn := fun _ => fun
  | [d1, d2] => { results := [.lit (.bool false)], args := [d1, d2] }
  | _ => none }
def FnExactAreRowsWrongFalsely : Prop := fnExactAreRowsRow.holds Try.pinned (OpenSpec.ofChange fnExactAreRowsWrong)

/-- 'laws.FnExactValidRule': WHATEVER THE INPUT: true; the input reads as it did. -/
def fnExactValidRuleSpec : ChangeSpec := { name := "fnExactValidRule", fn := fun _ => fun
  | [d] => { results := [.lit (.bool true)], args := [d] }
  | _ => none }
def fnExactValidRuleRow : OpenClaim := { program := "ytjopeidmfgkhnaa", sum := "c39a22aa8a2432b3872a4e829c27aef356c9c0373eee0d1c13383a72bd2e0037", func := "loop.example/g01393/laws.FnExactValidRule", spec := "fnExactValidRule", apart := false }
def FnExactValidRuleSaid : Prop := fnExactValidRuleRow.holds Try.pinned (OpenSpec.ofChange fnExactValidRuleSpec)

/-- ITS FALSE NEIGHBOUR: 'it returns false'. Refute it at one input. -/
def fnExactValidRuleWrong : ChangeSpec := { name := "fnExactValidRule", fn := fun _ => fun
  | [d] => { results := [.lit (.bool false)], args := [d] }
  | _ => none }
def FnExactValidRuleWrongFalsely : Prop := fnExactValidRuleRow.holds Try.pinned (OpenSpec.ofChange fnExactValidRuleWrong)

/-- 'laws.FnExactCarryLosses': WHATEVER THE INPUT: true; the input reads as it did. -/
def fnExactCarryLossesSpec : ChangeSpec := { name := "fnExactCarryLosses", fn := fun _ => fun
  | [d1, d2, d3] => { results := [.lit (.bool true)], args := [d1, d2, d3] }
  | _ => none }
def fnExactCarryLossesRow : OpenClaim := { program := "ytjopeidmfgkhnaa", sum := "c39a22aa8a2432b3872a4e829c27aef356c9c0373eee0d1c13383a72bd2e0037", func := "loop.example/g01393/laws.FnExactCarryLosses", spec := "fnExactCarryLosses", unfollowed := true, recurses := true, apart := false }
def FnExactCarryLossesSaid : Prop := fnExactCarryLossesRow.holds Try.pinned (OpenSpec.ofChange fnExactCarryLossesSpec)

/-- ITS FALSE NEIGHBOUR: 'it returns false'. Refute it at one input. -/
def fnExactCarryLossesWrong : ChangeSpec := { name := "fnExactCarryLosses", fn := fun _ => fun
  | [d1, d2, d3] => { results := [.lit (.bool false)], args := [d1, d2, d3] }
  | _ => none }
def FnExactCarryLossesWrongFalsely : Prop := fnExactCarryLossesRow.holds Try.pinned (OpenSpec.ofChange fnExactCarryLossesWrong)

/-- 'laws.FnExactUndoEntry': WHATEVER THE INPUT: true; the input reads as it did. -/
def fnExactUndoEntrySpec : ChangeSpec := { name := "fnExactUndoEntry", fn := fun _ => fun
  | [d1, d2, d3] => { results := [.lit (.bool true)], args := [d1, d2, d3] }
  | _ => none }
def fnExactUndoEntryRow : OpenClaim := { program := "ytjopeidmfgkhnaa", sum := "c39a22aa8a2432b3872a4e829c27aef356c9c0373eee0d1c13383a72bd2e0037", func := "loop.example/g01393/laws.FnExactUndoEntry", spec := "fnExactUndoEntry", apart := false }
def FnExactUndoEntrySaid : Prop := fnExactUndoEntryRow.holds Try.pinned (OpenSpec.ofChange fnExactUndoEntrySpec)

/-- ITS FALSE NEIGHBOUR: 'it returns false'. Refute it at one input. -/
def fnExactUndoEntryWrong : ChangeSpec := { name := "fnExactUndoEntry", fn := fun _ => fun
  | [d1, d2, d3] => { results := [.lit (.bool false)], args := [d1, d2, d3] }
  | _ => none }
def FnExactUndoEntryWrongFalsely : Prop := fnExactUndoEntryRow.holds Try.pinned (OpenSpec.ofChange fnExactUndoEntryWrong)

/-- 'laws.FnExactSettleAccounts': WHATEVER THE INPUT: true; the input reads as it did. -/
def fnExactSettleAccountsSpec : ChangeSpec := { name := "fnExactSettleAccounts", fn := fun _ => fun
  | [d] => { results := [.lit (.bool true)], args := [d] }
  | _ => none }
def fnExactSettleAccountsRow : OpenClaim := { program := "ytjopeidmfgkhnaa", sum := "c39a22aa8a2432b3872a4e829c27aef356c9c0373eee0d1c13383a72bd2e0037", func := "loop.example/g01393/laws.FnExactSettleAccounts", spec := "fnExactSettleAccounts", unfollowed := true, recurses := true, apart := false }
def FnExactSettleAccountsSaid : Prop := fnExactSettleAccountsRow.holds Try.pinned (OpenSpec.ofChange fnExactSettleAccountsSpec)

/-- ITS FALSE NEIGHBOUR: 'it returns false'. Refute it at one input. -/
def fnExactSettleAccountsWrong : ChangeSpec := { name := "fnExactSettleAccounts", fn := fun _ => fun
  | [d] => { results := [.lit (.bool false)], args := [d] }
  | _ => none }
def FnExactSettleAccountsWrongFalsely : Prop := fnExactSettleAccountsRow.holds Try.pinned (OpenSpec.ofChange fnExactSettleAccountsWrong)

/-- 'laws.FnExactFactorWeights': WHATEVER THE INPUT: true; the input reads as it did. -/
def fnExactFactorWeightsSpec : ChangeSpec := { name := "fnExactFactorWeights", fn := fun _ => fun
  | [d1, d2] => { results := [.lit (.bool true)], args := [d1, d2] }
  | _ => none }
def fnExactFactorWeightsRow : OpenClaim := { program := "ytjopeidmfgkhnaa", sum := "c39a22aa8a2432b3872a4e829c27aef356c9c0373eee0d1c13383a72bd2e0037", func := "loop.example/g01393/laws.FnExactFactorWeights", spec := "fnExactFactorWeights", unfollowed := true, recurses := true, apart := false }
def FnExactFactorWeightsSaid : Prop := fnExactFactorWeightsRow.holds Try.pinned (OpenSpec.ofChange fnExactFactorWeightsSpec)

/-- ITS FALSE NEIGHBOUR: 'it returns false'. Refute it at one input. -/
def fnExactFactorWeightsWrong : ChangeSpec := { name := "fnExactFactorWeights", fn := fun _ => fun
  | [d1, d2] => { results := [.lit (.bool false)], args := [d1, d2] }
  | _ => none }
def FnExactFactorWeightsWrongFalsely : Prop := fnExactFactorWeightsRow.holds Try.pinned (OpenSpec.ofChange fnExactFactorWeightsWrong)

/- THE SECOND FORM. 'bulk': how many values and letters a reading holds, each counted each time it is reached (what is shared counts as often as it is met; a slice's spare places count too). A statement '..UptoSaid' is the law's where the arguments, and the package variables that the reading takes, are together of bulk at most 1048576: NARROWER than '..Said'. Prove '..Said' where nothing that the law and all that it calls make is longer than what came in: it says more and counts as full. Else prove '..UptoSaid'. A law counts once. -/
mutual
def uptoBulk {H : Type} : DataW H → Nat
  | .lit (.string bytes) => bytes.length + 1
  | .lit _ => 1
  | .nil => 1
  | .ptr d => uptoBulk d + 1
  | .slice elems spare => uptoBulkAll elems + uptoBulkAll spare + 1
  | .agg parts => uptoBulkAll parts + 1
  | .iface _ d => uptoBulk d + 1
  | .map entries => uptoBulkEntries entries + 1
  | .held _ => 1
def uptoBulkAll {H : Type} : List (DataW H) → Nat
  | [] => 0
  | d :: r => uptoBulk d + uptoBulkAll r
def uptoBulkEntries {H : Type} : List (Lit × DataW H) → Nat
  | [] => 0
  | x :: r => uptoBulkEntry x + uptoBulkEntries r
def uptoBulkEntry {H : Type} : Lit × DataW H → Nat
  | (.string bytes, d) => bytes.length + uptoBulk d + 1
  | (_, d) => uptoBulk d + 1
 end
def uptoSmall : (H : Type) → List (DataW H) → Bool := fun _ ds => decide (uptoBulkAll ds ≤ 1048576)
def OpenSpec.upto (s : _root_.Go.ChangeSpec) : _root_.Go.OpenSpec := { _root_.Go.OpenSpec.ofChange s with cond := some uptoSmall }

/-- 'laws.FnExactAreRows', WHERE WHAT IT READS IS OF BULK AT MOST 1048576: true; the input reads as it did. -/
def fnExactAreRowsUptoRow : OpenClaim := { program := "ytjopeidmfgkhnaa", sum := "c39a22aa8a2432b3872a4e829c27aef356c9c0373eee0d1c13383a72bd2e0037", func := "loop.example/g01393/laws.FnExactAreRows", spec := "fnExactAreRows", unfollowed := true, recurses := true, apart := false, narrowed := true }
def FnExactAreRowsUptoSaid : Prop := fnExactAreRowsUptoRow.holds Try.pinned (OpenSpec.upto fnExactAreRowsSpec)

/-- 'laws.FnExactValidRule', WHERE WHAT IT READS IS OF BULK AT MOST 1048576: true; the input reads as it did. -/
def fnExactValidRuleUptoRow : OpenClaim := { program := "ytjopeidmfgkhnaa", sum := "c39a22aa8a2432b3872a4e829c27aef356c9c0373eee0d1c13383a72bd2e0037", func := "loop.example/g01393/laws.FnExactValidRule", spec := "fnExactValidRule", apart := false, narrowed := true }
def FnExactValidRuleUptoSaid : Prop := fnExactValidRuleUptoRow.holds Try.pinned (OpenSpec.upto fnExactValidRuleSpec)

/-- 'laws.FnExactCarryLosses', WHERE WHAT IT READS IS OF BULK AT MOST 1048576: true; the input reads as it did. -/
def fnExactCarryLossesUptoRow : OpenClaim := { program := "ytjopeidmfgkhnaa", sum := "c39a22aa8a2432b3872a4e829c27aef356c9c0373eee0d1c13383a72bd2e0037", func := "loop.example/g01393/laws.FnExactCarryLosses", spec := "fnExactCarryLosses", unfollowed := true, recurses := true, apart := false, narrowed := true }
def FnExactCarryLossesUptoSaid : Prop := fnExactCarryLossesUptoRow.holds Try.pinned (OpenSpec.upto fnExactCarryLossesSpec)

/-- 'laws.FnExactUndoEntry', WHERE WHAT IT READS IS OF BULK AT MOST 1048576: true; the input reads as it did. -/
def fnExactUndoEntryUptoRow : OpenClaim := { program := "ytjopeidmfgkhnaa", sum := "c39a22aa8a2432b3872a4e829c27aef356c9c0373eee0d1c13383a72bd2e0037", func := "loop.example/g01393/laws.FnExactUndoEntry", spec := "fnExactUndoEntry", apart := false, narrowed := true }
def FnExactUndoEntryUptoSaid : Prop := fnExactUndoEntryUptoRow.holds Try.pinned (OpenSpec.upto fnExactUndoEntrySpec)

/-- 'laws.FnExactSettleAccounts', WHERE WHAT IT READS IS OF BULK AT MOST 1048576: true; the input reads as it did. -/
def fnExactSettleAccountsUptoRow : OpenClaim := { program := "ytjopeidmfgkhnaa", sum := "c39a22aa8a2432b3872a4e829c27aef356c9c0373eee0d1c13383a72bd2e0037", func := "loop.example/g01393/laws.FnExactSettleAccounts", spec := "fnExactSettleAccounts", unfollowed := true, recurses := true, apart := false, narrowed := true }
def FnExactSettleAccountsUptoSaid : Prop := fnExactSettleAccountsUptoRow.holds Try.pinned (OpenSpec.upto fnExactSettleAccountsSpec)

/-- 'laws.FnExactFactorWeights', WHERE WHAT IT READS IS OF BULK AT MOST 1048576: true; the input reads as it did. -/
def fnExactFactorWeightsUptoRow : OpenClaim := { program := "ytjopeidmfgkhnaa", sum := "c39a22aa8a2432b3872a4e829c27aef356c9c0373eee0d1c13383a72bd2e0037", func := "loop.example/g01393/laws.FnExactFactorWeights", spec := "fnExactFactorWeights", unfollowed := true, recurses := true, apart := false, narrowed := true }
def FnExactFactorWeightsUptoSaid : Prop := fnExactFactorWeightsUptoRow.holds Try.pinned (OpenSpec.upto fnExactFactorWeightsSpec)

end Rows
end Go.Proofs.Ytjopeidmfgkhnaa
