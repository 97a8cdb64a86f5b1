/-
  No cell of these rows narrows 'for every input' (looked for: loops, veiled, ifaces, maps, wideKeys, modest, calm, conditions, laid).
  DERIVED. THE GIVEN ROWS OF THIS SEAT. 11 by the template 'for every input the law returns true; each argument reads behind the call as it read before'; 0 by the template 'total and deterministic' (their statements: YtiblnnianaaddaaTotals.lean).
  GIVEN WITH THE SEED: the statements are not yours to turn. If you find one false, say at which input.
  Laid BY PROGRAM, IN A SANDBOX (cutbox-rows.mjs): the forced cells as the released guide's own fill.sh prints them over the translation 5cea78a03ca74cc3… (all of the seat's roots in one cut). By AI agents, Wed Nov 11 2026. No macro, syntax, notation, axiom, sorry.
-/
import Derived.Test.YtiblnnianaaddaaChecked
import GoSem.Claim
import GoSem.ClaimJoined
import GoSem.ClaimMapViews
import Derived.JoinedTies
import Derived.KernelRfl
namespace Go.Proofs.Ytiblnnianaaddaa
/- THE CELL 'sum', in the pinned program and in every row, IS THE sha256 OF THE DUMP (.gsa) THAT YtiblnnianaaddaaProg.lean LOADS. Nothing in Lean hashes anything: it is a label: what it is worth is what the hold of that sum in a sandbox is worth. -/
noncomputable def Try.pinned : Pinned := { name := "ytiblnnianaaddaa", sum := "5cea78a03ca74cc35e135d765819a7f5d3437b3e77525e8733ac3e7cd31bb21a", checked := Try.checked }
namespace Rows
def none {H : Type} : Left H := { results := [], args := [] }

/-- 'laws.FnInterest': WHATEVER THE INPUT: true; the input reads as it did. -/
def fnInterestSpec : ChangeSpec := { name := "fnInterest", fn := fun _ => fun
  | [d1, d2] => { results := [.lit (.bool true)], args := [d1, d2] }
  | _ => none }
def fnInterestRow : OpenClaim := { program := "ytiblnnianaaddaa", sum := "5cea78a03ca74cc35e135d765819a7f5d3437b3e77525e8733ac3e7cd31bb21a", func := "loop.example/g01393/laws.FnInterest", spec := "fnInterest", unfollowed := true, recurses := true, apart := false }
def FnInterestSaid : Prop := fnInterestRow.holds Try.pinned (OpenSpec.ofChange fnInterestSpec)

/-- ITS FALSE NEIGHBOUR: 'it returns false'. Refute it at one input. -/
def fnInterestWrong : ChangeSpec := { name := "fnInterest", fn := fun _ => fun
  | [d1, d2] => { results := [.lit (.bool false)], args := [d1, d2] }
  | _ => none }
def FnInterestWrongFalsely : Prop := fnInterestRow.holds Try.pinned (OpenSpec.ofChange fnInterestWrong)

/-- 'laws.FnExactDayOf': WHATEVER THE INPUT: true; the input reads as it did. -/
def fnExactDayOfSpec : ChangeSpec := { name := "fnExactDayOf", fn := fun _ => fun
  | [d1, d2, d3] => { results := [.lit (.bool true)], args := [d1, d2, d3] }
  | _ => none }
def fnExactDayOfRow : OpenClaim := { program := "ytiblnnianaaddaa", sum := "5cea78a03ca74cc35e135d765819a7f5d3437b3e77525e8733ac3e7cd31bb21a", func := "loop.example/g01393/laws.FnExactDayOf", spec := "fnExactDayOf", apart := false }
def FnExactDayOfSaid : Prop := fnExactDayOfRow.holds Try.pinned (OpenSpec.ofChange fnExactDayOfSpec)

/-- ITS FALSE NEIGHBOUR: 'it returns false'. Refute it at one input. -/
def fnExactDayOfWrong : ChangeSpec := { name := "fnExactDayOf", fn := fun _ => fun
  | [d1, d2, d3] => { results := [.lit (.bool false)], args := [d1, d2, d3] }
  | _ => none }
def FnExactDayOfWrongFalsely : Prop := fnExactDayOfRow.holds Try.pinned (OpenSpec.ofChange fnExactDayOfWrong)

/-- 'laws.FnExactDateOf': WHATEVER THE INPUT: true; the input reads as it did. -/
def fnExactDateOfSpec : ChangeSpec := { name := "fnExactDateOf", fn := fun _ => fun
  | [d] => { results := [.lit (.bool true)], args := [d] }
  | _ => none }
def fnExactDateOfRow : OpenClaim := { program := "ytiblnnianaaddaa", sum := "5cea78a03ca74cc35e135d765819a7f5d3437b3e77525e8733ac3e7cd31bb21a", func := "loop.example/g01393/laws.FnExactDateOf", spec := "fnExactDateOf", apart := false }
def FnExactDateOfSaid : Prop := fnExactDateOfRow.holds Try.pinned (OpenSpec.ofChange fnExactDateOfSpec)

/-- ITS FALSE NEIGHBOUR: 'it returns false'. Refute it at one input. -/
def fnExactDateOfWrong : ChangeSpec := { name := "fnExactDateOf", fn := fun _ => fun
  | [d] => { results := [.lit (.bool false)], args := [d] }
  | _ => none }
def FnExactDateOfWrongFalsely : Prop := fnExactDateOfRow.holds Try.pinned (OpenSpec.ofChange fnExactDateOfWrong)

/-- 'laws.FnExactLoanCount': WHATEVER THE INPUT: true; the input reads as it did. -/
def fnExactLoanCountSpec : ChangeSpec := { name := "fnExactLoanCount", fn := fun _ => fun
  | [d1, d2, d3] => { results := [.lit (.bool true)], args := [d1, d2, d3] }
  | _ => none }
def fnExactLoanCountRow : OpenClaim := { program := "ytiblnnianaaddaa", sum := "5cea78a03ca74cc35e135d765819a7f5d3437b3e77525e8733ac3e7cd31bb21a", func := "loop.example/g01393/laws.FnExactLoanCount", spec := "fnExactLoanCount", apart := false }
def FnExactLoanCountSaid : Prop := fnExactLoanCountRow.holds Try.pinned (OpenSpec.ofChange fnExactLoanCountSpec)

/-- ITS FALSE NEIGHBOUR: 'it returns false'. Refute it at one input. -/
def fnExactLoanCountWrong : ChangeSpec := { name := "fnExactLoanCount", fn := fun _ => fun
  | [d1, d2, d3] => { results := [.lit (.bool false)], args := [d1, d2, d3] }
  | _ => none }
def FnExactLoanCountWrongFalsely : Prop := fnExactLoanCountRow.holds Try.pinned (OpenSpec.ofChange fnExactLoanCountWrong)

/-- 'laws.FnExactLoanPayment': WHATEVER THE INPUT: true; the input reads as it did. -/
def fnExactLoanPaymentSpec : ChangeSpec := { name := "fnExactLoanPayment", fn := fun _ => fun
  | [d1, d2, d3] => { results := [.lit (.bool true)], args := [d1, d2, d3] }
  | _ => none }
def fnExactLoanPaymentRow : OpenClaim := { program := "ytiblnnianaaddaa", sum := "5cea78a03ca74cc35e135d765819a7f5d3437b3e77525e8733ac3e7cd31bb21a", func := "loop.example/g01393/laws.FnExactLoanPayment", spec := "fnExactLoanPayment", apart := false }
def FnExactLoanPaymentSaid : Prop := fnExactLoanPaymentRow.holds Try.pinned (OpenSpec.ofChange fnExactLoanPaymentSpec)

/-- ITS FALSE NEIGHBOUR: 'it returns false'. Refute it at one input. -/
def fnExactLoanPaymentWrong : ChangeSpec := { name := "fnExactLoanPayment", fn := fun _ => fun
  | [d1, d2, d3] => { results := [.lit (.bool false)], args := [d1, d2, d3] }
  | _ => none }
def FnExactLoanPaymentWrongFalsely : Prop := fnExactLoanPaymentRow.holds Try.pinned (OpenSpec.ofChange fnExactLoanPaymentWrong)

/-- 'laws.FnExactLoanTable': WHATEVER THE INPUT: true; the input reads as it did. -/
def fnExactLoanTableSpec : ChangeSpec := { name := "fnExactLoanTable", fn := fun _ => fun
  | [d1, d2, d3, d4] => { results := [.lit (.bool true)], args := [d1, d2, d3, d4] }
  | _ => none }
def fnExactLoanTableRow : OpenClaim := { program := "ytiblnnianaaddaa", sum := "5cea78a03ca74cc35e135d765819a7f5d3437b3e77525e8733ac3e7cd31bb21a", func := "loop.example/g01393/laws.FnExactLoanTable", spec := "fnExactLoanTable", apart := false }
def FnExactLoanTableSaid : Prop := fnExactLoanTableRow.holds Try.pinned (OpenSpec.ofChange fnExactLoanTableSpec)

/-- ITS FALSE NEIGHBOUR: 'it returns false'. Refute it at one input. -/
def fnExactLoanTableWrong : ChangeSpec := { name := "fnExactLoanTable", fn := fun _ => fun
  | [d1, d2, d3, d4] => { results := [.lit (.bool false)], args := [d1, d2, d3, d4] }
  | _ => none }
def FnExactLoanTableWrongFalsely : Prop := fnExactLoanTableRow.holds Try.pinned (OpenSpec.ofChange fnExactLoanTableWrong)

/-- 'laws.FnExactDaysBetween': WHATEVER THE INPUT: true; the input reads as it did. -/
def fnExactDaysBetweenSpec : ChangeSpec := { name := "fnExactDaysBetween", fn := fun _ => fun
  | [d1, d2, d3] => { results := [.lit (.bool true)], args := [d1, d2, d3] }
  | _ => none }
def fnExactDaysBetweenRow : OpenClaim := { program := "ytiblnnianaaddaa", sum := "5cea78a03ca74cc35e135d765819a7f5d3437b3e77525e8733ac3e7cd31bb21a", func := "loop.example/g01393/laws.FnExactDaysBetween", spec := "fnExactDaysBetween", apart := false }
def FnExactDaysBetweenSaid : Prop := fnExactDaysBetweenRow.holds Try.pinned (OpenSpec.ofChange fnExactDaysBetweenSpec)

/-- ITS FALSE NEIGHBOUR: 'it returns false'. Refute it at one input. -/
def fnExactDaysBetweenWrong : ChangeSpec := { name := "fnExactDaysBetween", fn := fun _ => fun
  | [d1, d2, d3] => { results := [.lit (.bool false)], args := [d1, d2, d3] }
  | _ => none }
def FnExactDaysBetweenWrongFalsely : Prop := fnExactDaysBetweenRow.holds Try.pinned (OpenSpec.ofChange fnExactDaysBetweenWrong)

/-- 'laws.FnDates': WHATEVER THE INPUT: true; the input reads as it did. -/
def fnDatesSpec : ChangeSpec := { name := "fnDates", fn := fun _ => fun
  | [d1, d2] => { results := [.lit (.bool true)], args := [d1, d2] }
  | _ => none }
def fnDatesRow : OpenClaim := { program := "ytiblnnianaaddaa", sum := "5cea78a03ca74cc35e135d765819a7f5d3437b3e77525e8733ac3e7cd31bb21a", func := "loop.example/g01393/laws.FnDates", spec := "fnDates", apart := false }
def FnDatesSaid : Prop := fnDatesRow.holds Try.pinned (OpenSpec.ofChange fnDatesSpec)

/-- ITS FALSE NEIGHBOUR: 'it returns false'. Refute it at one input. -/
def fnDatesWrong : ChangeSpec := { name := "fnDates", fn := fun _ => fun
  | [d1, d2] => { results := [.lit (.bool false)], args := [d1, d2] }
  | _ => none }
def FnDatesWrongFalsely : Prop := fnDatesRow.holds Try.pinned (OpenSpec.ofChange fnDatesWrong)

/-- 'laws.FnExactPenaltyOf': WHATEVER THE INPUT: true; the input reads as it did. -/
def fnExactPenaltyOfSpec : ChangeSpec := { name := "fnExactPenaltyOf", fn := fun _ => fun
  | [d1, d2, d3, d4, d5] => { results := [.lit (.bool true)], args := [d1, d2, d3, d4, d5] }
  | _ => none }
def fnExactPenaltyOfRow : OpenClaim := { program := "ytiblnnianaaddaa", sum := "5cea78a03ca74cc35e135d765819a7f5d3437b3e77525e8733ac3e7cd31bb21a", func := "loop.example/g01393/laws.FnExactPenaltyOf", spec := "fnExactPenaltyOf", apart := false }
def FnExactPenaltyOfSaid : Prop := fnExactPenaltyOfRow.holds Try.pinned (OpenSpec.ofChange fnExactPenaltyOfSpec)

/-- ITS FALSE NEIGHBOUR: 'it returns false'. Refute it at one input. -/
def fnExactPenaltyOfWrong : ChangeSpec := { name := "fnExactPenaltyOf", fn := fun _ => fun
  | [d1, d2, d3, d4, d5] => { results := [.lit (.bool false)], args := [d1, d2, d3, d4, d5] }
  | _ => none }
def FnExactPenaltyOfWrongFalsely : Prop := fnExactPenaltyOfRow.holds Try.pinned (OpenSpec.ofChange fnExactPenaltyOfWrong)

/-- 'laws.FnExactInterestOf': WHATEVER THE INPUT: true; the input reads as it did. -/
def fnExactInterestOfSpec : ChangeSpec := { name := "fnExactInterestOf", fn := fun _ => fun
  | [d1, d2, d3, d4, d5] => { results := [.lit (.bool true)], args := [d1, d2, d3, d4, d5] }
  | _ => none }
def fnExactInterestOfRow : OpenClaim := { program := "ytiblnnianaaddaa", sum := "5cea78a03ca74cc35e135d765819a7f5d3437b3e77525e8733ac3e7cd31bb21a", func := "loop.example/g01393/laws.FnExactInterestOf", spec := "fnExactInterestOf", apart := false }
def FnExactInterestOfSaid : Prop := fnExactInterestOfRow.holds Try.pinned (OpenSpec.ofChange fnExactInterestOfSpec)

/-- ITS FALSE NEIGHBOUR: 'it returns false'. Refute it at one input. -/
def fnExactInterestOfWrong : ChangeSpec := { name := "fnExactInterestOf", fn := fun _ => fun
  | [d1, d2, d3, d4, d5] => { results := [.lit (.bool false)], args := [d1, d2, d3, d4, d5] }
  | _ => none }
def FnExactInterestOfWrongFalsely : Prop := fnExactInterestOfRow.holds Try.pinned (OpenSpec.ofChange fnExactInterestOfWrong)

/-- 'laws.FnExactInterestByRates': WHATEVER THE INPUT: true; the input reads as it did. -/
def fnExactInterestByRatesSpec : ChangeSpec := { name := "fnExactInterestByRates", fn := fun _ => fun
  | [d1, d2, d3, d4, d5, d6] => { results := [.lit (.bool true)], args := [d1, d2, d3, d4, d5, d6] }
  | _ => none }
def fnExactInterestByRatesRow : OpenClaim := { program := "ytiblnnianaaddaa", sum := "5cea78a03ca74cc35e135d765819a7f5d3437b3e77525e8733ac3e7cd31bb21a", func := "loop.example/g01393/laws.FnExactInterestByRates", spec := "fnExactInterestByRates", unfollowed := true, recurses := true, apart := false }
def FnExactInterestByRatesSaid : Prop := fnExactInterestByRatesRow.holds Try.pinned (OpenSpec.ofChange fnExactInterestByRatesSpec)

/-- ITS FALSE NEIGHBOUR: 'it returns false'. Refute it at one input. -/
def fnExactInterestByRatesWrong : ChangeSpec := { name := "fnExactInterestByRates", fn := fun _ => fun
  | [d1, d2, d3, d4, d5, d6] => { results := [.lit (.bool false)], args := [d1, d2, d3, d4, d5, d6] }
  | _ => none }
def FnExactInterestByRatesWrongFalsely : Prop := fnExactInterestByRatesRow.holds Try.pinned (OpenSpec.ofChange fnExactInterestByRatesWrong)

/- THE SECOND FORM. 'bulk': how many values and letters a reading holds, each counted each time it is reached (what is shared counts as often as it is met; a slice's spare places count too). A statement '..UptoSaid' is the law's where the arguments, and the package variables that the reading takes, are together of bulk at most 1048576: NARROWER than '..Said'. Prove '..Said' where nothing that the law and all that it calls make is longer than what came in: it says more and counts as full. Else prove '..UptoSaid'. A law counts once. -/
mutual
def uptoBulk {H : Type} : DataW H → Nat
  | .lit (.string bytes) => bytes.length + 1
  | .lit _ => 1
  | .nil => 1
  | .ptr d => uptoBulk d + 1
  | .slice elems spare => uptoBulkAll elems + uptoBulkAll spare + 1
  | .agg parts => uptoBulkAll parts + 1
  | .iface _ d => uptoBulk d + 1
  | .map entries => uptoBulkEntries entries + 1
  | .held _ => 1
def uptoBulkAll {H : Type} : List (DataW H) → Nat
  | [] => 0
  | d :: r => uptoBulk d + uptoBulkAll r
def uptoBulkEntries {H : Type} : List (Lit × DataW H) → Nat
  | [] => 0
  | x :: r => uptoBulkEntry x + uptoBulkEntries r
def uptoBulkEntry {H : Type} : Lit × DataW H → Nat
  | (.string bytes, d) => bytes.length + uptoBulk d + 1
  | (_, d) => uptoBulk d + 1
 end
def uptoSmall : (H : Type) → List (DataW H) → Bool := fun _ ds => decide (uptoBulkAll ds ≤ 1048576)
def OpenSpec.upto (s : _root_.Go.ChangeSpec) : _root_.Go.OpenSpec := { _root_.Go.OpenSpec.ofChange s with cond := some uptoSmall }

/-- 'laws.FnInterest', WHERE WHAT IT READS IS OF BULK AT MOST 1048576: true; the input reads as it did. -/
def fnInterestUptoRow : OpenClaim := { program := "ytiblnnianaaddaa", sum := "5cea78a03ca74cc35e135d765819a7f5d3437b3e77525e8733ac3e7cd31bb21a", func := "loop.example/g01393/laws.FnInterest", spec := "fnInterest", unfollowed := true, recurses := true, apart := false, narrowed := true }
def FnInterestUptoSaid : Prop := fnInterestUptoRow.holds Try.pinned (OpenSpec.upto fnInterestSpec)

/-- 'laws.FnExactDayOf', WHERE WHAT IT READS IS OF BULK AT MOST 1048576: true; the input reads as it did. -/
def fnExactDayOfUptoRow : OpenClaim := { program := "ytiblnnianaaddaa", sum := "5cea78a03ca74cc35e135d765819a7f5d3437b3e77525e8733ac3e7cd31bb21a", func := "loop.example/g01393/laws.FnExactDayOf", spec := "fnExactDayOf", apart := false, narrowed := true }
def FnExactDayOfUptoSaid : Prop := fnExactDayOfUptoRow.holds Try.pinned (OpenSpec.upto fnExactDayOfSpec)

/-- 'laws.FnExactDateOf', WHERE WHAT IT READS IS OF BULK AT MOST 1048576: true; the input reads as it did. -/
def fnExactDateOfUptoRow : OpenClaim := { program := "ytiblnnianaaddaa", sum := "5cea78a03ca74cc35e135d765819a7f5d3437b3e77525e8733ac3e7cd31bb21a", func := "loop.example/g01393/laws.FnExactDateOf", spec := "fnExactDateOf", apart := false, narrowed := true }
def FnExactDateOfUptoSaid : Prop := fnExactDateOfUptoRow.holds Try.pinned (OpenSpec.upto fnExactDateOfSpec)

/-- 'laws.FnExactLoanCount', WHERE WHAT IT READS IS OF BULK AT MOST 1048576: true; the input reads as it did. -/
def fnExactLoanCountUptoRow : OpenClaim := { program := "ytiblnnianaaddaa", sum := "5cea78a03ca74cc35e135d765819a7f5d3437b3e77525e8733ac3e7cd31bb21a", func := "loop.example/g01393/laws.FnExactLoanCount", spec := "fnExactLoanCount", apart := false, narrowed := true }
def FnExactLoanCountUptoSaid : Prop := fnExactLoanCountUptoRow.holds Try.pinned (OpenSpec.upto fnExactLoanCountSpec)

/-- 'laws.FnExactLoanPayment', WHERE WHAT IT READS IS OF BULK AT MOST 1048576: true; the input reads as it did. -/
def fnExactLoanPaymentUptoRow : OpenClaim := { program := "ytiblnnianaaddaa", sum := "5cea78a03ca74cc35e135d765819a7f5d3437b3e77525e8733ac3e7cd31bb21a", func := "loop.example/g01393/laws.FnExactLoanPayment", spec := "fnExactLoanPayment", apart := false, narrowed := true }
def FnExactLoanPaymentUptoSaid : Prop := fnExactLoanPaymentUptoRow.holds Try.pinned (OpenSpec.upto fnExactLoanPaymentSpec)

/-- 'laws.FnExactLoanTable', WHERE WHAT IT READS IS OF BULK AT MOST 1048576: true; the input reads as it did. -/
def fnExactLoanTableUptoRow : OpenClaim := { program := "ytiblnnianaaddaa", sum := "5cea78a03ca74cc35e135d765819a7f5d3437b3e77525e8733ac3e7cd31bb21a", func := "loop.example/g01393/laws.FnExactLoanTable", spec := "fnExactLoanTable", apart := false, narrowed := true }
def FnExactLoanTableUptoSaid : Prop := fnExactLoanTableUptoRow.holds Try.pinned (OpenSpec.upto fnExactLoanTableSpec)

/-- 'laws.FnExactDaysBetween', WHERE WHAT IT READS IS OF BULK AT MOST 1048576: true; the input reads as it did. -/
def fnExactDaysBetweenUptoRow : OpenClaim := { program := "ytiblnnianaaddaa", sum := "5cea78a03ca74cc35e135d765819a7f5d3437b3e77525e8733ac3e7cd31bb21a", func := "loop.example/g01393/laws.FnExactDaysBetween", spec := "fnExactDaysBetween", apart := false, narrowed := true }
def FnExactDaysBetweenUptoSaid : Prop := fnExactDaysBetweenUptoRow.holds Try.pinned (OpenSpec.upto fnExactDaysBetweenSpec)

/-- 'laws.FnDates', WHERE WHAT IT READS IS OF BULK AT MOST 1048576: true; the input reads as it did. -/
def fnDatesUptoRow : OpenClaim := { program := "ytiblnnianaaddaa", sum := "5cea78a03ca74cc35e135d765819a7f5d3437b3e77525e8733ac3e7cd31bb21a", func := "loop.example/g01393/laws.FnDates", spec := "fnDates", apart := false, narrowed := true }
def FnDatesUptoSaid : Prop := fnDatesUptoRow.holds Try.pinned (OpenSpec.upto fnDatesSpec)

/-- 'laws.FnExactPenaltyOf', WHERE WHAT IT READS IS OF BULK AT MOST 1048576: true; the input reads as it did. -/
def fnExactPenaltyOfUptoRow : OpenClaim := { program := "ytiblnnianaaddaa", sum := "5cea78a03ca74cc35e135d765819a7f5d3437b3e77525e8733ac3e7cd31bb21a", func := "loop.example/g01393/laws.FnExactPenaltyOf", spec := "fnExactPenaltyOf", apart := false, narrowed := true }
def FnExactPenaltyOfUptoSaid : Prop := fnExactPenaltyOfUptoRow.holds Try.pinned (OpenSpec.upto fnExactPenaltyOfSpec)

/-- 'laws.FnExactInterestOf', WHERE WHAT IT READS IS OF BULK AT MOST 1048576: true; the input reads as it did. -/
def fnExactInterestOfUptoRow : OpenClaim := { program := "ytiblnnianaaddaa", sum := "5cea78a03ca74cc35e135d765819a7f5d3437b3e77525e8733ac3e7cd31bb21a", func := "loop.example/g01393/laws.FnExactInterestOf", spec := "fnExactInterestOf", apart := false, narrowed := true }
def FnExactInterestOfUptoSaid : Prop := fnExactInterestOfUptoRow.holds Try.pinned (OpenSpec.upto fnExactInterestOfSpec)

/-- 'laws.FnExactInterestByRates', WHERE WHAT IT READS IS OF BULK AT MOST 1048576: true; the input reads as it did. -/
def fnExactInterestByRatesUptoRow : OpenClaim := { program := "ytiblnnianaaddaa", sum := "5cea78a03ca74cc35e135d765819a7f5d3437b3e77525e8733ac3e7cd31bb21a", func := "loop.example/g01393/laws.FnExactInterestByRates", spec := "fnExactInterestByRates", unfollowed := true, recurses := true, apart := false, narrowed := true }
def FnExactInterestByRatesUptoSaid : Prop := fnExactInterestByRatesUptoRow.holds Try.pinned (OpenSpec.upto fnExactInterestByRatesSpec)

end Rows
end Go.Proofs.Ytiblnnianaaddaa
