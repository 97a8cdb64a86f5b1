/-
  No cell of these rows narrows 'for every input' (looked for: loops, veiled, ifaces, maps, wideKeys, modest, calm, conditions, laid).
  DERIVED. THE GIVEN ROWS OF THIS SEAT. 5 by the template 'for every input the law returns true; each argument reads behind the call as it read before'; 0 by the template 'total and deterministic' (their statements: YtpmlkolaganojaaTotals.lean).
  GIVEN WITH THE SEED: the statements are not yours to turn. If you find one false, say at which input.
  Laid BY PROGRAM, IN A SANDBOX (cutbox-rows.mjs): the forced cells as the released guide's own fill.sh prints them over the translation 90f26767ec15aa12… (all of the seat's roots in one cut). By AI agents, Wed Nov 11 2026. No macro, syntax, notation, axiom, sorry.
-/
import Derived.Test.YtpmlkolaganojaaChecked
import GoSem.Claim
import GoSem.ClaimJoined
import GoSem.ClaimMapViews
import Derived.JoinedTies
import Derived.KernelRfl
namespace Go.Proofs.Ytpmlkolaganojaa
/- THE CELL 'sum', in the pinned program and in every row, IS THE sha256 OF THE DUMP (.gsa) THAT YtpmlkolaganojaaProg.lean LOADS. Nothing in Lean hashes anything: it is a label: what it is worth is what the hold of that sum in a sandbox is worth. -/
noncomputable def Try.pinned : Pinned := { name := "ytpmlkolaganojaa", sum := "90f26767ec15aa12e3220d8aaf7ad0bef050b8e9fb389d97315a890d9e56d417", checked := Try.checked }
namespace Rows
def none {H : Type} : Left H := { results := [], args := [] }

/-- 'laws.FnInterest': WHATEVER THE INPUT: true; the input reads as it did. -/
def fnInterestSpec : ChangeSpec := { name := "fnInterest", fn := fun _ => fun
  | [d1, d2] => { results := [.lit (.bool true)], args := [d1, d2] }
  | _ => none }
def fnInterestRow : OpenClaim := { program := "ytpmlkolaganojaa", sum := "90f26767ec15aa12e3220d8aaf7ad0bef050b8e9fb389d97315a890d9e56d417", func := "loop.example/g01393/laws.FnInterest", spec := "fnInterest", unfollowed := true, recurses := true, apart := false }
def FnInterestSaid : Prop := fnInterestRow.holds Try.pinned (OpenSpec.ofChange fnInterestSpec)

/-- ITS FALSE NEIGHBOUR: 'it returns false'. Refute it at one input. -/
def fnInterestWrong : ChangeSpec := { name := "fnInterest", fn := fun _ => fun
  | [d1, d2] => { results := [.lit (.bool false)], args := [d1, d2] }
  | _ => none }
def FnInterestWrongFalsely : Prop := fnInterestRow.holds Try.pinned (OpenSpec.ofChange fnInterestWrong)

/-- 'laws.FnDates': WHATEVER THE INPUT: true; the input reads as it did. -/
def fnDatesSpec : ChangeSpec := { name := "fnDates", fn := fun _ => fun
  | [d1, d2] => { results := [.lit (.bool true)], args := [d1, d2] }
  | _ => none }
def fnDatesRow : OpenClaim := { program := "ytpmlkolaganojaa", sum := "90f26767ec15aa12e3220d8aaf7ad0bef050b8e9fb389d97315a890d9e56d417", func := "loop.example/g01393/laws.FnDates", spec := "fnDates", apart := false }
def FnDatesSaid : Prop := fnDatesRow.holds Try.pinned (OpenSpec.ofChange fnDatesSpec)

/-- ITS FALSE NEIGHBOUR: 'it returns false'. Refute it at one input. -/
def fnDatesWrong : ChangeSpec := { name := "fnDates", fn := fun _ => fun
  | [d1, d2] => { results := [.lit (.bool false)], args := [d1, d2] }
  | _ => none }
def FnDatesWrongFalsely : Prop := fnDatesRow.holds Try.pinned (OpenSpec.ofChange fnDatesWrong)

/-- 'laws.FnExactPenaltyOf': WHATEVER THE INPUT: true; the input reads as it did. -/
def fnExactPenaltyOfSpec : ChangeSpec := { name := "fnExactPenaltyOf", fn := fun _ => fun
  | [d1, d2, d3, d4, d5] => { results := [.lit (.bool true)], args := [d1, d2, d3, d4, d5] }
  | _ => none }
def fnExactPenaltyOfRow : OpenClaim := { program := "ytpmlkolaganojaa", sum := "90f26767ec15aa12e3220d8aaf7ad0bef050b8e9fb389d97315a890d9e56d417", func := "loop.example/g01393/laws.FnExactPenaltyOf", spec := "fnExactPenaltyOf", apart := false }
def FnExactPenaltyOfSaid : Prop := fnExactPenaltyOfRow.holds Try.pinned (OpenSpec.ofChange fnExactPenaltyOfSpec)

/-- ITS FALSE NEIGHBOUR: 'it returns false'. Refute it at one input. -/
def fnExactPenaltyOfWrong : ChangeSpec := { name := "fnExactPenaltyOf", fn := fun _ => fun
  | [d1, d2, d3, d4, d5] => { results := [.lit (.bool false)], args := [d1, d2, d3, d4, d5] }
  | _ => none }
def FnExactPenaltyOfWrongFalsely : Prop := fnExactPenaltyOfRow.holds Try.pinned (OpenSpec.ofChange fnExactPenaltyOfWrong)

/-- 'laws.FnExactInterestOf': WHATEVER THE INPUT: true; the input reads as it did. -/
def fnExactInterestOfSpec : ChangeSpec := { name := "fnExactInterestOf", fn := fun _ => fun
  | [d1, d2, d3, d4, d5] => { results := [.lit (.bool true)], args := [d1, d2, d3, d4, d5] }
  | _ => none }
def fnExactInterestOfRow : OpenClaim := { program := "ytpmlkolaganojaa", sum := "90f26767ec15aa12e3220d8aaf7ad0bef050b8e9fb389d97315a890d9e56d417", func := "loop.example/g01393/laws.FnExactInterestOf", spec := "fnExactInterestOf", apart := false }
def FnExactInterestOfSaid : Prop := fnExactInterestOfRow.holds Try.pinned (OpenSpec.ofChange fnExactInterestOfSpec)

/-- ITS FALSE NEIGHBOUR: 'it returns false'. Refute it at one input. -/
def fnExactInterestOfWrong : ChangeSpec := { name := "fnExactInterestOf", fn := fun _ => fun
  | [d1, d2, d3, d4, d5] => { results := [.lit (.bool false)], args := [d1, d2, d3, d4, d5] }
  | _ => none }
def FnExactInterestOfWrongFalsely : Prop := fnExactInterestOfRow.holds Try.pinned (OpenSpec.ofChange fnExactInterestOfWrong)

/-- 'laws.FnExactInterestByRates': WHATEVER THE INPUT: true; the input reads as it did. -/
def fnExactInterestByRatesSpec : ChangeSpec := { name := "fnExactInterestByRates", fn := fun _ => fun
  | [d1, d2, d3, d4, d5, d6] => { results := [.lit (.bool true)], args := [d1, d2, d3, d4, d5, d6] }
  | _ => none }
def fnExactInterestByRatesRow : OpenClaim := { program := "ytpmlkolaganojaa", sum := "90f26767ec15aa12e3220d8aaf7ad0bef050b8e9fb389d97315a890d9e56d417", func := "loop.example/g01393/laws.FnExactInterestByRates", spec := "fnExactInterestByRates", unfollowed := true, recurses := true, apart := false }
def FnExactInterestByRatesSaid : Prop := fnExactInterestByRatesRow.holds Try.pinned (OpenSpec.ofChange fnExactInterestByRatesSpec)

/-- ITS FALSE NEIGHBOUR: 'it returns false'. Refute it at one input. -/
def fnExactInterestByRatesWrong : ChangeSpec := { name := "fnExactInterestByRates", fn := fun _ => fun
  | [d1, d2, d3, d4, d5, d6] => { results := [.lit (.bool false)], args := [d1, d2, d3, d4, d5, d6] }
  | _ => none }
def FnExactInterestByRatesWrongFalsely : Prop := fnExactInterestByRatesRow.holds Try.pinned (OpenSpec.ofChange fnExactInterestByRatesWrong)

/- THE SECOND FORM. 'bulk': how many values and letters a reading holds, each counted each time it is reached (what is shared counts as often as it is met; a slice's spare places count too). A statement '..UptoSaid' is the law's where the arguments, and the package variables that the reading takes, are together of bulk at most 1048576: NARROWER than '..Said'. Prove '..Said' where nothing that the law and all that it calls make is longer than what came in: it says more and counts as full. Else prove '..UptoSaid'. A law counts once. -/
mutual
def uptoBulk {H : Type} : DataW H → Nat
  | .lit (.string bytes) => bytes.length + 1
  | .lit _ => 1
  | .nil => 1
  | .ptr d => uptoBulk d + 1
  | .slice elems spare => uptoBulkAll elems + uptoBulkAll spare + 1
  | .agg parts => uptoBulkAll parts + 1
  | .iface _ d => uptoBulk d + 1
  | .map entries => uptoBulkEntries entries + 1
  | .held _ => 1
def uptoBulkAll {H : Type} : List (DataW H) → Nat
  | [] => 0
  | d :: r => uptoBulk d + uptoBulkAll r
def uptoBulkEntries {H : Type} : List (Lit × DataW H) → Nat
  | [] => 0
  | x :: r => uptoBulkEntry x + uptoBulkEntries r
def uptoBulkEntry {H : Type} : Lit × DataW H → Nat
  | (.string bytes, d) => bytes.length + uptoBulk d + 1
  | (_, d) => uptoBulk d + 1
 end
def uptoSmall : (H : Type) → List (DataW H) → Bool := fun _ ds => decide (uptoBulkAll ds ≤ 1048576)
def OpenSpec.upto (s : _root_.Go.ChangeSpec) : _root_.Go.OpenSpec := { _root_.Go.OpenSpec.ofChange s with cond := some uptoSmall }

/-- 'laws.FnInterest', WHERE WHAT IT READS IS OF BULK AT MOST 1048576: true; the input reads as it did. -/
def fnInterestUptoRow : OpenClaim := { program := "ytpmlkolaganojaa", sum := "90f26767ec15aa12e3220d8aaf7ad0bef050b8e9fb389d97315a890d9e56d417", func := "loop.example/g01393/laws.FnInterest", spec := "fnInterest", unfollowed := true, recurses := true, apart := false, narrowed := true }
def FnInterestUptoSaid : Prop := fnInterestUptoRow.holds Try.pinned (OpenSpec.upto fnInterestSpec)

/-- 'laws.FnDates', WHERE WHAT IT READS IS OF BULK AT MOST 1048576: true; the input reads as it did. -/
def fnDatesUptoRow : OpenClaim := { program := "ytpmlkolaganojaa", sum := "90f26767ec15aa12e3220d8aaf7ad0bef050b8e9fb389d97315a890d9e56d417", func := "loop.example/g01393/laws.FnDates", spec := "fnDates", apart := false, narrowed := true }
def FnDatesUptoSaid : Prop := fnDatesUptoRow.holds Try.pinned (OpenSpec.upto fnDatesSpec)

/-- 'laws.FnExactPenaltyOf', WHERE WHAT IT READS IS OF BULK AT MOST 1048576: true; the input reads as it did. -/
def fnExactPenaltyOfUptoRow : OpenClaim := { program := "ytpmlkolaganojaa", sum := "90f26767ec15aa12e3220d8aaf7ad0bef050b8e9fb389d97315a890d9e56d417", func := "loop.example/g01393/laws.FnExactPenaltyOf", spec := "fnExactPenaltyOf", apart := false, narrowed := true }
def FnExactPenaltyOfUptoSaid : Prop := fnExactPenaltyOfUptoRow.holds Try.pinned (OpenSpec.upto fnExactPenaltyOfSpec)

/-- 'laws.FnExactInterestOf', WHERE WHAT IT READS IS OF BULK AT MOST 1048576: true; the input reads as it did. -/
def fnExactInterestOfUptoRow : OpenClaim := { program := "ytpmlkolaganojaa", sum := "90f26767ec15aa12e3220d8aaf7ad0bef050b8e9fb389d97315a890d9e56d417", func := "loop.example/g01393/laws.FnExactInterestOf", spec := "fnExactInterestOf", apart := false, narrowed := true }
def FnExactInterestOfUptoSaid : Prop := fnExactInterestOfUptoRow.holds Try.pinned (OpenSpec.upto fnExactInterestOfSpec)

/-- 'laws.FnExactInterestByRates', WHERE WHAT IT READS IS OF BULK AT MOST 1048576: true; the input reads as it did. -/
def fnExactInterestByRatesUptoRow : OpenClaim := { program := "ytpmlkolaganojaa", sum := "90f26767ec15aa12e3220d8aaf7ad0bef050b8e9fb389d97315a890d9e56d417", func := "loop.example/g01393/laws.FnExactInterestByRates", spec := "fnExactInterestByRates", unfollowed := true, recurses := true, apart := false, narrowed := true }
def FnExactInterestByRatesUptoSaid : Prop := fnExactInterestByRatesUptoRow.holds Try.pinned (OpenSpec.upto fnExactInterestByRatesSpec)

end Rows
end Go.Proofs.Ytpmlkolaganojaa
