/-
  No cell of these rows narrows 'for every input' (looked for: loops, veiled, ifaces, maps, wideKeys, modest, calm, conditions, laid).
  DERIVED. THE GIVEN ROWS OF THIS SEAT. 11 by the template 'for every input the law returns true; each argument reads behind the call as it read before'; 0 by the template 'total and deterministic' (their statements: YtjghhllekbmkjaaTotals.lean).
  GIVEN WITH THE SEED: the statements are not yours to turn. If you find one false, say at which input.
  Laid BY PROGRAM, IN A SANDBOX (cutbox-rows.mjs): the forced cells as the released guide's own fill.sh prints them over the translation d9b62f3b9679f641… (all of the seat's roots in one cut). By AI agents, Wed Nov 11 2026. No macro, syntax, notation, axiom, sorry.
-/
import Derived.Test.YtjghhllekbmkjaaChecked
import GoSem.Claim
import GoSem.ClaimJoined
import GoSem.ClaimMapViews
import Derived.JoinedTies
import Derived.KernelRfl
namespace Go.Proofs.Ytjghhllekbmkjaa
/- THE CELL 'sum', in the pinned program and in every row, IS THE sha256 OF THE DUMP (.gsa) THAT YtjghhllekbmkjaaProg.lean LOADS. Nothing in Lean hashes anything: it is a label: what it is worth is what the hold of that sum in a sandbox is worth. -/
noncomputable def Try.pinned : Pinned := { name := "ytjghhllekbmkjaa", sum := "d9b62f3b9679f641d0dca0fcb2aed2c30140d73824b449912708e526e628a609", checked := Try.checked }
namespace Rows
def none {H : Type} : Left H := { results := [], args := [] }

/-- 'laws.FnExactExemptDue': WHATEVER THE INPUT: true; the input reads as it did. -/
def fnExactExemptDueSpec : ChangeSpec := { name := "fnExactExemptDue", fn := fun _ => fun
  | [d1, d2, d3, d4] => { results := [.lit (.bool true)], args := [d1, d2, d3, d4] }
  | _ => none }
def fnExactExemptDueRow : OpenClaim := { program := "ytjghhllekbmkjaa", sum := "d9b62f3b9679f641d0dca0fcb2aed2c30140d73824b449912708e526e628a609", func := "loop.example/g01393/laws.FnExactExemptDue", spec := "fnExactExemptDue", unfollowed := true, recurses := true, apart := false }
def FnExactExemptDueSaid : Prop := fnExactExemptDueRow.holds Try.pinned (OpenSpec.ofChange fnExactExemptDueSpec)

/-- ITS FALSE NEIGHBOUR: 'it returns false'. Refute it at one input. -/
def fnExactExemptDueWrong : ChangeSpec := { name := "fnExactExemptDue", fn := fun _ => fun
  | [d1, d2, d3, d4] => { results := [.lit (.bool false)], args := [d1, d2, d3, d4] }
  | _ => none }
def FnExactExemptDueWrongFalsely : Prop := fnExactExemptDueRow.holds Try.pinned (OpenSpec.ofChange fnExactExemptDueWrong)

/-- 'laws.FnExactSplitDue': WHATEVER THE INPUT: true; the input reads as it did. -/
def fnExactSplitDueSpec : ChangeSpec := { name := "fnExactSplitDue", fn := fun _ => fun
  | [d1, d2, d3, d4] => { results := [.lit (.bool true)], args := [d1, d2, d3, d4] }
  | _ => none }
def fnExactSplitDueRow : OpenClaim := { program := "ytjghhllekbmkjaa", sum := "d9b62f3b9679f641d0dca0fcb2aed2c30140d73824b449912708e526e628a609", func := "loop.example/g01393/laws.FnExactSplitDue", spec := "fnExactSplitDue", unfollowed := true, recurses := true, apart := false }
def FnExactSplitDueSaid : Prop := fnExactSplitDueRow.holds Try.pinned (OpenSpec.ofChange fnExactSplitDueSpec)

/-- ITS FALSE NEIGHBOUR: 'it returns false'. Refute it at one input. -/
def fnExactSplitDueWrong : ChangeSpec := { name := "fnExactSplitDue", fn := fun _ => fun
  | [d1, d2, d3, d4] => { results := [.lit (.bool false)], args := [d1, d2, d3, d4] }
  | _ => none }
def FnExactSplitDueWrongFalsely : Prop := fnExactSplitDueRow.holds Try.pinned (OpenSpec.ofChange fnExactSplitDueWrong)

/-- 'laws.FnExactPartsDue': WHATEVER THE INPUT: true; the input reads as it did. -/
def fnExactPartsDueSpec : ChangeSpec := { name := "fnExactPartsDue", fn := fun _ => fun
  | [d1, d2, d3, d4, d5] => { results := [.lit (.bool true)], args := [d1, d2, d3, d4, d5] }
  | _ => none }
def fnExactPartsDueRow : OpenClaim := { program := "ytjghhllekbmkjaa", sum := "d9b62f3b9679f641d0dca0fcb2aed2c30140d73824b449912708e526e628a609", func := "loop.example/g01393/laws.FnExactPartsDue", spec := "fnExactPartsDue", unfollowed := true, recurses := true, apart := false }
def FnExactPartsDueSaid : Prop := fnExactPartsDueRow.holds Try.pinned (OpenSpec.ofChange fnExactPartsDueSpec)

/-- ITS FALSE NEIGHBOUR: 'it returns false'. Refute it at one input. -/
def fnExactPartsDueWrong : ChangeSpec := { name := "fnExactPartsDue", fn := fun _ => fun
  | [d1, d2, d3, d4, d5] => { results := [.lit (.bool false)], args := [d1, d2, d3, d4, d5] }
  | _ => none }
def FnExactPartsDueWrongFalsely : Prop := fnExactPartsDueRow.holds Try.pinned (OpenSpec.ofChange fnExactPartsDueWrong)

/-- 'laws.FnExactNetWithTaper': WHATEVER THE INPUT: true; the input reads as it did. -/
def fnExactNetWithTaperSpec : ChangeSpec := { name := "fnExactNetWithTaper", fn := fun _ => fun
  | [d1, d2, d3, d4, d5, d6] => { results := [.lit (.bool true)], args := [d1, d2, d3, d4, d5, d6] }
  | _ => none }
def fnExactNetWithTaperRow : OpenClaim := { program := "ytjghhllekbmkjaa", sum := "d9b62f3b9679f641d0dca0fcb2aed2c30140d73824b449912708e526e628a609", func := "loop.example/g01393/laws.FnExactNetWithTaper", spec := "fnExactNetWithTaper", unfollowed := true, recurses := true, apart := false }
def FnExactNetWithTaperSaid : Prop := fnExactNetWithTaperRow.holds Try.pinned (OpenSpec.ofChange fnExactNetWithTaperSpec)

/-- ITS FALSE NEIGHBOUR: 'it returns false'. Refute it at one input. -/
def fnExactNetWithTaperWrong : ChangeSpec := { name := "fnExactNetWithTaper", fn := fun _ => fun
  | [d1, d2, d3, d4, d5, d6] => { results := [.lit (.bool false)], args := [d1, d2, d3, d4, d5, d6] }
  | _ => none }
def FnExactNetWithTaperWrongFalsely : Prop := fnExactNetWithTaperRow.holds Try.pinned (OpenSpec.ofChange fnExactNetWithTaperWrong)

/-- 'laws.FnExactCliffEnd': WHATEVER THE INPUT: true; the input reads as it did. -/
def fnExactCliffEndSpec : ChangeSpec := { name := "fnExactCliffEnd", fn := fun _ => fun
  | [d1, d2, d3, d4] => { results := [.lit (.bool true)], args := [d1, d2, d3, d4] }
  | _ => none }
def fnExactCliffEndRow : OpenClaim := { program := "ytjghhllekbmkjaa", sum := "d9b62f3b9679f641d0dca0fcb2aed2c30140d73824b449912708e526e628a609", func := "loop.example/g01393/laws.FnExactCliffEnd", spec := "fnExactCliffEnd", unfollowed := true, recurses := true, apart := false }
def FnExactCliffEndSaid : Prop := fnExactCliffEndRow.holds Try.pinned (OpenSpec.ofChange fnExactCliffEndSpec)

/-- ITS FALSE NEIGHBOUR: 'it returns false'. Refute it at one input. -/
def fnExactCliffEndWrong : ChangeSpec := { name := "fnExactCliffEnd", fn := fun _ => fun
  | [d1, d2, d3, d4] => { results := [.lit (.bool false)], args := [d1, d2, d3, d4] }
  | _ => none }
def FnExactCliffEndWrongFalsely : Prop := fnExactCliffEndRow.holds Try.pinned (OpenSpec.ofChange fnExactCliffEndWrong)

/-- 'laws.FnExactRateCurve': WHATEVER THE INPUT: true; the input reads as it did. -/
def fnExactRateCurveSpec : ChangeSpec := { name := "fnExactRateCurve", fn := fun _ => fun
  | [d1, d2] => { results := [.lit (.bool true)], args := [d1, d2] }
  | _ => none }
def fnExactRateCurveRow : OpenClaim := { program := "ytjghhllekbmkjaa", sum := "d9b62f3b9679f641d0dca0fcb2aed2c30140d73824b449912708e526e628a609", func := "loop.example/g01393/laws.FnExactRateCurve", spec := "fnExactRateCurve", unfollowed := true, recurses := true, apart := false }
def FnExactRateCurveSaid : Prop := fnExactRateCurveRow.holds Try.pinned (OpenSpec.ofChange fnExactRateCurveSpec)

/-- ITS FALSE NEIGHBOUR: 'it returns false'. Refute it at one input. -/
def fnExactRateCurveWrong : ChangeSpec := { name := "fnExactRateCurve", fn := fun _ => fun
  | [d1, d2] => { results := [.lit (.bool false)], args := [d1, d2] }
  | _ => none }
def FnExactRateCurveWrongFalsely : Prop := fnExactRateCurveRow.holds Try.pinned (OpenSpec.ofChange fnExactRateCurveWrong)

/-- 'laws.FnExactGrossOf': WHATEVER THE INPUT: true; the input reads as it did. -/
def fnExactGrossOfSpec : ChangeSpec := { name := "fnExactGrossOf", fn := fun _ => fun
  | [d1, d2, d3] => { results := [.lit (.bool true)], args := [d1, d2, d3] }
  | _ => none }
def fnExactGrossOfRow : OpenClaim := { program := "ytjghhllekbmkjaa", sum := "d9b62f3b9679f641d0dca0fcb2aed2c30140d73824b449912708e526e628a609", func := "loop.example/g01393/laws.FnExactGrossOf", spec := "fnExactGrossOf", unfollowed := true, recurses := true, apart := false }
def FnExactGrossOfSaid : Prop := fnExactGrossOfRow.holds Try.pinned (OpenSpec.ofChange fnExactGrossOfSpec)

/-- ITS FALSE NEIGHBOUR: 'it returns false'. Refute it at one input. -/
def fnExactGrossOfWrong : ChangeSpec := { name := "fnExactGrossOf", fn := fun _ => fun
  | [d1, d2, d3] => { results := [.lit (.bool false)], args := [d1, d2, d3] }
  | _ => none }
def FnExactGrossOfWrongFalsely : Prop := fnExactGrossOfRow.holds Try.pinned (OpenSpec.ofChange fnExactGrossOfWrong)

/-- 'laws.FnExactWithholdSums': WHATEVER THE INPUT: true; the input reads as it did. -/
def fnExactWithholdSumsSpec : ChangeSpec := { name := "fnExactWithholdSums", fn := fun _ => fun
  | [d1, d2, d3] => { results := [.lit (.bool true)], args := [d1, d2, d3] }
  | _ => none }
def fnExactWithholdSumsRow : OpenClaim := { program := "ytjghhllekbmkjaa", sum := "d9b62f3b9679f641d0dca0fcb2aed2c30140d73824b449912708e526e628a609", func := "loop.example/g01393/laws.FnExactWithholdSums", spec := "fnExactWithholdSums", unfollowed := true, recurses := true, apart := false }
def FnExactWithholdSumsSaid : Prop := fnExactWithholdSumsRow.holds Try.pinned (OpenSpec.ofChange fnExactWithholdSumsSpec)

/-- ITS FALSE NEIGHBOUR: 'it returns false'. Refute it at one input. -/
def fnExactWithholdSumsWrong : ChangeSpec := { name := "fnExactWithholdSums", fn := fun _ => fun
  | [d1, d2, d3] => { results := [.lit (.bool false)], args := [d1, d2, d3] }
  | _ => none }
def FnExactWithholdSumsWrongFalsely : Prop := fnExactWithholdSumsRow.holds Try.pinned (OpenSpec.ofChange fnExactWithholdSumsWrong)

/-- 'laws.FnExactWithholdYears': WHATEVER THE INPUT: true; the input reads as it did. -/
def fnExactWithholdYearsSpec : ChangeSpec := { name := "fnExactWithholdYears", fn := fun _ => fun
  | [d1, d2, d3] => { results := [.lit (.bool true)], args := [d1, d2, d3] }
  | _ => none }
def fnExactWithholdYearsRow : OpenClaim := { program := "ytjghhllekbmkjaa", sum := "d9b62f3b9679f641d0dca0fcb2aed2c30140d73824b449912708e526e628a609", func := "loop.example/g01393/laws.FnExactWithholdYears", spec := "fnExactWithholdYears", unfollowed := true, recurses := true, apart := false }
def FnExactWithholdYearsSaid : Prop := fnExactWithholdYearsRow.holds Try.pinned (OpenSpec.ofChange fnExactWithholdYearsSpec)

/-- ITS FALSE NEIGHBOUR: 'it returns false'. Refute it at one input. -/
def fnExactWithholdYearsWrong : ChangeSpec := { name := "fnExactWithholdYears", fn := fun _ => fun
  | [d1, d2, d3] => { results := [.lit (.bool false)], args := [d1, d2, d3] }
  | _ => none }
def FnExactWithholdYearsWrongFalsely : Prop := fnExactWithholdYearsRow.holds Try.pinned (OpenSpec.ofChange fnExactWithholdYearsWrong)

/-- 'laws.FnExactNetCurve': WHATEVER THE INPUT: true; the input reads as it did. -/
def fnExactNetCurveSpec : ChangeSpec := { name := "fnExactNetCurve", fn := fun _ => fun
  | [d1, d2, d3, d4, d5, d6, d7] => { results := [.lit (.bool true)], args := [d1, d2, d3, d4, d5, d6, d7] }
  | _ => none }
def fnExactNetCurveRow : OpenClaim := { program := "ytjghhllekbmkjaa", sum := "d9b62f3b9679f641d0dca0fcb2aed2c30140d73824b449912708e526e628a609", func := "loop.example/g01393/laws.FnExactNetCurve", spec := "fnExactNetCurve", unfollowed := true, recurses := true, apart := false }
def FnExactNetCurveSaid : Prop := fnExactNetCurveRow.holds Try.pinned (OpenSpec.ofChange fnExactNetCurveSpec)

/-- ITS FALSE NEIGHBOUR: 'it returns false'. Refute it at one input. -/
def fnExactNetCurveWrong : ChangeSpec := { name := "fnExactNetCurve", fn := fun _ => fun
  | [d1, d2, d3, d4, d5, d6, d7] => { results := [.lit (.bool false)], args := [d1, d2, d3, d4, d5, d6, d7] }
  | _ => none }
def FnExactNetCurveWrongFalsely : Prop := fnExactNetCurveRow.holds Try.pinned (OpenSpec.ofChange fnExactNetCurveWrong)

/-- 'laws.FnExactJoinScales': WHATEVER THE INPUT: true; the input reads as it did. -/
def fnExactJoinScalesSpec : ChangeSpec := { name := "fnExactJoinScales", fn := fun _ => fun
  | [d1, d2] => { results := [.lit (.bool true)], args := [d1, d2] }
  | _ => none }
def fnExactJoinScalesRow : OpenClaim := { program := "ytjghhllekbmkjaa", sum := "d9b62f3b9679f641d0dca0fcb2aed2c30140d73824b449912708e526e628a609", func := "loop.example/g01393/laws.FnExactJoinScales", spec := "fnExactJoinScales", unfollowed := true, recurses := true, apart := false }
def FnExactJoinScalesSaid : Prop := fnExactJoinScalesRow.holds Try.pinned (OpenSpec.ofChange fnExactJoinScalesSpec)

/-- ITS FALSE NEIGHBOUR: 'it returns false'. Refute it at one input. -/
def fnExactJoinScalesWrong : ChangeSpec := { name := "fnExactJoinScales", fn := fun _ => fun
  | [d1, d2] => { results := [.lit (.bool false)], args := [d1, d2] }
  | _ => none }
def FnExactJoinScalesWrongFalsely : Prop := fnExactJoinScalesRow.holds Try.pinned (OpenSpec.ofChange fnExactJoinScalesWrong)

/- THE SECOND FORM. 'bulk': how many values and letters a reading holds, each counted each time it is reached (what is shared counts as often as it is met; a slice's spare places count too). A statement '..UptoSaid' is the law's where the arguments, and the package variables that the reading takes, are together of bulk at most 1048576: NARROWER than '..Said'. Prove '..Said' where nothing that the law and all that it calls make is longer than what came in: it says more and counts as full. Else prove '..UptoSaid'. A law counts once. -/
mutual
def uptoBulk {H : Type} : DataW H → Nat
  | .lit (.string bytes) => bytes.length + 1
  | .lit _ => 1
  | .nil => 1
  | .ptr d => uptoBulk d + 1
  | .slice elems spare => uptoBulkAll elems + uptoBulkAll spare + 1
  | .agg parts => uptoBulkAll parts + 1
  | .iface _ d => uptoBulk d + 1
  | .map entries => uptoBulkEntries entries + 1
  | .held _ => 1
def uptoBulkAll {H : Type} : List (DataW H) → Nat
  | [] => 0
  | d :: r => uptoBulk d + uptoBulkAll r
def uptoBulkEntries {H : Type} : List (Lit × DataW H) → Nat
  | [] => 0
  | x :: r => uptoBulkEntry x + uptoBulkEntries r
def uptoBulkEntry {H : Type} : Lit × DataW H → Nat
  | (.string bytes, d) => bytes.length + uptoBulk d + 1
  | (_, d) => uptoBulk d + 1
 end
def uptoSmall : (H : Type) → List (DataW H) → Bool := fun _ ds => decide (uptoBulkAll ds ≤ 1048576)
def OpenSpec.upto (s : _root_.Go.ChangeSpec) : _root_.Go.OpenSpec := { _root_.Go.OpenSpec.ofChange s with cond := some uptoSmall }

/-- 'laws.FnExactExemptDue', WHERE WHAT IT READS IS OF BULK AT MOST 1048576: true; the input reads as it did. -/
def fnExactExemptDueUptoRow : OpenClaim := { program := "ytjghhllekbmkjaa", sum := "d9b62f3b9679f641d0dca0fcb2aed2c30140d73824b449912708e526e628a609", func := "loop.example/g01393/laws.FnExactExemptDue", spec := "fnExactExemptDue", unfollowed := true, recurses := true, apart := false, narrowed := true }
def FnExactExemptDueUptoSaid : Prop := fnExactExemptDueUptoRow.holds Try.pinned (OpenSpec.upto fnExactExemptDueSpec)

/-- 'laws.FnExactSplitDue', WHERE WHAT IT READS IS OF BULK AT MOST 1048576: true; the input reads as it did. -/
def fnExactSplitDueUptoRow : OpenClaim := { program := "ytjghhllekbmkjaa", sum := "d9b62f3b9679f641d0dca0fcb2aed2c30140d73824b449912708e526e628a609", func := "loop.example/g01393/laws.FnExactSplitDue", spec := "fnExactSplitDue", unfollowed := true, recurses := true, apart := false, narrowed := true }
def FnExactSplitDueUptoSaid : Prop := fnExactSplitDueUptoRow.holds Try.pinned (OpenSpec.upto fnExactSplitDueSpec)

/-- 'laws.FnExactPartsDue', WHERE WHAT IT READS IS OF BULK AT MOST 1048576: true; the input reads as it did. -/
def fnExactPartsDueUptoRow : OpenClaim := { program := "ytjghhllekbmkjaa", sum := "d9b62f3b9679f641d0dca0fcb2aed2c30140d73824b449912708e526e628a609", func := "loop.example/g01393/laws.FnExactPartsDue", spec := "fnExactPartsDue", unfollowed := true, recurses := true, apart := false, narrowed := true }
def FnExactPartsDueUptoSaid : Prop := fnExactPartsDueUptoRow.holds Try.pinned (OpenSpec.upto fnExactPartsDueSpec)

/-- 'laws.FnExactNetWithTaper', WHERE WHAT IT READS IS OF BULK AT MOST 1048576: true; the input reads as it did. -/
def fnExactNetWithTaperUptoRow : OpenClaim := { program := "ytjghhllekbmkjaa", sum := "d9b62f3b9679f641d0dca0fcb2aed2c30140d73824b449912708e526e628a609", func := "loop.example/g01393/laws.FnExactNetWithTaper", spec := "fnExactNetWithTaper", unfollowed := true, recurses := true, apart := false, narrowed := true }
def FnExactNetWithTaperUptoSaid : Prop := fnExactNetWithTaperUptoRow.holds Try.pinned (OpenSpec.upto fnExactNetWithTaperSpec)

/-- 'laws.FnExactCliffEnd', WHERE WHAT IT READS IS OF BULK AT MOST 1048576: true; the input reads as it did. -/
def fnExactCliffEndUptoRow : OpenClaim := { program := "ytjghhllekbmkjaa", sum := "d9b62f3b9679f641d0dca0fcb2aed2c30140d73824b449912708e526e628a609", func := "loop.example/g01393/laws.FnExactCliffEnd", spec := "fnExactCliffEnd", unfollowed := true, recurses := true, apart := false, narrowed := true }
def FnExactCliffEndUptoSaid : Prop := fnExactCliffEndUptoRow.holds Try.pinned (OpenSpec.upto fnExactCliffEndSpec)

/-- 'laws.FnExactRateCurve', WHERE WHAT IT READS IS OF BULK AT MOST 1048576: true; the input reads as it did. -/
def fnExactRateCurveUptoRow : OpenClaim := { program := "ytjghhllekbmkjaa", sum := "d9b62f3b9679f641d0dca0fcb2aed2c30140d73824b449912708e526e628a609", func := "loop.example/g01393/laws.FnExactRateCurve", spec := "fnExactRateCurve", unfollowed := true, recurses := true, apart := false, narrowed := true }
def FnExactRateCurveUptoSaid : Prop := fnExactRateCurveUptoRow.holds Try.pinned (OpenSpec.upto fnExactRateCurveSpec)

/-- 'laws.FnExactGrossOf', WHERE WHAT IT READS IS OF BULK AT MOST 1048576: true; the input reads as it did. -/
def fnExactGrossOfUptoRow : OpenClaim := { program := "ytjghhllekbmkjaa", sum := "d9b62f3b9679f641d0dca0fcb2aed2c30140d73824b449912708e526e628a609", func := "loop.example/g01393/laws.FnExactGrossOf", spec := "fnExactGrossOf", unfollowed := true, recurses := true, apart := false, narrowed := true }
def FnExactGrossOfUptoSaid : Prop := fnExactGrossOfUptoRow.holds Try.pinned (OpenSpec.upto fnExactGrossOfSpec)

/-- 'laws.FnExactWithholdSums', WHERE WHAT IT READS IS OF BULK AT MOST 1048576: true; the input reads as it did. -/
def fnExactWithholdSumsUptoRow : OpenClaim := { program := "ytjghhllekbmkjaa", sum := "d9b62f3b9679f641d0dca0fcb2aed2c30140d73824b449912708e526e628a609", func := "loop.example/g01393/laws.FnExactWithholdSums", spec := "fnExactWithholdSums", unfollowed := true, recurses := true, apart := false, narrowed := true }
def FnExactWithholdSumsUptoSaid : Prop := fnExactWithholdSumsUptoRow.holds Try.pinned (OpenSpec.upto fnExactWithholdSumsSpec)

/-- 'laws.FnExactWithholdYears', WHERE WHAT IT READS IS OF BULK AT MOST 1048576: true; the input reads as it did. -/
def fnExactWithholdYearsUptoRow : OpenClaim := { program := "ytjghhllekbmkjaa", sum := "d9b62f3b9679f641d0dca0fcb2aed2c30140d73824b449912708e526e628a609", func := "loop.example/g01393/laws.FnExactWithholdYears", spec := "fnExactWithholdYears", unfollowed := true, recurses := true, apart := false, narrowed := true }
def FnExactWithholdYearsUptoSaid : Prop := fnExactWithholdYearsUptoRow.holds Try.pinned (OpenSpec.upto fnExactWithholdYearsSpec)

/-- 'laws.FnExactNetCurve', WHERE WHAT IT READS IS OF BULK AT MOST 1048576: true; the input reads as it did. -/
def fnExactNetCurveUptoRow : OpenClaim := { program := "ytjghhllekbmkjaa", sum := "d9b62f3b9679f641d0dca0fcb2aed2c30140d73824b449912708e526e628a609", func := "loop.example/g01393/laws.FnExactNetCurve", spec := "fnExactNetCurve", unfollowed := true, recurses := true, apart := false, narrowed := true }
def FnExactNetCurveUptoSaid : Prop := fnExactNetCurveUptoRow.holds Try.pinned (OpenSpec.upto fnExactNetCurveSpec)

/-- 'laws.FnExactJoinScales', WHERE WHAT IT READS IS OF BULK AT MOST 1048576: true; the input reads as it did. -/
def fnExactJoinScalesUptoRow : OpenClaim := { program := "ytjghhllekbmkjaa", sum := "d9b62f3b9679f641d0dca0fcb2aed2c30140d73824b449912708e526e628a609", func := "loop.example/g01393/laws.FnExactJoinScales", spec := "fnExactJoinScales", unfollowed := true, recurses := true, apart := false, narrowed := true }
def FnExactJoinScalesUptoSaid : Prop := fnExactJoinScalesUptoRow.holds Try.pinned (OpenSpec.upto fnExactJoinScalesSpec)

end Rows
end Go.Proofs.Ytjghhllekbmkjaa
