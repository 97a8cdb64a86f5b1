/-
  No cell of these rows narrows 'for every input' (looked for: loops, veiled, ifaces, maps, wideKeys, modest, calm, conditions, laid).
  DERIVED. THE GIVEN ROWS OF THIS SEAT. 7 by the template 'for every input the law returns true; each argument reads behind the call as it read before'; 0 by the template 'total and deterministic' (their statements: YtmlblgkpeogdgaaTotals.lean).
  GIVEN WITH THE SEED: the statements are not yours to turn. If you find one false, say at which input.
  Laid BY PROGRAM, IN A SANDBOX (cutbox-rows.mjs): the forced cells as the released guide's own fill.sh prints them over the translation 45f9c405736adf62… (all of the seat's roots in one cut). By AI agents, Wed Nov 11 2026. No macro, syntax, notation, axiom, sorry.
-/
import Derived.Test.YtmlblgkpeogdgaaChecked
import GoSem.Claim
import GoSem.ClaimJoined
import GoSem.ClaimMapViews
import Derived.JoinedTies
import Derived.KernelRfl
namespace Go.Proofs.Ytmlblgkpeogdgaa
/- THE CELL 'sum', in the pinned program and in every row, IS THE sha256 OF THE DUMP (.gsa) THAT YtmlblgkpeogdgaaProg.lean LOADS. Nothing in Lean hashes anything: it is a label: what it is worth is what the hold of that sum in a sandbox is worth. -/
noncomputable def Try.pinned : Pinned := { name := "ytmlblgkpeogdgaa", sum := "45f9c405736adf629f7b42d3692a7c26a25c7f5176b180dd25bf75ced60b3957", checked := Try.checked }
namespace Rows
def none {H : Type} : Left H := { results := [], args := [] }

/-- 'laws.FnExactIsOrigin': WHATEVER THE INPUT: true; the input reads as it did. -/
def fnExactIsOriginSpec : ChangeSpec := { name := "fnExactIsOrigin", fn := fun _ => fun
  | [d1, d2, d3] => { results := [.lit (.bool true)], args := [d1, d2, d3] }
  | _ => none }
def fnExactIsOriginRow : OpenClaim := { program := "ytmlblgkpeogdgaa", sum := "45f9c405736adf629f7b42d3692a7c26a25c7f5176b180dd25bf75ced60b3957", func := "loop.example/g01393/laws.FnExactIsOrigin", spec := "fnExactIsOrigin", apart := false }
def FnExactIsOriginSaid : Prop := fnExactIsOriginRow.holds Try.pinned (OpenSpec.ofChange fnExactIsOriginSpec)

/-- ITS FALSE NEIGHBOUR: 'it returns false'. Refute it at one input. -/
def fnExactIsOriginWrong : ChangeSpec := { name := "fnExactIsOrigin", fn := fun _ => fun
  | [d1, d2, d3] => { results := [.lit (.bool false)], args := [d1, d2, d3] }
  | _ => none }
def FnExactIsOriginWrongFalsely : Prop := fnExactIsOriginRow.holds Try.pinned (OpenSpec.ofChange fnExactIsOriginWrong)

/-- 'laws.FnExactValidTariff': WHATEVER THE INPUT: true; the input reads as it did. -/
def fnExactValidTariffSpec : ChangeSpec := { name := "fnExactValidTariff", fn := fun _ => fun
  | [d] => { results := [.lit (.bool true)], args := [d] }
  | _ => none }
def fnExactValidTariffRow : OpenClaim := { program := "ytmlblgkpeogdgaa", sum := "45f9c405736adf629f7b42d3692a7c26a25c7f5176b180dd25bf75ced60b3957", func := "loop.example/g01393/laws.FnExactValidTariff", spec := "fnExactValidTariff", apart := false }
def FnExactValidTariffSaid : Prop := fnExactValidTariffRow.holds Try.pinned (OpenSpec.ofChange fnExactValidTariffSpec)

/-- ITS FALSE NEIGHBOUR: 'it returns false'. Refute it at one input. -/
def fnExactValidTariffWrong : ChangeSpec := { name := "fnExactValidTariff", fn := fun _ => fun
  | [d] => { results := [.lit (.bool false)], args := [d] }
  | _ => none }
def FnExactValidTariffWrongFalsely : Prop := fnExactValidTariffRow.holds Try.pinned (OpenSpec.ofChange fnExactValidTariffWrong)

/-- 'laws.FnExactCreditLimit': WHATEVER THE INPUT: true; the input reads as it did. -/
def fnExactCreditLimitSpec : ChangeSpec := { name := "fnExactCreditLimit", fn := fun _ => fun
  | [d1, d2, d3, d4] => { results := [.lit (.bool true)], args := [d1, d2, d3, d4] }
  | _ => none }
def fnExactCreditLimitRow : OpenClaim := { program := "ytmlblgkpeogdgaa", sum := "45f9c405736adf629f7b42d3692a7c26a25c7f5176b180dd25bf75ced60b3957", func := "loop.example/g01393/laws.FnExactCreditLimit", spec := "fnExactCreditLimit", apart := false }
def FnExactCreditLimitSaid : Prop := fnExactCreditLimitRow.holds Try.pinned (OpenSpec.ofChange fnExactCreditLimitSpec)

/-- ITS FALSE NEIGHBOUR: 'it returns false'. Refute it at one input. -/
def fnExactCreditLimitWrong : ChangeSpec := { name := "fnExactCreditLimit", fn := fun _ => fun
  | [d1, d2, d3, d4] => { results := [.lit (.bool false)], args := [d1, d2, d3, d4] }
  | _ => none }
def FnExactCreditLimitWrongFalsely : Prop := fnExactCreditLimitRow.holds Try.pinned (OpenSpec.ofChange fnExactCreditLimitWrong)

/-- 'laws.FnExactNetOfPrice': WHATEVER THE INPUT: true; the input reads as it did. -/
def fnExactNetOfPriceSpec : ChangeSpec := { name := "fnExactNetOfPrice", fn := fun _ => fun
  | [d1, d2, d3] => { results := [.lit (.bool true)], args := [d1, d2, d3] }
  | _ => none }
def fnExactNetOfPriceRow : OpenClaim := { program := "ytmlblgkpeogdgaa", sum := "45f9c405736adf629f7b42d3692a7c26a25c7f5176b180dd25bf75ced60b3957", func := "loop.example/g01393/laws.FnExactNetOfPrice", spec := "fnExactNetOfPrice", apart := false }
def FnExactNetOfPriceSaid : Prop := fnExactNetOfPriceRow.holds Try.pinned (OpenSpec.ofChange fnExactNetOfPriceSpec)

/-- ITS FALSE NEIGHBOUR: 'it returns false'. Refute it at one input. -/
def fnExactNetOfPriceWrong : ChangeSpec := { name := "fnExactNetOfPrice", fn := fun _ => fun
  | [d1, d2, d3] => { results := [.lit (.bool false)], args := [d1, d2, d3] }
  | _ => none }
def FnExactNetOfPriceWrongFalsely : Prop := fnExactNetOfPriceRow.holds Try.pinned (OpenSpec.ofChange fnExactNetOfPriceWrong)

/-- 'laws.FnExactEvenParts': WHATEVER THE INPUT: true; the input reads as it did. -/
def fnExactEvenPartsSpec : ChangeSpec := { name := "fnExactEvenParts", fn := fun _ => fun
  | [d1, d2] => { results := [.lit (.bool true)], args := [d1, d2] }
  | _ => none }
def fnExactEvenPartsRow : OpenClaim := { program := "ytmlblgkpeogdgaa", sum := "45f9c405736adf629f7b42d3692a7c26a25c7f5176b180dd25bf75ced60b3957", func := "loop.example/g01393/laws.FnExactEvenParts", spec := "fnExactEvenParts", apart := false }
def FnExactEvenPartsSaid : Prop := fnExactEvenPartsRow.holds Try.pinned (OpenSpec.ofChange fnExactEvenPartsSpec)

/-- ITS FALSE NEIGHBOUR: 'it returns false'. Refute it at one input. -/
def fnExactEvenPartsWrong : ChangeSpec := { name := "fnExactEvenParts", fn := fun _ => fun
  | [d1, d2] => { results := [.lit (.bool false)], args := [d1, d2] }
  | _ => none }
def FnExactEvenPartsWrongFalsely : Prop := fnExactEvenPartsRow.holds Try.pinned (OpenSpec.ofChange fnExactEvenPartsWrong)

/-- 'laws.FnExactDayOf': WHATEVER THE INPUT: true; the input reads as it did. -/
def fnExactDayOfSpec : ChangeSpec := { name := "fnExactDayOf", fn := fun _ => fun
  | [d1, d2, d3] => { results := [.lit (.bool true)], args := [d1, d2, d3] }
  | _ => none }
def fnExactDayOfRow : OpenClaim := { program := "ytmlblgkpeogdgaa", sum := "45f9c405736adf629f7b42d3692a7c26a25c7f5176b180dd25bf75ced60b3957", func := "loop.example/g01393/laws.FnExactDayOf", spec := "fnExactDayOf", apart := false }
def FnExactDayOfSaid : Prop := fnExactDayOfRow.holds Try.pinned (OpenSpec.ofChange fnExactDayOfSpec)

/-- ITS FALSE NEIGHBOUR: 'it returns false'. Refute it at one input. -/
def fnExactDayOfWrong : ChangeSpec := { name := "fnExactDayOf", fn := fun _ => fun
  | [d1, d2, d3] => { results := [.lit (.bool false)], args := [d1, d2, d3] }
  | _ => none }
def FnExactDayOfWrongFalsely : Prop := fnExactDayOfRow.holds Try.pinned (OpenSpec.ofChange fnExactDayOfWrong)

/-- 'laws.FnExactRoundPart': WHATEVER THE INPUT: true; the input reads as it did. -/
def fnExactRoundPartSpec : ChangeSpec := { name := "fnExactRoundPart", fn := fun _ => fun
  | [d1, d2, d3, d4] => { results := [.lit (.bool true)], args := [d1, d2, d3, d4] }
  | _ => none }
def fnExactRoundPartRow : OpenClaim := { program := "ytmlblgkpeogdgaa", sum := "45f9c405736adf629f7b42d3692a7c26a25c7f5176b180dd25bf75ced60b3957", func := "loop.example/g01393/laws.FnExactRoundPart", spec := "fnExactRoundPart", apart := false }
def FnExactRoundPartSaid : Prop := fnExactRoundPartRow.holds Try.pinned (OpenSpec.ofChange fnExactRoundPartSpec)

/-- ITS FALSE NEIGHBOUR: 'it returns false'. Refute it at one input. -/
def fnExactRoundPartWrong : ChangeSpec := { name := "fnExactRoundPart", fn := fun _ => fun
  | [d1, d2, d3, d4] => { results := [.lit (.bool false)], args := [d1, d2, d3, d4] }
  | _ => none }
def FnExactRoundPartWrongFalsely : Prop := fnExactRoundPartRow.holds Try.pinned (OpenSpec.ofChange fnExactRoundPartWrong)

/- THE SECOND FORM. 'bulk': how many values and letters a reading holds, each counted each time it is reached (what is shared counts as often as it is met; a slice's spare places count too). A statement '..UptoSaid' is the law's where the arguments, and the package variables that the reading takes, are together of bulk at most 1048576: NARROWER than '..Said'. Prove '..Said' where nothing that the law and all that it calls make is longer than what came in: it says more and counts as full. Else prove '..UptoSaid'. A law counts once. -/
mutual
def uptoBulk {H : Type} : DataW H → Nat
  | .lit (.string bytes) => bytes.length + 1
  | .lit _ => 1
  | .nil => 1
  | .ptr d => uptoBulk d + 1
  | .slice elems spare => uptoBulkAll elems + uptoBulkAll spare + 1
  | .agg parts => uptoBulkAll parts + 1
  | .iface _ d => uptoBulk d + 1
  | .map entries => uptoBulkEntries entries + 1
  | .held _ => 1
def uptoBulkAll {H : Type} : List (DataW H) → Nat
  | [] => 0
  | d :: r => uptoBulk d + uptoBulkAll r
def uptoBulkEntries {H : Type} : List (Lit × DataW H) → Nat
  | [] => 0
  | x :: r => uptoBulkEntry x + uptoBulkEntries r
def uptoBulkEntry {H : Type} : Lit × DataW H → Nat
  | (.string bytes, d) => bytes.length + uptoBulk d + 1
  | (_, d) => uptoBulk d + 1
 end
def uptoSmall : (H : Type) → List (DataW H) → Bool := fun _ ds => decide (uptoBulkAll ds ≤ 1048576)
def OpenSpec.upto (s : _root_.Go.ChangeSpec) : _root_.Go.OpenSpec := { _root_.Go.OpenSpec.ofChange s with cond := some uptoSmall }

/-- 'laws.FnExactIsOrigin', WHERE WHAT IT READS IS OF BULK AT MOST 1048576: true; the input reads as it did. -/
def fnExactIsOriginUptoRow : OpenClaim := { program := "ytmlblgkpeogdgaa", sum := "45f9c405736adf629f7b42d3692a7c26a25c7f5176b180dd25bf75ced60b3957", func := "loop.example/g01393/laws.FnExactIsOrigin", spec := "fnExactIsOrigin", apart := false, narrowed := true }
def FnExactIsOriginUptoSaid : Prop := fnExactIsOriginUptoRow.holds Try.pinned (OpenSpec.upto fnExactIsOriginSpec)

/-- 'laws.FnExactValidTariff', WHERE WHAT IT READS IS OF BULK AT MOST 1048576: true; the input reads as it did. -/
def fnExactValidTariffUptoRow : OpenClaim := { program := "ytmlblgkpeogdgaa", sum := "45f9c405736adf629f7b42d3692a7c26a25c7f5176b180dd25bf75ced60b3957", func := "loop.example/g01393/laws.FnExactValidTariff", spec := "fnExactValidTariff", apart := false, narrowed := true }
def FnExactValidTariffUptoSaid : Prop := fnExactValidTariffUptoRow.holds Try.pinned (OpenSpec.upto fnExactValidTariffSpec)

/-- 'laws.FnExactCreditLimit', WHERE WHAT IT READS IS OF BULK AT MOST 1048576: true; the input reads as it did. -/
def fnExactCreditLimitUptoRow : OpenClaim := { program := "ytmlblgkpeogdgaa", sum := "45f9c405736adf629f7b42d3692a7c26a25c7f5176b180dd25bf75ced60b3957", func := "loop.example/g01393/laws.FnExactCreditLimit", spec := "fnExactCreditLimit", apart := false, narrowed := true }
def FnExactCreditLimitUptoSaid : Prop := fnExactCreditLimitUptoRow.holds Try.pinned (OpenSpec.upto fnExactCreditLimitSpec)

/-- 'laws.FnExactNetOfPrice', WHERE WHAT IT READS IS OF BULK AT MOST 1048576: true; the input reads as it did. -/
def fnExactNetOfPriceUptoRow : OpenClaim := { program := "ytmlblgkpeogdgaa", sum := "45f9c405736adf629f7b42d3692a7c26a25c7f5176b180dd25bf75ced60b3957", func := "loop.example/g01393/laws.FnExactNetOfPrice", spec := "fnExactNetOfPrice", apart := false, narrowed := true }
def FnExactNetOfPriceUptoSaid : Prop := fnExactNetOfPriceUptoRow.holds Try.pinned (OpenSpec.upto fnExactNetOfPriceSpec)

/-- 'laws.FnExactEvenParts', WHERE WHAT IT READS IS OF BULK AT MOST 1048576: true; the input reads as it did. -/
def fnExactEvenPartsUptoRow : OpenClaim := { program := "ytmlblgkpeogdgaa", sum := "45f9c405736adf629f7b42d3692a7c26a25c7f5176b180dd25bf75ced60b3957", func := "loop.example/g01393/laws.FnExactEvenParts", spec := "fnExactEvenParts", apart := false, narrowed := true }
def FnExactEvenPartsUptoSaid : Prop := fnExactEvenPartsUptoRow.holds Try.pinned (OpenSpec.upto fnExactEvenPartsSpec)

/-- 'laws.FnExactDayOf', WHERE WHAT IT READS IS OF BULK AT MOST 1048576: true; the input reads as it did. -/
def fnExactDayOfUptoRow : OpenClaim := { program := "ytmlblgkpeogdgaa", sum := "45f9c405736adf629f7b42d3692a7c26a25c7f5176b180dd25bf75ced60b3957", func := "loop.example/g01393/laws.FnExactDayOf", spec := "fnExactDayOf", apart := false, narrowed := true }
def FnExactDayOfUptoSaid : Prop := fnExactDayOfUptoRow.holds Try.pinned (OpenSpec.upto fnExactDayOfSpec)

/-- 'laws.FnExactRoundPart', WHERE WHAT IT READS IS OF BULK AT MOST 1048576: true; the input reads as it did. -/
def fnExactRoundPartUptoRow : OpenClaim := { program := "ytmlblgkpeogdgaa", sum := "45f9c405736adf629f7b42d3692a7c26a25c7f5176b180dd25bf75ced60b3957", func := "loop.example/g01393/laws.FnExactRoundPart", spec := "fnExactRoundPart", apart := false, narrowed := true }
def FnExactRoundPartUptoSaid : Prop := fnExactRoundPartUptoRow.holds Try.pinned (OpenSpec.upto fnExactRoundPartSpec)

end Rows
end Go.Proofs.Ytmlblgkpeogdgaa
