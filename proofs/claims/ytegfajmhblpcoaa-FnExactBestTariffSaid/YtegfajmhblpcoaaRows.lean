/-
  No cell of these rows narrows 'for every input' (looked for: loops, veiled, ifaces, maps, wideKeys, modest, calm, conditions, laid).
  DERIVED. THE GIVEN ROWS OF THIS SEAT. 12 by the template 'for every input the law returns true; each argument reads behind the call as it read before'; 0 by the template 'total and deterministic' (their statements: YtegfajmhblpcoaaTotals.lean).
  GIVEN WITH THE SEED: the statements are not yours to turn. If you find one false, say at which input.
  Laid BY PROGRAM, IN A SANDBOX (cutbox-rows.mjs): the forced cells as the released guide's own fill.sh prints them over the translation e38fbd6d63fce362… (all of the seat's roots in one cut). By AI agents, Wed Nov 11 2026. No macro, syntax, notation, axiom, sorry.
-/
import Derived.Test.YtegfajmhblpcoaaChecked
import GoSem.Claim
import GoSem.ClaimJoined
import GoSem.ClaimMapViews
import Derived.JoinedTies
import Derived.KernelRfl
namespace Go.Proofs.Ytegfajmhblpcoaa
/- THE CELL 'sum', in the pinned program and in every row, IS THE sha256 OF THE DUMP (.gsa) THAT YtegfajmhblpcoaaProg.lean LOADS. Nothing in Lean hashes anything: it is a label: what it is worth is what the hold of that sum in a sandbox is worth. -/
noncomputable def Try.pinned : Pinned := { name := "ytegfajmhblpcoaa", sum := "e38fbd6d63fce362782cee34a036c5dff11858f4d2b43a9733bd39bd093188a8", checked := Try.checked }
namespace Rows
def none {H : Type} : Left H := { results := [], args := [] }

/-- 'laws.FnExactRefundShare': WHATEVER THE INPUT: true; the input reads as it did. -/
def fnExactRefundShareSpec : ChangeSpec := { name := "fnExactRefundShare", fn := fun _ => fun
  | [d1, d2, d3] => { results := [.lit (.bool true)], args := [d1, d2, d3] }
  | _ => none }
def fnExactRefundShareRow : OpenClaim := { program := "ytegfajmhblpcoaa", sum := "e38fbd6d63fce362782cee34a036c5dff11858f4d2b43a9733bd39bd093188a8", func := "loop.example/g01393/laws.FnExactRefundShare", spec := "fnExactRefundShare", unfollowed := true, recurses := true, apart := false }
def FnExactRefundShareSaid : Prop := fnExactRefundShareRow.holds Try.pinned (OpenSpec.ofChange fnExactRefundShareSpec)

/-- ITS FALSE NEIGHBOUR: 'it returns false'. Refute it at one input. -/
def fnExactRefundShareWrong : ChangeSpec := { name := "fnExactRefundShare", fn := fun _ => fun
  | [d1, d2, d3] => { results := [.lit (.bool false)], args := [d1, d2, d3] }
  | _ => none }
def FnExactRefundShareWrongFalsely : Prop := fnExactRefundShareRow.holds Try.pinned (OpenSpec.ofChange fnExactRefundShareWrong)

/-- 'laws.FnExactWorstTrap': WHATEVER THE INPUT: true; the input reads as it did. -/
def fnExactWorstTrapSpec : ChangeSpec := { name := "fnExactWorstTrap", fn := fun _ => fun
  | [d] => { results := [.lit (.bool true)], args := [d] }
  | _ => none }
def fnExactWorstTrapRow : OpenClaim := { program := "ytegfajmhblpcoaa", sum := "e38fbd6d63fce362782cee34a036c5dff11858f4d2b43a9733bd39bd093188a8", func := "loop.example/g01393/laws.FnExactWorstTrap", spec := "fnExactWorstTrap", unfollowed := true, recurses := true, apart := false }
def FnExactWorstTrapSaid : Prop := fnExactWorstTrapRow.holds Try.pinned (OpenSpec.ofChange fnExactWorstTrapSpec)

/-- ITS FALSE NEIGHBOUR: 'it returns false'. Refute it at one input. -/
def fnExactWorstTrapWrong : ChangeSpec := { name := "fnExactWorstTrap", fn := fun _ => fun
  | [d] => { results := [.lit (.bool false)], args := [d] }
  | _ => none }
def FnExactWorstTrapWrongFalsely : Prop := fnExactWorstTrapRow.holds Try.pinned (OpenSpec.ofChange fnExactWorstTrapWrong)

/-- 'laws.FnExactChildBenefit': WHATEVER THE INPUT: true; the input reads as it did. -/
def fnExactChildBenefitSpec : ChangeSpec := { name := "fnExactChildBenefit", fn := fun _ => fun
  | [d1, d2, d3, d4, d5, d6] => { results := [.lit (.bool true)], args := [d1, d2, d3, d4, d5, d6] }
  | _ => none }
def fnExactChildBenefitRow : OpenClaim := { program := "ytegfajmhblpcoaa", sum := "e38fbd6d63fce362782cee34a036c5dff11858f4d2b43a9733bd39bd093188a8", func := "loop.example/g01393/laws.FnExactChildBenefit", spec := "fnExactChildBenefit", apart := false }
def FnExactChildBenefitSaid : Prop := fnExactChildBenefitRow.holds Try.pinned (OpenSpec.ofChange fnExactChildBenefitSpec)

/-- ITS FALSE NEIGHBOUR: 'it returns false'. Refute it at one input. -/
def fnExactChildBenefitWrong : ChangeSpec := { name := "fnExactChildBenefit", fn := fun _ => fun
  | [d1, d2, d3, d4, d5, d6] => { results := [.lit (.bool false)], args := [d1, d2, d3, d4, d5, d6] }
  | _ => none }
def FnExactChildBenefitWrongFalsely : Prop := fnExactChildBenefitRow.holds Try.pinned (OpenSpec.ofChange fnExactChildBenefitWrong)

/-- 'laws.FnExactCustomsDue': WHATEVER THE INPUT: true; the input reads as it did. -/
def fnExactCustomsDueSpec : ChangeSpec := { name := "fnExactCustomsDue", fn := fun _ => fun
  | [d1, d2, d3, d4] => { results := [.lit (.bool true)], args := [d1, d2, d3, d4] }
  | _ => none }
def fnExactCustomsDueRow : OpenClaim := { program := "ytegfajmhblpcoaa", sum := "e38fbd6d63fce362782cee34a036c5dff11858f4d2b43a9733bd39bd093188a8", func := "loop.example/g01393/laws.FnExactCustomsDue", spec := "fnExactCustomsDue", apart := false }
def FnExactCustomsDueSaid : Prop := fnExactCustomsDueRow.holds Try.pinned (OpenSpec.ofChange fnExactCustomsDueSpec)

/-- ITS FALSE NEIGHBOUR: 'it returns false'. Refute it at one input. -/
def fnExactCustomsDueWrong : ChangeSpec := { name := "fnExactCustomsDue", fn := fun _ => fun
  | [d1, d2, d3, d4] => { results := [.lit (.bool false)], args := [d1, d2, d3, d4] }
  | _ => none }
def FnExactCustomsDueWrongFalsely : Prop := fnExactCustomsDueRow.holds Try.pinned (OpenSpec.ofChange fnExactCustomsDueWrong)

/-- 'laws.FnExactLossRates': WHATEVER THE INPUT: true; the input reads as it did. -/
def fnExactLossRatesSpec : ChangeSpec := { name := "fnExactLossRates", fn := fun _ => fun
  | [d1, d2] => { results := [.lit (.bool true)], args := [d1, d2] }
  | _ => none }
def fnExactLossRatesRow : OpenClaim := { program := "ytegfajmhblpcoaa", sum := "e38fbd6d63fce362782cee34a036c5dff11858f4d2b43a9733bd39bd093188a8", func := "loop.example/g01393/laws.FnExactLossRates", spec := "fnExactLossRates", unfollowed := true, recurses := true, apart := false }
def FnExactLossRatesSaid : Prop := fnExactLossRatesRow.holds Try.pinned (OpenSpec.ofChange fnExactLossRatesSpec)

/-- ITS FALSE NEIGHBOUR: 'it returns false'. Refute it at one input. -/
def fnExactLossRatesWrong : ChangeSpec := { name := "fnExactLossRates", fn := fun _ => fun
  | [d1, d2] => { results := [.lit (.bool false)], args := [d1, d2] }
  | _ => none }
def FnExactLossRatesWrongFalsely : Prop := fnExactLossRatesRow.holds Try.pinned (OpenSpec.ofChange fnExactLossRatesWrong)

/-- 'laws.FnExactDivisorShares': WHATEVER THE INPUT: true; the input reads as it did. -/
def fnExactDivisorSharesSpec : ChangeSpec := { name := "fnExactDivisorShares", fn := fun _ => fun
  | [d1, d2, d3] => { results := [.lit (.bool true)], args := [d1, d2, d3] }
  | _ => none }
def fnExactDivisorSharesRow : OpenClaim := { program := "ytegfajmhblpcoaa", sum := "e38fbd6d63fce362782cee34a036c5dff11858f4d2b43a9733bd39bd093188a8", func := "loop.example/g01393/laws.FnExactDivisorShares", spec := "fnExactDivisorShares", unfollowed := true, recurses := true, apart := false }
def FnExactDivisorSharesSaid : Prop := fnExactDivisorSharesRow.holds Try.pinned (OpenSpec.ofChange fnExactDivisorSharesSpec)

/-- ITS FALSE NEIGHBOUR: 'it returns false'. Refute it at one input. -/
def fnExactDivisorSharesWrong : ChangeSpec := { name := "fnExactDivisorShares", fn := fun _ => fun
  | [d1, d2, d3] => { results := [.lit (.bool false)], args := [d1, d2, d3] }
  | _ => none }
def FnExactDivisorSharesWrongFalsely : Prop := fnExactDivisorSharesRow.holds Try.pinned (OpenSpec.ofChange fnExactDivisorSharesWrong)

/-- 'laws.FnExactChainDues': WHATEVER THE INPUT: true; the input reads as it did. -/
def fnExactChainDuesSpec : ChangeSpec := { name := "fnExactChainDues", fn := fun _ => fun
  | [d1, d2, d3] => { results := [.lit (.bool true)], args := [d1, d2, d3] }
  | _ => none }
def fnExactChainDuesRow : OpenClaim := { program := "ytegfajmhblpcoaa", sum := "e38fbd6d63fce362782cee34a036c5dff11858f4d2b43a9733bd39bd093188a8", func := "loop.example/g01393/laws.FnExactChainDues", spec := "fnExactChainDues", unfollowed := true, recurses := true, apart := false }
def FnExactChainDuesSaid : Prop := fnExactChainDuesRow.holds Try.pinned (OpenSpec.ofChange fnExactChainDuesSpec)

/-- ITS FALSE NEIGHBOUR: 'it returns false'. Refute it at one input. -/
def fnExactChainDuesWrong : ChangeSpec := { name := "fnExactChainDues", fn := fun _ => fun
  | [d1, d2, d3] => { results := [.lit (.bool false)], args := [d1, d2, d3] }
  | _ => none }
def FnExactChainDuesWrongFalsely : Prop := fnExactChainDuesRow.holds Try.pinned (OpenSpec.ofChange fnExactChainDuesWrong)

/-- 'laws.FnExactCascadePrices': WHATEVER THE INPUT: true; the input reads as it did. -/
def fnExactCascadePricesSpec : ChangeSpec := { name := "fnExactCascadePrices", fn := fun _ => fun
  | [d1, d2, d3] => { results := [.lit (.bool true)], args := [d1, d2, d3] }
  | _ => none }
def fnExactCascadePricesRow : OpenClaim := { program := "ytegfajmhblpcoaa", sum := "e38fbd6d63fce362782cee34a036c5dff11858f4d2b43a9733bd39bd093188a8", func := "loop.example/g01393/laws.FnExactCascadePrices", spec := "fnExactCascadePrices", unfollowed := true, recurses := true, apart := false }
def FnExactCascadePricesSaid : Prop := fnExactCascadePricesRow.holds Try.pinned (OpenSpec.ofChange fnExactCascadePricesSpec)

/-- ITS FALSE NEIGHBOUR: 'it returns false'. Refute it at one input. -/
def fnExactCascadePricesWrong : ChangeSpec := { name := "fnExactCascadePrices", fn := fun _ => fun
  | [d1, d2, d3] => { results := [.lit (.bool false)], args := [d1, d2, d3] }
  | _ => none }
def FnExactCascadePricesWrongFalsely : Prop := fnExactCascadePricesRow.holds Try.pinned (OpenSpec.ofChange fnExactCascadePricesWrong)

/-- 'laws.FnExactLineDues': WHATEVER THE INPUT: true; the input reads as it did. -/
def fnExactLineDuesSpec : ChangeSpec := { name := "fnExactLineDues", fn := fun _ => fun
  | [d1, d2, d3, d4] => { results := [.lit (.bool true)], args := [d1, d2, d3, d4] }
  | _ => none }
def fnExactLineDuesRow : OpenClaim := { program := "ytegfajmhblpcoaa", sum := "e38fbd6d63fce362782cee34a036c5dff11858f4d2b43a9733bd39bd093188a8", func := "loop.example/g01393/laws.FnExactLineDues", spec := "fnExactLineDues", unfollowed := true, recurses := true, apart := false }
def FnExactLineDuesSaid : Prop := fnExactLineDuesRow.holds Try.pinned (OpenSpec.ofChange fnExactLineDuesSpec)

/-- ITS FALSE NEIGHBOUR: 'it returns false'. Refute it at one input. -/
def fnExactLineDuesWrong : ChangeSpec := { name := "fnExactLineDues", fn := fun _ => fun
  | [d1, d2, d3, d4] => { results := [.lit (.bool false)], args := [d1, d2, d3, d4] }
  | _ => none }
def FnExactLineDuesWrongFalsely : Prop := fnExactLineDuesRow.holds Try.pinned (OpenSpec.ofChange fnExactLineDuesWrong)

/-- 'laws.FnExactRateDues': WHATEVER THE INPUT: true; the input reads as it did. -/
def fnExactRateDuesSpec : ChangeSpec := { name := "fnExactRateDues", fn := fun _ => fun
  | [d1, d2, d3, d4] => { results := [.lit (.bool true)], args := [d1, d2, d3, d4] }
  | _ => none }
def fnExactRateDuesRow : OpenClaim := { program := "ytegfajmhblpcoaa", sum := "e38fbd6d63fce362782cee34a036c5dff11858f4d2b43a9733bd39bd093188a8", func := "loop.example/g01393/laws.FnExactRateDues", spec := "fnExactRateDues", unfollowed := true, recurses := true, apart := false }
def FnExactRateDuesSaid : Prop := fnExactRateDuesRow.holds Try.pinned (OpenSpec.ofChange fnExactRateDuesSpec)

/-- ITS FALSE NEIGHBOUR: 'it returns false'. Refute it at one input. -/
def fnExactRateDuesWrong : ChangeSpec := { name := "fnExactRateDues", fn := fun _ => fun
  | [d1, d2, d3, d4] => { results := [.lit (.bool false)], args := [d1, d2, d3, d4] }
  | _ => none }
def FnExactRateDuesWrongFalsely : Prop := fnExactRateDuesRow.holds Try.pinned (OpenSpec.ofChange fnExactRateDuesWrong)

/-- 'laws.FnExactBestTariff': WHATEVER THE INPUT: true; the input reads as it did. -/
def fnExactBestTariffSpec : ChangeSpec := { name := "fnExactBestTariff", fn := fun _ => fun
  | [d1, d2, d3, d4] => { results := [.lit (.bool true)], args := [d1, d2, d3, d4] }
  | _ => none }
def fnExactBestTariffRow : OpenClaim := { program := "ytegfajmhblpcoaa", sum := "e38fbd6d63fce362782cee34a036c5dff11858f4d2b43a9733bd39bd093188a8", func := "loop.example/g01393/laws.FnExactBestTariff", spec := "fnExactBestTariff", apart := false }
def FnExactBestTariffSaid : Prop := fnExactBestTariffRow.holds Try.pinned (OpenSpec.ofChange fnExactBestTariffSpec)

/-- ITS FALSE NEIGHBOUR: 'it returns false'. Refute it at one input. -/
def fnExactBestTariffWrong : ChangeSpec := { name := "fnExactBestTariff", fn := fun _ => fun
  | [d1, d2, d3, d4] => { results := [.lit (.bool false)], args := [d1, d2, d3, d4] }
  | _ => none }
def FnExactBestTariffWrongFalsely : Prop := fnExactBestTariffRow.holds Try.pinned (OpenSpec.ofChange fnExactBestTariffWrong)

/-- 'laws.FnExactFactorWeights': WHATEVER THE INPUT: true; the input reads as it did. -/
def fnExactFactorWeightsSpec : ChangeSpec := { name := "fnExactFactorWeights", fn := fun _ => fun
  | [d1, d2] => { results := [.lit (.bool true)], args := [d1, d2] }
  | _ => none }
def fnExactFactorWeightsRow : OpenClaim := { program := "ytegfajmhblpcoaa", sum := "e38fbd6d63fce362782cee34a036c5dff11858f4d2b43a9733bd39bd093188a8", func := "loop.example/g01393/laws.FnExactFactorWeights", spec := "fnExactFactorWeights", unfollowed := true, recurses := true, apart := false }
def FnExactFactorWeightsSaid : Prop := fnExactFactorWeightsRow.holds Try.pinned (OpenSpec.ofChange fnExactFactorWeightsSpec)

/-- ITS FALSE NEIGHBOUR: 'it returns false'. Refute it at one input. -/
def fnExactFactorWeightsWrong : ChangeSpec := { name := "fnExactFactorWeights", fn := fun _ => fun
  | [d1, d2] => { results := [.lit (.bool false)], args := [d1, d2] }
  | _ => none }
def FnExactFactorWeightsWrongFalsely : Prop := fnExactFactorWeightsRow.holds Try.pinned (OpenSpec.ofChange fnExactFactorWeightsWrong)

/- THE SECOND FORM. 'bulk': how many values and letters a reading holds, each counted each time it is reached (what is shared counts as often as it is met; a slice's spare places count too). A statement '..UptoSaid' is the law's where the arguments, and the package variables that the reading takes, are together of bulk at most 1048576: NARROWER than '..Said'. Prove '..Said' where nothing that the law and all that it calls make is longer than what came in: it says more and counts as full. Else prove '..UptoSaid'. A law counts once. -/
mutual
def uptoBulk {H : Type} : DataW H → Nat
  | .lit (.string bytes) => bytes.length + 1
  | .lit _ => 1
  | .nil => 1
  | .ptr d => uptoBulk d + 1
  | .slice elems spare => uptoBulkAll elems + uptoBulkAll spare + 1
  | .agg parts => uptoBulkAll parts + 1
  | .iface _ d => uptoBulk d + 1
  | .map entries => uptoBulkEntries entries + 1
  | .held _ => 1
def uptoBulkAll {H : Type} : List (DataW H) → Nat
  | [] => 0
  | d :: r => uptoBulk d + uptoBulkAll r
def uptoBulkEntries {H : Type} : List (Lit × DataW H) → Nat
  | [] => 0
  | x :: r => uptoBulkEntry x + uptoBulkEntries r
def uptoBulkEntry {H : Type} : Lit × DataW H → Nat
  | (.string bytes, d) => bytes.length + uptoBulk d + 1
  | (_, d) => uptoBulk d + 1
 end
def uptoSmall : (H : Type) → List (DataW H) → Bool := fun _ ds => decide (uptoBulkAll ds ≤ 1048576)
def OpenSpec.upto (s : _root_.Go.ChangeSpec) : _root_.Go.OpenSpec := { _root_.Go.OpenSpec.ofChange s with cond := some uptoSmall }

/-- 'laws.FnExactRefundShare', WHERE WHAT IT READS IS OF BULK AT MOST 1048576: true; the input reads as it did. -/
def fnExactRefundShareUptoRow : OpenClaim := { program := "ytegfajmhblpcoaa", sum := "e38fbd6d63fce362782cee34a036c5dff11858f4d2b43a9733bd39bd093188a8", func := "loop.example/g01393/laws.FnExactRefundShare", spec := "fnExactRefundShare", unfollowed := true, recurses := true, apart := false, narrowed := true }
def FnExactRefundShareUptoSaid : Prop := fnExactRefundShareUptoRow.holds Try.pinned (OpenSpec.upto fnExactRefundShareSpec)

/-- 'laws.FnExactWorstTrap', WHERE WHAT IT READS IS OF BULK AT MOST 1048576: true; the input reads as it did. -/
def fnExactWorstTrapUptoRow : OpenClaim := { program := "ytegfajmhblpcoaa", sum := "e38fbd6d63fce362782cee34a036c5dff11858f4d2b43a9733bd39bd093188a8", func := "loop.example/g01393/laws.FnExactWorstTrap", spec := "fnExactWorstTrap", unfollowed := true, recurses := true, apart := false, narrowed := true }
def FnExactWorstTrapUptoSaid : Prop := fnExactWorstTrapUptoRow.holds Try.pinned (OpenSpec.upto fnExactWorstTrapSpec)

/-- 'laws.FnExactChildBenefit', WHERE WHAT IT READS IS OF BULK AT MOST 1048576: true; the input reads as it did. -/
def fnExactChildBenefitUptoRow : OpenClaim := { program := "ytegfajmhblpcoaa", sum := "e38fbd6d63fce362782cee34a036c5dff11858f4d2b43a9733bd39bd093188a8", func := "loop.example/g01393/laws.FnExactChildBenefit", spec := "fnExactChildBenefit", apart := false, narrowed := true }
def FnExactChildBenefitUptoSaid : Prop := fnExactChildBenefitUptoRow.holds Try.pinned (OpenSpec.upto fnExactChildBenefitSpec)

/-- 'laws.FnExactCustomsDue', WHERE WHAT IT READS IS OF BULK AT MOST 1048576: true; the input reads as it did. -/
def fnExactCustomsDueUptoRow : OpenClaim := { program := "ytegfajmhblpcoaa", sum := "e38fbd6d63fce362782cee34a036c5dff11858f4d2b43a9733bd39bd093188a8", func := "loop.example/g01393/laws.FnExactCustomsDue", spec := "fnExactCustomsDue", apart := false, narrowed := true }
def FnExactCustomsDueUptoSaid : Prop := fnExactCustomsDueUptoRow.holds Try.pinned (OpenSpec.upto fnExactCustomsDueSpec)

/-- 'laws.FnExactLossRates', WHERE WHAT IT READS IS OF BULK AT MOST 1048576: true; the input reads as it did. -/
def fnExactLossRatesUptoRow : OpenClaim := { program := "ytegfajmhblpcoaa", sum := "e38fbd6d63fce362782cee34a036c5dff11858f4d2b43a9733bd39bd093188a8", func := "loop.example/g01393/laws.FnExactLossRates", spec := "fnExactLossRates", unfollowed := true, recurses := true, apart := false, narrowed := true }
def FnExactLossRatesUptoSaid : Prop := fnExactLossRatesUptoRow.holds Try.pinned (OpenSpec.upto fnExactLossRatesSpec)

/-- 'laws.FnExactDivisorShares', WHERE WHAT IT READS IS OF BULK AT MOST 1048576: true; the input reads as it did. -/
def fnExactDivisorSharesUptoRow : OpenClaim := { program := "ytegfajmhblpcoaa", sum := "e38fbd6d63fce362782cee34a036c5dff11858f4d2b43a9733bd39bd093188a8", func := "loop.example/g01393/laws.FnExactDivisorShares", spec := "fnExactDivisorShares", unfollowed := true, recurses := true, apart := false, narrowed := true }
def FnExactDivisorSharesUptoSaid : Prop := fnExactDivisorSharesUptoRow.holds Try.pinned (OpenSpec.upto fnExactDivisorSharesSpec)

/-- 'laws.FnExactChainDues', WHERE WHAT IT READS IS OF BULK AT MOST 1048576: true; the input reads as it did. -/
def fnExactChainDuesUptoRow : OpenClaim := { program := "ytegfajmhblpcoaa", sum := "e38fbd6d63fce362782cee34a036c5dff11858f4d2b43a9733bd39bd093188a8", func := "loop.example/g01393/laws.FnExactChainDues", spec := "fnExactChainDues", unfollowed := true, recurses := true, apart := false, narrowed := true }
def FnExactChainDuesUptoSaid : Prop := fnExactChainDuesUptoRow.holds Try.pinned (OpenSpec.upto fnExactChainDuesSpec)

/-- 'laws.FnExactCascadePrices', WHERE WHAT IT READS IS OF BULK AT MOST 1048576: true; the input reads as it did. -/
def fnExactCascadePricesUptoRow : OpenClaim := { program := "ytegfajmhblpcoaa", sum := "e38fbd6d63fce362782cee34a036c5dff11858f4d2b43a9733bd39bd093188a8", func := "loop.example/g01393/laws.FnExactCascadePrices", spec := "fnExactCascadePrices", unfollowed := true, recurses := true, apart := false, narrowed := true }
def FnExactCascadePricesUptoSaid : Prop := fnExactCascadePricesUptoRow.holds Try.pinned (OpenSpec.upto fnExactCascadePricesSpec)

/-- 'laws.FnExactLineDues', WHERE WHAT IT READS IS OF BULK AT MOST 1048576: true; the input reads as it did. -/
def fnExactLineDuesUptoRow : OpenClaim := { program := "ytegfajmhblpcoaa", sum := "e38fbd6d63fce362782cee34a036c5dff11858f4d2b43a9733bd39bd093188a8", func := "loop.example/g01393/laws.FnExactLineDues", spec := "fnExactLineDues", unfollowed := true, recurses := true, apart := false, narrowed := true }
def FnExactLineDuesUptoSaid : Prop := fnExactLineDuesUptoRow.holds Try.pinned (OpenSpec.upto fnExactLineDuesSpec)

/-- 'laws.FnExactRateDues', WHERE WHAT IT READS IS OF BULK AT MOST 1048576: true; the input reads as it did. -/
def fnExactRateDuesUptoRow : OpenClaim := { program := "ytegfajmhblpcoaa", sum := "e38fbd6d63fce362782cee34a036c5dff11858f4d2b43a9733bd39bd093188a8", func := "loop.example/g01393/laws.FnExactRateDues", spec := "fnExactRateDues", unfollowed := true, recurses := true, apart := false, narrowed := true }
def FnExactRateDuesUptoSaid : Prop := fnExactRateDuesUptoRow.holds Try.pinned (OpenSpec.upto fnExactRateDuesSpec)

/-- 'laws.FnExactBestTariff', WHERE WHAT IT READS IS OF BULK AT MOST 1048576: true; the input reads as it did. -/
def fnExactBestTariffUptoRow : OpenClaim := { program := "ytegfajmhblpcoaa", sum := "e38fbd6d63fce362782cee34a036c5dff11858f4d2b43a9733bd39bd093188a8", func := "loop.example/g01393/laws.FnExactBestTariff", spec := "fnExactBestTariff", apart := false, narrowed := true }
def FnExactBestTariffUptoSaid : Prop := fnExactBestTariffUptoRow.holds Try.pinned (OpenSpec.upto fnExactBestTariffSpec)

/-- 'laws.FnExactFactorWeights', WHERE WHAT IT READS IS OF BULK AT MOST 1048576: true; the input reads as it did. -/
def fnExactFactorWeightsUptoRow : OpenClaim := { program := "ytegfajmhblpcoaa", sum := "e38fbd6d63fce362782cee34a036c5dff11858f4d2b43a9733bd39bd093188a8", func := "loop.example/g01393/laws.FnExactFactorWeights", spec := "fnExactFactorWeights", unfollowed := true, recurses := true, apart := false, narrowed := true }
def FnExactFactorWeightsUptoSaid : Prop := fnExactFactorWeightsUptoRow.holds Try.pinned (OpenSpec.upto fnExactFactorWeightsSpec)

end Rows
end Go.Proofs.Ytegfajmhblpcoaa
