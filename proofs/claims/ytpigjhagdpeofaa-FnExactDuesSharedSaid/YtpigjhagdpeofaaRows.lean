/-
  No cell of these rows narrows 'for every input' (looked for: loops, veiled, ifaces, maps, wideKeys, modest, calm, conditions, laid).
  DERIVED. THE GIVEN ROWS OF THIS SEAT. 3 by the template 'for every input the law returns true; each argument reads behind the call as it read before'; 0 by the template 'total and deterministic' (their statements: YtpigjhagdpeofaaTotals.lean).
  GIVEN WITH THE SEED: the statements are not yours to turn. If you find one false, say at which input.
  Laid BY PROGRAM, IN A SANDBOX (cutbox-rows.mjs): the forced cells as the released guide's own fill.sh prints them over the translation debce4c838a4102a… (all of the seat's roots in one cut). By AI agents, Wed Nov 11 2026. No macro, syntax, notation, axiom, sorry.
-/
import Derived.Test.YtpigjhagdpeofaaChecked
import GoSem.Claim
import GoSem.ClaimJoined
import GoSem.ClaimMapViews
import Derived.JoinedTies
import Derived.KernelRfl
namespace Go.Proofs.Ytpigjhagdpeofaa
/- THE CELL 'sum', in the pinned program and in every row, IS THE sha256 OF THE DUMP (.gsa) THAT YtpigjhagdpeofaaProg.lean LOADS. Nothing in Lean hashes anything: it is a label: what it is worth is what the hold of that sum in a sandbox is worth. -/
noncomputable def Try.pinned : Pinned := { name := "ytpigjhagdpeofaa", sum := "debce4c838a4102aaeedca14d4f8d5713a72f4df569a1ce3603adac2b65a64f4", checked := Try.checked }
namespace Rows
def none {H : Type} : Left H := { results := [], args := [] }

/-- 'laws.FnExactBalancesShared': WHATEVER THE INPUT: true; the input reads as it did. -/
def fnExactBalancesSharedSpec : ChangeSpec := { name := "fnExactBalancesShared", fn := fun _ => fun
  | [d1, d2, d3] => { results := [.lit (.bool true)], args := [d1, d2, d3] }
  | _ => none }
def fnExactBalancesSharedRow : OpenClaim := { program := "ytpigjhagdpeofaa", sum := "debce4c838a4102aaeedca14d4f8d5713a72f4df569a1ce3603adac2b65a64f4", func := "loop.example/g01393/laws.FnExactBalancesShared", spec := "fnExactBalancesShared", unfollowed := true, recurses := true, leaving := true, apart := false }
def FnExactBalancesSharedSaid : Prop := fnExactBalancesSharedRow.holds Try.pinned (OpenSpec.ofChange fnExactBalancesSharedSpec)

/-- ITS FALSE NEIGHBOUR: 'it returns false'. Refute it at one input. -/
def fnExactBalancesSharedWrong : ChangeSpec := { name := "fnExactBalancesShared", fn := fun _ => fun
  | [d1, d2, d3] => { results := [.lit (.bool false)], args := [d1, d2, d3] }
  | _ => none }
def FnExactBalancesSharedWrongFalsely : Prop := fnExactBalancesSharedRow.holds Try.pinned (OpenSpec.ofChange fnExactBalancesSharedWrong)

/-- 'laws.FnExactDuesShared': WHATEVER THE INPUT: true; the input reads as it did. -/
def fnExactDuesSharedSpec : ChangeSpec := { name := "fnExactDuesShared", fn := fun _ => fun
  | [d1, d2, d3, d4] => { results := [.lit (.bool true)], args := [d1, d2, d3, d4] }
  | _ => none }
def fnExactDuesSharedRow : OpenClaim := { program := "ytpigjhagdpeofaa", sum := "debce4c838a4102aaeedca14d4f8d5713a72f4df569a1ce3603adac2b65a64f4", func := "loop.example/g01393/laws.FnExactDuesShared", spec := "fnExactDuesShared", unfollowed := true, recurses := true, leaving := true, apart := false }
def FnExactDuesSharedSaid : Prop := fnExactDuesSharedRow.holds Try.pinned (OpenSpec.ofChange fnExactDuesSharedSpec)

/-- ITS FALSE NEIGHBOUR: 'it returns false'. Refute it at one input. -/
def fnExactDuesSharedWrong : ChangeSpec := { name := "fnExactDuesShared", fn := fun _ => fun
  | [d1, d2, d3, d4] => { results := [.lit (.bool false)], args := [d1, d2, d3, d4] }
  | _ => none }
def FnExactDuesSharedWrongFalsely : Prop := fnExactDuesSharedRow.holds Try.pinned (OpenSpec.ofChange fnExactDuesSharedWrong)

/-- 'laws.FnExactSharesShared': WHATEVER THE INPUT: true; the input reads as it did. -/
def fnExactSharesSharedSpec : ChangeSpec := { name := "fnExactSharesShared", fn := fun _ => fun
  | [d1, d2, d3] => { results := [.lit (.bool true)], args := [d1, d2, d3] }
  | _ => none }
def fnExactSharesSharedRow : OpenClaim := { program := "ytpigjhagdpeofaa", sum := "debce4c838a4102aaeedca14d4f8d5713a72f4df569a1ce3603adac2b65a64f4", func := "loop.example/g01393/laws.FnExactSharesShared", spec := "fnExactSharesShared", unfollowed := true, recurses := true, named := ["math/bits.divideError", "math/bits.overflowError"], leaving := true, apart := false }
def FnExactSharesSharedSaid : Prop := fnExactSharesSharedRow.holds Try.pinned (OpenSpec.ofChange fnExactSharesSharedSpec)

/-- ITS FALSE NEIGHBOUR: 'it returns false'. Refute it at one input. -/
def fnExactSharesSharedWrong : ChangeSpec := { name := "fnExactSharesShared", fn := fun _ => fun
  | [d1, d2, d3] => { results := [.lit (.bool false)], args := [d1, d2, d3] }
  | _ => none }
def FnExactSharesSharedWrongFalsely : Prop := fnExactSharesSharedRow.holds Try.pinned (OpenSpec.ofChange fnExactSharesSharedWrong)

/- THE SECOND FORM. 'bulk': how many values and letters a reading holds, each counted each time it is reached (what is shared counts as often as it is met; a slice's spare places count too). A statement '..UptoSaid' is the law's where the arguments, and the package variables that the reading takes, are together of bulk at most 1048576: NARROWER than '..Said'. Prove '..Said' where nothing that the law and all that it calls make is longer than what came in: it says more and counts as full. Else prove '..UptoSaid'. A law counts once. -/
mutual
def uptoBulk {H : Type} : DataW H → Nat
  | .lit (.string bytes) => bytes.length + 1
  | .lit _ => 1
  | .nil => 1
  | .ptr d => uptoBulk d + 1
  | .slice elems spare => uptoBulkAll elems + uptoBulkAll spare + 1
  | .agg parts => uptoBulkAll parts + 1
  | .iface _ d => uptoBulk d + 1
  | .map entries => uptoBulkEntries entries + 1
  | .held _ => 1
def uptoBulkAll {H : Type} : List (DataW H) → Nat
  | [] => 0
  | d :: r => uptoBulk d + uptoBulkAll r
def uptoBulkEntries {H : Type} : List (Lit × DataW H) → Nat
  | [] => 0
  | x :: r => uptoBulkEntry x + uptoBulkEntries r
def uptoBulkEntry {H : Type} : Lit × DataW H → Nat
  | (.string bytes, d) => bytes.length + uptoBulk d + 1
  | (_, d) => uptoBulk d + 1
 end
def uptoSmall : (H : Type) → List (DataW H) → Bool := fun _ ds => decide (uptoBulkAll ds ≤ 1048576)
def OpenSpec.upto (s : _root_.Go.ChangeSpec) : _root_.Go.OpenSpec := { _root_.Go.OpenSpec.ofChange s with cond := some uptoSmall }

/-- 'laws.FnExactBalancesShared', WHERE WHAT IT READS IS OF BULK AT MOST 1048576: true; the input reads as it did. -/
def fnExactBalancesSharedUptoRow : OpenClaim := { program := "ytpigjhagdpeofaa", sum := "debce4c838a4102aaeedca14d4f8d5713a72f4df569a1ce3603adac2b65a64f4", func := "loop.example/g01393/laws.FnExactBalancesShared", spec := "fnExactBalancesShared", unfollowed := true, recurses := true, leaving := true, apart := false, narrowed := true }
def FnExactBalancesSharedUptoSaid : Prop := fnExactBalancesSharedUptoRow.holds Try.pinned (OpenSpec.upto fnExactBalancesSharedSpec)

/-- 'laws.FnExactDuesShared', WHERE WHAT IT READS IS OF BULK AT MOST 1048576: true; the input reads as it did. -/
def fnExactDuesSharedUptoRow : OpenClaim := { program := "ytpigjhagdpeofaa", sum := "debce4c838a4102aaeedca14d4f8d5713a72f4df569a1ce3603adac2b65a64f4", func := "loop.example/g01393/laws.FnExactDuesShared", spec := "fnExactDuesShared", unfollowed := true, recurses := true, leaving := true, apart := false, narrowed := true }
def FnExactDuesSharedUptoSaid : Prop := fnExactDuesSharedUptoRow.holds Try.pinned (OpenSpec.upto fnExactDuesSharedSpec)

/-- 'laws.FnExactSharesShared', WHERE WHAT IT READS IS OF BULK AT MOST 1048576: true; the input reads as it did. -/
def fnExactSharesSharedUptoRow : OpenClaim := { program := "ytpigjhagdpeofaa", sum := "debce4c838a4102aaeedca14d4f8d5713a72f4df569a1ce3603adac2b65a64f4", func := "loop.example/g01393/laws.FnExactSharesShared", spec := "fnExactSharesShared", unfollowed := true, recurses := true, named := ["math/bits.divideError", "math/bits.overflowError"], leaving := true, apart := false, narrowed := true }
def FnExactSharesSharedUptoSaid : Prop := fnExactSharesSharedUptoRow.holds Try.pinned (OpenSpec.upto fnExactSharesSharedSpec)

end Rows
end Go.Proofs.Ytpigjhagdpeofaa
