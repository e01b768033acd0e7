/-
  No cell of these rows narrows 'for every input' (looked for: loops, veiled, ifaces, maps, wideKeys, modest, calm, conditions, laid).
  DERIVED. THE GIVEN ROWS OF THIS SEAT. 4 by the template 'for every input the law returns true; each argument reads behind the call as it read before'; 0 by the template 'total and deterministic' (their statements: YtedkpjaojdkpcaaTotals.lean).
  GIVEN WITH THE SEED: the statements are not yours to turn. If you find one false, say at which input.
  Laid BY PROGRAM, IN A SANDBOX (cutbox-rows.mjs): the forced cells as the released guide's own fill.sh prints them over the translation c070b3332376b66c… (all of the seat's roots in one cut). By AI agents, Wed Nov 11 2026. No macro, syntax, notation, axiom, sorry.
-/
import Derived.Test.YtedkpjaojdkpcaaChecked
import GoSem.Claim
import GoSem.ClaimJoined
import GoSem.ClaimMapViews
import Derived.JoinedTies
import Derived.KernelRfl
namespace Go.Proofs.Ytedkpjaojdkpcaa
/- THE CELL 'sum', in the pinned program and in every row, IS THE sha256 OF THE DUMP (.gsa) THAT YtedkpjaojdkpcaaProg.lean LOADS. Nothing in Lean hashes anything: it is a label: what it is worth is what the hold of that sum in a sandbox is worth. -/
noncomputable def Try.pinned : Pinned := { name := "ytedkpjaojdkpcaa", sum := "c070b3332376b66ce335b02fc1cdba4464d9063a5283e8c21116e74acaf120da", checked := Try.checked }
namespace Rows
def none {H : Type} : Left H := { results := [], args := [] }

/-- 'laws.FnExactTotals': WHATEVER THE INPUT: true; the input reads as it did. -/
def fnExactTotalsSpec : ChangeSpec := { name := "fnExactTotals", fn := fun _ => fun
  | [d1, d2] => { results := [.lit (.bool true)], args := [d1, d2] }
  | _ => none }
def fnExactTotalsRow : OpenClaim := { program := "ytedkpjaojdkpcaa", sum := "c070b3332376b66ce335b02fc1cdba4464d9063a5283e8c21116e74acaf120da", func := "loop.example/g00110/laws.FnExactTotals", spec := "fnExactTotals", unfollowed := true, recurses := true, apart := false }
def FnExactTotalsSaid : Prop := fnExactTotalsRow.holds Try.pinned (OpenSpec.ofChange fnExactTotalsSpec)

/-- ITS FALSE NEIGHBOUR: 'it returns false'. Refute it at one input. -/
def fnExactTotalsWrong : ChangeSpec := { name := "fnExactTotals", fn := fun _ => fun
  | [d1, d2] => { results := [.lit (.bool false)], args := [d1, d2] }
  | _ => none }
def FnExactTotalsWrongFalsely : Prop := fnExactTotalsRow.holds Try.pinned (OpenSpec.ofChange fnExactTotalsWrong)

/-- 'laws.FnExactShowTrade': WHATEVER THE INPUT: true; the input reads as it did. -/
def fnExactShowTradeSpec : ChangeSpec := { name := "fnExactShowTrade", fn := fun _ => fun
  | [d1, d2] => { results := [.lit (.bool true)], args := [d1, d2] }
  | _ => none }
def fnExactShowTradeRow : OpenClaim := { program := "ytedkpjaojdkpcaa", sum := "c070b3332376b66ce335b02fc1cdba4464d9063a5283e8c21116e74acaf120da", func := "loop.example/g00110/laws.FnExactShowTrade", spec := "fnExactShowTrade", unfollowed := true, recurses := true, apart := false }
def FnExactShowTradeSaid : Prop := fnExactShowTradeRow.holds Try.pinned (OpenSpec.ofChange fnExactShowTradeSpec)

/-- ITS FALSE NEIGHBOUR: 'it returns false'. Refute it at one input. -/
def fnExactShowTradeWrong : ChangeSpec := { name := "fnExactShowTrade", fn := fun _ => fun
  | [d1, d2] => { results := [.lit (.bool false)], args := [d1, d2] }
  | _ => none }
def FnExactShowTradeWrongFalsely : Prop := fnExactShowTradeRow.holds Try.pinned (OpenSpec.ofChange fnExactShowTradeWrong)

/-- 'laws.FnExactChain': WHATEVER THE INPUT: true; the input reads as it did. -/
def fnExactChainSpec : ChangeSpec := { name := "fnExactChain", fn := fun _ => fun
  | [d1, d2] => { results := [.lit (.bool true)], args := [d1, d2] }
  | _ => none }
def fnExactChainRow : OpenClaim := { program := "ytedkpjaojdkpcaa", sum := "c070b3332376b66ce335b02fc1cdba4464d9063a5283e8c21116e74acaf120da", func := "loop.example/g00110/laws.FnExactChain", spec := "fnExactChain", unfollowed := true, recurses := true, apart := false }
def FnExactChainSaid : Prop := fnExactChainRow.holds Try.pinned (OpenSpec.ofChange fnExactChainSpec)

/-- ITS FALSE NEIGHBOUR: 'it returns false'. Refute it at one input. -/
def fnExactChainWrong : ChangeSpec := { name := "fnExactChain", fn := fun _ => fun
  | [d1, d2] => { results := [.lit (.bool false)], args := [d1, d2] }
  | _ => none }
def FnExactChainWrongFalsely : Prop := fnExactChainRow.holds Try.pinned (OpenSpec.ofChange fnExactChainWrong)

/-- 'laws.FnExactStatement': WHATEVER THE INPUT: true; the input reads as it did. -/
def fnExactStatementSpec : ChangeSpec := { name := "fnExactStatement", fn := fun _ => fun
  | [d1, d2] => { results := [.lit (.bool true)], args := [d1, d2] }
  | _ => none }
def fnExactStatementRow : OpenClaim := { program := "ytedkpjaojdkpcaa", sum := "c070b3332376b66ce335b02fc1cdba4464d9063a5283e8c21116e74acaf120da", func := "loop.example/g00110/laws.FnExactStatement", spec := "fnExactStatement", unfollowed := true, recurses := true, apart := false }
def FnExactStatementSaid : Prop := fnExactStatementRow.holds Try.pinned (OpenSpec.ofChange fnExactStatementSpec)

/-- ITS FALSE NEIGHBOUR: 'it returns false'. Refute it at one input. -/
def fnExactStatementWrong : ChangeSpec := { name := "fnExactStatement", fn := fun _ => fun
  | [d1, d2] => { results := [.lit (.bool false)], args := [d1, d2] }
  | _ => none }
def FnExactStatementWrongFalsely : Prop := fnExactStatementRow.holds Try.pinned (OpenSpec.ofChange fnExactStatementWrong)

/- THE SECOND FORM. 'bulk': how many values and letters a reading holds, each counted each time it is reached (what is shared counts as often as it is met; a slice's spare places count too). A statement '..UptoSaid' is the law's where the arguments, and the package variables that the reading takes, are together of bulk at most 1048576: NARROWER than '..Said'. Prove '..Said' where nothing that the law and all that it calls make is longer than what came in: it says more and counts as full. Else prove '..UptoSaid'. A law counts once. -/
mutual
def uptoBulk {H : Type} : DataW H → Nat
  | .lit (.string bytes) => bytes.length + 1
  | .lit _ => 1
  | .nil => 1
  | .ptr d => uptoBulk d + 1
  | .slice elems spare => uptoBulkAll elems + uptoBulkAll spare + 1
  | .agg parts => uptoBulkAll parts + 1
  | .iface _ d => uptoBulk d + 1
  | .map entries => uptoBulkEntries entries + 1
  | .held _ => 1
def uptoBulkAll {H : Type} : List (DataW H) → Nat
  | [] => 0
  | d :: r => uptoBulk d + uptoBulkAll r
def uptoBulkEntries {H : Type} : List (Lit × DataW H) → Nat
  | [] => 0
  | x :: r => uptoBulkEntry x + uptoBulkEntries r
def uptoBulkEntry {H : Type} : Lit × DataW H → Nat
  | (.string bytes, d) => bytes.length + uptoBulk d + 1
  | (_, d) => uptoBulk d + 1
 end
def uptoSmall : (H : Type) → List (DataW H) → Bool := fun _ ds => decide (uptoBulkAll ds ≤ 1048576)
def OpenSpec.upto (s : _root_.Go.ChangeSpec) : _root_.Go.OpenSpec := { _root_.Go.OpenSpec.ofChange s with cond := some uptoSmall }

/-- 'laws.FnExactTotals', WHERE WHAT IT READS IS OF BULK AT MOST 1048576: true; the input reads as it did. -/
def fnExactTotalsUptoRow : OpenClaim := { program := "ytedkpjaojdkpcaa", sum := "c070b3332376b66ce335b02fc1cdba4464d9063a5283e8c21116e74acaf120da", func := "loop.example/g00110/laws.FnExactTotals", spec := "fnExactTotals", unfollowed := true, recurses := true, apart := false, narrowed := true }
def FnExactTotalsUptoSaid : Prop := fnExactTotalsUptoRow.holds Try.pinned (OpenSpec.upto fnExactTotalsSpec)

/-- 'laws.FnExactShowTrade', WHERE WHAT IT READS IS OF BULK AT MOST 1048576: true; the input reads as it did. -/
def fnExactShowTradeUptoRow : OpenClaim := { program := "ytedkpjaojdkpcaa", sum := "c070b3332376b66ce335b02fc1cdba4464d9063a5283e8c21116e74acaf120da", func := "loop.example/g00110/laws.FnExactShowTrade", spec := "fnExactShowTrade", unfollowed := true, recurses := true, apart := false, narrowed := true }
def FnExactShowTradeUptoSaid : Prop := fnExactShowTradeUptoRow.holds Try.pinned (OpenSpec.upto fnExactShowTradeSpec)

/-- 'laws.FnExactChain', WHERE WHAT IT READS IS OF BULK AT MOST 1048576: true; the input reads as it did. -/
def fnExactChainUptoRow : OpenClaim := { program := "ytedkpjaojdkpcaa", sum := "c070b3332376b66ce335b02fc1cdba4464d9063a5283e8c21116e74acaf120da", func := "loop.example/g00110/laws.FnExactChain", spec := "fnExactChain", unfollowed := true, recurses := true, apart := false, narrowed := true }
def FnExactChainUptoSaid : Prop := fnExactChainUptoRow.holds Try.pinned (OpenSpec.upto fnExactChainSpec)

/-- 'laws.FnExactStatement', WHERE WHAT IT READS IS OF BULK AT MOST 1048576: true; the input reads as it did. -/
def fnExactStatementUptoRow : OpenClaim := { program := "ytedkpjaojdkpcaa", sum := "c070b3332376b66ce335b02fc1cdba4464d9063a5283e8c21116e74acaf120da", func := "loop.example/g00110/laws.FnExactStatement", spec := "fnExactStatement", unfollowed := true, recurses := true, apart := false, narrowed := true }
def FnExactStatementUptoSaid : Prop := fnExactStatementUptoRow.holds Try.pinned (OpenSpec.upto fnExactStatementSpec)

end Rows
end Go.Proofs.Ytedkpjaojdkpcaa
