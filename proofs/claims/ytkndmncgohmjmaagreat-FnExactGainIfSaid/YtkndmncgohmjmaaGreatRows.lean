/-
  No cell of these rows narrows 'for every input' (looked for: loops, veiled, ifaces, maps, wideKeys, modest, calm, conditions, laid).
  DERIVED. THE GIVEN ROWS OF THIS SEAT. 3 by the template 'for every input the law returns true; each argument reads behind the call as it read before'; 0 by the template 'total and deterministic' (their statements: YtkndmncgohmjmaaGreatTotals.lean).
  GIVEN WITH THE SEED: the statements are not yours to turn. If you find one false, say at which input.
  Laid BY PROGRAM, IN A SANDBOX (cutbox-rows.mjs): the forced cells as the released guide's own fill.sh prints them over the translation beb2301f0211c9c0… (all of the seat's roots in one cut). By AI agents, Wed Nov 11 2026. No macro, syntax, notation, axiom, sorry.
-/
import Derived.Test.YtkndmncgohmjmaaGreatChecked
import GoSem.Claim
import GoSem.ClaimJoined
import GoSem.ClaimMapViews
import Derived.JoinedTies
import Derived.KernelRfl
namespace Go.Proofs.YtkndmncgohmjmaaGreat
/- THE CELL 'sum', in the pinned program and in every row, IS THE sha256 OF THE DUMP (.gsa) THAT YtkndmncgohmjmaaGreatProg.lean LOADS. Nothing in Lean hashes anything: it is a label: what it is worth is what the hold of that sum in a sandbox is worth. -/
noncomputable def Tryz.pinned : Pinned := { name := "ytkndmncgohmjmaagreat", sum := "beb2301f0211c9c0ed1071ea71f8f15e90d5deb64c70346cf19d4d501c24fd8a", checked := Tryz.checked }
namespace Rows
def none {H : Type} : Left H := { results := [], args := [] }

/-- 'laws.FnSaves': WHATEVER THE INPUT: true; the input reads as it did. -/
def fnSavesSpec : ChangeSpec := { name := "fnSaves", fn := fun _ => fun
  | [d] => { results := [.lit (.bool true)], args := [d] }
  | _ => none }
def fnSavesRow : OpenClaim := { program := "ytkndmncgohmjmaagreat", sum := "beb2301f0211c9c0ed1071ea71f8f15e90d5deb64c70346cf19d4d501c24fd8a", func := "loop.example/g00110/laws.FnSaves", spec := "fnSaves", inPlace := ["slices.overlaps[loop.example/g00110/impl.File]"], unfollowed := true, recurses := true, apart := false }
def FnSavesSaid : Prop := fnSavesRow.holds Tryz.pinned (OpenSpec.ofChange fnSavesSpec)

/-- ITS FALSE NEIGHBOUR: 'it returns false'. Refute it at one input. -/
def fnSavesWrong : ChangeSpec := { name := "fnSaves", fn := fun _ => fun
  | [d] => { results := [.lit (.bool false)], args := [d] }
  | _ => none }
def FnSavesWrongFalsely : Prop := fnSavesRow.holds Tryz.pinned (OpenSpec.ofChange fnSavesWrong)

/-- 'laws.FnExactGainIf': WHATEVER THE INPUT: true; the input reads as it did. -/
def fnExactGainIfSpec : ChangeSpec := { name := "fnExactGainIf", fn := fun _ => fun
  | [d1, d2, d3, d4, d5, d6] => { results := [.lit (.bool true)], args := [d1, d2, d3, d4, d5, d6] }
  | _ => none }
def fnExactGainIfRow : OpenClaim := { program := "ytkndmncgohmjmaagreat", sum := "beb2301f0211c9c0ed1071ea71f8f15e90d5deb64c70346cf19d4d501c24fd8a", func := "loop.example/g00110/laws.FnExactGainIf", spec := "fnExactGainIf", unfollowed := true, recurses := true, named := ["math/bits.divideError", "math/bits.overflowError"], apart := false }
def FnExactGainIfSaid : Prop := fnExactGainIfRow.holds Tryz.pinned (OpenSpec.ofChange fnExactGainIfSpec)

/-- ITS FALSE NEIGHBOUR: 'it returns false'. Refute it at one input. -/
def fnExactGainIfWrong : ChangeSpec := { name := "fnExactGainIf", fn := fun _ => fun
  | [d1, d2, d3, d4, d5, d6] => { results := [.lit (.bool false)], args := [d1, d2, d3, d4, d5, d6] }
  | _ => none }
def FnExactGainIfWrongFalsely : Prop := fnExactGainIfRow.holds Tryz.pinned (OpenSpec.ofChange fnExactGainIfWrong)

/-- 'laws.FnExactEngineSubmit': WHATEVER THE INPUT: true; the input reads as it did. -/
def fnExactEngineSubmitSpec : ChangeSpec := { name := "fnExactEngineSubmit", fn := fun _ => fun
  | [d1, d2] => { results := [.lit (.bool true)], args := [d1, d2] }
  | _ => none }
def fnExactEngineSubmitRow : OpenClaim := { program := "ytkndmncgohmjmaagreat", sum := "beb2301f0211c9c0ed1071ea71f8f15e90d5deb64c70346cf19d4d501c24fd8a", func := "loop.example/g00110/laws.FnExactEngineSubmit", spec := "fnExactEngineSubmit", inPlace := ["slices.overlaps[loop.example/g00110/impl.Account]", "slices.overlaps[loop.example/g00110/impl.Instr]", "slices.overlaps[loop.example/g00110/impl.Bal]", "slices.overlaps[loop.example/g00110/impl.Lot]", "slices.overlaps[loop.example/g00110/impl.Trade]", "slices.overlaps[loop.example/g00110/impl.Leg]", "slices.overlaps[loop.example/g00110/impl.File]"], unfollowed := true, recurses := true, named := ["math/bits.divideError", "math/bits.overflowError"], apart := false }
def FnExactEngineSubmitSaid : Prop := fnExactEngineSubmitRow.holds Tryz.pinned (OpenSpec.ofChange fnExactEngineSubmitSpec)

/-- ITS FALSE NEIGHBOUR: 'it returns false'. Refute it at one input. -/
def fnExactEngineSubmitWrong : ChangeSpec := { name := "fnExactEngineSubmit", fn := fun _ => fun
  | [d1, d2] => { results := [.lit (.bool false)], args := [d1, d2] }
  | _ => none }
def FnExactEngineSubmitWrongFalsely : Prop := fnExactEngineSubmitRow.holds Tryz.pinned (OpenSpec.ofChange fnExactEngineSubmitWrong)

/- THE SECOND FORM. 'bulk': how many values and letters a reading holds, each counted each time it is reached (what is shared counts as often as it is met; a slice's spare places count too). A statement '..UptoSaid' is the law's where the arguments, and the package variables that the reading takes, are together of bulk at most 1048576: NARROWER than '..Said'. Prove '..Said' where nothing that the law and all that it calls make is longer than what came in: it says more and counts as full. Else prove '..UptoSaid'. A law counts once. -/
mutual
def uptoBulk {H : Type} : DataW H → Nat
  | .lit (.string bytes) => bytes.length + 1
  | .lit _ => 1
  | .nil => 1
  | .ptr d => uptoBulk d + 1
  | .slice elems spare => uptoBulkAll elems + uptoBulkAll spare + 1
  | .agg parts => uptoBulkAll parts + 1
  | .iface _ d => uptoBulk d + 1
  | .map entries => uptoBulkEntries entries + 1
  | .held _ => 1
def uptoBulkAll {H : Type} : List (DataW H) → Nat
  | [] => 0
  | d :: r => uptoBulk d + uptoBulkAll r
def uptoBulkEntries {H : Type} : List (Lit × DataW H) → Nat
  | [] => 0
  | x :: r => uptoBulkEntry x + uptoBulkEntries r
def uptoBulkEntry {H : Type} : Lit × DataW H → Nat
  | (.string bytes, d) => bytes.length + uptoBulk d + 1
  | (_, d) => uptoBulk d + 1
 end
def uptoSmall : (H : Type) → List (DataW H) → Bool := fun _ ds => decide (uptoBulkAll ds ≤ 1048576)
def OpenSpec.upto (s : _root_.Go.ChangeSpec) : _root_.Go.OpenSpec := { _root_.Go.OpenSpec.ofChange s with cond := some uptoSmall }

/-- 'laws.FnSaves', WHERE WHAT IT READS IS OF BULK AT MOST 1048576: true; the input reads as it did. -/
def fnSavesUptoRow : OpenClaim := { program := "ytkndmncgohmjmaagreat", sum := "beb2301f0211c9c0ed1071ea71f8f15e90d5deb64c70346cf19d4d501c24fd8a", func := "loop.example/g00110/laws.FnSaves", spec := "fnSaves", inPlace := ["slices.overlaps[loop.example/g00110/impl.File]"], unfollowed := true, recurses := true, apart := false, narrowed := true }
def FnSavesUptoSaid : Prop := fnSavesUptoRow.holds Tryz.pinned (OpenSpec.upto fnSavesSpec)

/-- 'laws.FnExactGainIf', WHERE WHAT IT READS IS OF BULK AT MOST 1048576: true; the input reads as it did. -/
def fnExactGainIfUptoRow : OpenClaim := { program := "ytkndmncgohmjmaagreat", sum := "beb2301f0211c9c0ed1071ea71f8f15e90d5deb64c70346cf19d4d501c24fd8a", func := "loop.example/g00110/laws.FnExactGainIf", spec := "fnExactGainIf", unfollowed := true, recurses := true, named := ["math/bits.divideError", "math/bits.overflowError"], apart := false, narrowed := true }
def FnExactGainIfUptoSaid : Prop := fnExactGainIfUptoRow.holds Tryz.pinned (OpenSpec.upto fnExactGainIfSpec)

/-- 'laws.FnExactEngineSubmit', WHERE WHAT IT READS IS OF BULK AT MOST 1048576: true; the input reads as it did. -/
def fnExactEngineSubmitUptoRow : OpenClaim := { program := "ytkndmncgohmjmaagreat", sum := "beb2301f0211c9c0ed1071ea71f8f15e90d5deb64c70346cf19d4d501c24fd8a", func := "loop.example/g00110/laws.FnExactEngineSubmit", spec := "fnExactEngineSubmit", inPlace := ["slices.overlaps[loop.example/g00110/impl.Account]", "slices.overlaps[loop.example/g00110/impl.Instr]", "slices.overlaps[loop.example/g00110/impl.Bal]", "slices.overlaps[loop.example/g00110/impl.Lot]", "slices.overlaps[loop.example/g00110/impl.Trade]", "slices.overlaps[loop.example/g00110/impl.Leg]", "slices.overlaps[loop.example/g00110/impl.File]"], unfollowed := true, recurses := true, named := ["math/bits.divideError", "math/bits.overflowError"], apart := false, narrowed := true }
def FnExactEngineSubmitUptoSaid : Prop := fnExactEngineSubmitUptoRow.holds Tryz.pinned (OpenSpec.upto fnExactEngineSubmitSpec)

end Rows
end Go.Proofs.YtkndmncgohmjmaaGreat
