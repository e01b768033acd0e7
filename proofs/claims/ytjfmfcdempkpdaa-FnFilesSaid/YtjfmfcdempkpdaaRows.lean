/-
  No cell of these rows narrows 'for every input' (looked for: loops, veiled, ifaces, maps, wideKeys, modest, calm, conditions, laid).
  DERIVED. THE GIVEN ROWS OF THIS SEAT. 9 by the template 'for every input the law returns true; each argument reads behind the call as it read before'; 0 by the template 'total and deterministic' (their statements: YtjfmfcdempkpdaaTotals.lean).
  GIVEN WITH THE SEED: the statements are not yours to turn. If you find one false, say at which input.
  Laid BY PROGRAM, IN A SANDBOX (cutbox-rows.mjs): the forced cells as the released guide's own fill.sh prints them over the translation 96cdc0ff1f0503e3… (all of the seat's roots in one cut). By AI agents, Wed Nov 11 2026. No macro, syntax, notation, axiom, sorry.
-/
import Derived.Test.YtjfmfcdempkpdaaChecked
import GoSem.Claim
import GoSem.ClaimJoined
import GoSem.ClaimMapViews
import Derived.JoinedTies
import Derived.KernelRfl
namespace Go.Proofs.Ytjfmfcdempkpdaa
/- THE CELL 'sum', in the pinned program and in every row, IS THE sha256 OF THE DUMP (.gsa) THAT YtjfmfcdempkpdaaProg.lean LOADS. Nothing in Lean hashes anything: it is a label: what it is worth is what the hold of that sum in a sandbox is worth. -/
noncomputable def Try.pinned : Pinned := { name := "ytjfmfcdempkpdaa", sum := "96cdc0ff1f0503e39d432392a34b290827dc1cd193c1a7d0515051244434b912", checked := Try.checked }
namespace Rows
def none {H : Type} : Left H := { results := [], args := [] }

/-- 'laws.FnExactDeedOk': WHATEVER THE INPUT: true; the input reads as it did. -/
def fnExactDeedOkSpec : ChangeSpec := { name := "fnExactDeedOk", fn := fun _ => fun
  | [d] => { results := [.lit (.bool true)], args := [d] }
  | _ => none }
def fnExactDeedOkRow : OpenClaim := { program := "ytjfmfcdempkpdaa", sum := "96cdc0ff1f0503e39d432392a34b290827dc1cd193c1a7d0515051244434b912", func := "loop.example/g00110/laws.FnExactDeedOk", spec := "fnExactDeedOk", apart := false }
def FnExactDeedOkSaid : Prop := fnExactDeedOkRow.holds Try.pinned (OpenSpec.ofChange fnExactDeedOkSpec)

/-- ITS FALSE NEIGHBOUR: 'it returns false'. Refute it at one input. -/
def fnExactDeedOkWrong : ChangeSpec := { name := "fnExactDeedOk", fn := fun _ => fun
  | [d] => { results := [.lit (.bool false)], args := [d] }
  | _ => none }
def FnExactDeedOkWrongFalsely : Prop := fnExactDeedOkRow.holds Try.pinned (OpenSpec.ofChange fnExactDeedOkWrong)

/-- 'laws.FnExactSegsFrom': WHATEVER THE INPUT: true; the input reads as it did. -/
def fnExactSegsFromSpec : ChangeSpec := { name := "fnExactSegsFrom", fn := fun _ => fun
  | [d1, d2] => { results := [.lit (.bool true)], args := [d1, d2] }
  | _ => none }
def fnExactSegsFromRow : OpenClaim := { program := "ytjfmfcdempkpdaa", sum := "96cdc0ff1f0503e39d432392a34b290827dc1cd193c1a7d0515051244434b912", func := "loop.example/g00110/laws.FnExactSegsFrom", spec := "fnExactSegsFrom", unfollowed := true, recurses := true, apart := false }
def FnExactSegsFromSaid : Prop := fnExactSegsFromRow.holds Try.pinned (OpenSpec.ofChange fnExactSegsFromSpec)

/-- ITS FALSE NEIGHBOUR: 'it returns false'. Refute it at one input. -/
def fnExactSegsFromWrong : ChangeSpec := { name := "fnExactSegsFrom", fn := fun _ => fun
  | [d1, d2] => { results := [.lit (.bool false)], args := [d1, d2] }
  | _ => none }
def FnExactSegsFromWrongFalsely : Prop := fnExactSegsFromRow.holds Try.pinned (OpenSpec.ofChange fnExactSegsFromWrong)

/-- 'laws.FnExactSegsClear': WHATEVER THE INPUT: true; the input reads as it did. -/
def fnExactSegsClearSpec : ChangeSpec := { name := "fnExactSegsClear", fn := fun _ => fun
  | [d1, d2] => { results := [.lit (.bool true)], args := [d1, d2] }
  | _ => none }
def fnExactSegsClearRow : OpenClaim := { program := "ytjfmfcdempkpdaa", sum := "96cdc0ff1f0503e39d432392a34b290827dc1cd193c1a7d0515051244434b912", func := "loop.example/g00110/laws.FnExactSegsClear", spec := "fnExactSegsClear", unfollowed := true, recurses := true, apart := false }
def FnExactSegsClearSaid : Prop := fnExactSegsClearRow.holds Try.pinned (OpenSpec.ofChange fnExactSegsClearSpec)

/-- ITS FALSE NEIGHBOUR: 'it returns false'. Refute it at one input. -/
def fnExactSegsClearWrong : ChangeSpec := { name := "fnExactSegsClear", fn := fun _ => fun
  | [d1, d2] => { results := [.lit (.bool false)], args := [d1, d2] }
  | _ => none }
def FnExactSegsClearWrongFalsely : Prop := fnExactSegsClearRow.holds Try.pinned (OpenSpec.ofChange fnExactSegsClearWrong)

/-- 'laws.FnExactSegRead': WHATEVER THE INPUT: true; the input reads as it did. -/
def fnExactSegReadSpec : ChangeSpec := { name := "fnExactSegRead", fn := fun _ => fun
  | [d1, d2] => { results := [.lit (.bool true)], args := [d1, d2] }
  | _ => none }
def fnExactSegReadRow : OpenClaim := { program := "ytjfmfcdempkpdaa", sum := "96cdc0ff1f0503e39d432392a34b290827dc1cd193c1a7d0515051244434b912", func := "loop.example/g00110/laws.FnExactSegRead", spec := "fnExactSegRead", unfollowed := true, recurses := true, apart := false }
def FnExactSegReadSaid : Prop := fnExactSegReadRow.holds Try.pinned (OpenSpec.ofChange fnExactSegReadSpec)

/-- ITS FALSE NEIGHBOUR: 'it returns false'. Refute it at one input. -/
def fnExactSegReadWrong : ChangeSpec := { name := "fnExactSegRead", fn := fun _ => fun
  | [d1, d2] => { results := [.lit (.bool false)], args := [d1, d2] }
  | _ => none }
def FnExactSegReadWrongFalsely : Prop := fnExactSegReadRow.holds Try.pinned (OpenSpec.ofChange fnExactSegReadWrong)

/-- 'laws.FnExactSegMend': WHATEVER THE INPUT: true; the input reads as it did. -/
def fnExactSegMendSpec : ChangeSpec := { name := "fnExactSegMend", fn := fun _ => fun
  | [d1, d2] => { results := [.lit (.bool true)], args := [d1, d2] }
  | _ => none }
def fnExactSegMendRow : OpenClaim := { program := "ytjfmfcdempkpdaa", sum := "96cdc0ff1f0503e39d432392a34b290827dc1cd193c1a7d0515051244434b912", func := "loop.example/g00110/laws.FnExactSegMend", spec := "fnExactSegMend", unfollowed := true, recurses := true, apart := false }
def FnExactSegMendSaid : Prop := fnExactSegMendRow.holds Try.pinned (OpenSpec.ofChange fnExactSegMendSpec)

/-- ITS FALSE NEIGHBOUR: 'it returns false'. Refute it at one input. -/
def fnExactSegMendWrong : ChangeSpec := { name := "fnExactSegMend", fn := fun _ => fun
  | [d1, d2] => { results := [.lit (.bool false)], args := [d1, d2] }
  | _ => none }
def FnExactSegMendWrongFalsely : Prop := fnExactSegMendRow.holds Try.pinned (OpenSpec.ofChange fnExactSegMendWrong)

/-- 'laws.FnFiles': WHATEVER THE INPUT: true; the input reads as it did. -/
def fnFilesSpec : ChangeSpec := { name := "fnFiles", fn := fun _ => fun
  | [d] => { results := [.lit (.bool true)], args := [d] }
  | _ => none }
def fnFilesRow : OpenClaim := { program := "ytjfmfcdempkpdaa", sum := "96cdc0ff1f0503e39d432392a34b290827dc1cd193c1a7d0515051244434b912", func := "loop.example/g00110/laws.FnFiles", spec := "fnFiles", inPlace := ["slices.overlaps[loop.example/g00110/impl.File]"], unfollowed := true, recurses := true, apart := false }
def FnFilesSaid : Prop := fnFilesRow.holds Try.pinned (OpenSpec.ofChange fnFilesSpec)

/-- ITS FALSE NEIGHBOUR: 'it returns false'. Refute it at one input. -/
def fnFilesWrong : ChangeSpec := { name := "fnFiles", fn := fun _ => fun
  | [d] => { results := [.lit (.bool false)], args := [d] }
  | _ => none }
def FnFilesWrongFalsely : Prop := fnFilesRow.holds Try.pinned (OpenSpec.ofChange fnFilesWrong)

/-- 'laws.FnExactSegLate': WHATEVER THE INPUT: true; the input reads as it did. -/
def fnExactSegLateSpec : ChangeSpec := { name := "fnExactSegLate", fn := fun _ => fun
  | [d1, d2, d3] => { results := [.lit (.bool true)], args := [d1, d2, d3] }
  | _ => none }
def fnExactSegLateRow : OpenClaim := { program := "ytjfmfcdempkpdaa", sum := "96cdc0ff1f0503e39d432392a34b290827dc1cd193c1a7d0515051244434b912", func := "loop.example/g00110/laws.FnExactSegLate", spec := "fnExactSegLate", inPlace := ["slices.overlaps[loop.example/g00110/impl.File]"], unfollowed := true, recurses := true, apart := false }
def FnExactSegLateSaid : Prop := fnExactSegLateRow.holds Try.pinned (OpenSpec.ofChange fnExactSegLateSpec)

/-- ITS FALSE NEIGHBOUR: 'it returns false'. Refute it at one input. -/
def fnExactSegLateWrong : ChangeSpec := { name := "fnExactSegLate", fn := fun _ => fun
  | [d1, d2, d3] => { results := [.lit (.bool false)], args := [d1, d2, d3] }
  | _ => none }
def FnExactSegLateWrongFalsely : Prop := fnExactSegLateRow.holds Try.pinned (OpenSpec.ofChange fnExactSegLateWrong)

/-- 'laws.FnCleared': WHATEVER THE INPUT: true; the input reads as it did. -/
def fnClearedSpec : ChangeSpec := { name := "fnCleared", fn := fun _ => fun
  | [d] => { results := [.lit (.bool true)], args := [d] }
  | _ => none }
def fnClearedRow : OpenClaim := { program := "ytjfmfcdempkpdaa", sum := "96cdc0ff1f0503e39d432392a34b290827dc1cd193c1a7d0515051244434b912", func := "loop.example/g00110/laws.FnCleared", spec := "fnCleared", unfollowed := true, recurses := true, apart := false }
def FnClearedSaid : Prop := fnClearedRow.holds Try.pinned (OpenSpec.ofChange fnClearedSpec)

/-- ITS FALSE NEIGHBOUR: 'it returns false'. Refute it at one input. -/
def fnClearedWrong : ChangeSpec := { name := "fnCleared", fn := fun _ => fun
  | [d] => { results := [.lit (.bool false)], args := [d] }
  | _ => none }
def FnClearedWrongFalsely : Prop := fnClearedRow.holds Try.pinned (OpenSpec.ofChange fnClearedWrong)

/-- 'laws.FnExactSegAdd': WHATEVER THE INPUT: true; the input reads as it did. -/
def fnExactSegAddSpec : ChangeSpec := { name := "fnExactSegAdd", fn := fun _ => fun
  | [d1, d2, d3] => { results := [.lit (.bool true)], args := [d1, d2, d3] }
  | _ => none }
def fnExactSegAddRow : OpenClaim := { program := "ytjfmfcdempkpdaa", sum := "96cdc0ff1f0503e39d432392a34b290827dc1cd193c1a7d0515051244434b912", func := "loop.example/g00110/laws.FnExactSegAdd", spec := "fnExactSegAdd", inPlace := ["slices.overlaps[loop.example/g00110/impl.File]"], unfollowed := true, recurses := true, apart := false }
def FnExactSegAddSaid : Prop := fnExactSegAddRow.holds Try.pinned (OpenSpec.ofChange fnExactSegAddSpec)

/-- ITS FALSE NEIGHBOUR: 'it returns false'. Refute it at one input. -/
def fnExactSegAddWrong : ChangeSpec := { name := "fnExactSegAdd", fn := fun _ => fun
  | [d1, d2, d3] => { results := [.lit (.bool false)], args := [d1, d2, d3] }
  | _ => none }
def FnExactSegAddWrongFalsely : Prop := fnExactSegAddRow.holds Try.pinned (OpenSpec.ofChange fnExactSegAddWrong)

/- THE SECOND FORM. 'bulk': how many values and letters a reading holds, each counted each time it is reached (what is shared counts as often as it is met; a slice's spare places count too). A statement '..UptoSaid' is the law's where the arguments, and the package variables that the reading takes, are together of bulk at most 1048576: NARROWER than '..Said'. Prove '..Said' where nothing that the law and all that it calls make is longer than what came in: it says more and counts as full. Else prove '..UptoSaid'. A law counts once. -/
mutual
def uptoBulk {H : Type} : DataW H → Nat
  | .lit (.string bytes) => bytes.length + 1
  | .lit _ => 1
  | .nil => 1
  | .ptr d => uptoBulk d + 1
  | .slice elems spare => uptoBulkAll elems + uptoBulkAll spare + 1
  | .agg parts => uptoBulkAll parts + 1
  | .iface _ d => uptoBulk d + 1
  | .map entries => uptoBulkEntries entries + 1
  | .held _ => 1
def uptoBulkAll {H : Type} : List (DataW H) → Nat
  | [] => 0
  | d :: r => uptoBulk d + uptoBulkAll r
def uptoBulkEntries {H : Type} : List (Lit × DataW H) → Nat
  | [] => 0
  | x :: r => uptoBulkEntry x + uptoBulkEntries r
def uptoBulkEntry {H : Type} : Lit × DataW H → Nat
  | (.string bytes, d) => bytes.length + uptoBulk d + 1
  | (_, d) => uptoBulk d + 1
 end
def uptoSmall : (H : Type) → List (DataW H) → Bool := fun _ ds => decide (uptoBulkAll ds ≤ 1048576)
def OpenSpec.upto (s : _root_.Go.ChangeSpec) : _root_.Go.OpenSpec := { _root_.Go.OpenSpec.ofChange s with cond := some uptoSmall }

/-- 'laws.FnExactDeedOk', WHERE WHAT IT READS IS OF BULK AT MOST 1048576: true; the input reads as it did. -/
def fnExactDeedOkUptoRow : OpenClaim := { program := "ytjfmfcdempkpdaa", sum := "96cdc0ff1f0503e39d432392a34b290827dc1cd193c1a7d0515051244434b912", func := "loop.example/g00110/laws.FnExactDeedOk", spec := "fnExactDeedOk", apart := false, narrowed := true }
def FnExactDeedOkUptoSaid : Prop := fnExactDeedOkUptoRow.holds Try.pinned (OpenSpec.upto fnExactDeedOkSpec)

/-- 'laws.FnExactSegsFrom', WHERE WHAT IT READS IS OF BULK AT MOST 1048576: true; the input reads as it did. -/
def fnExactSegsFromUptoRow : OpenClaim := { program := "ytjfmfcdempkpdaa", sum := "96cdc0ff1f0503e39d432392a34b290827dc1cd193c1a7d0515051244434b912", func := "loop.example/g00110/laws.FnExactSegsFrom", spec := "fnExactSegsFrom", unfollowed := true, recurses := true, apart := false, narrowed := true }
def FnExactSegsFromUptoSaid : Prop := fnExactSegsFromUptoRow.holds Try.pinned (OpenSpec.upto fnExactSegsFromSpec)

/-- 'laws.FnExactSegsClear', WHERE WHAT IT READS IS OF BULK AT MOST 1048576: true; the input reads as it did. -/
def fnExactSegsClearUptoRow : OpenClaim := { program := "ytjfmfcdempkpdaa", sum := "96cdc0ff1f0503e39d432392a34b290827dc1cd193c1a7d0515051244434b912", func := "loop.example/g00110/laws.FnExactSegsClear", spec := "fnExactSegsClear", unfollowed := true, recurses := true, apart := false, narrowed := true }
def FnExactSegsClearUptoSaid : Prop := fnExactSegsClearUptoRow.holds Try.pinned (OpenSpec.upto fnExactSegsClearSpec)

/-- 'laws.FnExactSegRead', WHERE WHAT IT READS IS OF BULK AT MOST 1048576: true; the input reads as it did. -/
def fnExactSegReadUptoRow : OpenClaim := { program := "ytjfmfcdempkpdaa", sum := "96cdc0ff1f0503e39d432392a34b290827dc1cd193c1a7d0515051244434b912", func := "loop.example/g00110/laws.FnExactSegRead", spec := "fnExactSegRead", unfollowed := true, recurses := true, apart := false, narrowed := true }
def FnExactSegReadUptoSaid : Prop := fnExactSegReadUptoRow.holds Try.pinned (OpenSpec.upto fnExactSegReadSpec)

/-- 'laws.FnExactSegMend', WHERE WHAT IT READS IS OF BULK AT MOST 1048576: true; the input reads as it did. -/
def fnExactSegMendUptoRow : OpenClaim := { program := "ytjfmfcdempkpdaa", sum := "96cdc0ff1f0503e39d432392a34b290827dc1cd193c1a7d0515051244434b912", func := "loop.example/g00110/laws.FnExactSegMend", spec := "fnExactSegMend", unfollowed := true, recurses := true, apart := false, narrowed := true }
def FnExactSegMendUptoSaid : Prop := fnExactSegMendUptoRow.holds Try.pinned (OpenSpec.upto fnExactSegMendSpec)

/-- 'laws.FnFiles', WHERE WHAT IT READS IS OF BULK AT MOST 1048576: true; the input reads as it did. -/
def fnFilesUptoRow : OpenClaim := { program := "ytjfmfcdempkpdaa", sum := "96cdc0ff1f0503e39d432392a34b290827dc1cd193c1a7d0515051244434b912", func := "loop.example/g00110/laws.FnFiles", spec := "fnFiles", inPlace := ["slices.overlaps[loop.example/g00110/impl.File]"], unfollowed := true, recurses := true, apart := false, narrowed := true }
def FnFilesUptoSaid : Prop := fnFilesUptoRow.holds Try.pinned (OpenSpec.upto fnFilesSpec)

/-- 'laws.FnExactSegLate', WHERE WHAT IT READS IS OF BULK AT MOST 1048576: true; the input reads as it did. -/
def fnExactSegLateUptoRow : OpenClaim := { program := "ytjfmfcdempkpdaa", sum := "96cdc0ff1f0503e39d432392a34b290827dc1cd193c1a7d0515051244434b912", func := "loop.example/g00110/laws.FnExactSegLate", spec := "fnExactSegLate", inPlace := ["slices.overlaps[loop.example/g00110/impl.File]"], unfollowed := true, recurses := true, apart := false, narrowed := true }
def FnExactSegLateUptoSaid : Prop := fnExactSegLateUptoRow.holds Try.pinned (OpenSpec.upto fnExactSegLateSpec)

/-- 'laws.FnCleared', WHERE WHAT IT READS IS OF BULK AT MOST 1048576: true; the input reads as it did. -/
def fnClearedUptoRow : OpenClaim := { program := "ytjfmfcdempkpdaa", sum := "96cdc0ff1f0503e39d432392a34b290827dc1cd193c1a7d0515051244434b912", func := "loop.example/g00110/laws.FnCleared", spec := "fnCleared", unfollowed := true, recurses := true, apart := false, narrowed := true }
def FnClearedUptoSaid : Prop := fnClearedUptoRow.holds Try.pinned (OpenSpec.upto fnClearedSpec)

/-- 'laws.FnExactSegAdd', WHERE WHAT IT READS IS OF BULK AT MOST 1048576: true; the input reads as it did. -/
def fnExactSegAddUptoRow : OpenClaim := { program := "ytjfmfcdempkpdaa", sum := "96cdc0ff1f0503e39d432392a34b290827dc1cd193c1a7d0515051244434b912", func := "loop.example/g00110/laws.FnExactSegAdd", spec := "fnExactSegAdd", inPlace := ["slices.overlaps[loop.example/g00110/impl.File]"], unfollowed := true, recurses := true, apart := false, narrowed := true }
def FnExactSegAddUptoSaid : Prop := fnExactSegAddUptoRow.holds Try.pinned (OpenSpec.upto fnExactSegAddSpec)

end Rows
end Go.Proofs.Ytjfmfcdempkpdaa
