/-
  No cell of these rows narrows 'for every input' (looked for: loops, veiled, ifaces, maps, wideKeys, modest, calm, conditions, laid).
  DERIVED. THE GIVEN ROWS OF THIS SEAT. 8 by the template 'for every input the law returns true; each argument reads behind the call as it read before'; 0 by the template 'total and deterministic' (their statements: YtlefjpbhbiajfaaGreatTotals.lean).
  GIVEN WITH THE SEED: the statements are not yours to turn. If you find one false, say at which input.
  Laid BY PROGRAM, IN A SANDBOX (cutbox-rows.mjs): the forced cells as the released guide's own fill.sh prints them over the translation 00f54fd0511ffaaf… (all of the seat's roots in one cut). By AI agents, Wed Nov 11 2026. No macro, syntax, notation, axiom, sorry.
-/
import Derived.Test.YtlefjpbhbiajfaaGreatChecked
import GoSem.Claim
import GoSem.ClaimJoined
import GoSem.ClaimMapViews
import Derived.JoinedTies
import Derived.KernelRfl
namespace Go.Proofs.YtlefjpbhbiajfaaGreat
/- THE CELL 'sum', in the pinned program and in every row, IS THE sha256 OF THE DUMP (.gsa) THAT YtlefjpbhbiajfaaGreatProg.lean LOADS. Nothing in Lean hashes anything: it is a label: what it is worth is what the hold of that sum in a sandbox is worth. -/
noncomputable def Tryz.pinned : Pinned := { name := "ytlefjpbhbiajfaagreat", sum := "00f54fd0511ffaaf7ed6045d9fcf39449a387d262acb275d242c6b92d70f6735", checked := Tryz.checked }
namespace Rows
def none {H : Type} : Left H := { results := [], args := [] }

/-- 'laws.FnExactEngineNew': WHATEVER THE INPUT: true; the input reads as it did. -/
def fnExactEngineNewSpec : ChangeSpec := { name := "fnExactEngineNew", fn := fun _ => fun
  | [d] => { results := [.lit (.bool true)], args := [d] }
  | _ => none }
def fnExactEngineNewRow : OpenClaim := { program := "ytlefjpbhbiajfaagreat", sum := "00f54fd0511ffaaf7ed6045d9fcf39449a387d262acb275d242c6b92d70f6735", func := "loop.example/g00110/laws.FnExactEngineNew", spec := "fnExactEngineNew", unfollowed := true, recurses := true, apart := false }
def FnExactEngineNewSaid : Prop := fnExactEngineNewRow.holds Tryz.pinned (OpenSpec.ofChange fnExactEngineNewSpec)

/-- ITS FALSE NEIGHBOUR: 'it returns false'. Refute it at one input. -/
def fnExactEngineNewWrong : ChangeSpec := { name := "fnExactEngineNew", fn := fun _ => fun
  | [d] => { results := [.lit (.bool false)], args := [d] }
  | _ => none }
def FnExactEngineNewWrongFalsely : Prop := fnExactEngineNewRow.holds Tryz.pinned (OpenSpec.ofChange fnExactEngineNewWrong)

/-- 'laws.FnExactEngineCrash': WHATEVER THE INPUT: true; the input reads as it did. -/
def fnExactEngineCrashSpec : ChangeSpec := { name := "fnExactEngineCrash", fn := fun _ => fun
  | [d1, d2] => { results := [.lit (.bool true)], args := [d1, d2] }
  | _ => none }
def fnExactEngineCrashRow : OpenClaim := { program := "ytlefjpbhbiajfaagreat", sum := "00f54fd0511ffaaf7ed6045d9fcf39449a387d262acb275d242c6b92d70f6735", func := "loop.example/g00110/laws.FnExactEngineCrash", spec := "fnExactEngineCrash", unfollowed := true, recurses := true, apart := false }
def FnExactEngineCrashSaid : Prop := fnExactEngineCrashRow.holds Tryz.pinned (OpenSpec.ofChange fnExactEngineCrashSpec)

/-- ITS FALSE NEIGHBOUR: 'it returns false'. Refute it at one input. -/
def fnExactEngineCrashWrong : ChangeSpec := { name := "fnExactEngineCrash", fn := fun _ => fun
  | [d1, d2] => { results := [.lit (.bool false)], args := [d1, d2] }
  | _ => none }
def FnExactEngineCrashWrongFalsely : Prop := fnExactEngineCrashRow.holds Tryz.pinned (OpenSpec.ofChange fnExactEngineCrashWrong)

/-- 'laws.FnExactSaveLoad': WHATEVER THE INPUT: true; the input reads as it did. -/
def fnExactSaveLoadSpec : ChangeSpec := { name := "fnExactSaveLoad", fn := fun _ => fun
  | [d] => { results := [.lit (.bool true)], args := [d] }
  | _ => none }
def fnExactSaveLoadRow : OpenClaim := { program := "ytlefjpbhbiajfaagreat", sum := "00f54fd0511ffaaf7ed6045d9fcf39449a387d262acb275d242c6b92d70f6735", func := "loop.example/g00110/laws.FnExactSaveLoad", spec := "fnExactSaveLoad", unfollowed := true, recurses := true, apart := false }
def FnExactSaveLoadSaid : Prop := fnExactSaveLoadRow.holds Tryz.pinned (OpenSpec.ofChange fnExactSaveLoadSpec)

/-- ITS FALSE NEIGHBOUR: 'it returns false'. Refute it at one input. -/
def fnExactSaveLoadWrong : ChangeSpec := { name := "fnExactSaveLoad", fn := fun _ => fun
  | [d] => { results := [.lit (.bool false)], args := [d] }
  | _ => none }
def FnExactSaveLoadWrongFalsely : Prop := fnExactSaveLoadRow.holds Tryz.pinned (OpenSpec.ofChange fnExactSaveLoadWrong)

/-- 'laws.FnExactSaveStep': WHATEVER THE INPUT: true; the input reads as it did. -/
def fnExactSaveStepSpec : ChangeSpec := { name := "fnExactSaveStep", fn := fun _ => fun
  | [d1, d2, d3] => { results := [.lit (.bool true)], args := [d1, d2, d3] }
  | _ => none }
def fnExactSaveStepRow : OpenClaim := { program := "ytlefjpbhbiajfaagreat", sum := "00f54fd0511ffaaf7ed6045d9fcf39449a387d262acb275d242c6b92d70f6735", func := "loop.example/g00110/laws.FnExactSaveStep", spec := "fnExactSaveStep", inPlace := ["slices.overlaps[loop.example/g00110/impl.File]"], unfollowed := true, recurses := true, apart := false }
def FnExactSaveStepSaid : Prop := fnExactSaveStepRow.holds Tryz.pinned (OpenSpec.ofChange fnExactSaveStepSpec)

/-- ITS FALSE NEIGHBOUR: 'it returns false'. Refute it at one input. -/
def fnExactSaveStepWrong : ChangeSpec := { name := "fnExactSaveStep", fn := fun _ => fun
  | [d1, d2, d3] => { results := [.lit (.bool false)], args := [d1, d2, d3] }
  | _ => none }
def FnExactSaveStepWrongFalsely : Prop := fnExactSaveStepRow.holds Tryz.pinned (OpenSpec.ofChange fnExactSaveStepWrong)

/-- 'laws.FnExactSaveWrite': WHATEVER THE INPUT: true; the input reads as it did. -/
def fnExactSaveWriteSpec : ChangeSpec := { name := "fnExactSaveWrite", fn := fun _ => fun
  | [d1, d2] => { results := [.lit (.bool true)], args := [d1, d2] }
  | _ => none }
def fnExactSaveWriteRow : OpenClaim := { program := "ytlefjpbhbiajfaagreat", sum := "00f54fd0511ffaaf7ed6045d9fcf39449a387d262acb275d242c6b92d70f6735", func := "loop.example/g00110/laws.FnExactSaveWrite", spec := "fnExactSaveWrite", inPlace := ["slices.overlaps[loop.example/g00110/impl.File]"], unfollowed := true, recurses := true, apart := false }
def FnExactSaveWriteSaid : Prop := fnExactSaveWriteRow.holds Tryz.pinned (OpenSpec.ofChange fnExactSaveWriteSpec)

/-- ITS FALSE NEIGHBOUR: 'it returns false'. Refute it at one input. -/
def fnExactSaveWriteWrong : ChangeSpec := { name := "fnExactSaveWrite", fn := fun _ => fun
  | [d1, d2] => { results := [.lit (.bool false)], args := [d1, d2] }
  | _ => none }
def FnExactSaveWriteWrongFalsely : Prop := fnExactSaveWriteRow.holds Tryz.pinned (OpenSpec.ofChange fnExactSaveWriteWrong)

/-- 'laws.FnExactEngineSave': WHATEVER THE INPUT: true; the input reads as it did. -/
def fnExactEngineSaveSpec : ChangeSpec := { name := "fnExactEngineSave", fn := fun _ => fun
  | [d] => { results := [.lit (.bool true)], args := [d] }
  | _ => none }
def fnExactEngineSaveRow : OpenClaim := { program := "ytlefjpbhbiajfaagreat", sum := "00f54fd0511ffaaf7ed6045d9fcf39449a387d262acb275d242c6b92d70f6735", func := "loop.example/g00110/laws.FnExactEngineSave", spec := "fnExactEngineSave", inPlace := ["slices.overlaps[loop.example/g00110/impl.File]"], unfollowed := true, recurses := true, apart := false }
def FnExactEngineSaveSaid : Prop := fnExactEngineSaveRow.holds Tryz.pinned (OpenSpec.ofChange fnExactEngineSaveSpec)

/-- ITS FALSE NEIGHBOUR: 'it returns false'. Refute it at one input. -/
def fnExactEngineSaveWrong : ChangeSpec := { name := "fnExactEngineSave", fn := fun _ => fun
  | [d] => { results := [.lit (.bool false)], args := [d] }
  | _ => none }
def FnExactEngineSaveWrongFalsely : Prop := fnExactEngineSaveRow.holds Tryz.pinned (OpenSpec.ofChange fnExactEngineSaveWrong)

/-- 'laws.FnExactEngineTornSave': WHATEVER THE INPUT: true; the input reads as it did. -/
def fnExactEngineTornSaveSpec : ChangeSpec := { name := "fnExactEngineTornSave", fn := fun _ => fun
  | [d1, d2, d3] => { results := [.lit (.bool true)], args := [d1, d2, d3] }
  | _ => none }
def fnExactEngineTornSaveRow : OpenClaim := { program := "ytlefjpbhbiajfaagreat", sum := "00f54fd0511ffaaf7ed6045d9fcf39449a387d262acb275d242c6b92d70f6735", func := "loop.example/g00110/laws.FnExactEngineTornSave", spec := "fnExactEngineTornSave", inPlace := ["slices.overlaps[loop.example/g00110/impl.File]"], unfollowed := true, recurses := true, apart := false }
def FnExactEngineTornSaveSaid : Prop := fnExactEngineTornSaveRow.holds Tryz.pinned (OpenSpec.ofChange fnExactEngineTornSaveSpec)

/-- ITS FALSE NEIGHBOUR: 'it returns false'. Refute it at one input. -/
def fnExactEngineTornSaveWrong : ChangeSpec := { name := "fnExactEngineTornSave", fn := fun _ => fun
  | [d1, d2, d3] => { results := [.lit (.bool false)], args := [d1, d2, d3] }
  | _ => none }
def FnExactEngineTornSaveWrongFalsely : Prop := fnExactEngineTornSaveRow.holds Tryz.pinned (OpenSpec.ofChange fnExactEngineTornSaveWrong)

/-- 'laws.FnSaves': WHATEVER THE INPUT: true; the input reads as it did. -/
def fnSavesSpec : ChangeSpec := { name := "fnSaves", fn := fun _ => fun
  | [d] => { results := [.lit (.bool true)], args := [d] }
  | _ => none }
def fnSavesRow : OpenClaim := { program := "ytlefjpbhbiajfaagreat", sum := "00f54fd0511ffaaf7ed6045d9fcf39449a387d262acb275d242c6b92d70f6735", func := "loop.example/g00110/laws.FnSaves", spec := "fnSaves", inPlace := ["slices.overlaps[loop.example/g00110/impl.File]"], unfollowed := true, recurses := true, apart := false }
def FnSavesSaid : Prop := fnSavesRow.holds Tryz.pinned (OpenSpec.ofChange fnSavesSpec)

/-- ITS FALSE NEIGHBOUR: 'it returns false'. Refute it at one input. -/
def fnSavesWrong : ChangeSpec := { name := "fnSaves", fn := fun _ => fun
  | [d] => { results := [.lit (.bool false)], args := [d] }
  | _ => none }
def FnSavesWrongFalsely : Prop := fnSavesRow.holds Tryz.pinned (OpenSpec.ofChange fnSavesWrong)

/- THE SECOND FORM. 'bulk': how many values and letters a reading holds, each counted each time it is reached (what is shared counts as often as it is met; a slice's spare places count too). A statement '..UptoSaid' is the law's where the arguments, and the package variables that the reading takes, are together of bulk at most 1048576: NARROWER than '..Said'. Prove '..Said' where nothing that the law and all that it calls make is longer than what came in: it says more and counts as full. Else prove '..UptoSaid'. A law counts once. -/
mutual
def uptoBulk {H : Type} : DataW H → Nat
  | .lit (.string bytes) => bytes.length + 1
  | .lit _ => 1
  | .nil => 1
  | .ptr d => uptoBulk d + 1
  | .slice elems spare => uptoBulkAll elems + uptoBulkAll spare + 1
  | .agg parts => uptoBulkAll parts + 1
  | .iface _ d => uptoBulk d + 1
  | .map entries => uptoBulkEntries entries + 1
  | .held _ => 1
def uptoBulkAll {H : Type} : List (DataW H) → Nat
  | [] => 0
  | d :: r => uptoBulk d + uptoBulkAll r
def uptoBulkEntries {H : Type} : List (Lit × DataW H) → Nat
  | [] => 0
  | x :: r => uptoBulkEntry x + uptoBulkEntries r
def uptoBulkEntry {H : Type} : Lit × DataW H → Nat
  | (.string bytes, d) => bytes.length + uptoBulk d + 1
  | (_, d) => uptoBulk d + 1
 end
def uptoSmall : (H : Type) → List (DataW H) → Bool := fun _ ds => decide (uptoBulkAll ds ≤ 1048576)
def OpenSpec.upto (s : _root_.Go.ChangeSpec) : _root_.Go.OpenSpec := { _root_.Go.OpenSpec.ofChange s with cond := some uptoSmall }

/-- 'laws.FnExactEngineNew', WHERE WHAT IT READS IS OF BULK AT MOST 1048576: true; the input reads as it did. -/
def fnExactEngineNewUptoRow : OpenClaim := { program := "ytlefjpbhbiajfaagreat", sum := "00f54fd0511ffaaf7ed6045d9fcf39449a387d262acb275d242c6b92d70f6735", func := "loop.example/g00110/laws.FnExactEngineNew", spec := "fnExactEngineNew", unfollowed := true, recurses := true, apart := false, narrowed := true }
def FnExactEngineNewUptoSaid : Prop := fnExactEngineNewUptoRow.holds Tryz.pinned (OpenSpec.upto fnExactEngineNewSpec)

/-- 'laws.FnExactEngineCrash', WHERE WHAT IT READS IS OF BULK AT MOST 1048576: true; the input reads as it did. -/
def fnExactEngineCrashUptoRow : OpenClaim := { program := "ytlefjpbhbiajfaagreat", sum := "00f54fd0511ffaaf7ed6045d9fcf39449a387d262acb275d242c6b92d70f6735", func := "loop.example/g00110/laws.FnExactEngineCrash", spec := "fnExactEngineCrash", unfollowed := true, recurses := true, apart := false, narrowed := true }
def FnExactEngineCrashUptoSaid : Prop := fnExactEngineCrashUptoRow.holds Tryz.pinned (OpenSpec.upto fnExactEngineCrashSpec)

/-- 'laws.FnExactSaveLoad', WHERE WHAT IT READS IS OF BULK AT MOST 1048576: true; the input reads as it did. -/
def fnExactSaveLoadUptoRow : OpenClaim := { program := "ytlefjpbhbiajfaagreat", sum := "00f54fd0511ffaaf7ed6045d9fcf39449a387d262acb275d242c6b92d70f6735", func := "loop.example/g00110/laws.FnExactSaveLoad", spec := "fnExactSaveLoad", unfollowed := true, recurses := true, apart := false, narrowed := true }
def FnExactSaveLoadUptoSaid : Prop := fnExactSaveLoadUptoRow.holds Tryz.pinned (OpenSpec.upto fnExactSaveLoadSpec)

/-- 'laws.FnExactSaveStep', WHERE WHAT IT READS IS OF BULK AT MOST 1048576: true; the input reads as it did. -/
def fnExactSaveStepUptoRow : OpenClaim := { program := "ytlefjpbhbiajfaagreat", sum := "00f54fd0511ffaaf7ed6045d9fcf39449a387d262acb275d242c6b92d70f6735", func := "loop.example/g00110/laws.FnExactSaveStep", spec := "fnExactSaveStep", inPlace := ["slices.overlaps[loop.example/g00110/impl.File]"], unfollowed := true, recurses := true, apart := false, narrowed := true }
def FnExactSaveStepUptoSaid : Prop := fnExactSaveStepUptoRow.holds Tryz.pinned (OpenSpec.upto fnExactSaveStepSpec)

/-- 'laws.FnExactSaveWrite', WHERE WHAT IT READS IS OF BULK AT MOST 1048576: true; the input reads as it did. -/
def fnExactSaveWriteUptoRow : OpenClaim := { program := "ytlefjpbhbiajfaagreat", sum := "00f54fd0511ffaaf7ed6045d9fcf39449a387d262acb275d242c6b92d70f6735", func := "loop.example/g00110/laws.FnExactSaveWrite", spec := "fnExactSaveWrite", inPlace := ["slices.overlaps[loop.example/g00110/impl.File]"], unfollowed := true, recurses := true, apart := false, narrowed := true }
def FnExactSaveWriteUptoSaid : Prop := fnExactSaveWriteUptoRow.holds Tryz.pinned (OpenSpec.upto fnExactSaveWriteSpec)

/-- 'laws.FnExactEngineSave', WHERE WHAT IT READS IS OF BULK AT MOST 1048576: true; the input reads as it did. -/
def fnExactEngineSaveUptoRow : OpenClaim := { program := "ytlefjpbhbiajfaagreat", sum := "00f54fd0511ffaaf7ed6045d9fcf39449a387d262acb275d242c6b92d70f6735", func := "loop.example/g00110/laws.FnExactEngineSave", spec := "fnExactEngineSave", inPlace := ["slices.overlaps[loop.example/g00110/impl.File]"], unfollowed := true, recurses := true, apart := false, narrowed := true }
def FnExactEngineSaveUptoSaid : Prop := fnExactEngineSaveUptoRow.holds Tryz.pinned (OpenSpec.upto fnExactEngineSaveSpec)

/-- 'laws.FnExactEngineTornSave', WHERE WHAT IT READS IS OF BULK AT MOST 1048576: true; the input reads as it did. -/
def fnExactEngineTornSaveUptoRow : OpenClaim := { program := "ytlefjpbhbiajfaagreat", sum := "00f54fd0511ffaaf7ed6045d9fcf39449a387d262acb275d242c6b92d70f6735", func := "loop.example/g00110/laws.FnExactEngineTornSave", spec := "fnExactEngineTornSave", inPlace := ["slices.overlaps[loop.example/g00110/impl.File]"], unfollowed := true, recurses := true, apart := false, narrowed := true }
def FnExactEngineTornSaveUptoSaid : Prop := fnExactEngineTornSaveUptoRow.holds Tryz.pinned (OpenSpec.upto fnExactEngineTornSaveSpec)

/-- 'laws.FnSaves', WHERE WHAT IT READS IS OF BULK AT MOST 1048576: true; the input reads as it did. -/
def fnSavesUptoRow : OpenClaim := { program := "ytlefjpbhbiajfaagreat", sum := "00f54fd0511ffaaf7ed6045d9fcf39449a387d262acb275d242c6b92d70f6735", func := "loop.example/g00110/laws.FnSaves", spec := "fnSaves", inPlace := ["slices.overlaps[loop.example/g00110/impl.File]"], unfollowed := true, recurses := true, apart := false, narrowed := true }
def FnSavesUptoSaid : Prop := fnSavesUptoRow.holds Tryz.pinned (OpenSpec.upto fnSavesSpec)

end Rows
end Go.Proofs.YtlefjpbhbiajfaaGreat
