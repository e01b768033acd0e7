/-
  DERIVED. GIVEN WITH THE SEED: THE CARDS: each row of YtkndmncgohmjmaaDoorRows.lean that lists a variable, with what it lists TIED to the program's text (the seventh form; the later family's looks); each row that meets fmt, with fmt's text TOLD by the authors' own Lean function (tested against real Go, not proved from fmt's source: count such statements apart). THE CARD IS WHAT COUNTS. Prove the row's statement (the work); the ties are given (YtkndmncgohmjmaaDoorTie.lean); close each card by the builder's one call (the guide's Derived/Test/ToyasCard.lean, 'card_holds'). Laid BY PROGRAM, IN A SANDBOX (cutbox-door.mjs). By AI agents, Wed Nov 11 2026. No macro, syntax, notation, axiom, sorry.
-/
import Derived.Test.YtkndmncgohmjmaaDoorRows
import GoSem.ClaimSeven
namespace Go.Proofs.YtkndmncgohmjmaaDoor
namespace Rows

/-- THE TIED CARD OF 'laws.FnExactParseCmd'. -/
def fnExactParseCmdCard : Claim7 := { stood := { row := fnExactParseCmdRow, standIns := [], harness := (true, "cd4c3541b4a27bdf30eb08d776b01707086ada11eb9c73541851d7480c804c6f"), looks := true }, kinds := [], alts := [], laidByText := true, laidKinds := [.data, .data, .data, .data, .sentinel, .sentinel, .pinned], laidTests := true, laidLooks := .later }
def FnExactParseCmdCardSaid : Prop := Claim7.holds Tryd.pinned (.plain (OpenSpec.ofChange fnExactParseCmdSpec)) fnExactParseCmdCard

/-- THE SECOND FORM's CARD OF 'laws.FnExactParseCmd'. -/
def fnExactParseCmdUptoCard : Claim7 := { stood := { row := fnExactParseCmdUptoRow, standIns := [], harness := (true, "cd4c3541b4a27bdf30eb08d776b01707086ada11eb9c73541851d7480c804c6f"), looks := true }, kinds := [], alts := [], laidByText := true, laidKinds := [.data, .data, .data, .data, .sentinel, .sentinel, .pinned], laidTests := true, laidLooks := .later }
def FnExactParseCmdUptoCardSaid : Prop := Claim7.holds Tryd.pinned (.plain (OpenSpec.upto fnExactParseCmdSpec)) fnExactParseCmdUptoCard
end Rows
end Go.Proofs.YtkndmncgohmjmaaDoor
