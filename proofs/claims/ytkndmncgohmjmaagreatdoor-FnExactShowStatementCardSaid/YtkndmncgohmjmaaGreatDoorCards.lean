/-
  DERIVED. GIVEN WITH THE SEED: THE CARDS: each row of YtkndmncgohmjmaaGreatDoorRows.lean that lists a variable, with what it lists TIED to the program's text (the seventh form; the later family's looks); each row that meets fmt, with fmt's text TOLD by the authors' own Lean function (tested against real Go, not proved from fmt's source: count such statements apart). THE CARD IS WHAT COUNTS. Prove the row's statement (the work); the ties are given (YtkndmncgohmjmaaGreatDoorTie.lean); close each card by the builder's one call (the guide's Derived/Test/ToyasCard.lean, 'card_holds'). Laid BY PROGRAM, IN A SANDBOX (cutbox-door.mjs). By AI agents, Wed Nov 11 2026. No macro, syntax, notation, axiom, sorry.
-/
import Derived.Test.YtkndmncgohmjmaaGreatDoorRows
import GoSem.ClaimSeven
namespace Go.Proofs.YtkndmncgohmjmaaGreatDoor
namespace Rows

/-- THE TIED CARD OF 'laws.FnExactShowStatement'. -/
def fnExactShowStatementCard : Claim7 := { stood := { row := fnExactShowStatementRow, standIns := [], harness := (true, "c98b58ef1d6787b463f2073c36c2ae4b2542896b4274a8fab123da6d89ddf1aa"), looks := false }, kinds := [], alts := [], laidByText := true, laidKinds := [.data, .data, .data], laidTests := true, laidLooks := .later }
def FnExactShowStatementCardSaid : Prop := Claim7.holds Tryz.pinned (.plain (OpenSpec.ofChange fnExactShowStatementSpec)) fnExactShowStatementCard

/-- THE SECOND FORM's CARD OF 'laws.FnExactShowStatement'. -/
def fnExactShowStatementUptoCard : Claim7 := { stood := { row := fnExactShowStatementUptoRow, standIns := [], harness := (true, "c98b58ef1d6787b463f2073c36c2ae4b2542896b4274a8fab123da6d89ddf1aa"), looks := false }, kinds := [], alts := [], laidByText := true, laidKinds := [.data, .data, .data], laidTests := true, laidLooks := .later }
def FnExactShowStatementUptoCardSaid : Prop := Claim7.holds Tryz.pinned (.plain (OpenSpec.upto fnExactShowStatementSpec)) fnExactShowStatementUptoCard
end Rows
end Go.Proofs.YtkndmncgohmjmaaGreatDoor
