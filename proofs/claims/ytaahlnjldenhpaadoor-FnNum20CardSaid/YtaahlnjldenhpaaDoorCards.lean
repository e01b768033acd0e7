/-
  DERIVED. GIVEN WITH THE SEED: THE CARDS: each row of YtaahlnjldenhpaaDoorRows.lean that lists a variable, with what it lists TIED to the program's text (the seventh form; the later family's looks); each row that meets fmt, with fmt's text TOLD by the authors' own Lean function (tested against real Go, not proved from fmt's source: count such statements apart). THE CARD IS WHAT COUNTS. Prove the row's statement (the work); the ties are given (YtaahlnjldenhpaaDoorTie.lean); close each card by the builder's one call (the guide's Derived/Test/ToyasCard.lean, 'card_holds'). Laid BY PROGRAM, IN A SANDBOX (cutbox-door.mjs). By AI agents, Wed Nov 11 2026. No macro, syntax, notation, axiom, sorry.
-/
import Derived.Test.YtaahlnjldenhpaaDoorRows
import GoSem.ClaimSeven
namespace Go.Proofs.YtaahlnjldenhpaaDoor
namespace Rows

/-- THE TIED CARD OF 'laws.FnExactTextOf'. -/
def fnExactTextOfCard : Claim7 := { stood := { row := fnExactTextOfRow, standIns := [], harness := (true, "6d6af5d0476835d0858d983662c93c68ffd168102a02ad79580627ecdc2ef32a"), looks := true }, kinds := [], alts := [], laidByText := true, laidKinds := [.data, .data, .data], laidTests := true, laidLooks := .later }
def FnExactTextOfCardSaid : Prop := Claim7.holds Tryd.pinned (.plain (OpenSpec.ofChange fnExactTextOfSpec)) fnExactTextOfCard

/-- THE TIED CARD OF 'laws.FnExactCmdLine'. -/
def fnExactCmdLineCard : Claim7 := { stood := { row := fnExactCmdLineRow, standIns := [], harness := (true, "6d6af5d0476835d0858d983662c93c68ffd168102a02ad79580627ecdc2ef32a"), looks := true }, kinds := [], alts := [], laidByText := true, laidKinds := [.data, .data, .data], laidTests := true, laidLooks := .later }
def FnExactCmdLineCardSaid : Prop := Claim7.holds Tryd.pinned (.plain (OpenSpec.ofChange fnExactCmdLineSpec)) fnExactCmdLineCard

/-- THE TIED CARD OF 'laws.FnExactNumOf'. -/
def fnExactNumOfCard : Claim7 := { stood := { row := fnExactNumOfRow, standIns := [], harness := (true, "6d6af5d0476835d0858d983662c93c68ffd168102a02ad79580627ecdc2ef32a"), looks := true }, kinds := [], alts := [], laidByText := true, laidKinds := [.data, .data, .data, .sentinel, .sentinel], laidTests := true, laidLooks := .later }
def FnExactNumOfCardSaid : Prop := Claim7.holds Tryd.pinned (.plain (OpenSpec.ofChange fnExactNumOfSpec)) fnExactNumOfCard

/-- THE TIED CARD OF 'laws.FnNum20'. -/
def fnNum20Card : Claim7 := { stood := { row := fnNum20Row, standIns := [], harness := (true, "6d6af5d0476835d0858d983662c93c68ffd168102a02ad79580627ecdc2ef32a"), looks := true }, kinds := [], alts := [], laidByText := true, laidKinds := [.data, .data, .data, .sentinel, .sentinel], laidTests := true, laidLooks := .later }
def FnNum20CardSaid : Prop := Claim7.holds Tryd.pinned (.plain (OpenSpec.ofChange fnNum20Spec)) fnNum20Card

/-- THE SECOND FORM's CARD OF 'laws.FnExactTextOf'. -/
def fnExactTextOfUptoCard : Claim7 := { stood := { row := fnExactTextOfUptoRow, standIns := [], harness := (true, "6d6af5d0476835d0858d983662c93c68ffd168102a02ad79580627ecdc2ef32a"), looks := true }, kinds := [], alts := [], laidByText := true, laidKinds := [.data, .data, .data], laidTests := true, laidLooks := .later }
def FnExactTextOfUptoCardSaid : Prop := Claim7.holds Tryd.pinned (.plain (OpenSpec.upto fnExactTextOfSpec)) fnExactTextOfUptoCard

/-- THE SECOND FORM's CARD OF 'laws.FnExactCmdLine'. -/
def fnExactCmdLineUptoCard : Claim7 := { stood := { row := fnExactCmdLineUptoRow, standIns := [], harness := (true, "6d6af5d0476835d0858d983662c93c68ffd168102a02ad79580627ecdc2ef32a"), looks := true }, kinds := [], alts := [], laidByText := true, laidKinds := [.data, .data, .data], laidTests := true, laidLooks := .later }
def FnExactCmdLineUptoCardSaid : Prop := Claim7.holds Tryd.pinned (.plain (OpenSpec.upto fnExactCmdLineSpec)) fnExactCmdLineUptoCard

/-- THE SECOND FORM's CARD OF 'laws.FnExactNumOf'. -/
def fnExactNumOfUptoCard : Claim7 := { stood := { row := fnExactNumOfUptoRow, standIns := [], harness := (true, "6d6af5d0476835d0858d983662c93c68ffd168102a02ad79580627ecdc2ef32a"), looks := true }, kinds := [], alts := [], laidByText := true, laidKinds := [.data, .data, .data, .sentinel, .sentinel], laidTests := true, laidLooks := .later }
def FnExactNumOfUptoCardSaid : Prop := Claim7.holds Tryd.pinned (.plain (OpenSpec.upto fnExactNumOfSpec)) fnExactNumOfUptoCard

/-- THE SECOND FORM's CARD OF 'laws.FnNum20'. -/
def fnNum20UptoCard : Claim7 := { stood := { row := fnNum20UptoRow, standIns := [], harness := (true, "6d6af5d0476835d0858d983662c93c68ffd168102a02ad79580627ecdc2ef32a"), looks := true }, kinds := [], alts := [], laidByText := true, laidKinds := [.data, .data, .data, .sentinel, .sentinel], laidTests := true, laidLooks := .later }
def FnNum20UptoCardSaid : Prop := Claim7.holds Tryd.pinned (.plain (OpenSpec.upto fnNum20Spec)) fnNum20UptoCard
end Rows
end Go.Proofs.YtaahlnjldenhpaaDoor
