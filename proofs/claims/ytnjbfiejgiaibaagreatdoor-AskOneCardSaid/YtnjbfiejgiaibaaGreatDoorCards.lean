/-
  DERIVED. GIVEN WITH THE SEED: THE CARDS: each row of YtnjbfiejgiaibaaGreatDoorRows.lean that lists a variable, with what it lists TIED to the program's text (the seventh form; the later family's looks); each row that meets fmt, with fmt's text TOLD by the authors' own Lean function (tested against real Go, not proved from fmt's source: count such statements apart). THE CARD IS WHAT COUNTS. Prove the row's statement (the work); the ties are given (YtnjbfiejgiaibaaGreatDoorTie.lean); close each card by the builder's one call (the guide's Derived/Test/ToyasCard.lean, 'card_holds'). Laid BY PROGRAM, IN A SANDBOX (cutbox-door.mjs). By AI agents, Wed Nov 11 2026. No macro, syntax, notation, axiom, sorry.
-/
import Derived.Test.YtnjbfiejgiaibaaGreatDoorRows
import GoSem.ClaimSeven
namespace Go.Proofs.YtnjbfiejgiaibaaGreatDoor
namespace Rows

/-- THE TIED CARD OF 'drawbridgelaw14.AskTakes'. -/
def askTakesCard : Claim7 := { stood := { row := askTakesRow, standIns := [], harness := (true, "76f1130ad2c9f0e746e997148a5b8f8d026498fda08450421bfdcaef43f4c2a0"), looks := true }, kinds := [], alts := [], laidByText := true, laidKinds := [.data, .sentinel, .pinned], laidTests := true, laidLooks := .later }
def AskTakesCardSaid : Prop := Claim7.holds Tryz.pinned (.plain (OpenSpec.ofChange askTakesSpec)) askTakesCard

/-- THE TIED CARD OF 'drawbridgelaw14.AskOne'. -/
def askOneCard : Claim7 := { stood := { row := askOneRow, standIns := [], harness := (true, "76f1130ad2c9f0e746e997148a5b8f8d026498fda08450421bfdcaef43f4c2a0"), looks := true }, kinds := [], alts := [], laidByText := true, laidKinds := [.data, .sentinel, .pinned], laidTests := true, laidLooks := .later }
def AskOneCardSaid : Prop := Claim7.holds Tryz.pinned (.plain (OpenSpec.ofChange askOneSpec)) askOneCard

/-- THE SECOND FORM's CARD OF 'drawbridgelaw14.AskTakes'. -/
def askTakesUptoCard : Claim7 := { stood := { row := askTakesUptoRow, standIns := [], harness := (true, "76f1130ad2c9f0e746e997148a5b8f8d026498fda08450421bfdcaef43f4c2a0"), looks := true }, kinds := [], alts := [], laidByText := true, laidKinds := [.data, .sentinel, .pinned], laidTests := true, laidLooks := .later }
def AskTakesUptoCardSaid : Prop := Claim7.holds Tryz.pinned (.plain (OpenSpec.upto askTakesSpec)) askTakesUptoCard

/-- THE SECOND FORM's CARD OF 'drawbridgelaw14.AskOne'. -/
def askOneUptoCard : Claim7 := { stood := { row := askOneUptoRow, standIns := [], harness := (true, "76f1130ad2c9f0e746e997148a5b8f8d026498fda08450421bfdcaef43f4c2a0"), looks := true }, kinds := [], alts := [], laidByText := true, laidKinds := [.data, .sentinel, .pinned], laidTests := true, laidLooks := .later }
def AskOneUptoCardSaid : Prop := Claim7.holds Tryz.pinned (.plain (OpenSpec.upto askOneSpec)) askOneUptoCard
end Rows
end Go.Proofs.YtnjbfiejgiaibaaGreatDoor
