/-
  DERIVED. GIVEN WITH THE SEED: THE CARDS: each row of YtnjbfiejgiaibaaDoorRows.lean that lists a variable, with what it lists TIED to the program's text (the seventh form; the later family's looks); each row that meets fmt, with fmt's text TOLD by the authors' own Lean function (tested against real Go, not proved from fmt's source: count such statements apart). THE CARD IS WHAT COUNTS. Prove the row's statement (the work); the ties are given (YtnjbfiejgiaibaaDoorTie.lean); close each card by the builder's one call (the guide's Derived/Test/ToyasCard.lean, 'card_holds'). Laid BY PROGRAM, IN A SANDBOX (cutbox-door.mjs). By AI agents, Wed Nov 11 2026. No macro, syntax, notation, axiom, sorry.
-/
import Derived.Test.YtnjbfiejgiaibaaDoorRows
import GoSem.ClaimSeven
namespace Go.Proofs.YtnjbfiejgiaibaaDoor
namespace Rows

/-- THE TIED CARD OF 'drawbridgelaw14.AskPuts'. -/
def askPutsCard : Claim7 := { stood := { row := askPutsRow, standIns := [], harness := (true, "2b2fa2ba54d5f967e4a4196b85549d288501e0c3639d8eefbc7c7ea79a6c1f0b"), looks := true }, kinds := [], alts := [], laidByText := true, laidKinds := [.data, .sentinel, .pinned], laidTests := true, laidLooks := .later }
def AskPutsCardSaid : Prop := Claim7.holds Tryd.pinned (.plain (OpenSpec.ofChange askPutsSpec)) askPutsCard

/-- THE TIED CARD OF 'drawbridgelaw14.AskGoes'. -/
def askGoesCard : Claim7 := { stood := { row := askGoesRow, standIns := [], harness := (true, "2b2fa2ba54d5f967e4a4196b85549d288501e0c3639d8eefbc7c7ea79a6c1f0b"), looks := true }, kinds := [], alts := [], laidByText := true, laidKinds := [.data, .sentinel, .pinned], laidTests := true, laidLooks := .later }
def AskGoesCardSaid : Prop := Claim7.holds Tryd.pinned (.plain (OpenSpec.ofChange askGoesSpec)) askGoesCard

/-- THE TIED CARD OF 'drawbridgelaw14.AskCuts'. -/
def askCutsCard : Claim7 := { stood := { row := askCutsRow, standIns := [], harness := (true, "2b2fa2ba54d5f967e4a4196b85549d288501e0c3639d8eefbc7c7ea79a6c1f0b"), looks := true }, kinds := [], alts := [], laidByText := true, laidKinds := [.data, .sentinel, .pinned], laidTests := true, laidLooks := .later }
def AskCutsCardSaid : Prop := Claim7.holds Tryd.pinned (.plain (OpenSpec.ofChange askCutsSpec)) askCutsCard

/-- THE TIED CARD OF 'drawbridgelaw14.AskBack'. -/
def askBackCard : Claim7 := { stood := { row := askBackRow, standIns := [], harness := (true, "2b2fa2ba54d5f967e4a4196b85549d288501e0c3639d8eefbc7c7ea79a6c1f0b"), looks := true }, kinds := [], alts := [], laidByText := true, laidKinds := [.data, .sentinel, .pinned], laidTests := true, laidLooks := .later }
def AskBackCardSaid : Prop := Claim7.holds Tryd.pinned (.plain (OpenSpec.ofChange askBackSpec)) askBackCard

/-- THE SECOND FORM's CARD OF 'drawbridgelaw14.AskPuts'. -/
def askPutsUptoCard : Claim7 := { stood := { row := askPutsUptoRow, standIns := [], harness := (true, "2b2fa2ba54d5f967e4a4196b85549d288501e0c3639d8eefbc7c7ea79a6c1f0b"), looks := true }, kinds := [], alts := [], laidByText := true, laidKinds := [.data, .sentinel, .pinned], laidTests := true, laidLooks := .later }
def AskPutsUptoCardSaid : Prop := Claim7.holds Tryd.pinned (.plain (OpenSpec.upto askPutsSpec)) askPutsUptoCard

/-- THE SECOND FORM's CARD OF 'drawbridgelaw14.AskGoes'. -/
def askGoesUptoCard : Claim7 := { stood := { row := askGoesUptoRow, standIns := [], harness := (true, "2b2fa2ba54d5f967e4a4196b85549d288501e0c3639d8eefbc7c7ea79a6c1f0b"), looks := true }, kinds := [], alts := [], laidByText := true, laidKinds := [.data, .sentinel, .pinned], laidTests := true, laidLooks := .later }
def AskGoesUptoCardSaid : Prop := Claim7.holds Tryd.pinned (.plain (OpenSpec.upto askGoesSpec)) askGoesUptoCard

/-- THE SECOND FORM's CARD OF 'drawbridgelaw14.AskCuts'. -/
def askCutsUptoCard : Claim7 := { stood := { row := askCutsUptoRow, standIns := [], harness := (true, "2b2fa2ba54d5f967e4a4196b85549d288501e0c3639d8eefbc7c7ea79a6c1f0b"), looks := true }, kinds := [], alts := [], laidByText := true, laidKinds := [.data, .sentinel, .pinned], laidTests := true, laidLooks := .later }
def AskCutsUptoCardSaid : Prop := Claim7.holds Tryd.pinned (.plain (OpenSpec.upto askCutsSpec)) askCutsUptoCard

/-- THE SECOND FORM's CARD OF 'drawbridgelaw14.AskBack'. -/
def askBackUptoCard : Claim7 := { stood := { row := askBackUptoRow, standIns := [], harness := (true, "2b2fa2ba54d5f967e4a4196b85549d288501e0c3639d8eefbc7c7ea79a6c1f0b"), looks := true }, kinds := [], alts := [], laidByText := true, laidKinds := [.data, .sentinel, .pinned], laidTests := true, laidLooks := .later }
def AskBackUptoCardSaid : Prop := Claim7.holds Tryd.pinned (.plain (OpenSpec.upto askBackSpec)) askBackUptoCard
end Rows
end Go.Proofs.YtnjbfiejgiaibaaDoor
