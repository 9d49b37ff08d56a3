/-
  DERIVED. GIVEN WITH THE SEED: THE CARDS: each row of YtefodepamjpmjaaDoorRows.lean that lists a variable, with what it lists TIED to the program's text (the seventh form; the later family's looks); each row that meets fmt, with fmt's text TOLD by the authors' own Lean function (tested against real Go, not proved from fmt's source: count such statements apart). THE CARD IS WHAT COUNTS. Prove the row's statement (the work); the ties are given (YtefodepamjpmjaaDoorTie.lean); close each card by the builder's one call (the guide's Derived/Test/ToyasCard.lean, 'card_holds'). Laid BY PROGRAM, IN A SANDBOX (cutbox-door.mjs). By AI agents, Wed Nov 11 2026. No macro, syntax, notation, axiom, sorry.
-/
import Derived.Test.YtefodepamjpmjaaDoorRows
import GoSem.ClaimSeven
namespace Go.Proofs.YtefodepamjpmjaaDoor
namespace Rows

/-- THE TIED CARD OF 'drawbridgelaw01.OctetCases'. -/
def octetCasesCard : Claim7 := { stood := { row := octetCasesRow, standIns := [], harness := (true, "f7d76212a39c00c6d0c3c698f7cf5a5c063765f6226b700477a603a141b5a9b1"), looks := false }, kinds := [], alts := [], laidByText := true, laidKinds := [.data, .pinned], laidTests := true, laidLooks := .later }
def OctetCasesCardSaid : Prop := Claim7.holds Tryd.pinned (.plain (OpenSpec.ofChange octetCasesSpec)) octetCasesCard

/-- THE TIED CARD OF 'drawbridgelaw01.OctetClasses'. -/
def octetClassesCard : Claim7 := { stood := { row := octetClassesRow, standIns := [], harness := (true, "f7d76212a39c00c6d0c3c698f7cf5a5c063765f6226b700477a603a141b5a9b1"), looks := false }, kinds := [], alts := [], laidByText := true, laidKinds := [.data, .pinned], laidTests := true, laidLooks := .later }
def OctetClassesCardSaid : Prop := Claim7.holds Tryd.pinned (.plain (OpenSpec.ofChange octetClassesSpec)) octetClassesCard

/-- THE SECOND FORM's CARD OF 'drawbridgelaw01.OctetCases'. -/
def octetCasesUptoCard : Claim7 := { stood := { row := octetCasesUptoRow, standIns := [], harness := (true, "f7d76212a39c00c6d0c3c698f7cf5a5c063765f6226b700477a603a141b5a9b1"), looks := false }, kinds := [], alts := [], laidByText := true, laidKinds := [.data, .pinned], laidTests := true, laidLooks := .later }
def OctetCasesUptoCardSaid : Prop := Claim7.holds Tryd.pinned (.plain (OpenSpec.upto octetCasesSpec)) octetCasesUptoCard

/-- THE SECOND FORM's CARD OF 'drawbridgelaw01.OctetClasses'. -/
def octetClassesUptoCard : Claim7 := { stood := { row := octetClassesUptoRow, standIns := [], harness := (true, "f7d76212a39c00c6d0c3c698f7cf5a5c063765f6226b700477a603a141b5a9b1"), looks := false }, kinds := [], alts := [], laidByText := true, laidKinds := [.data, .pinned], laidTests := true, laidLooks := .later }
def OctetClassesUptoCardSaid : Prop := Claim7.holds Tryd.pinned (.plain (OpenSpec.upto octetClassesSpec)) octetClassesUptoCard
end Rows
end Go.Proofs.YtefodepamjpmjaaDoor
