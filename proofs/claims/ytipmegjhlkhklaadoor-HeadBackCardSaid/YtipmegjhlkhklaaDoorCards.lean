/-
  DERIVED. GIVEN WITH THE SEED: THE CARDS: each row of YtipmegjhlkhklaaDoorRows.lean that lists a variable, with what it lists TIED to the program's text (the seventh form; the later family's looks); each row that meets fmt, with fmt's text TOLD by the authors' own Lean function (tested against real Go, not proved from fmt's source: count such statements apart). THE CARD IS WHAT COUNTS. Prove the row's statement (the work); the ties are given (YtipmegjhlkhklaaDoorTie.lean); close each card by the builder's one call (the guide's Derived/Test/ToyasCard.lean, 'card_holds'). Laid BY PROGRAM, IN A SANDBOX (cutbox-door.mjs). By AI agents, Wed Nov 11 2026. No macro, syntax, notation, axiom, sorry.
-/
import Derived.Test.YtipmegjhlkhklaaDoorRows
import GoSem.ClaimSeven
namespace Go.Proofs.YtipmegjhlkhklaaDoor
namespace Rows

/-- THE TIED CARD OF 'drawbridgelaw10.HeadReads'. -/
def headReadsCard : Claim7 := { stood := { row := headReadsRow, standIns := [], harness := (true, "55197d59dbc4e9537d2b0831b76c8690d33784b5b72ac4d75e5407ef9ace8eb5"), looks := false }, kinds := [], alts := [], laidByText := true, laidKinds := [.data, .pinned], laidTests := true, laidLooks := .later }
def HeadReadsCardSaid : Prop := Claim7.holds Tryd.pinned (.plain (OpenSpec.ofChange headReadsSpec)) headReadsCard

/-- THE TIED CARD OF 'drawbridgelaw10.HeadOrder'. -/
def headOrderCard : Claim7 := { stood := { row := headOrderRow, standIns := [], harness := (true, "55197d59dbc4e9537d2b0831b76c8690d33784b5b72ac4d75e5407ef9ace8eb5"), looks := false }, kinds := [], alts := [], laidByText := true, laidKinds := [.data, .pinned], laidTests := true, laidLooks := .later }
def HeadOrderCardSaid : Prop := Claim7.holds Tryd.pinned (.plain (OpenSpec.ofChange headOrderSpec)) headOrderCard

/-- THE TIED CARD OF 'drawbridgelaw10.HeadHosts'. -/
def headHostsCard : Claim7 := { stood := { row := headHostsRow, standIns := [], harness := (true, "55197d59dbc4e9537d2b0831b76c8690d33784b5b72ac4d75e5407ef9ace8eb5"), looks := false }, kinds := [], alts := [], laidByText := true, laidKinds := [.data, .pinned], laidTests := true, laidLooks := .later }
def HeadHostsCardSaid : Prop := Claim7.holds Tryd.pinned (.plain (OpenSpec.ofChange headHostsSpec)) headHostsCard

/-- THE TIED CARD OF 'drawbridgelaw10.HeadTrailers'. -/
def headTrailersCard : Claim7 := { stood := { row := headTrailersRow, standIns := [], harness := (true, "55197d59dbc4e9537d2b0831b76c8690d33784b5b72ac4d75e5407ef9ace8eb5"), looks := false }, kinds := [], alts := [], laidByText := true, laidKinds := [.data, .pinned], laidTests := true, laidLooks := .later }
def HeadTrailersCardSaid : Prop := Claim7.holds Tryd.pinned (.plain (OpenSpec.ofChange headTrailersSpec)) headTrailersCard

/-- THE TIED CARD OF 'drawbridgelaw10.HeadAnswers'. -/
def headAnswersCard : Claim7 := { stood := { row := headAnswersRow, standIns := [], harness := (true, "55197d59dbc4e9537d2b0831b76c8690d33784b5b72ac4d75e5407ef9ace8eb5"), looks := false }, kinds := [], alts := [], laidByText := true, laidKinds := [.data, .pinned], laidTests := true, laidLooks := .later }
def HeadAnswersCardSaid : Prop := Claim7.holds Tryd.pinned (.plain (OpenSpec.ofChange headAnswersSpec)) headAnswersCard

/-- THE TIED CARD OF 'drawbridgelaw10.HeadBack'. -/
def headBackCard : Claim7 := { stood := { row := headBackRow, standIns := [], harness := (true, "55197d59dbc4e9537d2b0831b76c8690d33784b5b72ac4d75e5407ef9ace8eb5"), looks := false }, kinds := [], alts := [], laidByText := true, laidKinds := [.data, .pinned], laidTests := true, laidLooks := .later }
def HeadBackCardSaid : Prop := Claim7.holds Tryd.pinned (.plain (OpenSpec.ofChange headBackSpec)) headBackCard

/-- THE SECOND FORM's CARD OF 'drawbridgelaw10.HeadReads'. -/
def headReadsUptoCard : Claim7 := { stood := { row := headReadsUptoRow, standIns := [], harness := (true, "55197d59dbc4e9537d2b0831b76c8690d33784b5b72ac4d75e5407ef9ace8eb5"), looks := false }, kinds := [], alts := [], laidByText := true, laidKinds := [.data, .pinned], laidTests := true, laidLooks := .later }
def HeadReadsUptoCardSaid : Prop := Claim7.holds Tryd.pinned (.plain (OpenSpec.upto headReadsSpec)) headReadsUptoCard

/-- THE SECOND FORM's CARD OF 'drawbridgelaw10.HeadOrder'. -/
def headOrderUptoCard : Claim7 := { stood := { row := headOrderUptoRow, standIns := [], harness := (true, "55197d59dbc4e9537d2b0831b76c8690d33784b5b72ac4d75e5407ef9ace8eb5"), looks := false }, kinds := [], alts := [], laidByText := true, laidKinds := [.data, .pinned], laidTests := true, laidLooks := .later }
def HeadOrderUptoCardSaid : Prop := Claim7.holds Tryd.pinned (.plain (OpenSpec.upto headOrderSpec)) headOrderUptoCard

/-- THE SECOND FORM's CARD OF 'drawbridgelaw10.HeadHosts'. -/
def headHostsUptoCard : Claim7 := { stood := { row := headHostsUptoRow, standIns := [], harness := (true, "55197d59dbc4e9537d2b0831b76c8690d33784b5b72ac4d75e5407ef9ace8eb5"), looks := false }, kinds := [], alts := [], laidByText := true, laidKinds := [.data, .pinned], laidTests := true, laidLooks := .later }
def HeadHostsUptoCardSaid : Prop := Claim7.holds Tryd.pinned (.plain (OpenSpec.upto headHostsSpec)) headHostsUptoCard

/-- THE SECOND FORM's CARD OF 'drawbridgelaw10.HeadTrailers'. -/
def headTrailersUptoCard : Claim7 := { stood := { row := headTrailersUptoRow, standIns := [], harness := (true, "55197d59dbc4e9537d2b0831b76c8690d33784b5b72ac4d75e5407ef9ace8eb5"), looks := false }, kinds := [], alts := [], laidByText := true, laidKinds := [.data, .pinned], laidTests := true, laidLooks := .later }
def HeadTrailersUptoCardSaid : Prop := Claim7.holds Tryd.pinned (.plain (OpenSpec.upto headTrailersSpec)) headTrailersUptoCard

/-- THE SECOND FORM's CARD OF 'drawbridgelaw10.HeadAnswers'. -/
def headAnswersUptoCard : Claim7 := { stood := { row := headAnswersUptoRow, standIns := [], harness := (true, "55197d59dbc4e9537d2b0831b76c8690d33784b5b72ac4d75e5407ef9ace8eb5"), looks := false }, kinds := [], alts := [], laidByText := true, laidKinds := [.data, .pinned], laidTests := true, laidLooks := .later }
def HeadAnswersUptoCardSaid : Prop := Claim7.holds Tryd.pinned (.plain (OpenSpec.upto headAnswersSpec)) headAnswersUptoCard

/-- THE SECOND FORM's CARD OF 'drawbridgelaw10.HeadBack'. -/
def headBackUptoCard : Claim7 := { stood := { row := headBackUptoRow, standIns := [], harness := (true, "55197d59dbc4e9537d2b0831b76c8690d33784b5b72ac4d75e5407ef9ace8eb5"), looks := false }, kinds := [], alts := [], laidByText := true, laidKinds := [.data, .pinned], laidTests := true, laidLooks := .later }
def HeadBackUptoCardSaid : Prop := Claim7.holds Tryd.pinned (.plain (OpenSpec.upto headBackSpec)) headBackUptoCard
end Rows
end Go.Proofs.YtipmegjhlkhklaaDoor
