/-
  DERIVED. GIVEN WITH THE SEED: THE CARDS: each row of YthflfnehdlpmdaaDoorRows.lean that lists a variable, with what it lists TIED to the program's text (the seventh form; the later family's looks); each row that meets fmt, with fmt's text TOLD by the authors' own Lean function (tested against real Go, not proved from fmt's source: count such statements apart). THE CARD IS WHAT COUNTS. Prove the row's statement (the work); the ties are given (YthflfnehdlpmdaaDoorTie.lean); close each card by the builder's one call (the guide's Derived/Test/ToyasCard.lean, 'card_holds'). Laid BY PROGRAM, IN A SANDBOX (cutbox-door.mjs). By AI agents, Wed Nov 11 2026. No macro, syntax, notation, axiom, sorry.
-/
import Derived.Test.YthflfnehdlpmdaaDoorRows
import GoSem.ClaimSeven
namespace Go.Proofs.YthflfnehdlpmdaaDoor
namespace Rows

/-- THE TIED CARD OF 'drawbridgelaw15.ReplySmuggles'. -/
def replySmugglesCard : Claim7 := { stood := { row := replySmugglesRow, standIns := [], harness := (true, "55df97fa2be132d18185f2f93038394d1b856f442349c55b29fa4fdf77f551c8"), looks := true }, kinds := [], alts := [], laidByText := true, laidKinds := [.data, .pinned], laidTests := true, laidLooks := .later }
def ReplySmugglesCardSaid : Prop := Claim7.holds Tryd.pinned (.plain (OpenSpec.ofChange replySmugglesSpec)) replySmugglesCard

/-- THE TIED CARD OF 'drawbridgelaw15.ReplyRow'. -/
def replyRowCard : Claim7 := { stood := { row := replyRowRow, standIns := [], harness := (true, "55df97fa2be132d18185f2f93038394d1b856f442349c55b29fa4fdf77f551c8"), looks := true }, kinds := [], alts := [], laidByText := true, laidKinds := [.data, .pinned], laidTests := true, laidLooks := .later }
def ReplyRowCardSaid : Prop := Claim7.holds Tryd.pinned (.plain (OpenSpec.ofChange replyRowSpec)) replyRowCard

/-- THE TIED CARD OF 'drawbridgelaw15.ReplyParts'. -/
def replyPartsCard : Claim7 := { stood := { row := replyPartsRow, standIns := [], harness := (true, "55df97fa2be132d18185f2f93038394d1b856f442349c55b29fa4fdf77f551c8"), looks := true }, kinds := [], alts := [], laidByText := true, laidKinds := [.data, .pinned], laidTests := true, laidLooks := .later }
def ReplyPartsCardSaid : Prop := Claim7.holds Tryd.pinned (.plain (OpenSpec.ofChange replyPartsSpec)) replyPartsCard

/-- THE TIED CARD OF 'drawbridgelaw15.ReplyBack'. -/
def replyBackCard : Claim7 := { stood := { row := replyBackRow, standIns := [], harness := (true, "55df97fa2be132d18185f2f93038394d1b856f442349c55b29fa4fdf77f551c8"), looks := true }, kinds := [], alts := [], laidByText := true, laidKinds := [.data, .pinned], laidTests := true, laidLooks := .later }
def ReplyBackCardSaid : Prop := Claim7.holds Tryd.pinned (.plain (OpenSpec.ofChange replyBackSpec)) replyBackCard

/-- THE SECOND FORM's CARD OF 'drawbridgelaw15.ReplySmuggles'. -/
def replySmugglesUptoCard : Claim7 := { stood := { row := replySmugglesUptoRow, standIns := [], harness := (true, "55df97fa2be132d18185f2f93038394d1b856f442349c55b29fa4fdf77f551c8"), looks := true }, kinds := [], alts := [], laidByText := true, laidKinds := [.data, .pinned], laidTests := true, laidLooks := .later }
def ReplySmugglesUptoCardSaid : Prop := Claim7.holds Tryd.pinned (.plain (OpenSpec.upto replySmugglesSpec)) replySmugglesUptoCard

/-- THE SECOND FORM's CARD OF 'drawbridgelaw15.ReplyRow'. -/
def replyRowUptoCard : Claim7 := { stood := { row := replyRowUptoRow, standIns := [], harness := (true, "55df97fa2be132d18185f2f93038394d1b856f442349c55b29fa4fdf77f551c8"), looks := true }, kinds := [], alts := [], laidByText := true, laidKinds := [.data, .pinned], laidTests := true, laidLooks := .later }
def ReplyRowUptoCardSaid : Prop := Claim7.holds Tryd.pinned (.plain (OpenSpec.upto replyRowSpec)) replyRowUptoCard

/-- THE SECOND FORM's CARD OF 'drawbridgelaw15.ReplyParts'. -/
def replyPartsUptoCard : Claim7 := { stood := { row := replyPartsUptoRow, standIns := [], harness := (true, "55df97fa2be132d18185f2f93038394d1b856f442349c55b29fa4fdf77f551c8"), looks := true }, kinds := [], alts := [], laidByText := true, laidKinds := [.data, .pinned], laidTests := true, laidLooks := .later }
def ReplyPartsUptoCardSaid : Prop := Claim7.holds Tryd.pinned (.plain (OpenSpec.upto replyPartsSpec)) replyPartsUptoCard

/-- THE SECOND FORM's CARD OF 'drawbridgelaw15.ReplyBack'. -/
def replyBackUptoCard : Claim7 := { stood := { row := replyBackUptoRow, standIns := [], harness := (true, "55df97fa2be132d18185f2f93038394d1b856f442349c55b29fa4fdf77f551c8"), looks := true }, kinds := [], alts := [], laidByText := true, laidKinds := [.data, .pinned], laidTests := true, laidLooks := .later }
def ReplyBackUptoCardSaid : Prop := Claim7.holds Tryd.pinned (.plain (OpenSpec.upto replyBackSpec)) replyBackUptoCard
end Rows
end Go.Proofs.YthflfnehdlpmdaaDoor
