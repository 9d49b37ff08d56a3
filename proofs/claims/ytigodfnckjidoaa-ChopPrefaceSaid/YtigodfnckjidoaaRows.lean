/-
  No cell of these rows narrows 'for every input' (looked for: loops, veiled, ifaces, maps, wideKeys, modest, calm, conditions, laid).
  DERIVED. THE GIVEN ROWS OF THIS SEAT. 5 by the template 'for every input the law returns true; each argument reads behind the call as it read before'; 0 by the template 'total and deterministic' (their statements: YtigodfnckjidoaaTotals.lean).
  GIVEN WITH THE SEED: the statements are not yours to turn. If you find one false, say at which input.
  Laid BY PROGRAM, IN A SANDBOX (cutbox-rows.mjs): the forced cells as the released guide's own fill.sh prints them over the translation 86be0c17de6ce677… (all of the seat's roots in one cut). By AI agents, Wed Nov 11 2026. No macro, syntax, notation, axiom, sorry.
-/
import Derived.Test.YtigodfnckjidoaaChecked
import GoSem.Claim
import GoSem.ClaimJoined
import GoSem.ClaimMapViews
import Derived.JoinedTies
import Derived.KernelRfl
namespace Go.Proofs.Ytigodfnckjidoaa
/- THE CELL 'sum', in the pinned program and in every row, IS THE sha256 OF THE DUMP (.gsa) THAT YtigodfnckjidoaaProg.lean LOADS. Nothing in Lean hashes anything: it is a label: what it is worth is what the hold of that sum in a sandbox is worth. -/
noncomputable def Try.pinned : Pinned := { name := "ytigodfnckjidoaa", sum := "86be0c17de6ce6775ccbd87d032b41e6f2beeefc0140c56eaf5939cb218c3fa9", checked := Try.checked }
namespace Rows
def none {H : Type} : Left H := { results := [], args := [] }

/-- 'drawbridgelaw07.ChopTakes': WHATEVER THE INPUT: true; the input reads as it did. -/
def chopTakesSpec : ChangeSpec := { name := "chopTakes", fn := fun _ => fun
  | [d1, d2, d3] => { results := [.lit (.bool true)], args := [d1, d2, d3] }
  | _ => none }
def chopTakesRow : OpenClaim := { program := "ytigodfnckjidoaa", sum := "86be0c17de6ce6775ccbd87d032b41e6f2beeefc0140c56eaf5939cb218c3fa9", func := "drawbridge/drawbridgelaw07.ChopTakes", spec := "chopTakes", unfollowed := true, recurses := true, apart := false }
def ChopTakesSaid : Prop := chopTakesRow.holds Try.pinned (OpenSpec.ofChange chopTakesSpec)

/-- ITS FALSE NEIGHBOUR: 'it returns false'. Refute it at one input. -/
def chopTakesWrong : ChangeSpec := { name := "chopTakes", fn := fun _ => fun
  | [d1, d2, d3] => { results := [.lit (.bool false)], args := [d1, d2, d3] }
  | _ => none }
def ChopTakesWrongFalsely : Prop := chopTakesRow.holds Try.pinned (OpenSpec.ofChange chopTakesWrong)

/-- 'drawbridgelaw07.ChopParts': WHATEVER THE INPUT: true; the input reads as it did. -/
def chopPartsSpec : ChangeSpec := { name := "chopParts", fn := fun _ => fun
  | [d1, d2, d3] => { results := [.lit (.bool true)], args := [d1, d2, d3] }
  | _ => none }
def chopPartsRow : OpenClaim := { program := "ytigodfnckjidoaa", sum := "86be0c17de6ce6775ccbd87d032b41e6f2beeefc0140c56eaf5939cb218c3fa9", func := "drawbridge/drawbridgelaw07.ChopParts", spec := "chopParts", unfollowed := true, recurses := true, apart := false }
def ChopPartsSaid : Prop := chopPartsRow.holds Try.pinned (OpenSpec.ofChange chopPartsSpec)

/-- ITS FALSE NEIGHBOUR: 'it returns false'. Refute it at one input. -/
def chopPartsWrong : ChangeSpec := { name := "chopParts", fn := fun _ => fun
  | [d1, d2, d3] => { results := [.lit (.bool false)], args := [d1, d2, d3] }
  | _ => none }
def ChopPartsWrongFalsely : Prop := chopPartsRow.holds Try.pinned (OpenSpec.ofChange chopPartsWrong)

/-- 'drawbridgelaw07.ChopKeeps': WHATEVER THE INPUT: true; the input reads as it did. -/
def chopKeepsSpec : ChangeSpec := { name := "chopKeeps", fn := fun _ => fun
  | [d1, d2, d3] => { results := [.lit (.bool true)], args := [d1, d2, d3] }
  | _ => none }
def chopKeepsRow : OpenClaim := { program := "ytigodfnckjidoaa", sum := "86be0c17de6ce6775ccbd87d032b41e6f2beeefc0140c56eaf5939cb218c3fa9", func := "drawbridge/drawbridgelaw07.ChopKeeps", spec := "chopKeeps", unfollowed := true, recurses := true, apart := false }
def ChopKeepsSaid : Prop := chopKeepsRow.holds Try.pinned (OpenSpec.ofChange chopKeepsSpec)

/-- ITS FALSE NEIGHBOUR: 'it returns false'. Refute it at one input. -/
def chopKeepsWrong : ChangeSpec := { name := "chopKeeps", fn := fun _ => fun
  | [d1, d2, d3] => { results := [.lit (.bool false)], args := [d1, d2, d3] }
  | _ => none }
def ChopKeepsWrongFalsely : Prop := chopKeepsRow.holds Try.pinned (OpenSpec.ofChange chopKeepsWrong)

/-- 'drawbridgelaw07.ChopPreface': WHATEVER THE INPUT: true; the input reads as it did. -/
def chopPrefaceSpec : ChangeSpec := { name := "chopPreface", fn := fun _ => fun
  | [d1, d2, d3] => { results := [.lit (.bool true)], args := [d1, d2, d3] }
  | _ => none }
def chopPrefaceRow : OpenClaim := { program := "ytigodfnckjidoaa", sum := "86be0c17de6ce6775ccbd87d032b41e6f2beeefc0140c56eaf5939cb218c3fa9", func := "drawbridge/drawbridgelaw07.ChopPreface", spec := "chopPreface", unfollowed := true, recurses := true, apart := false }
def ChopPrefaceSaid : Prop := chopPrefaceRow.holds Try.pinned (OpenSpec.ofChange chopPrefaceSpec)

/-- ITS FALSE NEIGHBOUR: 'it returns false'. Refute it at one input. -/
def chopPrefaceWrong : ChangeSpec := { name := "chopPreface", fn := fun _ => fun
  | [d1, d2, d3] => { results := [.lit (.bool false)], args := [d1, d2, d3] }
  | _ => none }
def ChopPrefaceWrongFalsely : Prop := chopPrefaceRow.holds Try.pinned (OpenSpec.ofChange chopPrefaceWrong)

/-- 'drawbridgelaw07.ChopGoes': WHATEVER THE INPUT: true; the input reads as it did. -/
def chopGoesSpec : ChangeSpec := { name := "chopGoes", fn := fun _ => fun
  | [d1, d2] => { results := [.lit (.bool true)], args := [d1, d2] }
  | _ => none }
def chopGoesRow : OpenClaim := { program := "ytigodfnckjidoaa", sum := "86be0c17de6ce6775ccbd87d032b41e6f2beeefc0140c56eaf5939cb218c3fa9", func := "drawbridge/drawbridgelaw07.ChopGoes", spec := "chopGoes", unfollowed := true, recurses := true, apart := false }
def ChopGoesSaid : Prop := chopGoesRow.holds Try.pinned (OpenSpec.ofChange chopGoesSpec)

/-- ITS FALSE NEIGHBOUR: 'it returns false'. Refute it at one input. -/
def chopGoesWrong : ChangeSpec := { name := "chopGoes", fn := fun _ => fun
  | [d1, d2] => { results := [.lit (.bool false)], args := [d1, d2] }
  | _ => none }
def ChopGoesWrongFalsely : Prop := chopGoesRow.holds Try.pinned (OpenSpec.ofChange chopGoesWrong)

/- THE SECOND FORM. 'bulk': how many values and letters a reading holds, each counted each time it is reached (what is shared counts as often as it is met; a slice's spare places count too). A statement '..UptoSaid' is the law's where the arguments, and the package variables that the reading takes, are together of bulk at most 1048576: NARROWER than '..Said'. Prove '..Said' where nothing that the law and all that it calls make is longer than what came in: it says more and counts as full. Else prove '..UptoSaid'. A law counts once. -/
mutual
def uptoBulk {H : Type} : DataW H → Nat
  | .lit (.string bytes) => bytes.length + 1
  | .lit _ => 1
  | .nil => 1
  | .ptr d => uptoBulk d + 1
  | .slice elems spare => uptoBulkAll elems + uptoBulkAll spare + 1
  | .agg parts => uptoBulkAll parts + 1
  | .iface _ d => uptoBulk d + 1
  | .map entries => uptoBulkEntries entries + 1
  | .held _ => 1
def uptoBulkAll {H : Type} : List (DataW H) → Nat
  | [] => 0
  | d :: r => uptoBulk d + uptoBulkAll r
def uptoBulkEntries {H : Type} : List (Lit × DataW H) → Nat
  | [] => 0
  | x :: r => uptoBulkEntry x + uptoBulkEntries r
def uptoBulkEntry {H : Type} : Lit × DataW H → Nat
  | (.string bytes, d) => bytes.length + uptoBulk d + 1
  | (_, d) => uptoBulk d + 1
 end
def uptoSmall : (H : Type) → List (DataW H) → Bool := fun _ ds => decide (uptoBulkAll ds ≤ 1048576)
def OpenSpec.upto (s : _root_.Go.ChangeSpec) : _root_.Go.OpenSpec := { _root_.Go.OpenSpec.ofChange s with cond := some uptoSmall }

/-- 'drawbridgelaw07.ChopTakes', WHERE WHAT IT READS IS OF BULK AT MOST 1048576: true; the input reads as it did. -/
def chopTakesUptoRow : OpenClaim := { program := "ytigodfnckjidoaa", sum := "86be0c17de6ce6775ccbd87d032b41e6f2beeefc0140c56eaf5939cb218c3fa9", func := "drawbridge/drawbridgelaw07.ChopTakes", spec := "chopTakes", unfollowed := true, recurses := true, apart := false, narrowed := true }
def ChopTakesUptoSaid : Prop := chopTakesUptoRow.holds Try.pinned (OpenSpec.upto chopTakesSpec)

/-- 'drawbridgelaw07.ChopParts', WHERE WHAT IT READS IS OF BULK AT MOST 1048576: true; the input reads as it did. -/
def chopPartsUptoRow : OpenClaim := { program := "ytigodfnckjidoaa", sum := "86be0c17de6ce6775ccbd87d032b41e6f2beeefc0140c56eaf5939cb218c3fa9", func := "drawbridge/drawbridgelaw07.ChopParts", spec := "chopParts", unfollowed := true, recurses := true, apart := false, narrowed := true }
def ChopPartsUptoSaid : Prop := chopPartsUptoRow.holds Try.pinned (OpenSpec.upto chopPartsSpec)

/-- 'drawbridgelaw07.ChopKeeps', WHERE WHAT IT READS IS OF BULK AT MOST 1048576: true; the input reads as it did. -/
def chopKeepsUptoRow : OpenClaim := { program := "ytigodfnckjidoaa", sum := "86be0c17de6ce6775ccbd87d032b41e6f2beeefc0140c56eaf5939cb218c3fa9", func := "drawbridge/drawbridgelaw07.ChopKeeps", spec := "chopKeeps", unfollowed := true, recurses := true, apart := false, narrowed := true }
def ChopKeepsUptoSaid : Prop := chopKeepsUptoRow.holds Try.pinned (OpenSpec.upto chopKeepsSpec)

/-- 'drawbridgelaw07.ChopPreface', WHERE WHAT IT READS IS OF BULK AT MOST 1048576: true; the input reads as it did. -/
def chopPrefaceUptoRow : OpenClaim := { program := "ytigodfnckjidoaa", sum := "86be0c17de6ce6775ccbd87d032b41e6f2beeefc0140c56eaf5939cb218c3fa9", func := "drawbridge/drawbridgelaw07.ChopPreface", spec := "chopPreface", unfollowed := true, recurses := true, apart := false, narrowed := true }
def ChopPrefaceUptoSaid : Prop := chopPrefaceUptoRow.holds Try.pinned (OpenSpec.upto chopPrefaceSpec)

/-- 'drawbridgelaw07.ChopGoes', WHERE WHAT IT READS IS OF BULK AT MOST 1048576: true; the input reads as it did. -/
def chopGoesUptoRow : OpenClaim := { program := "ytigodfnckjidoaa", sum := "86be0c17de6ce6775ccbd87d032b41e6f2beeefc0140c56eaf5939cb218c3fa9", func := "drawbridge/drawbridgelaw07.ChopGoes", spec := "chopGoes", unfollowed := true, recurses := true, apart := false, narrowed := true }
def ChopGoesUptoSaid : Prop := chopGoesUptoRow.holds Try.pinned (OpenSpec.upto chopGoesSpec)

end Rows
end Go.Proofs.Ytigodfnckjidoaa
