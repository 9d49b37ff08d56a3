/-
  No cell of these rows narrows 'for every input' (looked for: loops, veiled, ifaces, maps, wideKeys, modest, calm, conditions, laid).
  DERIVED. THE GIVEN ROWS OF THIS SEAT. 5 by the template 'for every input the law returns true; each argument reads behind the call as it read before'; 0 by the template 'total and deterministic' (their statements: YtnaapoigmihjoaaTotals.lean).
  GIVEN WITH THE SEED: the statements are not yours to turn. If you find one false, say at which input.
  Laid BY PROGRAM, IN A SANDBOX (cutbox-rows.mjs): the forced cells as the released guide's own fill.sh prints them over the translation 32130cbb2bf1ac8f… (all of the seat's roots in one cut). By AI agents, Wed Nov 11 2026. No macro, syntax, notation, axiom, sorry.
-/
import Derived.Test.YtnaapoigmihjoaaChecked
import GoSem.Claim
import GoSem.ClaimJoined
import GoSem.ClaimMapViews
import Derived.JoinedTies
import Derived.KernelRfl
namespace Go.Proofs.Ytnaapoigmihjoaa
/- THE CELL 'sum', in the pinned program and in every row, IS THE sha256 OF THE DUMP (.gsa) THAT YtnaapoigmihjoaaProg.lean LOADS. Nothing in Lean hashes anything: it is a label: what it is worth is what the hold of that sum in a sandbox is worth. -/
noncomputable def Try.pinned : Pinned := { name := "ytnaapoigmihjoaa", sum := "32130cbb2bf1ac8f0058bdd4b80a7a1867a3bed3025d42d7d1b0558bf357acb5", checked := Try.checked }
namespace Rows
def none {H : Type} : Left H := { results := [], args := [] }

/-- 'drawbridgelaw12.DatePrints': WHATEVER THE INPUT: true; the input reads as it did. -/
def datePrintsSpec : ChangeSpec := { name := "datePrints", fn := fun _ => fun
  | [d] => { results := [.lit (.bool true)], args := [d] }
  | _ => none }
def datePrintsRow : OpenClaim := { program := "ytnaapoigmihjoaa", sum := "32130cbb2bf1ac8f0058bdd4b80a7a1867a3bed3025d42d7d1b0558bf357acb5", func := "drawbridge/drawbridgelaw12.DatePrints", spec := "datePrints", unfollowed := true, recurses := true, apart := false }
def DatePrintsSaid : Prop := datePrintsRow.holds Try.pinned (OpenSpec.ofChange datePrintsSpec)

/-- ITS FALSE NEIGHBOUR: 'it returns false'. Refute it at one input. -/
def datePrintsWrong : ChangeSpec := { name := "datePrints", fn := fun _ => fun
  | [d] => { results := [.lit (.bool false)], args := [d] }
  | _ => none }
def DatePrintsWrongFalsely : Prop := datePrintsRow.holds Try.pinned (OpenSpec.ofChange datePrintsWrong)

/-- 'drawbridgelaw12.DateParses': WHATEVER THE INPUT: true; the input reads as it did. -/
def dateParsesSpec : ChangeSpec := { name := "dateParses", fn := fun _ => fun
  | [d1, d2] => { results := [.lit (.bool true)], args := [d1, d2] }
  | _ => none }
def dateParsesRow : OpenClaim := { program := "ytnaapoigmihjoaa", sum := "32130cbb2bf1ac8f0058bdd4b80a7a1867a3bed3025d42d7d1b0558bf357acb5", func := "drawbridge/drawbridgelaw12.DateParses", spec := "dateParses", unfollowed := true, recurses := true, apart := false }
def DateParsesSaid : Prop := dateParsesRow.holds Try.pinned (OpenSpec.ofChange dateParsesSpec)

/-- ITS FALSE NEIGHBOUR: 'it returns false'. Refute it at one input. -/
def dateParsesWrong : ChangeSpec := { name := "dateParses", fn := fun _ => fun
  | [d1, d2] => { results := [.lit (.bool false)], args := [d1, d2] }
  | _ => none }
def DateParsesWrongFalsely : Prop := dateParsesRow.holds Try.pinned (OpenSpec.ofChange dateParsesWrong)

/-- 'drawbridgelaw12.DateBack': WHATEVER THE INPUT: true; the input reads as it did. -/
def dateBackSpec : ChangeSpec := { name := "dateBack", fn := fun _ => fun
  | [d1, d2] => { results := [.lit (.bool true)], args := [d1, d2] }
  | _ => none }
def dateBackRow : OpenClaim := { program := "ytnaapoigmihjoaa", sum := "32130cbb2bf1ac8f0058bdd4b80a7a1867a3bed3025d42d7d1b0558bf357acb5", func := "drawbridge/drawbridgelaw12.DateBack", spec := "dateBack", unfollowed := true, recurses := true, apart := false }
def DateBackSaid : Prop := dateBackRow.holds Try.pinned (OpenSpec.ofChange dateBackSpec)

/-- ITS FALSE NEIGHBOUR: 'it returns false'. Refute it at one input. -/
def dateBackWrong : ChangeSpec := { name := "dateBack", fn := fun _ => fun
  | [d1, d2] => { results := [.lit (.bool false)], args := [d1, d2] }
  | _ => none }
def DateBackWrongFalsely : Prop := dateBackRow.holds Try.pinned (OpenSpec.ofChange dateBackWrong)

/-- 'drawbridgelaw12.DateSteps': WHATEVER THE INPUT: true; the input reads as it did. -/
def dateStepsSpec : ChangeSpec := { name := "dateSteps", fn := fun _ => fun
  | [d] => { results := [.lit (.bool true)], args := [d] }
  | _ => none }
def dateStepsRow : OpenClaim := { program := "ytnaapoigmihjoaa", sum := "32130cbb2bf1ac8f0058bdd4b80a7a1867a3bed3025d42d7d1b0558bf357acb5", func := "drawbridge/drawbridgelaw12.DateSteps", spec := "dateSteps", unfollowed := true, recurses := true, apart := false }
def DateStepsSaid : Prop := dateStepsRow.holds Try.pinned (OpenSpec.ofChange dateStepsSpec)

/-- ITS FALSE NEIGHBOUR: 'it returns false'. Refute it at one input. -/
def dateStepsWrong : ChangeSpec := { name := "dateSteps", fn := fun _ => fun
  | [d] => { results := [.lit (.bool false)], args := [d] }
  | _ => none }
def DateStepsWrongFalsely : Prop := dateStepsRow.holds Try.pinned (OpenSpec.ofChange dateStepsWrong)

/-- 'drawbridgelaw12.DateYears': WHATEVER THE INPUT: true; the input reads as it did. -/
def dateYearsSpec : ChangeSpec := { name := "dateYears", fn := fun _ => fun
  | [d] => { results := [.lit (.bool true)], args := [d] }
  | _ => none }
def dateYearsRow : OpenClaim := { program := "ytnaapoigmihjoaa", sum := "32130cbb2bf1ac8f0058bdd4b80a7a1867a3bed3025d42d7d1b0558bf357acb5", func := "drawbridge/drawbridgelaw12.DateYears", spec := "dateYears", unfollowed := true, recurses := true, apart := false }
def DateYearsSaid : Prop := dateYearsRow.holds Try.pinned (OpenSpec.ofChange dateYearsSpec)

/-- ITS FALSE NEIGHBOUR: 'it returns false'. Refute it at one input. -/
def dateYearsWrong : ChangeSpec := { name := "dateYears", fn := fun _ => fun
  | [d] => { results := [.lit (.bool false)], args := [d] }
  | _ => none }
def DateYearsWrongFalsely : Prop := dateYearsRow.holds Try.pinned (OpenSpec.ofChange dateYearsWrong)

/- THE SECOND FORM. 'bulk': how many values and letters a reading holds, each counted each time it is reached (what is shared counts as often as it is met; a slice's spare places count too). A statement '..UptoSaid' is the law's where the arguments, and the package variables that the reading takes, are together of bulk at most 1048576: NARROWER than '..Said'. Prove '..Said' where nothing that the law and all that it calls make is longer than what came in: it says more and counts as full. Else prove '..UptoSaid'. A law counts once. -/
mutual
def uptoBulk {H : Type} : DataW H → Nat
  | .lit (.string bytes) => bytes.length + 1
  | .lit _ => 1
  | .nil => 1
  | .ptr d => uptoBulk d + 1
  | .slice elems spare => uptoBulkAll elems + uptoBulkAll spare + 1
  | .agg parts => uptoBulkAll parts + 1
  | .iface _ d => uptoBulk d + 1
  | .map entries => uptoBulkEntries entries + 1
  | .held _ => 1
def uptoBulkAll {H : Type} : List (DataW H) → Nat
  | [] => 0
  | d :: r => uptoBulk d + uptoBulkAll r
def uptoBulkEntries {H : Type} : List (Lit × DataW H) → Nat
  | [] => 0
  | x :: r => uptoBulkEntry x + uptoBulkEntries r
def uptoBulkEntry {H : Type} : Lit × DataW H → Nat
  | (.string bytes, d) => bytes.length + uptoBulk d + 1
  | (_, d) => uptoBulk d + 1
 end
def uptoSmall : (H : Type) → List (DataW H) → Bool := fun _ ds => decide (uptoBulkAll ds ≤ 1048576)
def OpenSpec.upto (s : _root_.Go.ChangeSpec) : _root_.Go.OpenSpec := { _root_.Go.OpenSpec.ofChange s with cond := some uptoSmall }

/-- 'drawbridgelaw12.DatePrints', WHERE WHAT IT READS IS OF BULK AT MOST 1048576: true; the input reads as it did. -/
def datePrintsUptoRow : OpenClaim := { program := "ytnaapoigmihjoaa", sum := "32130cbb2bf1ac8f0058bdd4b80a7a1867a3bed3025d42d7d1b0558bf357acb5", func := "drawbridge/drawbridgelaw12.DatePrints", spec := "datePrints", unfollowed := true, recurses := true, apart := false, narrowed := true }
def DatePrintsUptoSaid : Prop := datePrintsUptoRow.holds Try.pinned (OpenSpec.upto datePrintsSpec)

/-- 'drawbridgelaw12.DateParses', WHERE WHAT IT READS IS OF BULK AT MOST 1048576: true; the input reads as it did. -/
def dateParsesUptoRow : OpenClaim := { program := "ytnaapoigmihjoaa", sum := "32130cbb2bf1ac8f0058bdd4b80a7a1867a3bed3025d42d7d1b0558bf357acb5", func := "drawbridge/drawbridgelaw12.DateParses", spec := "dateParses", unfollowed := true, recurses := true, apart := false, narrowed := true }
def DateParsesUptoSaid : Prop := dateParsesUptoRow.holds Try.pinned (OpenSpec.upto dateParsesSpec)

/-- 'drawbridgelaw12.DateBack', WHERE WHAT IT READS IS OF BULK AT MOST 1048576: true; the input reads as it did. -/
def dateBackUptoRow : OpenClaim := { program := "ytnaapoigmihjoaa", sum := "32130cbb2bf1ac8f0058bdd4b80a7a1867a3bed3025d42d7d1b0558bf357acb5", func := "drawbridge/drawbridgelaw12.DateBack", spec := "dateBack", unfollowed := true, recurses := true, apart := false, narrowed := true }
def DateBackUptoSaid : Prop := dateBackUptoRow.holds Try.pinned (OpenSpec.upto dateBackSpec)

/-- 'drawbridgelaw12.DateSteps', WHERE WHAT IT READS IS OF BULK AT MOST 1048576: true; the input reads as it did. -/
def dateStepsUptoRow : OpenClaim := { program := "ytnaapoigmihjoaa", sum := "32130cbb2bf1ac8f0058bdd4b80a7a1867a3bed3025d42d7d1b0558bf357acb5", func := "drawbridge/drawbridgelaw12.DateSteps", spec := "dateSteps", unfollowed := true, recurses := true, apart := false, narrowed := true }
def DateStepsUptoSaid : Prop := dateStepsUptoRow.holds Try.pinned (OpenSpec.upto dateStepsSpec)

/-- 'drawbridgelaw12.DateYears', WHERE WHAT IT READS IS OF BULK AT MOST 1048576: true; the input reads as it did. -/
def dateYearsUptoRow : OpenClaim := { program := "ytnaapoigmihjoaa", sum := "32130cbb2bf1ac8f0058bdd4b80a7a1867a3bed3025d42d7d1b0558bf357acb5", func := "drawbridge/drawbridgelaw12.DateYears", spec := "dateYears", unfollowed := true, recurses := true, apart := false, narrowed := true }
def DateYearsUptoSaid : Prop := dateYearsUptoRow.holds Try.pinned (OpenSpec.upto dateYearsSpec)

end Rows
end Go.Proofs.Ytnaapoigmihjoaa
