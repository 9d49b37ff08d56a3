/- Chapter 15: what the library's variables hold when a row's call begins. No condition but the row's own. -/
import Derived.Test.YthflfnehdlpmdaaDoorBaseToGl
import Derived.Test.YthflfnehdlpmdaaDoorRows
import Derived.Shelf.Vars
import Derived.Test.YthflfnehdlpmdaaDoorShelf
import Derived.Test.YthflfnehdlpmdaaDoorMem
import Derived.WalkKit
import Derived.ProofKit
import Derived.OpenShut
import Derived.ShutString
import Derived.ChangeOld
import Derived.SizedLaws
import Derived.Below
namespace Go.Proofs.YthflfnehdlpmdaaDoor
set_option linter.all false
set_option maxRecDepth 100000
open Go Go.RowKit
theorem shp_of {L : Prop} {W : World} (_ : L) (hS : W.ShapedOpen Tryd.prog) : Shp Tryd.prog (fun g => g < W.heap.size) W := by
  obtain ⟨m, hm⟩ : ∃ m, W.cell? ⟨0, 0, none⟩ = some (.int .i64 m) :=
    cell_of_shapedOpen_int (t := 3) (zero := #[.int .i64 0]) hS (of_decide_eq_true (by kernel_rfl)) (by kernel_rfl) rfl (by kernel_rfl) (by kernel_rfl) (by kernel_rfl)
  have hlt : ∀ g v, W.cell? ⟨g, 0, none⟩ = some v → g < W.heap.size := fun g v h => by
    rcases Nat.lt_or_ge g W.heap.size with k | k
    · exact k
    · exfalso
      simp [World.cell?, Array.getElem?_eq_none k] at h
  refine ⟨fun g hg => ?_, ⟨m, hm⟩, trivial⟩
  subst hg
  exact hlt _ _ hm
end Go.Proofs.YthflfnehdlpmdaaDoor

/- What every law's last step wants: how an argument is opened. No condition. -/
namespace Go.Proofs.YthflfnehdlpmdaaDoor
set_option linter.all false
open Go.ChangeShapes Go.WideShapes Go.ChangeAt Go.RowKit
open Go.ChangeMaps (open_string shut_string)
theorem own : ownKnob Tryd.prog.godebug = none := by kernel_rfl
section
variable {H : Type} {enc : TypeId × Value → H} {P : Program} {W : World} {base b0 : Nat} {held : Bool} {r : Reach} {t e : TypeId} {v : Value} {d : DataW H} {p : List MemPlace}
end
end Go.Proofs.YthflfnehdlpmdaaDoor
