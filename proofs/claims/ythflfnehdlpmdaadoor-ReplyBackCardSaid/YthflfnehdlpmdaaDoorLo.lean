/- Arguments that come in: of ints, texts, booleans, structs and slices, as abstract values. No program, no condition. -/
import Derived.Test.YthflfnehdlpmdaaDoorA3
import Derived.ChangeArms
import Derived.ChangeOld
import Derived.DataReads
namespace Go.Proofs.YthflfnehdlpmdaaDoor
set_option linter.all false
open Go Go.RowKit
/-- Cells one behind the other. -/
def FitAll (F : TypeId → List V → Prop) : List Field → List V → Prop
  | [], cs => cs = []
  | f :: fs, cs => ∃ a b, cs = a ++ b ∧ F f.type a ∧ FitAll F fs b
def flushB (P : Program) (ok : TypeId → Bool) : Nat → List Field → Option Nat
  | k, [] => some k
  | k, f :: fs => if Nat.beq f.offset k && ok f.type then flushB P ok (k + P.cellsOf f.type) fs else none
/-- Is a type of that kind? -/
def fitB (P : Program) : Nat → TypeId → Bool
  | 0, _ => false
  | d + 1, t => match P.underlying t with
    | some .bool => Nat.beq (P.cellsOf t) 1
    | some (.int _) => Nat.beq (P.cellsOf t) 1
    | some .string => Nat.beq (P.cellsOf t) 1
    | some (.slice e) => Nat.beq (P.cellsOf t) 1 && Nat.blt 0 (P.cellsOf e) && fitB P d e
    | some (.struct fs) => match flushB P (fitB P d) 0 fs.toList with | some n => Nat.beq n (P.cellsOf t) | none => false
    | _ => false
section
variable {H : Type} {enc : TypeId × Value → H} {P : Program} {W : World} {spare : Nat → Bool} {held : Bool} {base : Nat}
abbrev low (W : World) : Nat → Prop := fun g => g < W.heap.size
def CellsAre (W : World) (xs : List V) (cs : List Value) : Prop := xs.length = cs.length ∧ ∀ (i : Nat) x u, xs[i]? = some x → cs[i]? = some u → RepV (low W) W x u
theorem CellsAre.app {xs ys : List V} {ws bs : List Value} (h : CellsAre W xs ws) (k : CellsAre W ys bs) : CellsAre W (xs ++ ys) (ws ++ bs) := by
  refine ⟨by rw [List.length_append, List.length_append, h.1, k.1], fun i x u hx hu => ?_⟩
  by_cases hi : i < xs.length
  · rw [List.getElem?_append_left hi] at hx
    rw [List.getElem?_append_left (by rw [← h.1]; exact hi)] at hu
    exact h.2 i x u hx hu
  · rw [List.getElem?_append_right (by omega)] at hx
    rw [List.getElem?_append_right (by rw [← h.1]; omega), ← h.1] at hu
    exact k.2 _ x u hx hu
theorem add_flat (g o n : Nat) : (⟨g, o, none⟩ : Addr).add n = ⟨g, o + n, none⟩ := by unfold Addr.add; split <;> simp_all
theorem one_cell {x : V} {u : Value} (h : RepV (low W) W x u) : CellsAre W [x] [u] := ⟨rfl, fun i y v hy hv => by
  cases i with
  | zero => simp at hy hv; subst hy hv; exact h
  | succ i => simp at hy⟩
end
end Go.Proofs.YthflfnehdlpmdaaDoor
