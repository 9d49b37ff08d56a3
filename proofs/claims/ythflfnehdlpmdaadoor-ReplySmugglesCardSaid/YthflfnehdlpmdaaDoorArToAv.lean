/- Abstract states: code within a fence that lets all in (in a round, too); a round's world. No program, no condition. -/
import Derived.Test.YthflfnehdlpmdaaDoorHdCToAt
import Derived.TacticsIn
namespace Go.Proofs.YthflfnehdlpmdaaDoor
set_option linter.all false
open Go Go.RowKit
section
variable {X : Cx} {Q : AX → Fm → AH → Prop} {fr : Fm} {ah : AH} {r : Option Nat}
end
end Go.Proofs.YthflfnehdlpmdaaDoor

/- Abstract states: a range over a function: one round; the statement. No program, no condition. -/
namespace Go.Proofs.YthflfnehdlpmdaaDoor
set_option linter.all false
open Go Go.RowKit
/-- Objects that hold what an abstract state speaks of. -/
def Obj.held (o : Obj) : Prop := (∃ cur e z, o = .cells cur e z) ∨ ∃ es c, o = .map es c
theorem kept_held {w w' : World} (h : ∀ (g : Nat) (ob : Obj), w.heap[g]? = some ob → Obj.held ob → w'.heap[g]? = some ob) : CellsKept w w' := fun a v hv => by
  unfold World.cell? at hv ⊢
  cases ho : w.heap[a.block]? with
  | none => rw [ho] at hv; simp at hv
  | some ob =>
    rw [ho] at hv
    have hc : Obj.held ob := by
      cases ob <;> first | exact .inl ⟨_, _, _, rfl⟩ | exact .inr ⟨_, _, rfl⟩ | (simp at hv; done)
    rw [h _ _ ho hc]; exact hv
/-- A state in another context, in a world that has kept what it speaks of. -/
theorem Ok.move {X Y : Cx} {G : Gh} {w w' : World} {m : Mem} (h : Ok X G w m) (hk : ∀ (g : Nat) (ob : Obj), w.heap[g]? = some ob → Obj.held ob → w'.heap[g]? = some ob) (hz : w.heap.size ≤ w'.heap.size)
    (hK : ∀ g, Y.K g → g < Y.w0.heap.size ∧ w'.heap[g]? = Y.w0.heap[g]?) (hap : ∀ i g, m i ≠ none → G.μ i = some g → ¬ Y.K g) (hos : w'.os = Y.w0.os) (htp : w'.tape = Y.w0.tape) (hou : w'.output = Y.w0.output) (hsz : Y.w0.heap.size ≤ w'.heap.size)
    (h0 : ∀ g, Y.S0 g → G.S g) (hsk : ∀ g, G.S g → Y.K g → Y.S0 g) (hpin : ∀ id o, id < Y.np → m id = some o → o.fixed = true → G.μ id = Y.pin id) (hsh : Shp Y.P Y.K Y.w0) : Ok Y G w' m := by
  have hc := kept_held hk
  refine ⟨fun id ob ho => ?_, h.inj, fun i g hi hg => ⟨(h.apart i g hi hg).1, hap i g hi hg⟩, fun g hg => Nat.lt_of_lt_of_le (h.low g hg) hz, hK, hos, htp, hou, hsz, h0, hsk, hpin, hsh⟩
  have h1 := h.ob id ob ho
  cases ob with
  | box cs =>
    obtain ⟨g, us, t, h2, h3, h4, h5⟩ := h1
    exact ⟨g, us, t, h2, hk _ _ h3 (.inl ⟨_, _, _, rfl⟩), h4, h5.1, fun i d u hd hu => (h5.2 i d u hd hu).cells hc⟩
  | row ver n e c =>
    obtain ⟨h2, h3, h4, h5, h6⟩ := h1
    refine ⟨h2, h3, h4, h5, ?_⟩
    rcases h6 with h6 | ⟨g, cur, us, fz, e0', hfz, h7, h8, h9, h10, h11⟩
    · exact .inl h6
    · exact .inr ⟨g, cur, us, fz, e0', hfz, h7, hk _ _ h8 (.inl ⟨_, _, _, rfl⟩), h9, h10, fun i j x hx => (h11 i j x hx).cells hc⟩
  | mp agg l =>
    obtain ⟨g, es, clk, h2, h3, h4, h5⟩ := h1
    refine ⟨g, es, clk, h2, hk _ _ h3 (.inr ⟨_, _, rfl⟩), h4, fun i x e hx he => ?_⟩
    obtain ⟨q1, us, q2, q3, q4, q5⟩ := h5 i x e hx he
    exact ⟨q1, us, q2, q3, q4, fun j y u hy hu => (q5 j y u hy hu).cells hc⟩
end Go.Proofs.YthflfnehdlpmdaaDoor
