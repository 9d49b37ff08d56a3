/- Abstract states: a function's body walked in one world; a region that holds a call of yield. No program, no condition. -/
import Derived.Test.YthflfnehdlpmdaaDoorHdCToAv
import Derived.Test.YthflfnehdlpmdaaDoorAy
namespace Go.Proofs.YthflfnehdlpmdaaDoor
set_option linter.all false
open Go Go.RowKit
/-- What a body that runs in one world knows of it. -/
structure Here (X : Cx) (K : Nat → Prop) (G : Gh) (w : World) : Prop where
  w0 : X.w0 = w
  K : X.K = K
  S0 : X.S0 = G.S
  pin : X.pin = G.μ
section
variable {X : Cx} {Q : AX → Fm → AH → Prop} {fr : Fm} {ah : AH} {r : Option Nat}
end
end Go.Proofs.YthflfnehdlpmdaaDoor

/- Abstract states: a call that is lent a box and the row that it speaks of; a reference beside nil. No program, no condition. -/
namespace Go.Proofs.YthflfnehdlpmdaaDoor
set_option linter.all false
open Go Go.RowKit
section
variable {X : Cx} {o : Oper} {f : Nat → D} {m : Mem} {d : D}
end
end Go.Proofs.YthflfnehdlpmdaaDoor

/- Abstract states: a part of a body behind which all old memory is as it was; what it read may be taken as settled within it. No program, no condition. -/
namespace Go.Proofs.YthflfnehdlpmdaaDoor
set_option linter.all false
open Go Go.RowKit
/-- A context that holds all of a world still. -/
structure Still (Y X : Cx) (w : World) (ds : List Deferred) : Prop where
  P : Y.P = X.P
  nt : Y.nt = X.nt
  w0 : Y.w0 = w
  K : Y.K = fun k => k < w.heap.size
  S0 : Y.S0 = fun k => k < w.heap.size
  np : Y.np = 0
  df : Y.df = ds
section
variable {X Y : Cx} {w : World} {ds : List Deferred}
end
/-- x[i:j] of a view. -/
theorem stepU_sliceV {X : Cx} {o : Oper} {f : Nat → D} {m : Mem} {x : Operand} {lo hi : Option Operand} {t e e' : TypeId} {c : List (List V)} {id ver off len n : Nat} {i j : Option Nat} {b : Bool} (ho : o.op = .slice t x lo hi none) (ht : X.P.underlying t = some (.slice e)) (hs : sizeB X.P e = some (b, n)) (hx : Ev f x (.view id ver off len)) (hm : m id = some (.row ver n e' c)) (hlo : EvO f lo i) (hhi : EvO f hi j)
    (h1 : i.getD 0 ≤ j.getD len) (h2 : j.getD len ≤ len) {off' len' : Nat} (h3 : off' = off + i.getD 0) (h4 : len' = j.getD len - i.getD 0) : StepU X o f m (.view id ver off' len') [] [id] :=
  stepU_pure fun f' m' hf hT G w a hO hF => by
    subst h3 h4
    have hm' := (hT id (by simp)).trans hm
    obtain ⟨v1, A, cap, hu, a2, a3, a4⟩ := rep_view (ev_at hx (by simp [ho, Op.operands]) hf hF) hm'
    obtain ⟨k1, e1⟩ := hlo.at hF (fun t ht => hf t (by subst ht; simp [ho, Op.operands]))
    obtain ⟨k2, e2⟩ := hhi.at hF (fun t ht => hf t (by subst ht; simp [ho, Op.operands]))
    have hb := run_bounds (P := X.P) (w := w) true len cap i j k1 k2 h1 (by omega)
    refine ⟨.slice (if cap = i.getD 0 then A else A.map (·.add (i.getD 0 * n))) (j.getD len - i.getD 0) (cap - i.getD 0), ?_, .view id ver _ _ _ ver n e' c hm' (Nat.le_refl _) rfl fun _ => ⟨by omega, _, _, rfl, by omega, by omega, ?_⟩⟩
    · simp only [execOp, ho, hu, e1, e2, Instr.sliceAt, Sem.run_bind, run_underlying ht, Result.andThen_ok, Instr.slice, Option.map_none, hb, (run_sizeB hs w).1, Sem.run_pure]
    · by_cases hc : cap = i.getD 0
      · rw [if_pos hc]
        by_cases h0 : i.getD 0 = 0
        · rw [h0, Nat.add_zero]
          rcases a4 with a4 | ⟨a4, a5⟩
          · exact .inl a4
          · exact .inr ⟨by omega, a5⟩
        · exact .inr ⟨by omega, by omega⟩
      · rw [if_neg hc]
        rcases a4 with a4 | ⟨a4, a5⟩
        · left
          rw [a4]
          cases G.μ id with
          | none => rfl
          | some g => simp only [Option.map_some, addr_add]; rw [Nat.add_mul]
        · right; exact ⟨by omega, by omega⟩
theorem z_sliceV {X : Cx} {f : Nat → D} {m : Mem} {dst : Option Tmp} {ty : TypeId} {ps : String} {af : Array Edge} {gd : Option (Nat × Bool)} {x : Operand} {lo hi : Option Operand} {t e e' : TypeId} {c : List (List V)} {id ver off len n : Nat} {i j : Option Nat} {b : Bool} (ht : X.P.underlying t = some (.slice e)) (hs : sizeB X.P e = some (b, n)) (hx : Ev f x (.view id ver off len) := by first | exact ev_tmp rfl | exact ev_cond (ev_tmp rfl) (by assumption) | (refine ev_cond (ev_tmp rfl) ?_; simp_all; done)) (hm : m id = some (.row ver n e' c) := by exact rfl) (hlo : EvO f lo i := by first | exact .no | exact .yes (ev_int _ _) rfl | exact .yes (ev_tmp rfl) (by first | rfl | omega)) (hhi : EvO f hi j := by first | exact .no | exact .yes (ev_int _ _) rfl | exact .yes (ev_tmp rfl) (by first | rfl | omega))
    (h1 : i.getD 0 ≤ j.getD len := by first | omega | (simp; done) | (simp; omega)) (h2 : j.getD len ≤ len := by first | omega | (simp; done) | (simp; omega)) {off' len' : Nat} (h3 : off' = off + i.getD 0 := by exact rfl) (h4 : len' = j.getD len - i.getD 0 := by exact rfl) : StepU X ⟨dst, .slice t x lo hi none, ty, ps, af, gd⟩ f m (.view id ver off' len') [] [id] := stepU_sliceV (ho := rfl) (ht := ht) (hs := hs) (hx := hx) (hm := hm) (hlo := hlo) (hhi := hhi) (h1 := h1) (h2 := h2) (h3 := h3) (h4 := h4)
end Go.Proofs.YthflfnehdlpmdaaDoor
