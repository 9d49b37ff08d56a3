/- Abstract states: code within a fence that lets all in (in a round, too); a round's world. No program, no condition. -/
import Derived.Test.YtnjbfiejgiaibaaGreatDoorAtToHdR
import Derived.TacticsIn
import Derived.Laws.Pointers
namespace Go.Proofs.YtnjbfiejgiaibaaGreatDoor
set_option linter.all false
open Go Go.RowKit
section
variable {X : Cx} {Q : AX → Fm → AH → Prop} {fr : Fm} {ah : AH} {r : Option Nat}
end
end Go.Proofs.YtnjbfiejgiaibaaGreatDoor

/- Abstract states: a range over a function: one round; the statement. No program, no condition. -/
namespace Go.Proofs.YtnjbfiejgiaibaaGreatDoor
set_option linter.all false
open Go Go.RowKit
/-- Objects that hold what an abstract state speaks of. -/
def Obj.held (o : Obj) : Prop := (∃ cur e z, o = .cells cur e z) ∨ ∃ es c, o = .map es c
theorem kept_held {w w' : World} (h : ∀ (g : Nat) (ob : Obj), w.heap[g]? = some ob → Obj.held ob → w'.heap[g]? = some ob) : CellsKept w w' := fun a v hv => by
  unfold World.cell? at hv ⊢
  cases ho : w.heap[a.block]? with
  | none => rw [ho] at hv; simp at hv
  | some ob =>
    rw [ho] at hv
    have hc : Obj.held ob := by
      cases ob <;> first | exact .inl ⟨_, _, _, rfl⟩ | exact .inr ⟨_, _, rfl⟩ | (simp at hv; done)
    rw [h _ _ ho hc]; exact hv
/-- A state in another context, in a world that has kept what it speaks of. -/
theorem Ok.move {X Y : Cx} {G : Gh} {w w' : World} {m : Mem} (h : Ok X G w m) (hk : ∀ (g : Nat) (ob : Obj), w.heap[g]? = some ob → Obj.held ob → w'.heap[g]? = some ob) (hz : w.heap.size ≤ w'.heap.size)
    (hK : ∀ g, Y.K g → g < Y.w0.heap.size ∧ w'.heap[g]? = Y.w0.heap[g]?) (hap : ∀ i g, m i ≠ none → G.μ i = some g → ¬ Y.K g) (hos : w'.os = Y.w0.os) (htp : w'.tape = Y.w0.tape) (hou : w'.output = Y.w0.output) (hsz : Y.w0.heap.size ≤ w'.heap.size)
    (h0 : ∀ g, Y.S0 g → G.S g) (hsk : ∀ g, G.S g → Y.K g → Y.S0 g) (hpin : ∀ id o, id < Y.np → m id = some o → o.fixed = true → G.μ id = Y.pin id) (hsh : Shp Y.P Y.K Y.w0) : Ok Y G w' m := by
  have hc := kept_held hk
  refine ⟨fun id ob ho => ?_, h.inj, fun i g hi hg => ⟨(h.apart i g hi hg).1, hap i g hi hg⟩, fun g hg => Nat.lt_of_lt_of_le (h.low g hg) hz, hK, hos, htp, hou, hsz, h0, hsk, hpin, hsh⟩
  have h1 := h.ob id ob ho
  cases ob with
  | box cs =>
    obtain ⟨g, us, t, h2, h3, h4, h5⟩ := h1
    exact ⟨g, us, t, h2, hk _ _ h3 (.inl ⟨_, _, _, rfl⟩), h4, h5.1, fun i d u hd hu => (h5.2 i d u hd hu).cells hc⟩
  | row ver n e c =>
    obtain ⟨h2, h3, h4, h5, h6⟩ := h1
    refine ⟨h2, h3, h4, h5, ?_⟩
    rcases h6 with h6 | ⟨g, cur, us, fz, e0', hfz, h7, h8, h9, h10, h11⟩
    · exact .inl h6
    · exact .inr ⟨g, cur, us, fz, e0', hfz, h7, hk _ _ h8 (.inl ⟨_, _, _, rfl⟩), h9, h10, fun i j x hx => (h11 i j x hx).cells hc⟩
  | mp agg l =>
    obtain ⟨g, es, clk, h2, h3, h4, h5⟩ := h1
    refine ⟨g, es, clk, h2, hk _ _ h3 (.inr ⟨_, _, rfl⟩), h4, fun i x e hx he => ?_⟩
    obtain ⟨q1, us, q2, q3, q4, q5⟩ := h5 i x e hx he
    exact ⟨q1, us, q2, q3, q4, fun j y u hy hu => (q5 j y u hy hu).cells hc⟩
theorem put_held {w : World} {l : Nat} {ob : Obj} (hl : w.heap[l]? = some ob) (hn : ¬ Obj.held ob) (o : Obj) : ∀ (g : Nat) (x : Obj), w.heap[g]? = some x → Obj.held x → (w.putObj l o).heap[g]? = some x := fun g x hg hx => by
  have : g ≠ l := fun he => by rw [he, hl] at hg; injection hg with hg; exact hn (hg ▸ hx)
  rw [World.putObj_heap_other this]; exact hg
end Go.Proofs.YtnjbfiejgiaibaaGreatDoor

/- Abstract states: a pointer beside nil; append(nil, x...) onto a row that is there (it begins anew). No program, no condition. -/
namespace Go.Proofs.YtnjbfiejgiaibaaGreatDoor
set_option linter.all false
open Go Go.RowKit Go.Lib
section
variable {X : Cx} {o : Oper} {f : Nat → D} {m : Mem}
end
section
variable {X : Cx} {G : Gh} {w w' : World} {m : Mem}
/-- A row begins anew, of nothing. -/
theorem Ok.anew (h : Ok X G w m) {id v n : Nat} {e : TypeId} {c : List (List V)} (hm : m id = some (.row v n e c)) : Ok X (G.at_ id none 0) w (over [(id, .row (v + 1) n e [])] m) ∧ Ext G w m (G.at_ id none 0) w (over [(id, .row (v + 1) n e [])] m) :=
  h.step (G' := G.at_ id none 0) (w' := w) id (.row (v + 1) n e []) rfl (fun i hi => Gh.at_ne G _ _ hi) (fun g hg => by rw [Gh.at_μ] at hg; cases hg) (fun g _ _ => rfl) (Nat.le_refl _) rfl rfl rfl
    (fun o' ho' => by
      rw [hm] at ho'; injection ho' with ho'; subst ho'
      exact ⟨fun cs he => (by cases he), fun ver n' e' c' he => by injection he with a1 a2 a3 a4; subst a1 a2 a3 a4; exact ⟨v + 1, [], rfl, Nat.le_succ _, fun hh => by omega⟩⟩)
    (fun k => ⟨by simp, (show RowAt G w id n e c from h.ob id _ hm).2.1, by simp, by rw [Gh.at_cap]; simp [maxLen], .inl ⟨Gh.at_μ _ _ _ _, Gh.at_cap _ _ _ _⟩⟩) (fun cs _ he => by cases he)
end
section
variable {X : Cx} {o : Oper} {f : Nat → D} {m : Mem}
end
section
variable {X : Cx} {fr : Fm} {ah : AH}
end
end Go.Proofs.YtnjbfiejgiaibaaGreatDoor

/- Abstract states: a function's body walked in one world; a region that holds a call of yield. No program, no condition. -/
namespace Go.Proofs.YtnjbfiejgiaibaaGreatDoor
set_option linter.all false
open Go Go.RowKit
/-- What a body that runs in one world knows of it. -/
structure Here (X : Cx) (K : Nat → Prop) (G : Gh) (w : World) : Prop where
  w0 : X.w0 = w
  K : X.K = K
  S0 : X.S0 = G.S
  pin : X.pin = G.μ
section
variable {X : Cx} {Q : AX → Fm → AH → Prop} {fr : Fm} {ah : AH} {r : Option Nat}
end
end Go.Proofs.YtnjbfiejgiaibaaGreatDoor

/- Abstract states: a call that is lent a box and the row that it speaks of; a reference beside nil. No program, no condition. -/
namespace Go.Proofs.YtnjbfiejgiaibaaGreatDoor
set_option linter.all false
open Go Go.RowKit
section
variable {X : Cx} {o : Oper} {f : Nat → D} {m : Mem} {d : D}
theorem rep_refP {G : Gh} {w : World} {cs : List V} {u : Value} (h : RepD G w m (.ref cs) u) : ∃ A, u = .pointer (some A) := by
  cases h with | ref _ g o us hz hc hr => exact ⟨_, rfl⟩
theorem stepU_nilCheckR {x : Operand} {cs : List V} (ho : o.op = .nilCheck x) (hx : Ev f x (.ref cs)) : StepU X o f m (.ref cs) [] [] :=
  stepU_pure fun f' m' hf _ G w a _ hF => by
    have h := ev_at hx (by simp [ho, Op.operands]) hf hF
    obtain ⟨A, h1⟩ := rep_refP h
    refine ⟨a.eval x, ?_, h⟩
    rw [h1]
    simp [execOp, ho, h1]
theorem z_nilCheckR {dst : Option Tmp} {ty : TypeId} {ps : String} {af : Array Edge} {gd : Option (Nat × Bool)} {x : Operand} {cs : List V} (hx : Ev f x (.ref cs) := by first | exact ev_tmp rfl | exact ev_cond (ev_tmp rfl) (by assumption) | (refine ev_cond (ev_tmp rfl) ?_; simp_all; done)) : StepU X ⟨dst, .nilCheck x, ty, ps, af, gd⟩ f m (.ref cs) [] [] := stepU_nilCheckR (ho := rfl) (hx := hx)
/-- A call that is lent a box and a row. -/
theorem stepU_callF {g : FuncId} {xs : Array Operand} {tys : Array TypeId} {ys : List V} {cs : List D} {np v n : Nat} {e : TypeId} {c : List (List V)} (b id : Nat) (ho : o.op = .call { callee := .value (.func g), args := xs, argTypes := tys }) (hx : EvL f xs.toList [.ptr b 0]) (he : entersB X.P g = true)
    (hc : Con X.P g [.ref ys] [] np (.ret d) []) (hb : m b = some (.box cs)) (hm : m id = some (.row v n e c)) (hl : Lent id v c cs (ys.map .v)) (hd : d.shut = true) : StepU X o f m d [] [b, id] := by
  intro f' m' hf hT hn G w a hO hF K Q hK
  have hA := hx.rep hF (fun x hx t ht => hf t (by subst ht; rw [ho]; simp only [Op.operands, Call.operands]; exact Array.mem_append.2 (.inr (by simpa using hx))))
  have hm' := (hT id (by simp)).trans hm
  have hb' := (hT b (by simp)).trans hb
  have hrow := hO.ob id _ hm'
  have hbox := hO.ob b _ hb'
  let H : Gh := { G with S := fun k => G.S k ∨ G.μ id = some k ∨ G.μ b = some k }
  have hlow : ∀ k, H.S k → k < w.heap.size := fun k hk => by
    rcases hk with hk | hk | hk
    · exact hO.low k hk
    · exact (show ObAt G w m' id (.row v n e c) from hrow).lt hk
    · exact (show ObAt G w m' b (.box cs) from hbox).lt hk
  obtain ⟨q, us, t, b1, b2, b3, b4⟩ := hbox
  have hcells := hl.rep (H := H) hm' hrow (fun k hk => .inl hk) (fun k hk => .inr (.inl hk)) b4
  have hB : RepDs H w (look []) [.ref ys] (xs.toList.map a.eval) := by
    refine ⟨hA.1, fun i d0 u0 hd0 hu0 => ?_⟩
    cases i with
    | succ i => simp at hd0
    | zero =>
      injection hd0 with hd0
      subst hd0
      obtain ⟨q', cs', e1, e2, e3⟩ := rep_ptr (hA.2 0 _ u0 rfl hu0)
      have e4 : q' = q := by rw [b1] at e2; injection e2 with e2; exact e2.symm
      subst e4
      rw [e1]
      have hlen := hcells.1
      rw [List.length_map] at hlen
      refine .ref ys q' 0 (fun j => us.getD j undef) (.inr (.inr b1)) (fun j x hj => ?_) (fun j x hj => ?_)
      · have hlt : j < us.length := by rw [hlen]; exact (List.getElem?_eq_some_iff.1 hj).1
        rw [Nat.zero_add, cell_box b2 (id := b) (cs := cs)]
        simp [hlt]
      · have hlt : j < us.length := by rw [hlen]; exact (List.getElem?_eq_some_iff.1 hj).1
        have h5 := hcells.2 j (.v x) us[j] (by rw [List.getElem?_map, hj]; rfl) (List.getElem?_eq_getElem hlt)
        have e6 : us.getD j undef = us[j] := by simp [hlt]
        rw [e6]
        cases h5 with | v _ _ h => exact h
  have hOf : Ok ⟨X.P, 0, w, fun k => k < w.heap.size, H.S, np, H.μ, []⟩ H w (look []) :=
    ⟨fun i o h => (by cases h), fun i j k hi => absurd rfl hi, fun i k hi => absurd rfl hi, hlow, fun k hk => ⟨hk, rfl⟩, rfl, rfl, rfl, Nat.le_refl _, fun k hk => hk, fun k hk _ => hk, fun i cs _ h => (by cases h), hO.shpw.mono fun k hk => Nat.lt_of_lt_of_le (hO.keep k hk).1 hO.size⟩
  unfold Oper.wp
  rw [run_call_func ho he, Oper.upon_enter]
  have hus : (xs.toList.map a.eval).toArray = xs.map a.eval := by rw [← Array.toList_map]
  rw [← hus]
  refine (hc (fun k => k < w.heap.size) H w _ hlow hOf hB).mono fun e w' ⟨G1, hO1, hout⟩ => ?_
  obtain ⟨k1, k2⟩ := hO.kept (w' := w') (fun k hk => (hO1.keep k hk).2) hO1.size hO1.os hO1.tape hO1.output
  cases e with
  | returned u => exact hK G w' u k1 k2 (RepD.out (show RepD G1 w' (look []) d u from hout) hd)
  | panicked ch => exact hout.elim
  | outgrown => exact hout.elim
theorem z_callF {dst : Option Tmp} {ty : TypeId} {ps : String} {af : Array Edge} {gd : Option (Nat × Bool)} {g : FuncId} {xs : Array Operand} {tys : Array TypeId} {ys : List V} {cs : List D} {np v n : Nat} {e : TypeId} {c : List (List V)} (b id : Nat) (he : entersB X.P g = true) (hc : Con X.P g [.ref ys] [] np (.ret d) []) (hl : Lent id v c cs (ys.map .v)) (hx : EvL f xs.toList [.ptr b 0] := by first | exact .cons (ev_tmp rfl) .nil | exact .cons (ev_cond (ev_tmp rfl) (by assumption)) .nil | (refine .cons (ev_cond (ev_tmp rfl) ?_) .nil; simp_all; done)) (hb : m b = some (.box cs) := by exact rfl) (hm : m id = some (.row v n e c) := by exact rfl) (hd : d.shut = true := by exact rfl) : StepU X ⟨dst, .call { callee := .value (.func g), args := xs, argTypes := tys }, ty, ps, af, gd⟩ f m d [] [b, id] :=
  stepU_callF b id rfl hx he hc hb hm hl hd
end
end Go.Proofs.YtnjbfiejgiaibaaGreatDoor
