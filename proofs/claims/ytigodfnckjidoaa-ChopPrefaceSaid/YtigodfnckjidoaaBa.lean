/- Abstract states: a call that is lent a box and the row that it speaks of; a reference beside nil. No program, no condition. -/
import Derived.Test.YtigodfnckjidoaaAz
namespace Go.Proofs.Ytigodfnckjidoaa
set_option linter.all false
open Go Go.RowKit
section
variable {X : Cx} {o : Oper} {f : Nat → D} {m : Mem} {d : D}
theorem rep_refP {G : Gh} {w : World} {cs : List V} {u : Value} (h : RepD G w m (.ref cs) u) : ∃ A, u = .pointer (some A) := by
  cases h with | ref _ g o us hz hc hr => exact ⟨_, rfl⟩
theorem stepU_nilCheckR {x : Operand} {cs : List V} (ho : o.op = .nilCheck x) (hx : Ev f x (.ref cs)) : StepU X o f m (.ref cs) [] [] :=
  stepU_pure fun f' m' hf _ G w a _ hF => by
    have h := ev_at hx (by simp [ho, Op.operands]) hf hF
    obtain ⟨A, h1⟩ := rep_refP h
    refine ⟨a.eval x, ?_, h⟩
    rw [h1]
    simp [execOp, ho, h1]
theorem stepU_eqlPR {t t' e : TypeId} {x y : Operand} {cs : List V} (ho : o.op = .binOp .eql t x y t') (ht : X.P.underlying t = some (.pointer e)) (hx : Ev f x (.ref cs)) (hy : Ev f y (.v (.lit (.pointer none)))) : StepU X o f m (.v (.bool false)) [] [] :=
  stepU_pure fun f' m' hf _ G w a _ hF => by
    obtain ⟨A, h1⟩ := rep_refP (ev_at hx (by simp [ho, Op.operands]) hf hF)
    have h2 := rep_lit (ev_at hy (by simp [ho, Op.operands]) hf hF)
    refine ⟨_, ?_, mk_bool _⟩
    simp only [execOp, ho, h1, h2, Sem.run_bind, eqGuard_ptr, Result.andThen_ok, run_eql_pointer_nil w t _ (ptr_pointee ht), Sem.run_pure]
    rfl
theorem z_eqlPR {dst : Option Tmp} {ty : TypeId} {ps : String} {af : Array Edge} {gd : Option (Nat × Bool)} {t t' e : TypeId} {x y : Operand} {cs : List V} (ht : X.P.underlying t = some (.pointer e)) (hx : Ev f x (.ref cs) := by exact ev_tmp rfl) (hy : Ev f y (.v (.lit (.pointer none))) := by first | exact ev_tmp rfl | exact ev_lit rfl) : StepU X ⟨dst, .binOp .eql t x y t', ty, ps, af, gd⟩ f m (.v (.bool false)) [] [] := stepU_eqlPR (ho := rfl) (ht := ht) (hx := hx) (hy := hy)
theorem z_nilCheckR {dst : Option Tmp} {ty : TypeId} {ps : String} {af : Array Edge} {gd : Option (Nat × Bool)} {x : Operand} {cs : List V} (hx : Ev f x (.ref cs) := by first | exact ev_tmp rfl | exact ev_cond (ev_tmp rfl) (by assumption) | (refine ev_cond (ev_tmp rfl) ?_; simp_all; done)) : StepU X ⟨dst, .nilCheck x, ty, ps, af, gd⟩ f m (.ref cs) [] [] := stepU_nilCheckR (ho := rfl) (hx := hx)
/-- A call that is lent a box and a row. -/
theorem stepU_callF {g : FuncId} {xs : Array Operand} {tys : Array TypeId} {ys : List V} {cs : List D} {np v n : Nat} {e : TypeId} {c : List (List V)} (b id : Nat) (ho : o.op = .call { callee := .value (.func g), args := xs, argTypes := tys }) (hx : EvL f xs.toList [.ptr b 0]) (he : entersB X.P g = true)
    (hc : Con X.P g [.ref ys] [] np (.ret d) []) (hb : m b = some (.box cs)) (hm : m id = some (.row v n e c)) (hl : Lent id v c cs (ys.map .v)) (hd : d.shut = true) : StepU X o f m d [] [b, id] := by
  intro f' m' hf hT hn G w a hO hF K Q hK
  have hA := hx.rep hF (fun x hx t ht => hf t (by subst ht; rw [ho]; simp only [Op.operands, Call.operands]; exact Array.mem_append.2 (.inr (by simpa using hx))))
  have hm' := (hT id (by simp)).trans hm
  have hb' := (hT b (by simp)).trans hb
  have hrow := hO.ob id _ hm'
  have hbox := hO.ob b _ hb'
  let H : Gh := { G with S := fun k => G.S k ∨ G.μ id = some k ∨ G.μ b = some k }
  have hlow : ∀ k, H.S k → k < w.heap.size := fun k hk => by
    rcases hk with hk | hk | hk
    · exact hO.low k hk
    · exact (show ObAt G w m' id (.row v n e c) from hrow).lt hk
    · exact (show ObAt G w m' b (.box cs) from hbox).lt hk
  obtain ⟨q, us, t, b1, b2, b3, b4⟩ := hbox
  have hcells := hl.rep (H := H) hm' hrow (fun k hk => .inl hk) (fun k hk => .inr (.inl hk)) b4
  have hB : RepDs H w (look []) [.ref ys] (xs.toList.map a.eval) := by
    refine ⟨hA.1, fun i d0 u0 hd0 hu0 => ?_⟩
    cases i with
    | succ i => simp at hd0
    | zero =>
      injection hd0 with hd0
      subst hd0
      obtain ⟨q', cs', e1, e2, e3⟩ := rep_ptr (hA.2 0 _ u0 rfl hu0)
      have e4 : q' = q := by rw [b1] at e2; injection e2 with e2; exact e2.symm
      subst e4
      rw [e1]
      have hlen := hcells.1
      rw [List.length_map] at hlen
      refine .ref ys q' 0 (fun j => us.getD j undef) (.inr (.inr b1)) (fun j x hj => ?_) (fun j x hj => ?_)
      · have hlt : j < us.length := by rw [hlen]; exact (List.getElem?_eq_some_iff.1 hj).1
        rw [Nat.zero_add, cell_box b2 (id := b) (cs := cs)]
        simp [hlt]
      · have hlt : j < us.length := by rw [hlen]; exact (List.getElem?_eq_some_iff.1 hj).1
        have h5 := hcells.2 j (.v x) us[j] (by rw [List.getElem?_map, hj]; rfl) (List.getElem?_eq_getElem hlt)
        have e6 : us.getD j undef = us[j] := by simp [hlt]
        rw [e6]
        cases h5 with | v _ _ h => exact h
  have hOf : Ok ⟨X.P, 0, w, fun k => k < w.heap.size, H.S, np, H.μ, []⟩ H w (look []) :=
    ⟨fun i o h => (by cases h), fun i j k hi => absurd rfl hi, fun i k hi => absurd rfl hi, hlow, fun k hk => ⟨hk, rfl⟩, rfl, rfl, rfl, Nat.le_refl _, fun k hk => hk, fun k hk _ => hk, fun i cs _ h => (by cases h), hO.shpw.mono fun k hk => Nat.lt_of_lt_of_le (hO.keep k hk).1 hO.size⟩
  unfold Oper.wp
  rw [run_call_func ho he, Oper.upon_enter]
  have hus : (xs.toList.map a.eval).toArray = xs.map a.eval := by rw [← Array.toList_map]
  rw [← hus]
  refine (hc (fun k => k < w.heap.size) H w _ hlow hOf hB).mono fun e w' ⟨G1, hO1, hout⟩ => ?_
  obtain ⟨k1, k2⟩ := hO.kept (w' := w') (fun k hk => (hO1.keep k hk).2) hO1.size hO1.os hO1.tape hO1.output
  cases e with
  | returned u => exact hK G w' u k1 k2 (RepD.out (show RepD G1 w' (look []) d u from hout) hd)
  | panicked ch => exact hout.elim
  | outgrown => exact hout.elim
theorem z_callF {dst : Option Tmp} {ty : TypeId} {ps : String} {af : Array Edge} {gd : Option (Nat × Bool)} {g : FuncId} {xs : Array Operand} {tys : Array TypeId} {ys : List V} {cs : List D} {np v n : Nat} {e : TypeId} {c : List (List V)} (b id : Nat) (he : entersB X.P g = true) (hc : Con X.P g [.ref ys] [] np (.ret d) []) (hl : Lent id v c cs (ys.map .v)) (hx : EvL f xs.toList [.ptr b 0] := by first | exact .cons (ev_tmp rfl) .nil | exact .cons (ev_cond (ev_tmp rfl) (by assumption)) .nil | (refine .cons (ev_cond (ev_tmp rfl) ?_) .nil; simp_all; done)) (hb : m b = some (.box cs) := by exact rfl) (hm : m id = some (.row v n e c) := by exact rfl) (hd : d.shut = true := by exact rfl) : StepU X ⟨dst, .call { callee := .value (.func g), args := xs, argTypes := tys }, ty, ps, af, gd⟩ f m d [] [b, id] :=
  stepU_callF b id rfl hx he hc hb hm hl hd
end
end Go.Proofs.Ytigodfnckjidoaa
