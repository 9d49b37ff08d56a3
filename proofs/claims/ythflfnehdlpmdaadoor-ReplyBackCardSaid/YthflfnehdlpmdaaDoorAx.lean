/- Abstract states: functions as values, with what they captured; maps whose keys are texts. No program, no condition. -/
import Derived.Test.YthflfnehdlpmdaaDoorAs
import Derived.MapKept
namespace Go.Proofs.YthflfnehdlpmdaaDoor
set_option linter.all false
open Go Go.RowKit

theorem RepDs.app {G : Gh} {w : World} {m : Mem} {ds es : List D} {us vs : List Value} (h : RepDs G w m ds us) (k : RepDs G w m es vs) : RepDs G w m (ds ++ es) (us ++ vs) := by
  refine ⟨by simp [h.1, k.1], fun i d u hd hu => ?_⟩
  by_cases hi : i < ds.length
  · rw [List.getElem?_append_left hi] at hd
    rw [List.getElem?_append_left (by rw [h.1]; exact hi)] at hu
    exact h.2 i d u hd hu
  · rw [List.getElem?_append_right (by omega)] at hd
    rw [List.getElem?_append_right (by rw [h.1]; omega), h.1] at hu
    exact k.2 _ d u hd hu
section
variable {X : Cx} {o : Oper} {f : Nat → D} {m : Mem} {d : D} {T : List Nat}
/-- A function's value is made. -/
theorem stepU_makeFn {g : Fn} {xs ys : Array Operand} {first caps : List D} (ho : o.op = .makeFunc g xs ys) (hx : EvL f xs.toList first) (hy : EvL f ys.toList caps) : StepU X o f m (.fn g first caps) [] [] :=
  stepU_pure fun f' m' hf _ G w a _ hF => by
    have h1 := hx.rep hF (fun x hx t ht => hf t (by subst ht; rw [ho]; simp only [Op.operands]; exact Array.mem_append.2 (.inl (by simpa using hx))))
    have h2 := hy.rep hF (fun x hx t ht => hf t (by subst ht; rw [ho]; simp only [Op.operands]; exact Array.mem_append.2 (.inr (by simpa using hx))))
    refine ⟨.func g (xs.map a.eval) (ys.map a.eval), by simp [execOp, ho, Instr.makeFunc], ?_⟩
    have e1 : xs.map a.eval = (xs.toList.map a.eval).toArray := by rw [← Array.toList_map]
    have e2 : ys.map a.eval = (ys.toList.map a.eval).toArray := by rw [← Array.toList_map]
    rw [e1, e2]
    exact .fn g first caps _ _ h1.1 h2.1 h1.2 h2.2
theorem rep_fn {G : Gh} {w : World} {g : Fn} {first caps : List D} {u : Value} (h : RepD G w m (.fn g first caps) u) : ∃ us vs : List Value, u = .func g us.toArray vs.toArray ∧ RepDs G w m first us ∧ RepDs G w m caps vs := by
  cases h with
  | fn _ _ _ us vs hl hl' h h' => exact ⟨us, vs, rfl, ⟨hl, h⟩, ⟨hl', h'⟩⟩
/-- A function's value is called. -/
theorem stepU_callC {x : Operand} {g : FuncId} {xs : Array Operand} {tys : Array TypeId} {args as_ first caps : List D} {pre post : AH} {np : Nat} {r : D} {upd : AH} (l : List Nat) (ho : o.op = .call { callee := .value x, args := xs, argTypes := tys }) (hfn : Ev f x (.fn (.func g) first caps)) (he : entersB X.P g = true)
    (hc : Con X.P g args pre np (.ret r) post) (hx : EvL f xs.toList as_) (has : D.rens (rho l) args = first ++ as_ ++ caps) (hpre : PreAt m (rho l) pre) (hnd : nodupB l = true) (hB : callB l pre post np X.np = true) (hpl : preLive pre) (hal : D.lives (dom pre) args = true)
    (hu : AH.ren (rho l) post = upd) (hd : r.ren (rho l) = d) : StepU X o f m d upd ((keys pre).map (rho l)) := by
  subst hu hd
  intro f' m' hf hT hn G w a hO hF K Q hK
  have hA0 := hx.rep hF (fun y hy t ht => hf t (by subst ht; rw [ho]; simp only [Op.operands, Call.operands]; exact Array.mem_append.2 (.inr (by simpa using hy))))
  have hfv := ev_at hfn (by simp [ho, Op.operands, Call.operands]) hf hF
  obtain ⟨us, vs, hev, h1, h2⟩ := rep_fn hfv
  have hA : RepDs G w m' (D.rens (rho l) args) (us ++ xs.toList.map a.eval ++ vs) := by rw [has]; exact (h1.app hA0).app h2
  have hinj := rho_inj hnd
  have hpre' : ∀ i o, look pre i = some o → m' (rho l i) = some (o.ren (rho l)) := fun i o h => by
    rw [hT (rho l i) (List.mem_map.2 ⟨i, mem_keys (dom_of h), rfl⟩)]; exact hpre.at i o h
  have hnew : ∀ i, dom post i = true → dom pre i = false → m' (rho l i) = none := fun i h1 h2 => by
    obtain ⟨o', ho'⟩ := of_dom h1
    have hin : (rho l i, o'.ren (rho l)) ∈ AH.ren (rho l) post := by
      have := mem_of_look (ah := AH.ren (rho l) post) (i := rho l i) (o := o'.ren (rho l)) (by rw [look_ren hinj, ho']; rfl)
      exact this
    refine hn _ hin fun hmem => ?_
    obtain ⟨j, hj, he⟩ := List.mem_map.1 hmem
    have := hinj _ _ he
    subst this
    unfold keys at hj
    obtain ⟨p, hp, rfl⟩ := List.mem_map.1 hj
    rw [dom_mem hp] at h2; cases h2
  have hrun : (execOp a.eval o).run X.P w = (callFunc g ((us ++ xs.toList.map a.eval ++ vs).toArray)).run X.P w := by
    have e1 : xs.map a.eval = (xs.toList.map a.eval).toArray := by rw [← Array.toList_map]
    simp [execOp, ho, resolve, hev, Deferred.ofValue, invoke, e1]
  unfold Oper.wp
  rw [hrun, run_enters he, Oper.upon_enter]
  refine (call_main hc l hnd hB hO hpre' hnew hpl hal _ hA).mono fun e w' ⟨G', h1, h2, h3⟩ => ?_
  cases e with
  | returned v => exact hK G' w' v h1 h2 h3
  | panicked c => exact h3.elim
  | outgrown => exact h3.elim
end
section
variable {X : Cx} {o : Oper} {f : Nat → D} {m : Mem} {d : D}
end
open Go.MapKept
inductive ZIs : Bool → Value → List V → Prop
  | agg {us : List Value} {zs : List V} (h : Lits us (zs.map .v)) : ZIs true (.agg us.toArray) zs
  | one {u : Value} {z : V} (h : Lits [u] [.v z]) : ZIs false u [z]
section
variable {X : Cx} {o : Oper} {f : Nat → D} {m : Mem} {d : D} {T : List Nat}
end
section
variable {X : Cx} {o : Oper} {f : Nat → D} {m : Mem}
theorem stepU_max {x y : Operand} {t t' : TypeId} {k : IntKind} {p q : Int} (ho : o.op = .call { callee := .builtin .max, args := #[x, y], argTypes := #[t, t'] }) (hx : Ev f x (.v (.int k p))) (hy : Ev f y (.v (.int k q))) : StepU X o f m (.v (.int k (max p q))) [] [] :=
  stepU_pure fun f' m' hf _ G w a _ hF => by
    have h1 := rep_int (ev_at hx (by simp [ho, Op.operands, Call.operands]) hf hF)
    have h2 := rep_int (ev_at hy (by simp [ho, Op.operands, Call.operands]) hf hF)
    refine ⟨.int k (max p q), ?_, mk_int _ _⟩
    by_cases h : p < q
    · have : max p q = q := by omega
      simp [execOp, ho, resolve, invoke, builtin, Builtin.max_, Builtin.max2, h1, h2, h, this]
    · have : max p q = p := by omega
      simp [execOp, ho, resolve, invoke, builtin, Builtin.max_, Builtin.max2, h1, h2, h, this]
end
end Go.Proofs.YthflfnehdlpmdaaDoor
