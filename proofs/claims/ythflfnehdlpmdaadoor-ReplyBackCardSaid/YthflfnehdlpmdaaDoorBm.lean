/- Abstract states: panics; a deferred closure that recovers. No program, no condition. -/
import Derived.Test.YthflfnehdlpmdaaDoorBl
import Derived.Recover
import Derived.RecoverIn
import Derived.DefersIn
namespace Go.Proofs.YthflfnehdlpmdaaDoor
set_option linter.all false
open Go Go.RowKit
section
variable {X : Cx} {Q : AX → Fm → AH → Prop} {ops : Array Oper} {K : Fm → AH → Prop} {fr : Fm} {ah : AH}
/-- panic(x) -/
theorem awl_panic {dst : Option Tmp} {ty : TypeId} {ps : String} {af : Array Edge} {os : List Oper} {x : Operand} {t : TypeId} {pv : Value} (k : Q (.pan (.v (.lit (.iface t pv)))) fr ah) (hx : Ev fr.at x (.v (.lit (.iface t pv))) := by exact ev_tmp rfl) : awl X ops K Q (⟨dst, .panic x, ty, ps, af, none⟩ :: os) fr ah := fun G w a hS R hR hP => by
  have h := rep_lit (hx fr.at (fun _ _ => rfl) G w _ a hS.fr)
  have hw : Region.wanted (⟨dst, .panic x, ty, ps, af, none⟩ : Oper) (yielded ops a.tmps) = true := rfl
  have hrun : (execOp a.eval ⟨dst, .panic x, ty, ps, af, none⟩).run X.P w = .halt (.panic (.iface t pv)) w := by simp [execOp, Instr.panic, h, goPanic]
  unfold wpList
  rw [if_pos hw]
  refine .inl ?_
  unfold Oper.wp
  rw [hrun]
  exact hP _ a w ⟨G, fr, ah, _, _, hS, rfl, .v _ _ (.lit _ rfl), k⟩
/-- A call that panics. -/
theorem awl_callP {dst : Option Tmp} {ty : TypeId} {ps : String} {af : Array Edge} {os : List Oper} {g : FuncId} {xs : Array Operand} {tys : Array TypeId} {args : List D} {pre post : AH} {np : Nat} {r d : D} {upd : AH} (l : List Nat) (hx : EvL fr.at xs.toList (D.rens (rho l) args)) (he : entersB X.P g = true) (hc : Con X.P g args pre np (.pan r) post) (hpre : PreAt (look ah) (rho l) pre)
    (k : Q (.pan d) fr (upd ++ ah)) (hnd : nodupB l = true := by exact rfl) (hB : callB l pre post np X.np = true := by first | rfl | (simp [callB, keys, dom, look, Ob.goes]; done)) (hpl : preLiveB pre = true := by exact rfl) (hal : D.lives (dom pre) args = true := by exact rfl)
    (hu : AH.ren (rho l) post = upd := by first | rfl | (simp only [AH.ren, Ob.ren, D.rens, D.ren] <;> rfl)) (hd : r.ren (rho l) = d := by first | (simp only [D.ren, D.rens] <;> rfl) | rfl) (hn : freshB upd ((keys pre).map (rho l)) ah = true := by exact rfl) :
    awl X ops K Q (⟨dst, .call { callee := .value (.func g), args := xs, argTypes := tys }, ty, ps, af, none⟩ :: os) fr ah := fun G w a hS R hR hP => by
  subst hu hd
  have hw : Region.wanted (⟨dst, .call { callee := .value (.func g), args := xs, argTypes := tys }, ty, ps, af, none⟩ : Oper) (yielded ops a.tmps) = true := rfl
  have hA := hx.rep hS.fr (fun x _ t _ => rfl)
  have hnew := hnew_of (f := fr.at) (m' := look ah) hnd (T := (keys pre).map (rho l)) (post := post) (fun x hx => .inl hx) (fun p hp hT => by
    unfold freshB at hn
    rw [List.all_eq_true] at hn
    have := hn p hp
    simp only [Bool.or_eq_true, List.contains_iff_mem, Option.isNone_iff_eq_none] at this
    rcases this with h | h
    · exact absurd h hT
    · exact h)
  unfold wpList
  rw [if_pos hw]
  refine .inl ?_
  unfold Oper.wp
  rw [run_call_func rfl he, Oper.upon_enter]
  have hus : (xs.toList.map a.eval).toArray = xs.map a.eval := by rw [← Array.toList_map]
  rw [← hus]
  refine (call_main hc l hnd hB hS.ok (fun i o h => hpre.at i o h) hnew (preLive_of hpl) hal _ hA).mono fun e w' ⟨G', h1, h2, h3⟩ => ?_
  cases e with
  | returned v => exact h3.elim
  | panicked c =>
    obtain ⟨v, rfl, h4⟩ := h3
    rw [over_look] at h1 h2 h4
    exact hP _ a w' ⟨G', fr, AH.ren (rho l) post ++ ah, _, v, ⟨h1, hS.fr.ext h2, hS.nt, hS.df.ext h2⟩, rfl, h4, k⟩
  | outgrown => exact h3.elim
end
section
variable {X : Cx} {f : Nat → D} {m : Mem}
def notIface : TypeDesc → Bool
  | .interface _ => false
  | _ => true
/-- A struct of one number, as an interface's value. -/
theorem z_iface {dst : Option Tmp} {ty : TypeId} {ps : String} {af : Array Edge} {gd : Option (Nat × Bool)} {x : Operand} {t : TypeId} {td : TypeDesc} {k : IntKind} {n : Int} (ht : X.P.underlying t = some td) (hd : notIface td = true := by exact rfl) (hx : Ev f x (.agg [.v (.int k n)]) := by exact ev_tmp rfl) :
    StepU X ⟨dst, .makeInterface t x, ty, ps, af, gd⟩ f m (.v (.lit (.iface t (.agg #[.int k n])))) [] [] :=
  stepU_pure fun f' m' hf _ G w a hO hF => by
    have h := ev_at hx (by simp [Op.operands]) hf hF
    have hv : a.eval x = .agg #[.int k n] := by
      generalize a.eval x = u at h
      cases h with
      | agg cs us hl h1 h =>
        have h2 := h 0 (.v (.int k n))
        cases us with
        | nil => simp at hl
        | cons u0 us =>
          cases us with
          | nil => rw [rep_int (h2 u0 rfl rfl)]
          | cons _ _ => simp at hl
    refine ⟨.iface t (.agg #[.int k n]), ?_, .v _ _ (.lit _ rfl)⟩
    simp only [execOp, hv, Instr.makeInterface, Sem.run_bind, run_underlying ht, Result.andThen_ok]
    cases td <;> first | rfl | cases hd
/-- x.(T), x of that type. -/
theorem z_assert {dst : Option Tmp} {ty : TypeId} {ps : String} {af : Array Edge} {gd : Option (Nat × Bool)} {x : Operand} {s t : TypeId} {td : TypeDesc} {k : IntKind} {n : Int} (ht : X.P.underlying t = some td) (hd : notIface td = true := by exact rfl) (hx : Ev f x (.v (.lit (.iface t (.agg #[.int k n])))) := by exact ev_tmp rfl) :
    StepU X ⟨dst, .typeAssert x s t true, ty, ps, af, gd⟩ f m (.tup [.agg [.v (.int k n)], .v (.bool true)]) [] [] :=
  stepU_pure fun f' m' hf _ G w a hO hF => by
    have h := rep_lit (ev_at hx (by simp [Op.operands]) hf hF)
    refine ⟨.tuple #[.agg #[.int k n], .bool true], ?_, .tup _ [.agg #[.int k n], .bool true] rfl fun i d u hd hu => ?_⟩
    · simp only [execOp, h, Instr.typeAssert, Sem.run_bind, run_underlying ht, Result.andThen_ok]
      cases td <;> first | (simp; done) | cases hd
    · match i, hd, hu with
      | 0, hd, hu =>
        simp at hd hu; subst hd hu
        refine .agg _ [.int k n] rfl (by simp; rfl) fun i d u hd hu => ?_
        match i, hd, hu with
        | 0, hd, hu => simp at hd hu; subst hd hu; exact mk_int _ _
      | 1, hd, hu => simp at hd hu; subst hd hu; exact mk_bool _
/-- x != nil, x an interface's value. -/
theorem z_neqI {dst : Option Tmp} {ty : TypeId} {ps : String} {af : Array Edge} {gd : Option (Nat × Bool)} {x : Operand} {s t t' : TypeId} {pv : Value} {ms : Array (String × TypeId)} (hs : X.P.underlying s = some (.interface ms)) (hx : Ev f x (.v (.lit (.iface t pv))) := by exact ev_tmp rfl) :
    StepU X ⟨dst, .binOp .neq s x (.const .nilIface) t', ty, ps, af, gd⟩ f m (.v (.bool true)) [] [] :=
  stepU_pure fun f' m' hf _ G w a hO hF => by
    have h := rep_lit (ev_at hx (by simp [Op.operands]) hf hF)
    refine ⟨.bool true, ?_, mk_bool _⟩
    have hn : a.eval (.const .nilIface) = .nilIface := rfl
    have he : (Op.equal s (.iface t pv) .nilIface).run X.P w = .ok false w := by
      have hd : Op.maxDepth = 9999 + 1 := rfl
      unfold Op.equal
      rw [hd]
      generalize 9999 = d
      rw [Op.equalIn, Sem.run_bind, run_underlying hs, Result.andThen_ok]
      rfl
    simp [execOp, h, hn, eqGuard, binOp, he]
end
/-- Where no range over a function is gone through, no mark is left. -/
theorem St.nomark {X : Cx} {G : Gh} {w : World} {a : Act} {fr : Fm} {ah : AH} (hS : St X G w a fr ah) (h : rfN X.nt = false) : a.defers = X.df := by
  obtain ⟨Ds, h1, _, h3⟩ := hS.df
  cases Ds with
  | nil => exact h1
  | cons D Ds => have := (h3 D List.mem_cons_self).2.2.2; rw [h] at this; cases this
/-- What a deferred closure is, as it lies in wait. -/
structure Waits (Y : Cx) (g : FuncId) (caps : List D) (d : Deferred) (us : List Value) : Prop where
  d : d = { target := .fn (.func g) us.toArray, args := #[] }
  len : us.length = caps.length
  at_ : ∀ (i id off : Nat), caps[i]? = some (.ptr id off) → ∃ q, Y.pin id = some q ∧ us[i]? = some (.pointer (some ⟨q, off, none⟩))
/-- What it captured, as it is known later. -/
theorem Waits.rep {Y : Cx} {g : FuncId} {caps : List D} {d : Deferred} {us : List Value} (h : Waits Y g caps d us) {G : Gh} {w : World} {m : Mem} (hO : Ok Y G w m) (hc : ∀ c ∈ caps, ∃ id off cs, c = .ptr id off ∧ id < Y.np ∧ m id = some (.box cs)) : RepDs G w m caps us := by
  refine ⟨h.len, fun i c u hci hu => ?_⟩
  obtain ⟨id, off, cs, rfl, h1, h2⟩ := hc c (List.mem_of_getElem? hci)
  obtain ⟨q, e1, e2⟩ := h.at_ i id off hci
  rw [hu] at e2; injection e2 with e2; subst e2
  exact .ptr id off q cs h2 ((hO.pin id _ h1 h2 rfl).trans e1)
section
variable {X : Cx} {fr : Fm} {ah : AH} {R : Exit → Act → World → Prop}
/-- The beginning of a body that defers. -/
def awR (X : Cx) (c : Code) (R : Exit → Act → World → Prop) (fr : Fm) (ah : AH) : Prop := ∀ G w a, St X G w a fr ah → c.wp X.P R a w
theorem awR_of {c : Code} {Q : AX → Fm → AH → Prop} (hQ : ∀ e a w, Rel X Q e a w → R e a w) (h : aw X c Q fr ah) : awR X c R fr ah := fun G w a hS => wp_mono (h G w a hS) hQ
theorem awR_region {id : Nat} {l : List Oper} {rest : Code} (h : ∀ K : Fm → AH → Prop, (∀ fr ah, awR X rest R fr ah → K fr ah) → awl X l.toArray K (fun _ _ _ => False) l fr ah) : awR X (.seq (.region id l.toArray false) rest) R fr ah := fun G w a hS =>
  wp_seq (wp_region_lit (h (fun fr ah => awR X rest R fr ah) (fun _ _ h => h) G w a hS _ (fun a w hk => by
    obtain ⟨G, fr, ah, h1, h2⟩ := hk
    exact h2 G w a h1) (fun _ _ _ h => by obtain ⟨_, _, _, _, _, _, _, _, h⟩ := h; exact h.elim)))
/-- defer: from there on the closure lies in wait. -/
theorem awR_defer {id : Nat} {t : Tmp} {g : FuncId} {xs : Array Operand} {caps : List D} {ty ty2 : TypeId} {ps ps2 : String} {af af2 : Array Edge} {rest : Code} (np2 : Nat) (hcaps : EvL fr.at xs.toList caps)
    (k : ∀ (Y : Cx) (d : Deferred) (us : List Value), Waits Y g caps d us → Y.P = X.P → Y.nt = X.nt → Y.w0 = X.w0 → Y.K = X.K → Y.S0 = X.S0 → Y.np = np2 → Y.df = [d] → (∀ i o, i < X.np → look ah i = some o → o.fixed = true → Y.pin i = X.pin i) → awR Y rest R ((t, .fn (.func g) [] caps) :: fr) ah)
    (hrf : rfN X.nt = false := by exact rfl) (hdf : X.df = [] := by exact rfl) (ht : Nat.blt t X.nt = true := by exact rfl) :
    awR X (.seq (.region id #[⟨some t, .makeFunc (.func g) #[] xs, ty, ps, af, none⟩, ⟨none, .defer { callee := .value (.tmp t), args := #[], argTypes := #[] }, ty2, ps2, af2, none⟩] false) rest) R fr ah := fun G w a hS => by
  have ht : t < X.nt := by rw [Nat.blt_eq] at ht; exact ht
  have hA := hcaps.rep hS.fr (fun x _ t _ => rfl)
  have hus : (xs.toList.map a.eval).toArray = xs.map a.eval := by rw [← Array.toList_map]
  let us : List Value := xs.toList.map a.eval
  let d : Deferred := { target := .fn (.func g) us.toArray, args := #[] }
  let Y : Cx := ⟨X.P, X.nt, X.w0, X.K, X.S0, np2, G.μ, [d]⟩
  let u : Value := .func (.func g) #[] us.toArray
  have hd0 : a.defers = [] := (hS.nomark hrf).trans hdf
  have hw : Waits Y g caps d us := ⟨rfl, hA.1, fun i id off hi => by
    have hlt : i < us.length := by rw [hA.1]; exact (List.getElem?_eq_some_iff.1 hi).1
    obtain ⟨q, cs, h1, h2, h3⟩ := rep_ptr (hA.2 i _ us[i] hi (List.getElem?_eq_getElem hlt))
    exact ⟨q, h2, by rw [List.getElem?_eq_getElem hlt, h1]⟩⟩
  have hY := k Y d us hw rfl rfl rfl rfl rfl rfl rfl (fun i o hi ho hf => hS.ok.pin i o hi ho hf)
  have hO : Ok Y G w (look ah) := ⟨hS.ok.ob, hS.ok.inj, hS.ok.apart, hS.ok.low, hS.ok.keep, hS.ok.os, hS.ok.tape, hS.ok.output, hS.ok.size, hS.ok.s0, hS.ok.sk, fun _ _ _ _ _ => rfl, hS.ok.shp⟩
  have hu : (a.put (some t) u).eval (.tmp t) = u := by
    show (a.tmps.setIfInBounds t u).getD t undef = u
    have := hS.nt
    simp [Array.getD_eq_getD_getElem?, Array.getElem?_setIfInBounds, this, ht]
  have fin : rest.wp X.P R { a.put (some t) u with defers := d :: a.defers } w := by
    refine hY G w _ ⟨hO, ?_, ?_, ?_⟩
    · have f1 := hS.fr.put (dst := some t) (d := .fn (.func g) [] caps) (u := u) (.fn _ [] caps [] us rfl hA.1 (fun _ _ _ h => by simp at h) hA.2) fun q hq => by injection hq with hq; subst hq; rw [hS.nt]; exact ht
      have e1 : (pushF fr (some t) (.fn (.func g) [] caps)).at = fput fr.at (some t) (.fn (.func g) [] caps) := pushF_at _ _ _
      rw [← e1] at f1
      exact f1
    · show (a.tmps.setIfInBounds t u).size = X.nt
      rw [Array.size_setIfInBounds]; exact hS.nt
    · exact ⟨[], by rw [hd0]; rfl, List.nodup_nil, fun _ h => by cases h⟩
  refine wp_seq (wp_region_lit (l := [_, _]) ?_)
  have r1 : (execOp a.eval ⟨some t, .makeFunc (.func g) #[] xs, ty, ps, af, none⟩).run X.P w = .ok (.value u) w := by
    have e : (Instr.makeFunc (.func g) #[] us.toArray).run X.P w = .ok u w := rfl
    simp only [execOp, Sem.run_bind, Sem.run_pure, List.map_toArray, List.map_nil, ← hus]
    rfl
  have r2 : (execOp (a.put (some t) u).eval ⟨none, .defer { callee := .value (.tmp t), args := #[], argTypes := #[] }, ty2, ps2, af2, none⟩).run X.P w = .ok (.defer d) w := by
    simp [execOp, resolve, hu, u, Deferred.ofValue, d]
  have w1 : Region.wanted (⟨some t, .makeFunc (.func g) #[] xs, ty, ps, af, none⟩ : Oper) (yielded [(⟨some t, .makeFunc (.func g) #[] xs, ty, ps, af, none⟩ : Oper), ⟨none, .defer { callee := .value (.tmp t), args := #[], argTypes := #[] }, ty2, ps2, af2, none⟩].toArray a.tmps) = true := rfl
  unfold wpList
  rw [if_pos w1]
  refine .inl ?_
  unfold Oper.wp
  rw [r1]
  show wpList X.P _ _ [_] (a.put (some t) u) w
  have w2 : Region.wanted (⟨none, .defer { callee := .value (.tmp t), args := #[], argTypes := #[] }, ty2, ps2, af2, none⟩ : Oper) (yielded [(⟨some t, .makeFunc (.func g) #[] xs, ty, ps, af, none⟩ : Oper), ⟨none, .defer { callee := .value (.tmp t), args := #[], argTypes := #[] }, ty2, ps2, af2, none⟩].toArray (a.put (some t) u).tmps) = true := rfl
  unfold wpList
  rw [if_pos w2]
  refine .inl ?_
  unfold Oper.wp
  rw [r2]
  exact fin
end
theorem wpOpsSIn_value {F : Fence} {n : Nat} {P : Program} {ops : Array Oper} {Q : Exit → Act → List Frame → World → Prop} {i : Nat} {rest : List Nat} {a : Act} {cs : List Frame} {w w' : World} {o : Oper} {v : Value} (ho : ops[i]? = some o) (hw : Region.wanted o (yielded ops a.tmps) = true) (ha : ∀ f, o.about P w a.eval = some f → F.fn f)
    (hr : (execOp a.eval o).run P w = .ok (.value v) w') (k : wpOpsSIn F n P ops Q rest (a.put o.dst v) cs w') : wpOpsSIn F n P ops Q (i :: rest) a cs w := by
  unfold wpOpsSIn
  rw [ho]
  refine ⟨ha, ?_⟩
  rw [if_pos hw, hr]
  exact k
theorem wpOpsSIn_recover {F : Fence} {n : Nat} {P : Program} {ops : Array Oper} {Q : Exit → Act → List Frame → World → Prop} {i : Nat} {rest : List Nat} {a : Act} {cs cs' : List Frame} {w w' : World} {o : Oper} {v : Value} (ho : ops[i]? = some o) (hw : Region.wanted o (yielded ops a.tmps) = true) (ha : ∀ f, o.about P w a.eval = some f → F.fn f)
    (hr : (execOp a.eval o).run P w = .ok .recover w') (hc : recoverD cs = some (v, cs') ∨ (recoverD cs = none ∧ cs' = cs ∧ v = .nilIface)) (k : wpOpsSIn F n P ops Q rest (a.put o.dst v) cs' w') : wpOpsSIn F n P ops Q (i :: rest) a cs w := by
  unfold wpOpsSIn
  rw [ho]
  refine ⟨ha, ?_⟩
  rw [if_pos hw, hr]
  rcases hc with hc | ⟨hc, rfl, rfl⟩
  · simp only [hc]; exact k
  · simp only [hc]; exact k
/-- The contract of a deferred closure. -/
def ConD (P : Program) (g : FuncId) (caps : List D) (pre : AH) (np : Nat) (u u' : FrameMode) (post : AH) : Prop :=
  ∀ (K : Nat → Prop) (G : Gh) (w : World) (us : List Value), (∀ g, G.S g → K g) → Ok ⟨P, 0, w, K, G.S, np, G.μ, []⟩ G w (look pre) → RepDs G w (look pre) caps us →
    CallsDIn Fence.wide 0 P g us.toArray u w fun e u1 w' => e = .returned (.tuple #[]) ∧ u1 = u' ∧ ∃ G', Ok ⟨P, 0, w, K, G.S, np, G.μ, []⟩ G' w' (look post)
theorem conD_of {P : Program} {g : FuncId} {fn : Func} {rest : Code} {caps : List D} {pre post : AH} {np : Nat} {u u' : FrameMode} {rv : Value} {id : Nat} {t6 t3 : Tmp} {ty ty2 : TypeId} {ps ps2 : String} {af af2 : Array Edge} {tys : Array TypeId} (hf : P.funcs[g]? = some fn)
    (hb : fn.body = some (.seq (.region id #[⟨some t6, .call { callee := .builtin .recover, args := #[], argTypes := tys }, ty, ps, af, none⟩, ⟨some t3, .assign (.tmp t6), ty2, ps2, af2, none⟩] false) rest)) (hargs : caps.length ≤ fn.ntmps) (h6 : t6 < fn.ntmps) (h3 : t3 < fn.ntmps) (hres : fn.results = #[]) (hrf : rfN fn.ntmps = false) (hone : rv.oneCell' = true)
    (hu : (u = .returning ∧ u' = .returning ∧ rv = .nilIface) ∨ (u = .panicking [{ v := rv, recovered := false }] ∧ u' = .panicking [{ v := rv, recovered := true }]))
    (h : ∀ (X : Cx) (Q : AX → Fm → AH → Prop), X.P = P → X.nt = fn.ntmps → X.np = np → (∀ fr ah, KeepA ah (dom post) post → Q .ret fr ah ∧ Q .normal fr ah) → aw X rest Q ((t3, .v (.lit rv)) :: (t6, .v (.lit rv)) :: argsFr 0 caps) pre) : ConD P g caps pre np u u' post := by
  intro K G w us hK hO hA
  refine callsDIn_of_wpSIn hf hb trivial fun c₀ cs hm => ?_
  apply wpSIn_seq
  apply wpSIn_region
  have hsz : (us.toArray ++ Array.replicate (fn.ntmps - us.toArray.size) undef).size = fn.ntmps := by simp; have := hA.1; omega
  let a0 : Act := { tmps := us.toArray ++ Array.replicate (fn.ntmps - us.toArray.size) undef, defers := [] }
  let X : Cx := ⟨P, fn.ntmps, w, K, G.S, np, G.μ, []⟩
  let Q : AX → Fm → AH → Prop := fun e fr ah => match e with
    | .ret | .normal => KeepA ah (dom post) post
    | _ => False
  have hw := h X Q rfl rfl rfl (fun fr ah e => ⟨e, e⟩)
  let a2 : Act := (a0.put (some t6) rv).put (some t3) rv
  have hS : St X G w a2 ((t3, .v (.lit rv)) :: (t6, .v (.lit rv)) :: argsFr 0 caps) pre := by
    refine ⟨hO.nt _, ?_, ?_, DfOk.nil⟩
    · have f0 : FrOk G w (look pre) (argsFr 0 caps).at a0 := fun t => by
        unfold Fm.at
        rw [argsFr_look]
        simp only [Nat.zero_le, if_true, Nat.sub_zero]
        cases hd : caps[t]? with
        | none => exact .any _
        | some d =>
          have hlt : t < us.length := by rw [hA.1]; exact (List.getElem?_eq_some_iff.1 hd).1
          refine hA.2 t d _ hd ?_
          show us[t]? = some ((us.toArray ++ Array.replicate (fn.ntmps - us.toArray.size) undef).getD t undef)
          rw [Array.getD_eq_getD_getElem?, Array.getElem?_append_left (by simpa using hlt)]
          simp [hlt]
      have f1 := f0.put (dst := some t6) (d := .v (.lit rv)) (u := rv) (.v _ _ (.lit _ hone)) fun q hq => by injection hq with hq; subst hq; show t6 < (us.toArray ++ _).size; rw [hsz]; exact h6
      have f2 := f1.put (dst := some t3) (d := .v (.lit rv)) (u := rv) (.v _ _ (.lit _ hone)) fun q hq => by
        injection hq with hq; subst hq
        show t3 < ((us.toArray ++ _).setIfInBounds t6 rv).size
        rw [Array.size_setIfInBounds, hsz]; exact h3
      have e1 : (pushF (pushF (argsFr 0 caps) (some t6) (.v (.lit rv))) (some t3) (.v (.lit rv))).at = fput (fput (argsFr 0 caps).at (some t6) (.v (.lit rv))) (some t3) (.v (.lit rv)) := by rw [pushF_at, pushF_at]
      rw [← e1] at f2
      exact f2
    · show (((us.toArray ++ Array.replicate (fn.ntmps - us.toArray.size) undef).setIfInBounds t6 rv).setIfInBounds t3 rv).size = _
      rw [Array.size_setIfInBounds, Array.size_setIfInBounds]; exact hsz
  have body : rest.wpSIn Fence.wide 0 P (bodyPostS P fn c₀ cs fun e u1 w' => e = .returned (.tuple #[]) ∧ u1 = u' ∧ ∃ G', Ok ⟨P, 0, w, K, G.S, np, G.μ, []⟩ G' w' (look post)) a2 ({ c₀ with mode := u' } :: cs) w := by
    refine wpSIn_of_wpIn rfl (wpIn_wide.2 (wp_mono (hw G w a2 hS) fun e a3 w3 q => ?_))
    have fin : ∀ G3 fr3 ah3, St X G3 w3 a3 fr3 ah3 → KeepA ah3 (dom post) post → bodyPostS P fn c₀ cs (fun e u1 w' => e = .returned (.tuple #[]) ∧ u1 = u' ∧ ∃ G', Ok ⟨P, 0, w, K, G.S, np, G.μ, []⟩ G' w' (look post)) .normal a3 ({ c₀ with mode := u' } :: cs) w3 := fun G3 fr3 ah3 hS3 hk => by
      refine ⟨hS3.nomark hrf, u', rfl, .tuple #[], ?_, rfl, rfl, G3, (hS3.ok.keepA hk).1.nt 0⟩
      simp [results, hres]
    cases e with
    | normal => obtain ⟨G3, fr3, ah3, h1, h2⟩ := q; exact fin G3 fr3 ah3 h1 h2
    | ret => obtain ⟨G3, fr3, ah3, h1, h2⟩ := q; exact fin G3 fr3 ah3 h1 h2
    | exit id => obtain ⟨_, _, _, _, hq⟩ := q; exact hq.elim
    | goto l => obtain ⟨_, _, _, _, hq⟩ := q; exact hq.elim
    | panic ch => obtain ⟨_, _, _, _, _, _, _, _, hq⟩ := q; exact hq.elim
    | outgrown => exact q.elim
  have r1 : ∀ (ρ : Operand → Value), (execOp ρ ⟨some t6, .call { callee := .builtin .recover, args := #[], argTypes := tys }, ty, ps, af, none⟩).run P w = .ok .recover w := fun ρ => by simp [execOp, resolve, invoke, builtin]
  have hu6 : (a0.put (some t6) rv).eval (.tmp t6) = rv := by
    show ((us.toArray ++ Array.replicate (fn.ntmps - us.toArray.size) undef).setIfInBounds t6 rv).getD t6 undef = rv
    have : t6 < (us.toArray ++ Array.replicate (fn.ntmps - us.toArray.size) undef).size := by rw [hsz]; exact h6
    rw [Array.getD_eq_getD_getElem?, Array.getElem?_setIfInBounds_self_of_lt this]; rfl
  have r2 : (execOp (a0.put (some t6) rv).eval ⟨some t3, .assign (.tmp t6), ty2, ps2, af2, none⟩).run P w = .ok (.value rv) w := by simp only [execOp, hu6, Sem.run_pure]
  have tail : wpOpsSIn Fence.wide 0 P #[⟨some t6, .call { callee := .builtin .recover, args := #[], argTypes := tys }, ty, ps, af, none⟩, ⟨some t3, .assign (.tmp t6), ty2, ps2, af2, none⟩] (Exit.thenS (rest.wpSIn Fence.wide 0 P (bodyPostS P fn c₀ cs fun e u1 w' => e = .returned (.tuple #[]) ∧ u1 = u' ∧ ∃ G', Ok ⟨P, 0, w, K, G.S, np, G.μ, []⟩ G' w' (look post))) (bodyPostS P fn c₀ cs fun e u1 w' => e = .returned (.tuple #[]) ∧ u1 = u' ∧ ∃ G', Ok ⟨P, 0, w, K, G.S, np, G.μ, []⟩ G' w' (look post))) [1] (a0.put (some t6) rv) ({ c₀ with mode := u' } :: cs) w := by
    exact wpOpsSIn_value rfl rfl (fun f _ => trivial) r2 body
  show wpOpsSIn _ _ _ _ _ [0, 1] a0 (c₀ :: cs) w
  rcases hu with ⟨rfl, rfl, rfl⟩ | ⟨rfl, rfl⟩
  · have e1 : recoverD (c₀ :: cs) = none := by simp only [recoverD, hm]
    have e2 : ({ c₀ with mode := .returning } : Frame) = c₀ := by rw [← hm]
    rw [e2] at tail
    exact wpOpsSIn_recover rfl rfl (fun f _ => trivial) (r1 _) (.inr ⟨e1, rfl, rfl⟩) tail
  · have e1 : recoverD (c₀ :: cs) = some (rv, { c₀ with mode := .panicking [{ v := rv, recovered := true }] } :: cs) := by simp only [recoverD, hm]
    exact wpOpsSIn_recover rfl rfl (fun f _ => trivial) (r1 _) (.inl e1) tail
/-- What the rest of a body that recovers must come to. -/
def recQ (P : Program) (rs : List ResultVar) (Y : Cx) (g : FuncId) (caps : List D) (dr : D) (post : AH) : AX → Fm → AH → Prop := fun e fr ah => match e with
  | .ret | .normal => ∃ ds, ResIs P fr ah rs ds ∧ retD ds = dr ∧ KeepA ah (dom post) post ∧ dr.live (dom post) = true
  | .pan d => ∃ (v : Value) (l : List Nat) (cpre cpost : AH) (npc : Nat) (cc : List D) (ds : List D), d = .v (.lit v) ∧ ConD P g cc cpre npc (.panicking [{ v, recovered := false }]) (.panicking [{ v, recovered := true }]) cpost ∧ D.rens (rho l) cc = caps ∧ (∀ c ∈ caps, ∃ id off cs, c = .ptr id off ∧ id < Y.np ∧ look ah id = some (.box cs)) ∧ PreAt (look ah) (rho l) cpre ∧ nodupB l = true ∧ callB l cpre cpost npc Y.np = true ∧ preLiveB cpre = true ∧ D.lives (dom cpre) cc = true ∧
      freshB (AH.ren (rho l) cpost) ((keys cpre).map (rho l)) ah = true ∧ ResIs P fr (AH.ren (rho l) cpost ++ ah) rs ds ∧ retD ds = dr ∧ KeepA (AH.ren (rho l) cpost ++ ah) (dom post) post ∧ dr.live (dom post) = true
  | _ => False
theorem run_invoke {P : Program} {g : FuncId} {us : Array Value} {w : World} (he : entersB P g = true) : (invoke (.fn (.func g) us) #[]).run P w = .ok (.enter g us) w := by
  have h1 : (invoke (.fn (.func g) us) #[]).run P w = (callFunc g us).run P w := by simp [invoke]
  rw [h1, run_enters he]
theorem RepDs.anys {G : Gh} {w : World} {m : Mem} {ρ : Nat → Nat} : ∀ {caps : List D} {us : List Value}, us.length = caps.length → RepDs G w m (D.rens ρ (caps.map fun _ => .any)) us
  | [], us, h => by obtain rfl := List.eq_nil_of_length_eq_zero h; exact .nil
  | c :: caps, [], h => by cases h
  | c :: caps, u :: us, h => .cons (.any u) (RepDs.anys (by simpa using h))
theorem lives_anys {k : Nat → Bool} : ∀ caps : List D, D.lives k (caps.map fun _ => .any) = true
  | [] => rfl
  | c :: caps => by simp [D.lives, D.live, lives_anys caps]
/-- The contract of a function that recovers. -/
theorem con_rec {P : Program} {f : FuncId} {fn : Func} {c : Code} {args : List D} {pre post : AH} {np : Nat} {dr : D} (hf : P.funcs[f]? = some fn) (hb : fn.body = some c) (hargs : args.length ≤ fn.ntmps) (hrf : rfN fn.ntmps = false)
    (h : ∀ (X : Cx) (R : Exit → Act → World → Prop), X.P = P → X.nt = fn.ntmps → X.np = np → X.df = [] →
      (∀ (Y : Cx) (g : FuncId) (caps : List D) (d : Deferred) (us : List Value), Waits Y g caps d us → Y.P = X.P → Y.nt = X.nt → Y.w0 = X.w0 → Y.K = X.K → Y.S0 = X.S0 → Y.df = [d] → entersB P g = true → ConD P g (caps.map fun _ => .any) [] 0 .returning .returning [] →
        (∀ i o, i < np → look post i = some o → o.fixed = true → i < Y.np ∧ Y.pin i = X.pin i) → ∀ e a w, Rel Y (recQ P fn.results.toList Y g caps dr post) e a w → R e a w) → awR X c R (argsFr 0 args) pre) : Con P f args pre np (.ret dr) post := by
  intro K G w us hSK hO hA
  refine callsIn_wide.1 (callsIn_of_wp_marks (n := 0) hf hb trivial (wpIn_wide.2 ?_) rfl)
  have hsz : (us.toArray ++ Array.replicate (fn.ntmps - us.toArray.size) undef).size = fn.ntmps := by simp; have := hA.1; omega
  refine h ⟨P, fn.ntmps, w, K, G.S, np, G.μ, []⟩ _ rfl rfl rfl rfl (fun Y g caps d cu hW e1 e2 e3 e4 e5 e6 heg hidle hpin e a2 w2 hq => ?_) G w { tmps := us.toArray ++ Array.replicate (fn.ntmps - us.toArray.size) undef, defers := [] } ⟨hO.nt _, fun t => ?_, hsz, DfOk.nil⟩
  · obtain ⟨P', nt', w0', K', S0', np', pin', df'⟩ := Y
    simp only at e1 e2 e3 e4 e5 e6
    subst e1 e2 e3 e4 e5 e6
    have fin0 : ∀ (a : Act) (w' : World) G' fr ah, Ok ⟨P', fn.ntmps, w0', K', G.S, np', pin', [d]⟩ G' w' (look ah) → FrOk G' w' (look ah) fr.at a → ∀ ds, ResIs P' fr ah fn.results.toList ds → retD ds = dr → KeepA ah (dom post) post → dr.live (dom post) = true →
        ∃ v, (results fn a.tmps).run P' w' = .ok v w' ∧ ∃ G', Ok ⟨P', 0, w0', K', G.S, np, G.μ, []⟩ G' w' (look post) ∧ OutAt G' w' (look post) (.ret dr) (.returned v) := by
      intro a w' G' fr ah hok hfr ds q1 q2 q3 q4
      obtain ⟨vs, h1, h2⟩ := run_results hok hfr q1
      obtain ⟨h3, h4⟩ := hok.keepA q3
      refine ⟨_, run_results_of h1, G', ⟨h3.ob, h3.inj, h3.apart, h3.low, h3.keep, h3.os, h3.tape, h3.output, h3.size, h3.s0, h3.sk, fun i o hi ho hfx => ?_, h3.shp⟩, ?_⟩
      · obtain ⟨p1, p2⟩ := hpin i o hi ho hfx
        exact (h3.pin i o p1 ho hfx).trans p2
      · have h5 : RepD G' w' (look ah) dr (retV vs) := by
          subst q2
          exact rep_ret h2
        exact h5.part h4 q4
    have last : ∀ (a : Act) (w' : World) G' fr ah (u : FrameMode), settle u = .returning → Ok ⟨P', fn.ntmps, w0', K', G.S, np', pin', [d]⟩ G' w' (look ah) → FrOk G' w' (look ah) fr.at a → ∀ ds, ResIs P' fr ah fn.results.toList ds → retD ds = dr → KeepA ah (dom post) post → dr.live (dom post) = true →
        LeavesInM Fence.wide 0 P' fn a.tmps (fun e w' => ∃ G', Ok ⟨P', 0, w0', K', G.S, np, G.μ, []⟩ G' w' (look post) ∧ OutAt G' w' (look post) (.ret dr) e) [] (settle u) w' := by
      intro a w' G' fr ah u hu hok hfr ds q1 q2 q3 q4
      rw [hu]
      exact fin0 a w' G' fr ah hok hfr ds q1 q2 q3 q4
    have normal : ∀ G' fr ah, St ⟨P', fn.ntmps, w0', K', G.S, np', pin', [d]⟩ G' w2 a2 fr ah → (∃ ds, ResIs P' fr ah fn.results.toList ds ∧ retD ds = dr ∧ KeepA ah (dom post) post ∧ dr.live (dom post) = true) →
        LeavesInM Fence.wide 0 P' fn a2.tmps (fun e w' => ∃ G', Ok ⟨P', 0, w0', K', G.S, np, G.μ, []⟩ G' w' (look post) ∧ OutAt G' w' (look post) (.ret dr) e) a2.defers .returning w2 := by
      intro G' fr ah hS ⟨ds, q1, q2, q3, q4⟩
      rw [hS.nomark hrf]
      refine ⟨(fun h => by cases h), .inr ⟨(fun h => by cases h), .func g, cu.toArray, g, cu.toArray, by rw [hW.d], by rw [hW.d]; exact run_invoke heg, fun _ _ => trivial, ?_⟩⟩
      refine CallsDIn.mono (call_mainR (X := ⟨P', fn.ntmps, w0', K', G.S, np', pin', [d]⟩) (Run := fun Rn => CallsDIn Fence.wide 0 P' g cu.toArray .returning w2 fun e u1 w' => (e = .returned (.tuple #[]) ∧ u1 = .returning) ∧ Rn e w') (args := caps.map fun _ => .any) (pre := []) (post := []) (np := 0) (out := .ret (.tup [])) (m := look ah) (us := cu)
        (fun R R' hr hc => CallsDIn.mono hc fun e u1 w' ⟨k1, k2⟩ => ⟨k1, hr _ _ k2⟩) [] (fun K2 H _ h1 _ _ _ h2 h3 => CallsDIn.mono (hidle K2 H w2 cu h1 h2 h3) fun e u1 w' ⟨k1, k2, G3, k3⟩ => ⟨⟨k1, k2⟩, G3, k3, by subst k1; exact .tup [] [] rfl fun _ _ _ h => by simp at h⟩)
        rfl rfl hS.ok (fun i o h => by cases h) (fun i h => by cases h) (fun i cs h => by cases h) (lives_anys caps) (RepDs.anys hW.len)) fun e u1 w' ⟨⟨k1, k2⟩, G3, k3, k4, _⟩ => ?_
      subst k1 k2
      exact last a2 w' G3 fr ah .returning rfl (by simpa [AH.ren, over_nil] using k3) (by have := hS.fr.ext k4; simpa [AH.ren, over_nil] using this) ds q1 q2 q3 q4
    cases e with
    | normal => obtain ⟨G', fr, ah, hS, q⟩ := hq; exact normal G' fr ah hS q
    | ret => obtain ⟨G', fr, ah, hS, q⟩ := hq; exact normal G' fr ah hS q
    | exit id => obtain ⟨_, _, _, _, hq⟩ := hq; exact hq.elim
    | goto l => obtain ⟨_, _, _, _, hq⟩ := hq; exact hq.elim
    | outgrown => exact hq.elim
    | panic ch =>
      obtain ⟨G', fr, ah, d1, v1, hS, rfl, hv, v, l, cpre, cpost, npc, cc, ds, rfl, hcon, hcc, hat, hpre, hnd, hB, hpl, hal, hn, q1, q2, q3, q4⟩ := hq
      obtain rfl := rep_lit hv
      show LeavesInM _ _ _ _ _ _ a2.defers _ _
      rw [hS.nomark hrf]
      refine ⟨(fun h => by cases h), .inr ⟨(fun h => by cases h), .func g, cu.toArray, g, cu.toArray, by rw [hW.d], by rw [hW.d]; exact run_invoke heg, fun _ _ => trivial, ?_⟩⟩
      have hnew := hnew_of (f := fr.at) (m' := look ah) hnd (T := (keys cpre).map (rho l)) (post := cpost) (fun x hx => .inl hx) (fun p hp hT => by
        unfold freshB at hn
        rw [List.all_eq_true] at hn
        have := hn p hp
        simp only [Bool.or_eq_true, List.contains_iff_mem, Option.isNone_iff_eq_none] at this
        rcases this with h | h
        · exact absurd h hT
        · exact h)
      refine CallsDIn.mono (call_mainR (X := ⟨P', fn.ntmps, w0', K', G.S, np', pin', [d]⟩) (Run := fun Rn => CallsDIn Fence.wide 0 P' g cu.toArray (.panicking [{ v := v1, recovered := false }]) w2 fun e u1 w' => (e = .returned (.tuple #[]) ∧ u1 = .panicking [{ v := v1, recovered := true }]) ∧ Rn e w') (args := cc) (pre := cpre) (post := cpost) (np := npc) (out := .ret (.tup [])) (m := look ah) (us := cu)
        (fun R R' hr hc => CallsDIn.mono hc fun e u1 w' ⟨k1, k2⟩ => ⟨k1, hr _ _ k2⟩) l (fun K2 H _ h1 _ _ _ h2 h3 => CallsDIn.mono (hcon K2 H w2 cu h1 h2 h3) fun e u1 w' ⟨k1, k2, G3, k3⟩ => ⟨⟨k1, k2⟩, G3, k3, by subst k1; exact .tup [] [] rfl fun _ _ _ h => by simp at h⟩)
        hnd hB hS.ok (fun i o h => hpre.at i o h) hnew (preLive_of hpl) hal (by rw [hcc]; exact hW.rep hS.ok hat)) fun e u1 w' ⟨⟨k1, k2⟩, G3, k3, k4, _⟩ => ?_
      subst k1 k2
      rw [over_look] at k3 k4
      exact last a2 w' G3 fr _ _ rfl k3 (hS.fr.ext k4) ds q1 q2 q3 q4
  · unfold Fm.at
    rw [argsFr_look]
    simp only [Nat.zero_le, if_true, Nat.sub_zero]
    cases hd : args[t]? with
    | none => exact .any _
    | some d =>
      have hlt : t < us.length := by rw [hA.1]; exact (List.getElem?_eq_some_iff.1 hd).1
      refine hA.2 t d _ hd ?_
      rw [Array.getD_eq_getD_getElem?, Array.getElem?_append_left (by simpa using hlt)]
      simp [hlt]
end Go.Proofs.YthflfnehdlpmdaaDoor
