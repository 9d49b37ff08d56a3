/- Abstract states: a row begins anew; a cell told otherwise; a closure's call that panics; min. No program, no condition. -/
import Derived.Test.YthflfnehdlpmdaaDoorBm
namespace Go.Proofs.YthflfnehdlpmdaaDoor
set_option linter.all false
open Go Go.RowKit
mutual
/-- A row begins anew where it lies; the empty views on its beginning stay. -/
def D.shrt (id v v' : Nat) : D → D
  | .v x => .v x
  | .agg cs => .agg (D.shrts id v v' cs)
  | .tup ds => .tup (D.shrts id v v' ds)
  | .ptr i off => .ptr i off
  | .view i w off len => bif Nat.beq i id then (bif (Nat.beq w v && Nat.beq off 0 && Nat.beq len 0) then .view i v' 0 0 else .any) else .view i w off len
  | .vptr i w a b => bif Nat.beq i id then .any else .vptr i w a b
  | .ref cs => .ref cs
  | .fn f a b => .fn f (D.shrts id v v' a) (D.shrts id v v' b)
  | .mref i => .mref i
  | .cond b d => .cond b (D.shrt id v v' d)
  | .any => .any
def D.shrts (id v v' : Nat) : List D → List D
  | [] => []
  | d :: ds => D.shrt id v v' d :: D.shrts id v v' ds
end
theorem D.shrts_map (id v v' : Nat) : ∀ ds : List D, D.shrts id v v' ds = ds.map (D.shrt id v v')
  | [] => rfl
  | d :: ds => by simp [D.shrts, D.shrts_map id v v' ds]
def Ob.shrt (id v v' i : Nat) : Ob → Ob
  | .box cs => .box (D.shrts id v v' cs)
  | .row w n e c => .row (bif Nat.beq i id then v' else w) n e (bif Nat.beq i id then [] else c)
  | .mp a l => .mp a l
def AH.shrt (id v v' : Nat) : AH → AH
  | [] => []
  | (i, o) :: r => (i, o.shrt id v v' i) :: AH.shrt id v v' r
def Fm.shrt (id v v' : Nat) : Fm → Fm
  | [] => []
  | (t, d) :: r => (t, d.shrt id v v') :: Fm.shrt id v v' r
theorem AH.shrt_look (id v v' i : Nat) : ∀ ah : AH, look (AH.shrt id v v' ah) i = (look ah i).map (Ob.shrt id v v' i)
  | [] => rfl
  | (k, o) :: r => by
    by_cases h : k = i
    · subst h; simp only [AH.shrt]; rw [look_cons_self, look_cons_self]; rfl
    · simp only [AH.shrt]; rw [look_cons_ne _ _ h, look_cons_ne _ _ h, AH.shrt_look id v v' i r]
theorem Fm.shrt_look (id v v' t : Nat) : ∀ fr : Fm, look (Fm.shrt id v v' fr) t = (look fr t).map (D.shrt id v v')
  | [] => rfl
  | (k, o) :: r => by
    by_cases h : k = t
    · subst h; simp only [Fm.shrt]; rw [look_cons_self, look_cons_self]; rfl
    · simp only [Fm.shrt]; rw [look_cons_ne _ _ h, look_cons_ne _ _ h, Fm.shrt_look id v v' t r]
section
variable {X : Cx} {fr : Fm} {ah : AH} {id v n : Nat} {e : TypeId} {c : List (List V)}
theorem RepD.shrt (v' : Nat) (hm : look ah id = some (.row v n e c)) {G : Gh} {w : World} {d : D} {u : Value} (h : RepD G w (look ah) d u) : RepD G w (look (AH.shrt id v v' ah)) (d.shrt id v v') u := by
  have hrow : ∀ i q n' e' c', look ah i = some (.row q n' e' c') → look (AH.shrt id v v' ah) i = some (.row (bif Nat.beq i id then v' else q) n' e' (bif Nat.beq i id then [] else c')) := fun i q n' e' c' h => by rw [AH.shrt_look, h]; rfl
  have hbox : ∀ i cs, look ah i = some (.box cs) → look (AH.shrt id v v' ah) i = some (.box (D.shrts id v v' cs)) := fun i cs h => by rw [AH.shrt_look, h]; rfl
  induction h with
  | v x u h => exact .v x u h
  | agg cs us hl h1 h ih =>
    simp only [D.shrt]
    refine .agg _ us (by rw [hl, D.shrts_map]; simp) h1 fun i d u hd hu => ?_
    rw [D.shrts_map, List.getElem?_map] at hd
    cases hc : cs[i]? with
    | none => rw [hc] at hd; cases hd
    | some d0 => rw [hc] at hd; injection hd with hd; subst hd; exact ih i d0 u hc hu
  | tup ds us hl h ih =>
    simp only [D.shrt]
    refine .tup _ us (by rw [hl, D.shrts_map]; simp) fun i d u hd hu => ?_
    rw [D.shrts_map, List.getElem?_map] at hd
    cases hc : ds[i]? with
    | none => rw [hc] at hd; cases hd
    | some d0 => rw [hc] at hd; injection hd with hd; subst hd; exact ih i d0 u hc hu
  | ptr i off g cs h hg => exact .ptr i off g _ (hbox i cs h) hg
  | view i q off len u q' n' e' c' h hv h1 h2 =>
    simp only [D.shrt]
    by_cases hi : i = id
    · subst hi
      rw [Nat.beq_refl]
      rw [hm] at h; injection h with h; injection h with a1 a2 a3 a4; subst a1 a2 a3 a4
      by_cases hq : q = v ∧ off = 0 ∧ len = 0
      · obtain ⟨rfl, rfl, rfl⟩ := hq
        simp only [Nat.beq_refl, Bool.and_self, cond_true]
        have := hrow i _ _ _ _ hm
        rw [Nat.beq_refl] at this
        exact .view i v' 0 0 u v' n e [] this (Nat.le_refl _) h1 fun _ => ⟨by simp, (h2 rfl).2⟩
      · have hb : (Nat.beq q v && Nat.beq off 0 && Nat.beq len 0) = false := by
          rw [Bool.eq_false_iff]
          intro hh
          simp only [Bool.and_eq_true] at hh
          exact hq ⟨Nat.eq_of_beq_eq_true hh.1.1, Nat.eq_of_beq_eq_true hh.1.2, Nat.eq_of_beq_eq_true hh.2⟩
        simp only [cond_true, hb, cond_false]; exact .any _
    · simp only [beq_no hi, cond_false]
      have := hrow i _ _ _ _ h
      rw [beq_no hi] at this
      exact .view i q off len u q' n' e' c' this hv h1 h2
  | vptr i q a b u q' n' e' c' h hv h1 h2 =>
    simp only [D.shrt]
    by_cases hi : i = id
    · subst hi
      rw [Nat.beq_refl]
      exact .any _
    · simp only [beq_no hi, cond_false]
      have := hrow i _ _ _ _ h
      rw [beq_no hi] at this
      exact .vptr i q a b u q' n' e' c' this hv h1 h2
  | ref cs g o us hz hc hr => exact .ref cs g o us hz hc hr
  | mref i g a l h hg => exact .mref i g a l (by rw [AH.shrt_look, h]; rfl) hg
  | fn f first caps us vs hl hl' h h' ih ih' =>
    simp only [D.shrt]
    refine .fn f _ _ us vs (by rw [hl, D.shrts_map]; simp) (by rw [hl', D.shrts_map]; simp) (fun i d u hd hu => ?_) (fun i d u hd hu => ?_)
    · rw [D.shrts_map, List.getElem?_map] at hd
      cases hc : first[i]? with
      | none => rw [hc] at hd; cases hd
      | some d0 => rw [hc] at hd; injection hd with hd; subst hd; exact ih i d0 u hc hu
    · rw [D.shrts_map, List.getElem?_map] at hd
      cases hc : caps[i]? with
      | none => rw [hc] at hd; cases hd
      | some d0 => rw [hc] at hd; injection hd with hd; subst hd; exact ih' i d0 u hc hu
  | cond b d u h h0 ih => exact .cond b _ u ih h0
  | any u => exact .any u
theorem weak_short (id : Nat) {v : Nat} (v' : Nat) (hm : look ah id = some (.row v n e c)) : Weak X fr ah (Fm.shrt id v v' fr) (AH.shrt id v v' ah) := fun G w a hS => by
  have hne : ∀ i, look (AH.shrt id v v' ah) i ≠ none → look ah i ≠ none := fun i h h' => h (by rw [AH.shrt_look, h']; rfl)
  refine ⟨G, ⟨fun i o ho => ?_, fun i j g hi hj => hS.ok.inj i j g (hne i hi) (hne j hj), fun i g hi => hS.ok.apart i g (hne i hi), hS.ok.low, hS.ok.keep, hS.ok.os, hS.ok.tape, hS.ok.output, hS.ok.size, hS.ok.s0, hS.ok.sk, fun i oo hi ho hfx => ?_, hS.ok.shp⟩, fun t => ?_, hS.nt, hS.df⟩
  · rw [AH.shrt_look] at ho
    cases hl : look ah i with
    | none => rw [hl] at ho; cases ho
    | some o' =>
      rw [hl] at ho; injection ho with ho; subst ho
      have h1 := hS.ok.ob i o' hl
      cases o' with
      | box cs =>
        obtain ⟨g, us, t, h2, h3, h4, h5⟩ := h1
        refine ⟨g, us, t, h2, h3, h4, by rw [h5.1, D.shrts_map]; simp, fun j d u hd hu => ?_⟩
        rw [D.shrts_map, List.getElem?_map] at hd
        cases hc : cs[j]? with
        | none => rw [hc] at hd; cases hd
        | some d0 => rw [hc] at hd; injection hd with hd; subst hd; exact (h5.2 j d0 u hc hu).shrt v' hm
      | row q n' e' c' =>
        show RowAt G w i n' e' (bif Nat.beq i id then [] else c')
        cases Nat.beq i id with
        | false => exact h1
        | true =>
          obtain ⟨k1, k2, k3, k4, k5⟩ := h1
          refine ⟨by simp, k2, by simp, k4, ?_⟩
          rcases k5 with k5 | ⟨g, cur, us, fz, e0, q1, q2, q3, q4, q5, q6⟩
          · exact .inl k5
          · exact .inr ⟨g, cur, us, fz, e0, q1, q2, q3, q4, fun i j x hx => by simp [elem?] at hx, fun i j x hx => by simp [elem?] at hx⟩
      | mp a l => exact h1
  · rw [AH.shrt_look] at ho
    cases hl : look ah i with
    | none => rw [hl] at ho; cases ho
    | some o' =>
      rw [hl] at ho; injection ho with ho
      subst ho
      exact hS.ok.pin i o' hi hl (by cases o' <;> first | rfl | cases hfx)
  · have h1 := hS.fr t
    unfold Fm.at at h1 ⊢
    rw [Fm.shrt_look]
    cases hl : look fr t with
    | none => rw [hl] at h1; exact .any _
    | some d => rw [hl] at h1; exact h1.shrt v' hm
end
section
variable {X : Cx} {fr : Fm} {ah : AH}
/-- A row begins anew; what spoke of it says nothing. -/
theorem weak_anew (id : Nat) {v n : Nat} {e : TypeId} {c : List (List V)} (hid : look ah id = some (.row v n e c)) : Weak X fr ah fr ((id, .row (v + 1) n e []) :: ah) := fun G w a hS => by
  obtain ⟨h1, h2⟩ := hS.ok.anew hid
  rw [over_cons] at h1 h2
  exact ⟨_, h1, hS.fr.ext h2, hS.nt, hS.df.ext h2⟩
/-- A row that a variable's view speaks of settles; the row begins anew. -/
theorem weak_stl (b i id : Nat) {v n : Nat} {e : TypeId} {c : List (List V)} {cs cs' : List D} (hb : look ah b = some (.box cs)) (hi : cs[i]? = some (.view id v 0 c.length)) (hc : cs.set i (.v (.sl c)) = cs') (hid : look ah id = some (.row v n e c)) :
    Weak X fr ah fr ((b, .box cs') :: (id, .row (v + 1) n e []) :: ah) := fun G w a hS => by
  subst hc
  obtain ⟨G2, h1, h2, h3⟩ := hS.ok.settle hid
  have hv : ∀ u, RepD G w (look ah) (.view id v 0 c.length) u → RepD G2 w (over [(id, .row (v + 1) n e [])] (look ah)) (.v (.sl c)) u := h3
  have hne : id ≠ b := fun he => by subst he; rw [hid] at hb; cases hb
  obtain ⟨g0, us0, t0, b10, b20, b30, b40⟩ := hS.ok.ob b _ hb
  rw [over_cons] at h1 h2 hv
  have hb' : look ((id, Ob.row (v + 1) n e []) :: ah) b = some (.box cs) := by rw [look_cons_ne _ _ hne]; exact hb
  obtain ⟨g, us, t, b1, b2, b3, b4⟩ := h1.ob b _ hb'
  have hg : g = g0 := by
    obtain ⟨cs1, q1, q2⟩ := h2.box b cs hb
    rw [b1, b10] at q2; injection q2
  subst hg
  obtain ⟨rfl, rfl⟩ : us = us0 ∧ t = t0 := by
    rw [b2] at b20
    injection b20 with b20
    injection b20 with e1 e2 e3
    exact ⟨by simpa using e1, e2⟩
  obtain ⟨k1, k2⟩ := h1.setBox (cs' := cs.set i (.v (.sl c))) (w' := w) hb' b1 us us t b2 b3 ⟨by simp [b4.1], fun j d u hd hu => by
      rw [List.getElem?_set] at hd
      by_cases hj : i = j
      · subst hj
        rw [if_pos rfl] at hd
        split at hd
        · injection hd with hd; subst hd; exact hv u (b40.2 i _ u hi hu)
        · cases hd
      · rw [if_neg hj] at hd; exact b4.2 j d u hd hu⟩ b2 (fun _ _ => rfl) rfl rfl rfl rfl
  rw [over_cons] at k1 k2
  exact ⟨_, k1, (hS.fr.ext h2).ext k2, hS.nt, (hS.df.ext h2).ext k2⟩
/-- A variable's cell, told otherwise. -/
theorem weak_boxD (b i : Nat) {cs cs' : List D} {d d' : D} (hb : look ah b = some (.box cs)) (hi : cs[i]? = some d) (hc : cs.set i d' = cs') (hd : ∀ (G : Gh) (w : World) (m : Mem) (u : Value), RepD G w m d u → RepD G w m d' u) : Weak X fr ah fr ((b, .box cs') :: ah) := fun G w a hS => by
  subst hc
  obtain ⟨g, us, t, b1, b2, b3, b4⟩ := hS.ok.ob b _ hb
  obtain ⟨k1, k2⟩ := hS.ok.setBox (cs' := cs.set i d') (w' := w) hb b1 us us t b2 b3 ⟨by simp [b4.1], fun j d2 u hd2 hu => by
      rw [List.getElem?_set] at hd2
      by_cases hj : i = j
      · subst hj
        rw [if_pos rfl] at hd2
        split at hd2
        · injection hd2 with hd2; subst hd2; exact hd _ _ _ _ (b4.2 i d u hi hu)
        · cases hd2
      · rw [if_neg hj] at hd2; exact b4.2 j d2 u hd2 hu⟩ b2 (fun _ _ => rfl) rfl rfl rfl rfl
  rw [over_cons] at k1 k2
  exact ⟨_, k1, hS.fr.ext k2, hS.nt, hS.df.ext k2⟩
end
section
variable {X : Cx} {Q : AX → Fm → AH → Prop} {ops : Array Oper} {K : Fm → AH → Prop} {fr : Fm} {ah : AH}
/-- A closure's call that panics. -/
theorem awl_callPC {dst : Option Tmp} {ty : TypeId} {ps : String} {af : Array Edge} {os : List Oper} {x : Operand} {g : FuncId} {xs : Array Operand} {tys : Array TypeId} {args as_ first caps : List D} {pre post : AH} {np : Nat} {r d : D} {upd : AH} (l : List Nat) (hx : EvL fr.at xs.toList as_) (he : entersB X.P g = true) (hc : Con X.P g args pre np (.pan r) post) (hpre : PreAt (look ah) (rho l) pre)
    (k : Q (.pan d) fr (upd ++ ah)) (hfn : Ev fr.at x (.fn (.func g) first caps) := by exact ev_tmp rfl) (has : D.rens (rho l) args = first ++ as_ ++ caps := by rfl) (hnd : nodupB l = true := by exact rfl) (hB : callB l pre post np X.np = true := by first | rfl | (simp [callB, keys, dom, look, Ob.goes]; done)) (hpl : preLiveB pre = true := by exact rfl) (hal : D.lives (dom pre) args = true := by exact rfl)
    (hu : AH.ren (rho l) post = upd := by first | rfl | (simp only [AH.ren, Ob.ren, D.rens, D.ren] <;> rfl)) (hd : r.ren (rho l) = d := by first | (simp only [D.ren, D.rens] <;> rfl) | rfl) (hn : freshB upd ((keys pre).map (rho l)) ah = true := by exact rfl) :
    awl X ops K Q (⟨dst, .call { callee := .value x, args := xs, argTypes := tys }, ty, ps, af, none⟩ :: os) fr ah := fun G w a hS R hR hP => by
  subst hu hd
  have hw : Region.wanted (⟨dst, .call { callee := .value x, args := xs, argTypes := tys }, ty, ps, af, none⟩ : Oper) (yielded ops a.tmps) = true := rfl
  have hA0 := hx.rep hS.fr (fun x _ t _ => rfl)
  obtain ⟨us, vs, hev, h1, h2⟩ := rep_fn (hfn fr.at (fun _ _ => rfl) G w _ a hS.fr)
  have hA : RepDs G w (look ah) (D.rens (rho l) args) (us ++ xs.toList.map a.eval ++ vs) := by rw [has]; exact (h1.app hA0).app h2
  have hnew := hnew_of (f := fr.at) (m' := look ah) hnd (T := (keys pre).map (rho l)) (post := post) (fun x hx => .inl hx) (fun p hp hT => by
    unfold freshB at hn
    rw [List.all_eq_true] at hn
    have := hn p hp
    simp only [Bool.or_eq_true, List.contains_iff_mem, Option.isNone_iff_eq_none] at this
    rcases this with h | h
    · exact absurd h hT
    · exact h)
  have hrun : (execOp a.eval ⟨dst, .call { callee := .value x, args := xs, argTypes := tys }, ty, ps, af, none⟩).run X.P w = (callFunc g ((us ++ xs.toList.map a.eval ++ vs).toArray)).run X.P w := by
    have e1 : xs.map a.eval = (xs.toList.map a.eval).toArray := by rw [← Array.toList_map]
    simp [execOp, resolve, hev, Deferred.ofValue, invoke, e1]
  unfold wpList
  rw [if_pos hw]
  refine .inl ?_
  unfold Oper.wp
  rw [hrun, run_enters he, Oper.upon_enter]
  refine (call_main hc l hnd hB hS.ok (fun i o h => hpre.at i o h) hnew (preLive_of hpl) hal _ hA).mono fun e w' ⟨G', h1, h2, h3⟩ => ?_
  cases e with
  | returned v => exact h3.elim
  | panicked c =>
    obtain ⟨v, rfl, h4⟩ := h3
    rw [over_look] at h1 h2 h4
    exact hP _ a w' ⟨G', fr, AH.ren (rho l) post ++ ah, _, v, ⟨h1, hS.fr.ext h2, hS.nt, hS.df.ext h2⟩, rfl, h4, k⟩
  | outgrown => exact h3.elim
end
section
variable {X : Cx} {f : Nat → D} {m : Mem}
theorem z_min {dst : Option Tmp} {ty : TypeId} {ps : String} {af : Array Edge} {gd : Option (Nat × Bool)} {x y : Operand} {t t' : TypeId} {k : IntKind} {p q r : Int} (hx : Ev f x (.v (.int k p)) := by exact ev_tmp rfl) (hy : Ev f y (.v (.int k q)) := by exact ev_tmp rfl) (hr : min p q = r := by first | assumption | rfl) : StepU X ⟨dst, .call { callee := .builtin .min, args := #[x, y], argTypes := #[t, t'] }, ty, ps, af, gd⟩ f m (.v (.int k r)) [] [] := by
  subst hr; exact
  stepU_pure fun f' m' hf _ G w a _ hF => by
    have h1 := rep_int (ev_at hx (by simp [Op.operands, Call.operands]) hf hF)
    have h2 := rep_int (ev_at hy (by simp [Op.operands, Call.operands]) hf hF)
    refine ⟨.int k (min p q), ?_, mk_int _ _⟩
    by_cases h : q < p
    · have : min p q = q := by omega
      simp [execOp, resolve, invoke, builtin, Builtin.min_, Builtin.min2, h1, h2, h, this]
    · have : min p q = p := by omega
      simp [execOp, resolve, invoke, builtin, Builtin.min_, Builtin.min2, h1, h2, h, this]
/-- string(p[i:j]), p a row of one's own. -/
theorem z_convSV {dst : Option Tmp} {ty : TypeId} {ps : String} {af : Array Edge} {gd : Option (Nat × Bool)} {s t e e' : TypeId} {x : Operand} {id ver off len n : Nat} {c : List (List V)} {l : List UInt8} (hs : X.P.underlying s = some (.slice e)) (he : X.P.underlying e = some (.int .u8)) (ht : X.P.underlying t = some .string) (hx : Ev f x (.view id ver off len) := by exact ev_tmp rfl) (hm : m id = some (.row ver n e' c) := by exact rfl) (hc : cut off (off + len) c = bs l := by first | rfl | (simp; done)) : StepU X ⟨dst, .convert s t x, ty, ps, af, gd⟩ f m (.v (.str l)) [] [id] :=
  stepU_pure fun f' m' hf hT G w a hO hF => by
    have hm' := (hT id (by simp)).trans hm
    obtain ⟨v1, v2⟩ := rep_view (ev_at hx (by simp [Op.operands]) hf hF) hm'
    have hrow : RowAt G w id n e' c := hO.ob id _ hm'
    let G2 : Gh := { G with S := fun g => G.S g ∨ G.μ id = some g }
    have h1 := repV_view (Z := G2.S) hrow v2 v1 (fun g hg => .inl hg) (fun g hg => .inr hg)
    rw [hc] at h1
    obtain ⟨A, c0, hu, -, -, hrd⟩ := rd_of (G := G2) h1 (fun g hg => by
      rcases hg with hg | hg
      · exact hO.low g hg
      · exact (hO.ob id _ hm').lt hg)
    exact ⟨.string (S l), by simp only [execOp, hu, Sem.run_bind, conv_rd hrd s t e c0 hs he ht, Result.andThen_ok, Sem.run_pure], mk_str l⟩
end
end Go.Proofs.YthflfnehdlpmdaaDoor
