/- Abstract states: a pointer beside nil; append(nil, x...) onto a row that is there (it begins anew). No program, no condition. -/
import Derived.Test.YtnjbfiejgiaibaaGreatDoorAtToAr
import Derived.Laws.Pointers
import Derived.Test.YtnjbfiejgiaibaaGreatDoorAv
namespace Go.Proofs.YtnjbfiejgiaibaaGreatDoor
set_option linter.all false
open Go Go.RowKit Go.Lib
section
variable {X : Cx} {o : Oper} {f : Nat → D} {m : Mem}
theorem eqGuard_ptr {P : Program} {w : World} (op : BinOp) (t : TypeId) (x y : Operand) (a b : Option Addr) : (eqGuard op t x y (.pointer a) (.pointer b)).run P w = .ok () w := by
  unfold eqGuard; cases op <;> simp
theorem ptr_pointee {P : Program} {t e : TypeId} (h : P.underlying t = some (.pointer e)) : P.underlying t = some (.pointer (P.pointee t)) := by
  unfold Program.pointee; rw [h]
theorem stepU_eqlP {t t' e : TypeId} {x y : Operand} {id off : Nat} (ho : o.op = .binOp .eql t x y t') (ht : X.P.underlying t = some (.pointer e)) (hx : Ev f x (.ptr id off)) (hy : Ev f y (.v (.lit (.pointer none)))) : StepU X o f m (.v (.bool false)) [] [] :=
  stepU_pure fun f' m' hf _ G w a _ hF => by
    obtain ⟨g, cs, h1, _, _⟩ := rep_ptr (ev_at hx (by simp [ho, Op.operands]) hf hF)
    have h2 := rep_lit (ev_at hy (by simp [ho, Op.operands]) hf hF)
    refine ⟨_, ?_, mk_bool _⟩
    simp only [execOp, ho, h1, h2, Sem.run_bind, eqGuard_ptr, Result.andThen_ok, run_eql_pointer_nil w t _ (ptr_pointee ht), Sem.run_pure]
    rfl
theorem stepU_eqlPN {t t' e : TypeId} {x y : Operand} (ho : o.op = .binOp .eql t x y t') (ht : X.P.underlying t = some (.pointer e)) (hx : Ev f x (.v (.lit (.pointer none)))) (hy : Ev f y (.v (.lit (.pointer none)))) : StepU X o f m (.v (.bool true)) [] [] :=
  stepU_pure fun f' m' hf _ G w a _ hF => by
    have h1 := rep_lit (ev_at hx (by simp [ho, Op.operands]) hf hF)
    have h2 := rep_lit (ev_at hy (by simp [ho, Op.operands]) hf hF)
    refine ⟨_, ?_, mk_bool _⟩
    simp only [execOp, ho, h1, h2, Sem.run_bind, eqGuard_ptr, Result.andThen_ok, run_eql_pointer_nil w t _ (ptr_pointee ht), Sem.run_pure]
    rfl
theorem z_eqlP {dst : Option Tmp} {ty : TypeId} {ps : String} {af : Array Edge} {gd : Option (Nat × Bool)} {t t' e : TypeId} {x y : Operand} {id off : Nat} (ht : X.P.underlying t = some (.pointer e)) (hx : Ev f x (.ptr id off) := by exact ev_tmp rfl) (hy : Ev f y (.v (.lit (.pointer none))) := by first | exact ev_tmp rfl | exact ev_lit rfl) : StepU X ⟨dst, .binOp .eql t x y t', ty, ps, af, gd⟩ f m (.v (.bool false)) [] [] := stepU_eqlP (ho := rfl) (ht := ht) (hx := hx) (hy := hy)
theorem z_eqlPN {dst : Option Tmp} {ty : TypeId} {ps : String} {af : Array Edge} {gd : Option (Nat × Bool)} {t t' e : TypeId} {x y : Operand} (ht : X.P.underlying t = some (.pointer e)) (hx : Ev f x (.v (.lit (.pointer none))) := by first | exact ev_tmp rfl | exact ev_lit rfl) (hy : Ev f y (.v (.lit (.pointer none))) := by first | exact ev_tmp rfl | exact ev_lit rfl) : StepU X ⟨dst, .binOp .eql t x y t', ty, ps, af, gd⟩ f m (.v (.bool true)) [] [] := stepU_eqlPN (ho := rfl) (ht := ht) (hx := hx) (hy := hy)
end
section
variable {X : Cx} {G : Gh} {w w' : World} {m : Mem}
/-- A row begins anew, of nothing. -/
theorem Ok.anew (h : Ok X G w m) {id v n : Nat} {e : TypeId} {c : List (List V)} (hm : m id = some (.row v n e c)) : Ok X (G.at_ id none 0) w (over [(id, .row (v + 1) n e [])] m) ∧ Ext G w m (G.at_ id none 0) w (over [(id, .row (v + 1) n e [])] m) :=
  h.step (G' := G.at_ id none 0) (w' := w) id (.row (v + 1) n e []) rfl (fun i hi => Gh.at_ne G _ _ hi) (fun g hg => by rw [Gh.at_μ] at hg; cases hg) (fun g _ _ => rfl) (Nat.le_refl _) rfl rfl rfl
    (fun o' ho' => by
      rw [hm] at ho'; injection ho' with ho'; subst ho'
      exact ⟨fun cs he => (by cases he), fun ver n' e' c' he => by injection he with a1 a2 a3 a4; subst a1 a2 a3 a4; exact ⟨v + 1, [], rfl, Nat.le_succ _, fun hh => by omega⟩⟩)
    (fun k => ⟨by simp, (show RowAt G w id n e c from h.ob id _ hm).2.1, by simp, by rw [Gh.at_cap]; simp [maxLen], .inl ⟨Gh.at_μ _ _ _ _, Gh.at_cap _ _ _ _⟩⟩) (fun cs _ he => by cases he)
theorem Ok.growE (h : Ok X G w m) {id v n : Nat} {e : TypeId} {c c2 : List (List V)} {v' : Value} {news : List Value} (hm : m id = some (.row v n e c)) (hs : ∀ e ∈ c2, e.length = n) (hn : 0 < n) (hr : ∀ i j x, elem? c2 i j = some x → ∃ v, news[i * n + j]? = some v ∧ RepV G.S w x v)
    (hown : OwnsM w' e n v' (0 + c2.length) ([] ++ news)) (hg : w.grownBy w' none) (hbk : v'.ownBlock = none ∨ v'.ownBlock = some w.heap.size) :
    ∃ G', Ok X G' w' (over [(id, .row (v + 2) n e c2)] m) ∧ Ext G w m G' w' (over [(id, .row (v + 2) n e c2)] m) ∧ RepD G' w' (over [(id, .row (v + 2) n e c2)] m) (.view id (v + 2) 0 c2.length) v' := by
  obtain ⟨n1, n2⟩ := h.anew hm
  obtain ⟨G', k1, k2, k3⟩ := n1.grow (id := id) (ver := v + 1) (len := 0) (c := []) (c2 := c2) (u := .slice none 0 0) (v' := v') (xs := []) (news := news) over_at (by simp) (fun i j x hi => by omega) (by simp) (fun g hg => by simp [Value.ownBlock] at hg) hs hn
    (fun i j x hx => by
      obtain ⟨v, h1, h2⟩ := hr i j x hx
      exact ⟨v, h1, h2⟩) hown hg hbk
  rw [over_over] at k1 k2 k3
  simp only [List.take_nil, List.nil_append, Nat.zero_add] at k1 k2 k3
  exact ⟨G', k1, n2.trans k2, k3⟩
end
section
variable {X : Cx} {o : Oper} {f : Nat → D} {m : Mem}
/-- append(nil, x...), x a slice that will not change, onto a row that is there. -/
theorem stepU_appE {x y : Operand} {t e : TypeId} {n b v : Nat} {c c2 : List (List V)} (id : Nat) (hm : m id = some (.row v n e c)) (ho : o.op = .call { callee := .builtin .append, args := #[x, y], argTypes := #[t, t] }) (ht : X.P.underlying t = some (.slice e)) (hi : infoB X.P e = some (n, b)) (hx : Ev f x (.v (.lit (.slice none 0 0)))) (hy : Ev f y (.v (.sl c2))) (hs : ∀ e ∈ c2, e.length = n)
    (hb : c2.length * b ≤ 140737488355328 ∧ c2.length ≤ 140737488355328) : StepU X o f m (.view id (v + 2) 0 c2.length) [(id, .row (v + 2) n e c2)] [id] :=
  fun f' m' hf hT hnew G w a hO hF K Q hK => by
    have hu := rep_nil (ev_at hx (by simp [ho, Op.operands, Call.operands]) hf hF)
    have hsrc := rep_sl (ev_at hy (by simp [ho, Op.operands, Call.operands]) hf hF)
    obtain ⟨i, z, i1, i2, i3, i4, i5, i6⟩ := infoB_at hi
    obtain ⟨A, cap, hv, hne⟩ := src_sl hsrc hs i6
    have hid : m' id = some (.row v n e c) := (hT id (by simp)).trans hm
    unfold Oper.wp
    rcases Nat.eq_zero_or_pos c2.length with h0 | h0
    · obtain rfl := List.eq_nil_of_length_eq_zero h0
      rw [run_app ho hu hv (run_append_none (e' := e) ht i1 (.of (.inl rfl) (own_nil w e i.size)) A cap)]
      obtain ⟨G', k1, k2, k3⟩ := hO.growE (c2 := []) (news := []) hid (by simp) i6 (fun i j x h => by simp [elem?] at h) (.of (.inl rfl) (own_nil w e n)) (World.grownBy.refl w _) (.inl rfl)
      exact hK _ _ _ k1 k2 k3
    · obtain ⟨p, rfl, news, n1, n2, n3, n4⟩ := hne h0
      obtain ⟨v', w', r1, r2, r3, _, r5⟩ := run_append_own_at (P := X.P) w 0 t o.type e i z n b ht i1 i2 i3 i4 i5 i6 (.slice none 0 0) 0 [] (own_nil w e n) p c2.length cap news n1 n2 n3 (by simp [maxLen]; omega) (by simpa using hb.1) (Nat.zero_le _)
      rw [run_app ho hu hv r1]
      obtain ⟨G', k1, k2, k3⟩ := hO.growE hid hs i6 n4 (.of (.inl rfl) r2) r3 r5
      exact hK _ _ _ k1 k2 k3
theorem z_appE {dst : Option Tmp} {ty : TypeId} {ps : String} {af : Array Edge} {gd : Option (Nat × Bool)} {x y : Operand} {t e : TypeId} {n b v : Nat} {c c2 : List (List V)} (id : Nat) (ht : X.P.underlying t = some (.slice e)) (hi : infoB X.P e = some (n, b)) (hm : m id = some (.row v n e c) := by exact rfl) (hx : Ev f x (.v (.lit (.slice none 0 0))) := by first | exact ev_tmp rfl | exact ev_lit rfl) (hy : Ev f y (.v (.sl c2)) := by first | exact ev_tmp rfl | exact ev_nil (ev_tmp rfl)) (hs : ∀ e ∈ c2, e.length = n := by first | exact bs_one _ | assumption | (simp; done)) (hb : c2.length * b ≤ 140737488355328 ∧ c2.length ≤ 140737488355328 := by first | decide | omega | (simp; done) | (simp; omega)) : StepU X ⟨dst, .call { callee := .builtin .append, args := #[x, y], argTypes := #[t, t] }, ty, ps, af, gd⟩ f m (.view id (v + 2) 0 c2.length) [(id, .row (v + 2) n e c2)] [id] :=
  stepU_appE (id := id) (hm := hm) (ho := rfl) (ht := ht) (hi := hi) (hx := hx) (hy := hy) (hs := hs) (hb := hb)
end
section
variable {X : Cx} {fr : Fm} {ah : AH}
/-- A variable's nil is a row that is there, begun anew, of nothing. -/
theorem weak_nilE (b i id : Nat) {v n : Nat} {e : TypeId} {c : List (List V)} {cs cs' : List D} (hb : look ah b = some (.box cs)) (hi : cs[i]? = some (.v (.lit (.slice none 0 0)))) (hc : cs.set i (.view id (v + 1) 0 0) = cs') (hid : look ah id = some (.row v n e c)) :
    Weak X fr ah fr ((b, .box cs') :: (id, .row (v + 1) n e []) :: ah) := fun G w a hS => by
  subst hc
  obtain ⟨h1, h2⟩ := hS.ok.anew hid
  have h3 : RepD (G.at_ id none 0) w (over [(id, .row (v + 1) n e [])] (look ah)) (.view id (v + 1) 0 0) (.slice none 0 0) := .view id (v + 1) 0 0 _ (v + 1) n e [] over_at (Nat.le_refl _) rfl fun _ => ⟨by simp, none, 0, rfl, by rw [Gh.at_cap], by omega, .inl (by rw [Gh.at_μ]; rfl)⟩
  rw [over_cons] at h1 h2 h3
  have hne : id ≠ b := fun he => by subst he; rw [hid] at hb; cases hb
  have hb' : look ((id, Ob.row (v + 1) n e []) :: ah) b = some (.box cs) := by rw [look_cons_ne _ _ hne]; exact hb
  obtain ⟨g, us, t, b1, b2, b3, b4⟩ := h1.ob b _ hb'
  have hlt : i < us.length := by rw [b4.1]; exact (List.getElem?_eq_some_iff.1 hi).1
  have hui : us[i] = .slice none 0 0 := rep_lit (b4.2 i _ us[i] hi (List.getElem?_eq_getElem hlt))
  obtain ⟨k1, k2⟩ := h1.setBox (cs' := cs.set i (.view id (v + 1) 0 0)) (w' := w) hb' b1 us us t b2 b3 ⟨by simp [b4.1], fun j d u hd hu => by
      rw [List.getElem?_set] at hd
      by_cases hj : i = j
      · subst hj
        rw [List.getElem?_eq_getElem hlt, hui] at hu
        injection hu with hu
        subst hu
        rw [if_pos rfl] at hd
        split at hd
        · injection hd with hd; subst hd; exact h3
        · cases hd
      · rw [if_neg hj] at hd; exact b4.2 j d u hd hu⟩ b2 (fun _ _ => rfl) rfl rfl rfl rfl
  rw [over_cons] at k1 k2
  exact ⟨_, k1, (hS.fr.ext h2).ext k2, hS.nt, (hS.df.ext h2).ext k2⟩
end
end Go.Proofs.YtnjbfiejgiaibaaGreatDoor

/- Abstract states: a function's body walked in one world; a region that holds a call of yield. No program, no condition. -/
namespace Go.Proofs.YtnjbfiejgiaibaaGreatDoor
set_option linter.all false
open Go Go.RowKit
/-- What a body that runs in one world knows of it. -/
structure Here (X : Cx) (K : Nat → Prop) (G : Gh) (w : World) : Prop where
  w0 : X.w0 = w
  K : X.K = K
  S0 : X.S0 = G.S
  pin : X.pin = G.μ
theorem run_of {P : Program} {args : List D} {pre : AH} {np : Nat} {K : Nat → Prop} {G : Gh} {w : World} {us : List Value} (hO : Ok ⟨P, 0, w, K, G.S, np, G.μ, []⟩ G w (look pre)) (hA : RepDs G w (look pre) args us) {f : FuncId} {fn : Func} {c : Code} {post : AH} {out : Out} (hf : P.funcs[f]? = some fn) (hb : fn.body = some c) (hargs : args.length ≤ fn.ntmps)
    (h : ∀ (X : Cx) (Q : AX → Fm → AH → Prop), X.P = P → X.nt = fn.ntmps → X.np = np → Here X K G w →
      (∀ fr ah rs ds d, fn.results.toList = rs → ResIs P fr ah rs ds → retD ds = d → out = .ret d → KeepA ah (dom post) post → d.live (dom post) = true → Q .ret fr ah ∧ Q .normal fr ah) →
      (∀ fr ah d, out = .pan d → KeepA ah (dom post) post → d.live (dom post) = true → Q (.pan d) fr ah) → aw X c Q (argsFr 0 args) pre) :
    Calls P f us.toArray w fun e w' => ∃ G', Ok ⟨P, 0, w, K, G.S, np, G.μ, []⟩ G' w' (look post) ∧ OutAt G' w' (look post) out e := by
  refine callsIn_wide.1 (callsIn_of_wp_marks (n := 0) hf hb trivial (wpIn_wide.2 ?_) rfl)
  have hsz : (us.toArray ++ Array.replicate (fn.ntmps - us.toArray.size) undef).size = fn.ntmps := by simp; have := hA.1; omega
  let X : Cx := ⟨P, fn.ntmps, w, K, G.S, np, G.μ, []⟩
  let Q : AX → Fm → AH → Prop := fun e fr ah => match e with
    | .ret | .normal => ∃ ds d, ResIs P fr ah fn.results.toList ds ∧ retD ds = d ∧ out = .ret d ∧ KeepA ah (dom post) post ∧ d.live (dom post) = true
    | .pan d => out = .pan d ∧ KeepA ah (dom post) post ∧ d.live (dom post) = true
    | _ => False
  have hw := h X Q rfl rfl rfl ⟨rfl, rfl, rfl, rfl⟩ (fun fr ah rs ds d e1 e2 e3 e4 e5 e6 => by subst e1; exact ⟨⟨ds, d, e2, e3, e4, e5, e6⟩, ⟨ds, d, e2, e3, e4, e5, e6⟩⟩) (fun fr ah d e1 e2 e3 => ⟨e1, e2, e3⟩)
    G w { tmps := us.toArray ++ Array.replicate (fn.ntmps - us.toArray.size) undef, defers := [] } ⟨hO.nt _, fun t => ?_, hsz, DfOk.nil⟩
  · refine wp_mono hw fun e a w' q => ?_
    have fin0 : ∀ (w' : World) G' fr ah, Ok X G' w' (look ah) → FrOk G' w' (look ah) fr.at a → (∃ ds d, ResIs P fr ah fn.results.toList ds ∧ retD ds = d ∧ out = .ret d ∧ KeepA ah (dom post) post ∧ d.live (dom post) = true) →
        ∃ v, (results fn a.tmps).run P w' = .ok v w' ∧ ∃ G', Ok ⟨P, 0, w, K, G.S, np, G.μ, []⟩ G' w' (look post) ∧ OutAt G' w' (look post) out (.returned v) := by
      intro w' G' fr ah hok hfr ⟨ds, d, e2, e3, e4, e5, e6⟩
      obtain ⟨vs, h1, h2⟩ := run_results (X := X) hok hfr e2
      obtain ⟨h3, h4⟩ := hok.keepA e5
      refine ⟨_, run_results_of h1, G', h3.nt 0, ?_⟩
      subst e4
      have h5 : RepD G' w' (look ah) d (retV vs) := by
        subst e3
        exact rep_ret h2
      exact h5.part h4 e6
    have fin : ∀ G' fr ah, St X G' w' a fr ah → (∃ ds d, ResIs P fr ah fn.results.toList ds ∧ retD ds = d ∧ out = .ret d ∧ KeepA ah (dom post) post ∧ d.live (dom post) = true) →
        LeavesInM Fence.wide 0 P fn a.tmps (fun e w' => ∃ G', Ok ⟨P, 0, w, K, G.S, np, G.μ, []⟩ G' w' (look post) ∧ OutAt G' w' (look post) out e) a.defers .returning w' := by
      intro G' fr ah hS hq
      obtain ⟨Ds, hd, hnd, hDs⟩ := hS.df
      rw [hd]
      show LeavesInM _ _ _ _ _ _ (Ds.map mark ++ []) _ _
      clear hd
      have key : ∀ (Ds : List Nat) (w' : World), Ds.Nodup → (∀ D ∈ Ds, w.heap.size ≤ D ∧ w'.heap[D]? = some (.deferred (some []))) → Ok X G' w' (look ah) → FrOk G' w' (look ah) fr.at a →
          LeavesInM Fence.wide 0 P fn a.tmps (fun e w' => ∃ G', Ok ⟨P, 0, w, K, G.S, np, G.μ, []⟩ G' w' (look post) ∧ OutAt G' w' (look post) out e) (Ds.map mark ++ []) .returning w' := by
        intro Ds
        induction Ds with
        | nil => intro w' _ _ h1 h2; exact fin0 w' G' fr ah h1 h2 hq
        | cons D Ds ih =>
          intro w' hn hD h1 h2
          obtain ⟨d2, d4⟩ := hD D List.mem_cons_self
          refine ⟨(fun h => by cases h), .inl ⟨D, _, rfl, run_takeDeferred d4, ?_⟩⟩
          refine ih _ (List.nodup_cons.1 hn).2 (fun D' hD' => ?_) (h1.putMark d4 d2 _) (fun t => (h2 t).cells (kept_put d4 _))
          obtain ⟨e1, e2⟩ := hD D' (List.mem_cons_of_mem _ hD')
          exact ⟨e1, (World.putObj_heap_other (fun he => (List.nodup_cons.1 hn).1 (by rw [← he]; exact hD'))).trans e2⟩
      exact key Ds w' hnd (fun D hD => ⟨(hDs D hD).1, (hDs D hD).2.2.1⟩) hS.ok hS.fr
    cases e with
    | normal => obtain ⟨G', fr, ah, hS, hq⟩ := q; exact fin G' fr ah hS hq
    | ret => obtain ⟨G', fr, ah, hS, hq⟩ := q; exact fin G' fr ah hS hq
    | exit id => obtain ⟨G', fr, ah, hS, hq⟩ := q; exact hq.elim
    | goto l => obtain ⟨G', fr, ah, hS, hq⟩ := q; exact hq.elim
    | panic chain =>
      obtain ⟨G', fr, ah, d, v, hS, h1, h2, rfl, h4, h5⟩ := q
      have pan : ∀ w' , Ok X G' w' (look ah) → RepD G' w' (look ah) d v → ∃ G', Ok ⟨P, 0, w, K, G.S, np, G.μ, []⟩ G' w' (look post) ∧ OutAt G' w' (look post) (.pan d) (.panicked chain) := fun w' hok hd => by
        obtain ⟨h6, h7⟩ := hok.keepA h4
        exact ⟨G', h6.nt 0, v, h1, hd.part h7 h5⟩
      obtain ⟨Ds, hd, hnd, hDs⟩ := hS.df
      show LeavesInM _ _ _ _ _ _ a.defers _ _
      rw [hd]
      show LeavesInM _ _ _ _ _ _ (Ds.map mark ++ []) _ _
      clear hd
      have key : ∀ (Ds : List Nat) (w' : World), Ds.Nodup → (∀ D ∈ Ds, w.heap.size ≤ D ∧ w'.heap[D]? = some (.deferred (some []))) → Ok X G' w' (look ah) → RepD G' w' (look ah) d v →
          LeavesInM Fence.wide 0 P fn a.tmps (fun e w' => ∃ G', Ok ⟨P, 0, w, K, G.S, np, G.μ, []⟩ G' w' (look post) ∧ OutAt G' w' (look post) (.pan d) e) (Ds.map mark ++ []) (.panicking chain) w' := by
        intro Ds
        induction Ds with
        | nil => intro w' _ _ h1 h2; exact pan w' h1 h2
        | cons D Ds ih =>
          intro w' hn hD h1 h2
          obtain ⟨d2, d4⟩ := hD D List.mem_cons_self
          refine ⟨(fun h => by cases h), .inl ⟨D, _, rfl, run_takeDeferred d4, ?_⟩⟩
          refine ih _ (List.nodup_cons.1 hn).2 (fun D' hD' => ?_) (h1.putMark d4 d2 _) (h2.cells (kept_put d4 _))
          obtain ⟨e1, e2⟩ := hD D' (List.mem_cons_of_mem _ hD')
          exact ⟨e1, (World.putObj_heap_other (fun he => (List.nodup_cons.1 hn).1 (by rw [← he]; exact hD'))).trans e2⟩
      exact key Ds w' hnd (fun D hD => ⟨(hDs D hD).1, (hDs D hD).2.2.1⟩) hS.ok h2
    | outgrown => exact q.elim
  · unfold Fm.at
    rw [argsFr_look]
    simp only [Nat.zero_le, if_true, Nat.sub_zero]
    cases hd : args[t]? with
    | none => exact .any _
    | some d =>
      have hlt : t < us.length := by rw [hA.1]; exact (List.getElem?_eq_some_iff.1 hd).1
      refine hA.2 t d _ hd ?_
      rw [Array.getD_eq_getD_getElem?, Array.getElem?_append_left (by simpa using hlt)]
      simp [hlt]
section
variable {X : Cx} {Q : AX → Fm → AH → Prop} {fr : Fm} {ah : AH} {r : Option Nat}
/-- A region that holds a call of yield. -/
theorem aw_regionY {id : Nat} {l : List Oper} {rest : Code} (h : ∀ K : Fm → AH → Prop, (∀ fr ah, aw X rest Q fr ah → K fr ah) → awlY none X l.toArray K Q l fr ah) : aw X (.seq (.region id l.toArray false) rest) Q fr ah :=
  aw_ofY (awY_region fun K hK => h K fun fr ah hr => hK fr ah fun G w a hS => wpIn_wide.2 (hr G w a hS))
theorem aY {ops : Array Oper} {K : Fm → AH → Prop} {o : Oper} {os : List Oper} {d : D} {upd : AH} {T : List Nat} (h : StepU X o fr.at (look ah) d upd T) (k : awlY r X ops K Q os (pushF fr o.dst d) (upd ++ ah)) (hg : o.guard = none := by exact rfl) (hd : dstB X.nt o.dst = true := by exact rfl) (hn : freshB upd T ah = true := by exact rfl) (hnd : noDefer o = true := by exact rfl) : awlY r X ops K Q (o :: os) fr ah := awlY_step (step_u hg h) hd hn k hnd
theorem gY {ops : Array Oper} {K : Fm → AH → Prop} {o : Oper} {os : List Oper} {d : D} {T : List Nat} {j t : Nat} {b B : Bool} (hg : o.guard = some (j, b)) (hj : (ops[j]?).bind (·.dst) = some t) (ht : Ev fr.at (.tmp t) (.v (.bool B))) (h : (B == b) = true → StepU X o fr.at (look ah) d [] T) (k : awlY r X ops K Q os (pushF fr o.dst (.cond (B == b) d)) ah) (hd : dstB X.nt o.dst = true := by exact rfl) (hnd : noDefer o = true := by exact rfl) : awlY r X ops K Q (o :: os) fr ah := awlY_step (step_if hg hj ht h) hd rfl k hnd
/-- A block. -/
theorem awY_block {id : Nat} {c : Code} (h : awY r X c (blockQ id Q) fr ah) : awY r X (.block id c) Q fr ah := fun G w a hS =>
  wpIn_block (wpIn_mono (h G w a hS) fun e a w q => by
    cases e with
    | normal => exact q
    | exit i =>
      by_cases hi : i = id
      · subst hi
        obtain ⟨G', fr', ah', h1, h2⟩ := q
        simp only [blockQ, Nat.beq_refl, cond_true] at h2
        simp only [Exit.inBlock, if_true]
        exact ⟨G', fr', ah', h1, h2⟩
      · obtain ⟨G', fr', ah', h1, h2⟩ := q
        have : Nat.beq i id = false := by
          cases hq : Nat.beq i id with
          | true => exact absurd (Nat.eq_of_beq_eq_true hq) hi
          | false => rfl
        simp only [blockQ, this, cond_false] at h2
        simp only [Exit.inBlock, if_neg hi]
        exact ⟨G', fr', ah', h1, h2⟩
    | goto l => exact q
    | ret => exact q
    | panic ch => exact q
    | outgrown => exact q)
end
end Go.Proofs.YtnjbfiejgiaibaaGreatDoor

/- Abstract states: a call that is lent a box and the row that it speaks of; a reference beside nil. No program, no condition. -/
namespace Go.Proofs.YtnjbfiejgiaibaaGreatDoor
set_option linter.all false
open Go Go.RowKit
section
variable {X : Cx} {o : Oper} {f : Nat → D} {m : Mem} {d : D}
theorem rep_refP {G : Gh} {w : World} {cs : List V} {u : Value} (h : RepD G w m (.ref cs) u) : ∃ A, u = .pointer (some A) := by
  cases h with | ref _ g o us hz hc hr => exact ⟨_, rfl⟩
theorem stepU_nilCheckR {x : Operand} {cs : List V} (ho : o.op = .nilCheck x) (hx : Ev f x (.ref cs)) : StepU X o f m (.ref cs) [] [] :=
  stepU_pure fun f' m' hf _ G w a _ hF => by
    have h := ev_at hx (by simp [ho, Op.operands]) hf hF
    obtain ⟨A, h1⟩ := rep_refP h
    refine ⟨a.eval x, ?_, h⟩
    rw [h1]
    simp [execOp, ho, h1]
theorem stepU_eqlPR {t t' e : TypeId} {x y : Operand} {cs : List V} (ho : o.op = .binOp .eql t x y t') (ht : X.P.underlying t = some (.pointer e)) (hx : Ev f x (.ref cs)) (hy : Ev f y (.v (.lit (.pointer none)))) : StepU X o f m (.v (.bool false)) [] [] :=
  stepU_pure fun f' m' hf _ G w a _ hF => by
    obtain ⟨A, h1⟩ := rep_refP (ev_at hx (by simp [ho, Op.operands]) hf hF)
    have h2 := rep_lit (ev_at hy (by simp [ho, Op.operands]) hf hF)
    refine ⟨_, ?_, mk_bool _⟩
    simp only [execOp, ho, h1, h2, Sem.run_bind, eqGuard_ptr, Result.andThen_ok, run_eql_pointer_nil w t _ (ptr_pointee ht), Sem.run_pure]
    rfl
theorem z_eqlPR {dst : Option Tmp} {ty : TypeId} {ps : String} {af : Array Edge} {gd : Option (Nat × Bool)} {t t' e : TypeId} {x y : Operand} {cs : List V} (ht : X.P.underlying t = some (.pointer e)) (hx : Ev f x (.ref cs) := by exact ev_tmp rfl) (hy : Ev f y (.v (.lit (.pointer none))) := by first | exact ev_tmp rfl | exact ev_lit rfl) : StepU X ⟨dst, .binOp .eql t x y t', ty, ps, af, gd⟩ f m (.v (.bool false)) [] [] := stepU_eqlPR (ho := rfl) (ht := ht) (hx := hx) (hy := hy)
theorem z_nilCheckR {dst : Option Tmp} {ty : TypeId} {ps : String} {af : Array Edge} {gd : Option (Nat × Bool)} {x : Operand} {cs : List V} (hx : Ev f x (.ref cs) := by first | exact ev_tmp rfl | exact ev_cond (ev_tmp rfl) (by assumption) | (refine ev_cond (ev_tmp rfl) ?_; simp_all; done)) : StepU X ⟨dst, .nilCheck x, ty, ps, af, gd⟩ f m (.ref cs) [] [] := stepU_nilCheckR (ho := rfl) (hx := hx)
/-- A call that is lent a box and a row. -/
theorem stepU_callF {g : FuncId} {xs : Array Operand} {tys : Array TypeId} {ys : List V} {cs : List D} {np v n : Nat} {e : TypeId} {c : List (List V)} (b id : Nat) (ho : o.op = .call { callee := .value (.func g), args := xs, argTypes := tys }) (hx : EvL f xs.toList [.ptr b 0]) (he : entersB X.P g = true)
    (hc : Con X.P g [.ref ys] [] np (.ret d) []) (hb : m b = some (.box cs)) (hm : m id = some (.row v n e c)) (hl : Lent id v c cs (ys.map .v)) (hd : d.shut = true) : StepU X o f m d [] [b, id] := by
  intro f' m' hf hT hn G w a hO hF K Q hK
  have hA := hx.rep hF (fun x hx t ht => hf t (by subst ht; rw [ho]; simp only [Op.operands, Call.operands]; exact Array.mem_append.2 (.inr (by simpa using hx))))
  have hm' := (hT id (by simp)).trans hm
  have hb' := (hT b (by simp)).trans hb
  have hrow := hO.ob id _ hm'
  have hbox := hO.ob b _ hb'
  let H : Gh := { G with S := fun k => G.S k ∨ G.μ id = some k ∨ G.μ b = some k }
  have hlow : ∀ k, H.S k → k < w.heap.size := fun k hk => by
    rcases hk with hk | hk | hk
    · exact hO.low k hk
    · exact (show ObAt G w m' id (.row v n e c) from hrow).lt hk
    · exact (show ObAt G w m' b (.box cs) from hbox).lt hk
  obtain ⟨q, us, t, b1, b2, b3, b4⟩ := hbox
  have hcells := hl.rep (H := H) hm' hrow (fun k hk => .inl hk) (fun k hk => .inr (.inl hk)) b4
  have hB : RepDs H w (look []) [.ref ys] (xs.toList.map a.eval) := by
    refine ⟨hA.1, fun i d0 u0 hd0 hu0 => ?_⟩
    cases i with
    | succ i => simp at hd0
    | zero =>
      injection hd0 with hd0
      subst hd0
      obtain ⟨q', cs', e1, e2, e3⟩ := rep_ptr (hA.2 0 _ u0 rfl hu0)
      have e4 : q' = q := by rw [b1] at e2; injection e2 with e2; exact e2.symm
      subst e4
      rw [e1]
      have hlen := hcells.1
      rw [List.length_map] at hlen
      refine .ref ys q' 0 (fun j => us.getD j undef) (.inr (.inr b1)) (fun j x hj => ?_) (fun j x hj => ?_)
      · have hlt : j < us.length := by rw [hlen]; exact (List.getElem?_eq_some_iff.1 hj).1
        rw [Nat.zero_add, cell_box b2 (id := b) (cs := cs)]
        simp [hlt]
      · have hlt : j < us.length := by rw [hlen]; exact (List.getElem?_eq_some_iff.1 hj).1
        have h5 := hcells.2 j (.v x) us[j] (by rw [List.getElem?_map, hj]; rfl) (List.getElem?_eq_getElem hlt)
        have e6 : us.getD j undef = us[j] := by simp [hlt]
        rw [e6]
        cases h5 with | v _ _ h => exact h
  have hOf : Ok ⟨X.P, 0, w, fun k => k < w.heap.size, H.S, np, H.μ, []⟩ H w (look []) :=
    ⟨fun i o h => (by cases h), fun i j k hi => absurd rfl hi, fun i k hi => absurd rfl hi, hlow, fun k hk => ⟨hk, rfl⟩, rfl, rfl, rfl, Nat.le_refl _, fun k hk => hk, fun k hk _ => hk, fun i cs _ h => (by cases h), hO.shpw.mono fun k hk => Nat.lt_of_lt_of_le (hO.keep k hk).1 hO.size⟩
  unfold Oper.wp
  rw [run_call_func ho he, Oper.upon_enter]
  have hus : (xs.toList.map a.eval).toArray = xs.map a.eval := by rw [← Array.toList_map]
  rw [← hus]
  refine (hc (fun k => k < w.heap.size) H w _ hlow hOf hB).mono fun e w' ⟨G1, hO1, hout⟩ => ?_
  obtain ⟨k1, k2⟩ := hO.kept (w' := w') (fun k hk => (hO1.keep k hk).2) hO1.size hO1.os hO1.tape hO1.output
  cases e with
  | returned u => exact hK G w' u k1 k2 (RepD.out (show RepD G1 w' (look []) d u from hout) hd)
  | panicked ch => exact hout.elim
  | outgrown => exact hout.elim
theorem z_callF {dst : Option Tmp} {ty : TypeId} {ps : String} {af : Array Edge} {gd : Option (Nat × Bool)} {g : FuncId} {xs : Array Operand} {tys : Array TypeId} {ys : List V} {cs : List D} {np v n : Nat} {e : TypeId} {c : List (List V)} (b id : Nat) (he : entersB X.P g = true) (hc : Con X.P g [.ref ys] [] np (.ret d) []) (hl : Lent id v c cs (ys.map .v)) (hx : EvL f xs.toList [.ptr b 0] := by first | exact .cons (ev_tmp rfl) .nil | exact .cons (ev_cond (ev_tmp rfl) (by assumption)) .nil | (refine .cons (ev_cond (ev_tmp rfl) ?_) .nil; simp_all; done)) (hb : m b = some (.box cs) := by exact rfl) (hm : m id = some (.row v n e c) := by exact rfl) (hd : d.shut = true := by exact rfl) : StepU X ⟨dst, .call { callee := .value (.func g), args := xs, argTypes := tys }, ty, ps, af, gd⟩ f m d [] [b, id] :=
  stepU_callF b id rfl hx he hc hb hm hl hd
end
end Go.Proofs.YtnjbfiejgiaibaaGreatDoor
