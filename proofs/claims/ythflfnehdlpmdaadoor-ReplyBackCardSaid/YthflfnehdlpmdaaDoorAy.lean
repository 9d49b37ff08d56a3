/- Abstract states: a pointer beside nil; append(nil, x...) onto a row that is there (it begins anew). No program, no condition. -/
import Derived.Test.YthflfnehdlpmdaaDoorHdCToAv
import Derived.Laws.Pointers
namespace Go.Proofs.YthflfnehdlpmdaaDoor
set_option linter.all false
open Go Go.RowKit Go.Lib
section
variable {X : Cx} {o : Oper} {f : Nat → D} {m : Mem}
theorem eqGuard_ptr {P : Program} {w : World} (op : BinOp) (t : TypeId) (x y : Operand) (a b : Option Addr) : (eqGuard op t x y (.pointer a) (.pointer b)).run P w = .ok () w := by
  unfold eqGuard; cases op <;> simp
theorem ptr_pointee {P : Program} {t e : TypeId} (h : P.underlying t = some (.pointer e)) : P.underlying t = some (.pointer (P.pointee t)) := by
  unfold Program.pointee; rw [h]
theorem stepU_eqlP {t t' e : TypeId} {x y : Operand} {id off : Nat} (ho : o.op = .binOp .eql t x y t') (ht : X.P.underlying t = some (.pointer e)) (hx : Ev f x (.ptr id off)) (hy : Ev f y (.v (.lit (.pointer none)))) : StepU X o f m (.v (.bool false)) [] [] :=
  stepU_pure fun f' m' hf _ G w a _ hF => by
    obtain ⟨g, cs, h1, _, _⟩ := rep_ptr (ev_at hx (by simp [ho, Op.operands]) hf hF)
    have h2 := rep_lit (ev_at hy (by simp [ho, Op.operands]) hf hF)
    refine ⟨_, ?_, mk_bool _⟩
    simp only [execOp, ho, h1, h2, Sem.run_bind, eqGuard_ptr, Result.andThen_ok, run_eql_pointer_nil w t _ (ptr_pointee ht), Sem.run_pure]
    rfl
theorem z_eqlP {dst : Option Tmp} {ty : TypeId} {ps : String} {af : Array Edge} {gd : Option (Nat × Bool)} {t t' e : TypeId} {x y : Operand} {id off : Nat} (ht : X.P.underlying t = some (.pointer e)) (hx : Ev f x (.ptr id off) := by exact ev_tmp rfl) (hy : Ev f y (.v (.lit (.pointer none))) := by first | exact ev_tmp rfl | exact ev_lit rfl) : StepU X ⟨dst, .binOp .eql t x y t', ty, ps, af, gd⟩ f m (.v (.bool false)) [] [] := stepU_eqlP (ho := rfl) (ht := ht) (hx := hx) (hy := hy)
end
section
variable {X : Cx} {G : Gh} {w w' : World} {m : Mem}
/-- A row begins anew, of nothing. -/
theorem Ok.anew (h : Ok X G w m) {id v n : Nat} {e : TypeId} {c : List (List V)} (hm : m id = some (.row v n e c)) : Ok X (G.at_ id none 0) w (over [(id, .row (v + 1) n e [])] m) ∧ Ext G w m (G.at_ id none 0) w (over [(id, .row (v + 1) n e [])] m) :=
  h.step (G' := G.at_ id none 0) (w' := w) id (.row (v + 1) n e []) rfl (fun i hi => Gh.at_ne G _ _ hi) (fun g hg => by rw [Gh.at_μ] at hg; cases hg) (fun g _ _ => rfl) (Nat.le_refl _) rfl rfl rfl
    (fun o' ho' => by
      rw [hm] at ho'; injection ho' with ho'; subst ho'
      exact ⟨fun cs he => (by cases he), fun ver n' e' c' he => by injection he with a1 a2 a3 a4; subst a1 a2 a3 a4; exact ⟨v + 1, [], rfl, Nat.le_succ _, fun hh => by omega⟩⟩)
    (fun k => ⟨by simp, (show RowAt G w id n e c from h.ob id _ hm).2.1, by simp, by rw [Gh.at_cap]; simp [maxLen], .inl ⟨Gh.at_μ _ _ _ _, Gh.at_cap _ _ _ _⟩⟩) (fun cs _ he => by cases he)
theorem Ok.growE (h : Ok X G w m) {id v n : Nat} {e : TypeId} {c c2 : List (List V)} {v' : Value} {news : List Value} (hm : m id = some (.row v n e c)) (hs : ∀ e ∈ c2, e.length = n) (hn : 0 < n) (hr : ∀ i j x, elem? c2 i j = some x → ∃ v, news[i * n + j]? = some v ∧ RepV G.S w x v)
    (hown : OwnsM w' e n v' (0 + c2.length) ([] ++ news)) (hg : w.grownBy w' none) (hbk : v'.ownBlock = none ∨ v'.ownBlock = some w.heap.size) :
    ∃ G', Ok X G' w' (over [(id, .row (v + 2) n e c2)] m) ∧ Ext G w m G' w' (over [(id, .row (v + 2) n e c2)] m) ∧ RepD G' w' (over [(id, .row (v + 2) n e c2)] m) (.view id (v + 2) 0 c2.length) v' := by
  obtain ⟨n1, n2⟩ := h.anew hm
  obtain ⟨G', k1, k2, k3⟩ := n1.grow (id := id) (ver := v + 1) (len := 0) (c := []) (c2 := c2) (u := .slice none 0 0) (v' := v') (xs := []) (news := news) over_at (by simp) (fun i j x hi => by omega) (by simp) (fun g hg => by simp [Value.ownBlock] at hg) hs hn
    (fun i j x hx => by
      obtain ⟨v, h1, h2⟩ := hr i j x hx
      exact ⟨v, h1, h2⟩) hown hg hbk
  rw [over_over] at k1 k2 k3
  simp only [List.take_nil, List.nil_append, Nat.zero_add] at k1 k2 k3
  exact ⟨G', k1, n2.trans k2, k3⟩
end
section
variable {X : Cx} {o : Oper} {f : Nat → D} {m : Mem}
/-- append(nil, x...), x a slice that will not change, onto a row that is there. -/
theorem stepU_appE {x y : Operand} {t e : TypeId} {n b v : Nat} {c c2 : List (List V)} (id : Nat) (hm : m id = some (.row v n e c)) (ho : o.op = .call { callee := .builtin .append, args := #[x, y], argTypes := #[t, t] }) (ht : X.P.underlying t = some (.slice e)) (hi : infoB X.P e = some (n, b)) (hx : Ev f x (.v (.lit (.slice none 0 0)))) (hy : Ev f y (.v (.sl c2))) (hs : ∀ e ∈ c2, e.length = n)
    (hb : c2.length * b ≤ 140737488355328 ∧ c2.length ≤ 140737488355328) : StepU X o f m (.view id (v + 2) 0 c2.length) [(id, .row (v + 2) n e c2)] [id] :=
  fun f' m' hf hT hnew G w a hO hF K Q hK => by
    have hu := rep_nil (ev_at hx (by simp [ho, Op.operands, Call.operands]) hf hF)
    have hsrc := rep_sl (ev_at hy (by simp [ho, Op.operands, Call.operands]) hf hF)
    obtain ⟨i, z, i1, i2, i3, i4, i5, i6⟩ := infoB_at hi
    obtain ⟨A, cap, hv, hne⟩ := src_sl hsrc hs i6
    have hid : m' id = some (.row v n e c) := (hT id (by simp)).trans hm
    unfold Oper.wp
    rcases Nat.eq_zero_or_pos c2.length with h0 | h0
    · obtain rfl := List.eq_nil_of_length_eq_zero h0
      rw [run_app ho hu hv (run_append_none (e' := e) ht i1 (.of (.inl rfl) (own_nil w e i.size)) A cap)]
      obtain ⟨G', k1, k2, k3⟩ := hO.growE (c2 := []) (news := []) hid (by simp) i6 (fun i j x h => by simp [elem?] at h) (.of (.inl rfl) (own_nil w e n)) (World.grownBy.refl w _) (.inl rfl)
      exact hK _ _ _ k1 k2 k3
    · obtain ⟨p, rfl, news, n1, n2, n3, n4⟩ := hne h0
      obtain ⟨v', w', r1, r2, r3, _, r5⟩ := run_append_own_at (P := X.P) w 0 t o.type e i z n b ht i1 i2 i3 i4 i5 i6 (.slice none 0 0) 0 [] (own_nil w e n) p c2.length cap news n1 n2 n3 (by simp [maxLen]; omega) (by simpa using hb.1) (Nat.zero_le _)
      rw [run_app ho hu hv r1]
      obtain ⟨G', k1, k2, k3⟩ := hO.growE hid hs i6 n4 (.of (.inl rfl) r2) r3 r5
      exact hK _ _ _ k1 k2 k3
theorem z_appE {dst : Option Tmp} {ty : TypeId} {ps : String} {af : Array Edge} {gd : Option (Nat × Bool)} {x y : Operand} {t e : TypeId} {n b v : Nat} {c c2 : List (List V)} (id : Nat) (ht : X.P.underlying t = some (.slice e)) (hi : infoB X.P e = some (n, b)) (hm : m id = some (.row v n e c) := by exact rfl) (hx : Ev f x (.v (.lit (.slice none 0 0))) := by first | exact ev_tmp rfl | exact ev_lit rfl) (hy : Ev f y (.v (.sl c2)) := by first | exact ev_tmp rfl | exact ev_nil (ev_tmp rfl)) (hs : ∀ e ∈ c2, e.length = n := by first | exact bs_one _ | assumption | (simp; done)) (hb : c2.length * b ≤ 140737488355328 ∧ c2.length ≤ 140737488355328 := by first | decide | omega | (simp; done) | (simp; omega)) : StepU X ⟨dst, .call { callee := .builtin .append, args := #[x, y], argTypes := #[t, t] }, ty, ps, af, gd⟩ f m (.view id (v + 2) 0 c2.length) [(id, .row (v + 2) n e c2)] [id] :=
  stepU_appE (id := id) (hm := hm) (ho := rfl) (ht := ht) (hi := hi) (hx := hx) (hy := hy) (hs := hs) (hb := hb)
end
section
variable {X : Cx} {fr : Fm} {ah : AH}
/-- A variable's nil is a row that is there, begun anew, of nothing. -/
theorem weak_nilE (b i id : Nat) {v n : Nat} {e : TypeId} {c : List (List V)} {cs cs' : List D} (hb : look ah b = some (.box cs)) (hi : cs[i]? = some (.v (.lit (.slice none 0 0)))) (hc : cs.set i (.view id (v + 1) 0 0) = cs') (hid : look ah id = some (.row v n e c)) :
    Weak X fr ah fr ((b, .box cs') :: (id, .row (v + 1) n e []) :: ah) := fun G w a hS => by
  subst hc
  obtain ⟨h1, h2⟩ := hS.ok.anew hid
  have h3 : RepD (G.at_ id none 0) w (over [(id, .row (v + 1) n e [])] (look ah)) (.view id (v + 1) 0 0) (.slice none 0 0) := .view id (v + 1) 0 0 _ (v + 1) n e [] over_at (Nat.le_refl _) rfl fun _ => ⟨by simp, none, 0, rfl, by rw [Gh.at_cap], by omega, .inl (by rw [Gh.at_μ]; rfl)⟩
  rw [over_cons] at h1 h2 h3
  have hne : id ≠ b := fun he => by subst he; rw [hid] at hb; cases hb
  have hb' : look ((id, Ob.row (v + 1) n e []) :: ah) b = some (.box cs) := by rw [look_cons_ne _ _ hne]; exact hb
  obtain ⟨g, us, t, b1, b2, b3, b4⟩ := h1.ob b _ hb'
  have hlt : i < us.length := by rw [b4.1]; exact (List.getElem?_eq_some_iff.1 hi).1
  have hui : us[i] = .slice none 0 0 := rep_lit (b4.2 i _ us[i] hi (List.getElem?_eq_getElem hlt))
  obtain ⟨k1, k2⟩ := h1.setBox (cs' := cs.set i (.view id (v + 1) 0 0)) (w' := w) hb' b1 us us t b2 b3 ⟨by simp [b4.1], fun j d u hd hu => by
      rw [List.getElem?_set] at hd
      by_cases hj : i = j
      · subst hj
        rw [List.getElem?_eq_getElem hlt, hui] at hu
        injection hu with hu
        subst hu
        rw [if_pos rfl] at hd
        split at hd
        · injection hd with hd; subst hd; exact h3
        · cases hd
      · rw [if_neg hj] at hd; exact b4.2 j d u hd hu⟩ b2 (fun _ _ => rfl) rfl rfl rfl rfl
  rw [over_cons] at k1 k2
  exact ⟨_, k1, (hS.fr.ext h2).ext k2, hS.nt, (hS.df.ext h2).ext k2⟩
end
end Go.Proofs.YthflfnehdlpmdaaDoor
