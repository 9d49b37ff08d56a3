/- Abstract states: bytes of a slice that is known exactly, in a block that is kept (and may be written again by the caller, later). No program, no condition. -/
import Derived.Test.YtnjbfiejgiaibaaGreatDoorBeToBh
namespace Go.Proofs.YtnjbfiejgiaibaaGreatDoor
set_option linter.all false
open Go Go.RowKit
/-- Bytes at the head of a block that is kept. -/
def KB (X : Cx) (A : Option Addr) (l : List UInt8) (cap : Nat) : Prop :=
  l.length ≤ cap ∧ cap ≤ maxLen ∧ ((l = [] ∧ (A = none ∨ ∃ g, A = some ⟨g, 0, none⟩)) ∨ ∃ g, A = some ⟨g, 0, none⟩ ∧ X.K g ∧ ∀ i b, l[i]? = some b → X.w0.cell? ⟨g, i, none⟩ = some (.int .u8 (b.toNat : Int)))
/-- The slice behind its first i places. -/
def skv (A : Option Addr) (i n cap : Nat) : Value := .slice (if i = cap then A.map (·.add (i - 1)) else A.map (·.add i)) (n - i) (cap - i)
theorem skv_one (A : Option Addr) (i n cap : Nat) : (skv A i n cap).oneCell' = true := rfl
section
variable {X : Cx} {o : Oper} {f : Nat → D} {m : Mem} {A : Option Addr} {l : List UInt8} {cap i : Nat}
theorem KB.cell (h : KB X A l cap) {G : Gh} {w : World} {m : Mem} (hO : Ok X G w m) {b : UInt8} (hb : l[i]? = some b) : ∃ g, A = some ⟨g, 0, none⟩ ∧ w.cell? ⟨g, i, none⟩ = some (.int .u8 (b.toNat : Int)) := by
  rcases h.2.2 with ⟨h, _⟩ | ⟨g, h1, h2, h3⟩
  · subst h; cases hb
  · refine ⟨g, h1, ?_⟩
    have h4 := h3 i b hb
    have h5 := (hO.keep g h2).2
    simp only [World.cell?] at h4 ⊢
    rw [h5]; exact h4
theorem KB.to (h : KB X A l cap) {Y : Cx} (hK : ∀ g, X.K g → Y.K g) {G : Gh} {m : Mem} (hO : Ok X G Y.w0 m) : KB Y A l cap := by
  refine ⟨h.1, h.2.1, ?_⟩
  rcases h.2.2 with h' | ⟨g, h1, h2, h3⟩
  · exact .inl h'
  · refine .inr ⟨g, h1, hK g h2, fun i b hb => ?_⟩
    obtain ⟨g', e1, e2⟩ := h.cell hO hb
    rw [h1] at e1; injection e1 with e1; injection e1 with e1; subst e1
    exact e2
theorem z_lenK {dst : Option Tmp} {ty : TypeId} {ps : String} {af : Array Edge} {gd : Option (Nat × Bool)} {x : Operand} {t e : TypeId} {n q : Nat} (ht : X.P.underlying t = some (.slice e)) (hq : n - i = q) (hx : Ev f x (.v (.lit (skv A i n cap))) := by first | exact ev_tmp rfl | exact ev_cond (ev_tmp rfl) (by assumption)) :
    StepU X ⟨dst, .call { callee := .builtin .len, args := #[x], argTypes := #[t] }, ty, ps, af, gd⟩ f m (.v (.int .i64 (q : Int))) [] [] :=
  stepU_pure fun f' m' hf _ G w a _ hF => by
    subst hq
    have h := rep_lit (ev_at hx (by simp [Op.operands, Call.operands]) hf hF)
    exact ⟨_, by simp [execOp, resolve, invoke, builtin, Builtin.len_, run_underlying ht, h, skv, goInt], mk_int _ _⟩
theorem z_indexAddrK {dst : Option Tmp} {ty : TypeId} {ps : String} {af : Array Edge} {gd : Option (Nat × Bool)} {x y : Operand} {t e : TypeId} {n : Nat} {k : IntKind} {b : Bool} (hk : KB X A l cap) (ht : X.P.underlying t = some (.slice e)) (hs : sizeB X.P e = some (b, 1)) (hi : i < n) (hn : n ≤ cap) (hA : A ≠ none) (hx : Ev f x (.v (.lit (skv A i n cap))) := by exact ev_tmp rfl) (hy : Ev f y (.v (.int k 0)) := by exact ev_int _ _) :
    StepU X ⟨dst, .indexAddr t x y, ty, ps, af, gd⟩ f m (.v (.lit (.pointer (A.map (·.add i))))) [] [] :=
  stepU_pure fun f' m' hf _ G w a _ hF => by
    have h := rep_lit (ev_at hx (by simp [Op.operands]) hf hF)
    have h2 := rep_int (ev_at hy (by simp [Op.operands]) hf hF)
    refine ⟨.pointer (A.map (·.add i)), ?_, .v _ _ (.lit _ rfl)⟩
    have e1 : skv A i n cap = .slice (A.map (·.add i)) (n - i) (cap - i) := by unfold skv; rw [if_neg (by omega)]
    rw [e1] at h
    cases A with
    | none => exact absurd rfl hA
    | some p =>
      have e3 : (p.add i).add 0 = p.add i := by
        obtain ⟨g, q, r⟩ := p
        cases r <;> simp [Addr.add]
      have e2 : (0 : Nat) < n - i := by omega
      simp [execOp, h, h2, Instr.indexAt, asIntOf, run_underlying ht, (run_sizeB hs w).1, e2, hi, e3]
theorem z_loadK {dst : Option Tmp} {ty : TypeId} {ps : String} {af : Array Edge} {gd : Option (Nat × Bool)} {x : Operand} {t : TypeId} {b : UInt8} (hk : KB X A l cap) (hs : sizeB X.P t = some (false, 1)) (hb : l[i]? = some b) (hx : Ev f x (.v (.lit (.pointer (A.map (·.add i))))) := by exact ev_tmp rfl) :
    StepU X ⟨dst, .load t x, ty, ps, af, gd⟩ f m (.v (.int .u8 (b.toNat : Int))) [] [] :=
  stepU_pure fun f' m' hf _ G w a hO hF => by
    have h := rep_lit (ev_at hx (by simp [Op.operands]) hf hF)
    obtain ⟨g, e1, e2⟩ := hk.cell hO hb
    subst e1
    rw [Option.map_some, addr_add, Nat.zero_add] at h
    refine ⟨.int .u8 (b.toNat : Int), ?_, mk_int _ _⟩
    simp only [execOp, h, Instr.loadAt, Instr.sureAddr, Sem.run_bind, Sem.run_pure, Result.andThen_ok]
    rw [run_loadVar_at hs g i [.int .u8 (b.toNat : Int)] rfl (fun j u hu => by
      cases j with
      | zero => simp at hu; subst hu; exact e2
      | succ j => simp at hu) (fun _ => rfl)]
    simp
theorem z_sliceK {dst : Option Tmp} {ty : TypeId} {ps : String} {af : Array Edge} {gd : Option (Nat × Bool)} {x y : Operand} {t e : TypeId} {n : Nat} {k : IntKind} {b : Bool} (ht : X.P.underlying t = some (.slice e)) (hs : sizeB X.P e = some (b, 1)) (hi : i < n) (hn : n ≤ cap) (hx : Ev f x (.v (.lit (skv A i n cap))) := by exact ev_tmp rfl) (hy : Ev f y (.v (.int k 1)) := by exact ev_int _ _) :
    StepU X ⟨dst, .slice t x (some y) none none, ty, ps, af, gd⟩ f m (.v (.lit (skv A (i + 1) n cap))) [] [] :=
  stepU_pure fun f' m' hf _ G w a hO hF => by
    have h := rep_lit (ev_at hx (by simp [Op.operands]) hf hF)
    have h2 := rep_int (ev_at hy (by simp [Op.operands]) hf hF)
    have e1 : skv A i n cap = .slice (A.map (·.add i)) (n - i) (cap - i) := by unfold skv; rw [if_neg (by omega)]
    rw [e1] at h
    have hb := run_bounds (P := X.P) (w := w) true (n - i) (cap - i) (some 1) none k k (by show 1 ≤ n - i; omega) (by show n - i ≤ cap - i; omega)
    refine ⟨skv A (i + 1) n cap, ?_, .v _ _ (.lit _ rfl)⟩
    have e2 : skv A (i + 1) n cap = .slice (if cap - i = 1 then A.map (·.add i) else (A.map (·.add i)).map (·.add (1 * 1))) (n - i - 1) (cap - i - 1) := by
      unfold skv
      by_cases hc : i + 1 = cap
      · rw [if_pos hc, if_pos (by omega)]; rfl
      · rw [if_neg hc, if_neg (by omega), Option.map_map]
        have : (fun p : Addr => p.add (i + 1)) = (fun p => p.add (1 * 1)) ∘ fun p => p.add i := by
          funext p
          obtain ⟨g, q, r⟩ := p
          by_cases h0 : i = 0
          · subst h0; cases r <;> simp [Addr.add]
          · cases r <;> simp [Addr.add, h0, Nat.add_assoc]
        rw [this]; rfl
    rw [e2]
    have hb' : (Instr.sliceBounds true (n - i) (cap - i) (some (Value.int k ((1 : Nat) : Int))) none none).run X.P w = .ok (1, n - i, cap - i) w := hb
    have h3 : a.eval y = Value.int k ((1 : Nat) : Int) := h2
    simp only [execOp, h, h3, Instr.sliceAt, Sem.run_bind, run_underlying ht, Result.andThen_ok, Instr.slice, Option.map_some, Option.map_none, hb', (run_sizeB hs w).1, Sem.run_pure]
/-- The rest, as bytes. -/
theorem KB.rep (h : KB X A l cap) {G : Gh} {w : World} {m : Mem} (hO : Ok X G w m) (hi : i ≤ l.length) : RepV (fun _ => True) w (.sl (bs (l.drop i))) (skv A i l.length cap) := by
  have hl := h.1
  have hc := h.2.1
  by_cases he : i = l.length
  · have e1 : l.drop i = [] := by rw [he, List.drop_length]
    rw [e1]
    unfold skv
    rw [he, Nat.sub_self]
    exact .nil _ _ (by omega)
  · obtain ⟨b, hb⟩ : ∃ b, l[i]? = some b := ⟨_, List.getElem?_eq_getElem (by omega)⟩
    obtain ⟨g, e1, _⟩ := h.cell hO hb
    subst e1
    unfold skv
    rw [if_neg (by omega), Option.map_some, addr_add, Nat.zero_add]
    have e2 : l.length - i = (bs (l.drop i)).length := by simp
    rw [e2]
    refine .sl _ g i 1 _ (fun q _ => .int .u8 ((l[i + q]?.getD 0).toNat : Int)) (by simp; omega) trivial (Nat.le_refl _) (bs_one _) (by simp; omega) (by omega) (fun q j x hx => ?_) (fun q j x hx => ?_)
    all_goals
      unfold elem? bs at hx
      rw [List.getElem?_map, List.getElem?_drop] at hx
      cases hq : l[i + q]? with
      | none => rw [hq] at hx; cases hx
      | some b =>
        rw [hq] at hx
        cases j with
        | succ j => simp at hx
        | zero =>
          simp at hx; subst hx
          first
            | exact .int _ _
            | (obtain ⟨g', e3, e4⟩ := h.cell hO hq
               injection e3 with e3; injection e3 with e3; subst e3
               rw [Nat.mul_one, Nat.add_zero]
               exact e4)
theorem repV_any {Z Z' : Nat → Prop} {w w' : World} {k : IntKind} {n : Int} {u : Value} (h : RepV Z w (.int k n) u) : RepV Z' w' (.int k n) u := by cases h; exact .int k n
theorem bs_elem {l : List UInt8} {i j : Nat} {x : V} (h : elem? (bs l) i j = some x) : ∃ n, x = .int .u8 n := by
  unfold elem? bs at h
  rw [List.getElem?_map] at h
  cases hq : l[i]? with
  | none => rw [hq] at h; cases h
  | some b =>
    rw [hq] at h
    cases j with
    | succ j => simp at h
    | zero => simp at h; exact ⟨_, h.symm⟩
/-- append(v, x...), v a row of one's own, x bytes that are kept. -/
theorem z_appK {dst : Option Tmp} {ty : TypeId} {ps : String} {af : Array Edge} {gd : Option (Nat × Bool)} {x y : Operand} {t e e' : TypeId} {id ver len b : Nat} {c c' : List (List V)} {r : List UInt8} (hk : KB X A l cap) (hi' : i ≤ l.length) (hr : l.drop i = r) (ht : X.P.underlying t = some (.slice e)) (hi : infoB X.P e = some (1, b)) (hx : Ev f x (.view id ver 0 len) := by exact ev_tmp rfl) (hy : Ev f y (.v (.lit (skv A i l.length cap))) := by exact ev_tmp rfl) (hm : m id = some (.row ver 1 e' c) := by exact rfl)
    (hb : len ≤ c.length ∧ (len + r.length) * b ≤ 140737488355328 ∧ len + r.length ≤ 140737488355328 := by first | decide | omega | (simp; done) | (simp; omega)) (hc : c.take len ++ bs r = c' := by exact rfl) (he : EMk e' e := by first | exact .inl rfl | exact .inr ⟨rfl, Nat.le_of_ble_eq_true rfl⟩) :
    StepU X ⟨dst, .call { callee := .builtin .append, args := #[x, y], argTypes := #[t, t] }, ty, ps, af, gd⟩ f m (.view id (ver + 1) 0 (len + r.length)) [(id, .row (ver + 1) 1 e' c')] [id] :=
  fun f' m' hf hT _ G w a hO hF K Q hK => by
    subst hc
    have hm' := (hT id (by simp)).trans hm
    obtain ⟨v1, v2⟩ := rep_view (ev_at hx (by simp [Op.operands, Call.operands]) hf hF) hm'
    have hlit := rep_lit (ev_at hy (by simp [Op.operands, Call.operands]) hf hF)
    have hsrc := hk.rep hO hi'
    rw [hr, ← hlit] at hsrc
    obtain ⟨ii, z, i1, i2, i3, i4, i5, i6⟩ := infoB_at hi
    obtain ⟨xs, hown, hxs, hblk⟩ := own_of_view (ver := ver) (hO.ob id _ hm') v2 hb.1
    obtain ⟨A', cap', hu, hne⟩ := src_sl (G := ⟨fun _ => none, fun _ => 0, fun _ => True⟩) hsrc (bs_one _) i6
    rw [bs_length] at hu hne
    have big : len + r.length ≤ maxLen := by simp [maxLen]; omega
    unfold Oper.wp
    rcases Nat.eq_zero_or_pos r.length with h0 | h0
    · obtain rfl := List.eq_nil_of_length_eq_zero h0
      rw [run_app rfl rfl hu (run_append_none ht i1 (by rw [i3]; exact hown) A' cap')]
      obtain ⟨G', k1, k2, k3⟩ := hO.grow (c2 := []) (u := a.eval x) (v' := a.eval x) (news := []) hm' hb.1 hxs hown.1 hblk (by simp) i6 (fun i j x h => by simp [elem?] at h) (by simpa using hown) (World.grownBy.refl w _) (.inl rfl)
      exact hK _ _ _ k1 k2 k3
    · obtain ⟨p, rfl, news, n1, n2, n3, n4⟩ := hne h0
      obtain ⟨v', w', r1, r2, r3, r5⟩ := run_append_own_atM (P := X.P) w t ty e he ii z 1 b ht i1 i2 i3 i4 i5 i6 (a.eval x) len xs hown p r.length cap' news n1 n2 n3 big hb.2.1
      rw [run_app rfl rfl hu r1]
      obtain ⟨G', k1, k2, k3⟩ := hO.grow (c2 := bs r) hm' hb.1 hxs hown.1 hblk (bs_one _) i6 (fun i j x h => by
        obtain ⟨v, e1, e2⟩ := n4 i j x h
        obtain ⟨n, rfl⟩ := bs_elem h
        exact ⟨v, e1, repV_any e2⟩) (by rw [bs_length]; exact r2) r3 r5
      rw [bs_length] at k3
      exact hK _ _ _ k1 k2 k3
/-- A function that is given a memory of one's own and bytes that are kept. -/
def RunK (P : Program) (f : FuncId) (x : D) (b : List UInt8) (pre post : AH) (np : Nat) (out : Option Addr → Nat → D) : Prop :=
  ∀ (K : Nat → Prop) (H : Gh) (w : World) (us : List Value) (A : Option Addr) (cap : Nat), (∀ g, H.S g → K g) → Ok ⟨P, 0, w, K, H.S, np, H.μ, []⟩ H w (look pre) → KB ⟨P, 0, w, K, H.S, np, H.μ, []⟩ A b cap → RepDs H w (look pre) [x, .v (.lit (skv A 0 b.length cap))] us →
    Calls P f us.toArray w fun e w' => ∃ G', Ok ⟨P, 0, w, K, H.S, np, H.μ, []⟩ G' w' (look post) ∧ OutAt G' w' (look post) (.ret (out A cap)) e
theorem hnew_of {f : Nat → D} {l : List Nat} {pre post : AH} {m' : Mem} {T : List Nat} (hnd : nodupB l = true) (hT : ∀ x ∈ T, x ∈ (keys pre).map (rho l) ∨ ∀ i, dom post i = true → rho l i ≠ x) (hn : ∀ p ∈ AH.ren (rho l) post, p.1 ∉ T → m' p.1 = none) : ∀ i, dom post i = true → dom pre i = false → m' (rho l i) = none := fun i h1 h2 => by
  have hinj := rho_inj hnd
  obtain ⟨o', ho'⟩ := of_dom h1
  have hin : (rho l i, o'.ren (rho l)) ∈ AH.ren (rho l) post := by
    have := mem_of_look (ah := AH.ren (rho l) post) (i := rho l i) (o := o'.ren (rho l)) (by rw [look_ren hinj, ho']; rfl)
    exact this
  refine hn _ hin fun hmem => ?_
  rcases hT _ hmem with hmem | hne
  · obtain ⟨j, hj, he⟩ := List.mem_map.1 hmem
    have := hinj _ _ he
    subst this
    unfold keys at hj
    obtain ⟨p, hp, rfl⟩ := List.mem_map.1 hj
    rw [dom_mem hp] at h2; cases h2
  · exact hne i h1 rfl
/-- Such a call, the bytes known exactly. -/
theorem z_callK {dst : Option Tmp} {ty : TypeId} {ps : String} {af : Array Edge} {gd : Option (Nat × Bool)} {g : FuncId} {tys : Array TypeId} {x y : Operand} {d0 : D} {pre post : AH} {np : Nat} {b : List UInt8} {d : D} {upd : AH} {out : Option Addr → Nat → D} (l : List Nat) (hk : KB X A b cap) (he : entersB X.P g = true) (hc : RunK X.P g d0 b pre post np out) (hpre : PreAt m (rho l) pre)
    (hx : Ev f x (d0.ren (rho l)) := by exact ev_tmp rfl) (hy : Ev f y (.v (.lit (skv A 0 b.length cap))) := by exact ev_tmp rfl) (hnd : nodupB l = true := by exact rfl) (hB : callB l pre post np X.np = true := by first | rfl | (simp [callB, keys, dom, look, Ob.goes]; done)) (hpl : preLiveB pre = true := by exact rfl) (hal : d0.live (dom pre) = true := by exact rfl)
    (hu : AH.ren (rho l) post = upd := by first | rfl | (simp only [AH.ren, Ob.ren, D.rens, D.ren] <;> rfl)) (hd : (out A cap).ren (rho l) = d := by first | (simp only [D.ren, D.rens] <;> rfl) | rfl) : StepU X ⟨dst, .call { callee := .value (.func g), args := #[x, y], argTypes := tys }, ty, ps, af, gd⟩ f m d upd ((keys pre).map (rho l)) := by
  subst hu hd
  intro f' m' hf hT hn G w a hO hF K Q hK
  have hA : RepDs G w m' (D.rens (rho l) [d0, .v (.lit (skv A 0 b.length cap))]) [a.eval x, a.eval y] := .cons (ev_at hx (by simp [Op.operands, Call.operands]) hf hF) (.cons (ev_at hy (by simp [Op.operands, Call.operands]) hf hF) .nil)
  have hpre' : ∀ i o, look pre i = some o → m' (rho l i) = some (o.ren (rho l)) := fun i o h => by
    rw [hT (rho l i) (List.mem_map.2 ⟨i, mem_keys (dom_of h), rfl⟩)]; exact hpre.at i o h
  have hnew := hnew_of (f := f) hnd (fun x hx => .inl hx) hn
  unfold Oper.wp
  rw [run_call_func rfl he, Oper.upon_enter]
  have hus : [a.eval x, a.eval y].toArray = #[x, y].map a.eval := by simp
  rw [← hus]
  refine (call_mainR (Run := fun R => Calls X.P g [a.eval x, a.eval y].toArray w R) (fun _ _ h hc => hc.mono h) l (fun K H hXK h1 hS hμ hKK h2 h3 => hc K H w _ A cap h1 h2 (hk.to (Y := ⟨X.P, 0, w, K, H.S, np, H.μ, []⟩) hXK hO) h3) hnd hB hO hpre' hnew (preLive_of hpl) (by simp [D.lives, hal, D.live]) hA).mono fun e w' ⟨G', h1, h2, h3⟩ => ?_
  cases e with
  | returned v => exact hK G' w' v h1 h2 h3
  | panicked c => exact h3.elim
  | outgrown => exact h3.elim
/-- Such a call, the bytes a row of one's own, which stays as it is. -/
theorem z_callKV {dst : Option Tmp} {ty : TypeId} {ps : String} {af : Array Edge} {gd : Option (Nat × Bool)} {g : FuncId} {tys : Array TypeId} {x y : Operand} {d0 : D} {pre post : AH} {np r ver : Nat} {e' : TypeId} {b : List UInt8} {d : D} {upd : AH} (l : List Nat) (hr : l.contains r = false) (he : entersB X.P g = true) (hc : RunK X.P g d0 b pre post np (fun _ _ => d)) (hpre : PreAt m (rho l) pre)
    (hx : Ev f x (d0.ren (rho l)) := by exact ev_tmp rfl) (hm : m r = some (.row ver 1 e' (bs b)) := by exact rfl) (hy : Ev f y (.view r ver 0 b.length) := by exact ev_tmp rfl) (hrl : (keys post).all (fun i => Nat.blt i l.length) = true := by exact rfl) (hrk : (keys pre).all (fun i => Nat.blt i l.length) = true := by exact rfl) (hnd : nodupB l = true := by exact rfl) (hB : callB l pre post np X.np = true := by first | rfl | (simp [callB, keys, dom, look, Ob.goes]; done)) (hpl : preLiveB pre = true := by exact rfl) (hal : d0.live (dom pre) = true := by exact rfl)
    (hu : AH.ren (rho l) post = upd := by first | rfl | (simp only [AH.ren, Ob.ren, D.rens, D.ren] <;> rfl)) (hd : d.ren (rho l) = d := by first | (simp only [D.ren, D.rens] <;> rfl) | rfl) : StepU X ⟨dst, .call { callee := .value (.func g), args := #[x, y], argTypes := tys }, ty, ps, af, gd⟩ f m d upd (r :: (keys pre).map (rho l)) := by
  subst hu
  intro f' m' hf hT hn G w a hO hF K Q hK
  have hmr := (hT r (by simp)).trans hm
  have hview := ev_at hy (by simp [Op.operands, Call.operands]) hf hF
  have hne : ∀ i, Nat.blt i l.length = true → rho l i ≠ r := fun i hi he => by
    have hi : i < l.length := by rw [Nat.blt_eq] at hi; exact hi
    have : r ∈ l := by rw [← he]; unfold rho; rw [List.getElem?_eq_getElem hi]; exact List.getElem_mem hi
    simp [this] at hr
  have hpre' : ∀ i o, look pre i = some o → m' (rho l i) = some (o.ren (rho l)) := fun i o h => by
    rw [hT (rho l i) (List.mem_cons_of_mem _ (List.mem_map.2 ⟨i, mem_keys (dom_of h), rfl⟩))]; exact hpre.at i o h
  have hnew := hnew_of (f := f) hnd (fun x hx => by
    rcases List.mem_cons.1 hx with rfl | hx
    · exact .inr fun i hi => hne i (List.all_eq_true.1 hrl i (mem_keys hi))
    · exact .inl hx) hn
  have hrow := hO.ob r _ hmr
  obtain ⟨v1, A, cap, hu, a2, a3, a4⟩ := rep_view hview hmr
  obtain ⟨r1, r2, r3, r4, r5⟩ := hrow
  have hA0 : A.map (·.add 0) = A := by
    cases hμ : G.μ r with
    | none => rcases a4 with a4 | ⟨_, a5⟩
              · rw [a4, hμ]; rfl
              · exact absurd rfl a5
    | some g => rcases a4 with a4 | ⟨_, a5⟩
                · rw [a4, hμ]; simp [addr_add]
                · exact absurd rfl a5
  have hA1 : A = none ∨ ∃ g, A = some ⟨g, 0, none⟩ := by
    rcases a4 with a4 | ⟨_, a5⟩
    · rw [a4]
      cases G.μ r with
      | none => exact .inl rfl
      | some g => exact .inr ⟨g, by simp⟩
    · exact absurd rfl a5
  have hlit : a.eval y = skv A 0 b.length cap := by
    rw [hu]
    unfold skv
    by_cases h0 : 0 = cap
    · rw [if_pos h0, hA0]; rfl
    · rw [if_neg h0, hA0]; rfl
  have hA : RepDs G w m' (D.rens (rho l) [d0, .v (.lit (skv A 0 b.length cap))]) [a.eval x, a.eval y] := .cons (ev_at hx (by simp [Op.operands, Call.operands]) hf hF) (.cons (by rw [hlit]; exact .v _ _ (.lit _ rfl)) .nil)
  unfold Oper.wp
  rw [run_call_func rfl he, Oper.upon_enter]
  have hus : [a.eval x, a.eval y].toArray = #[x, y].map a.eval := by simp
  rw [← hus]
  refine (call_mainR (Run := fun R => Calls X.P g [a.eval x, a.eval y].toArray w R) (fun _ _ h hc => hc.mono h) l (fun K H hXK h1 hS hμ hKK h2 h3 => hc K H w _ A cap h1 h2 ⟨a3, by omega, ?_⟩ h3) hnd hB hO hpre' hnew (preLive_of hpl) (by simp [D.lives, hal, D.live]) hA).mono fun e w' ⟨G', h1, h2, h3⟩ => ?_
  · by_cases hb0 : b = []
    · exact .inl ⟨hb0, hA1⟩
    · have hpos : 0 < b.length := List.length_pos_iff.2 hb0
      rcases r5 with ⟨r6, r7⟩ | ⟨g0, cur, us, fz, e0', hfz, r6, r7, r8, r10, r11⟩
      · omega
      · have hA2 : A = some ⟨g0, 0, none⟩ := by
          rcases a4 with a4 | ⟨_, a5⟩
          · rw [a4, r6]; simp
          · exact absurd rfl a5
        refine .inr ⟨g0, hA2, hKK g0 ?_ fun i hi he => ?_, fun i x hx => ?_⟩
        · rcases Nat.lt_or_ge g0 w.heap.size with h | h
          · exact h
          · rw [Array.getElem?_eq_none h] at r7; cases r7
        · obtain ⟨o, ho⟩ := of_dom hi
          have h5 := hO.inj (rho l i) r g0 (by rw [hpre' i o ho]; simp) (by rw [hmr]; simp) he r6
          exact hne i (List.all_eq_true.1 hrk i (mem_keys hi)) h5
        · have h6 : elem? (bs b) i 0 = some (.int .u8 (x.toNat : Int)) := by unfold elem?; rw [bs_get hx]; rfl
          have h7 := r10 i 0 _ h6
          have h8 := r11 i 0 _ h6
          show w.cell? ⟨g0, i, none⟩ = _
          have h9 : us i 0 = .int .u8 (x.toNat : Int) := by
            generalize us i 0 = z at h8
            cases h8; rfl
          rw [h9, Nat.mul_one, Nat.add_zero] at h7
          simp [World.cell?, r7, h7]
  · cases e with
    | returned v => exact hK G' w' v h1 h2 (by rw [← hd]; exact h3)
    | panicked c => exact h3.elim
    | outgrown => exact h3.elim
end
end Go.Proofs.YtnjbfiejgiaibaaGreatDoor
