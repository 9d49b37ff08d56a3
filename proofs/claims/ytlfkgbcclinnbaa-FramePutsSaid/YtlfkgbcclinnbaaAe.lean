/- Abstract states: calls as operations; texts and slices. No program, no condition. -/
import Derived.Test.YtlfkgbcclinnbaaAd
import Derived.Laws.Concat
import Derived.Laws.BytesArg
import Derived.Laws.BytesString
import Derived.Laws.IdiomStrings
namespace Go.Proofs.Ytlfkgbcclinnbaa
set_option linter.all false
open Go Go.RowKit

/-- A function with a body is entered. -/
def entersB (P : Program) (f : FuncId) : Bool := match P.funcs[f]? with | some fn => !(fn.name == "runtime.NumGoroutine") && !fn.body.isNone | none => false
theorem run_enters {P : Program} {f : FuncId} (h : entersB P f = true) (args : Array Value) (w : World) : (callFunc f args).run P w = .ok (.enter f args) w := by
  unfold entersB at h
  cases hf : P.funcs[f]? with
  | none => rw [hf] at h; cases h
  | some fn =>
    rw [hf] at h
    simp only [Bool.and_eq_true, Bool.not_eq_true'] at h
    have h1 : ¬ fn.name = "runtime.NumGoroutine" := by simpa using h.1
    have h2 : ¬ fn.body = none := by intro e; rw [e] at h; simp at h
    simp [callFunc, hf, h1, h2]
inductive EvL (f : Nat → D) : List Operand → List D → Prop
  | nil : EvL f [] []
  | cons {x : Operand} {d : D} {xs : List Operand} {ds : List D} (h : Ev f x d) (r : EvL f xs ds) : EvL f (x :: xs) (d :: ds)
theorem EvL.rep {f f' : Nat → D} {G : Gh} {w : World} {m : Mem} {a : Act} (hF : FrOk G w m f' a) : ∀ {xs : List Operand} {ds : List D}, EvL f xs ds → (∀ x ∈ xs, ∀ t, x = .tmp t → f' t = f t) → RepDs G w m ds (xs.map a.eval) := by
  intro xs ds h
  induction h with
  | nil => intro _; exact .nil
  | @cons x d xs ds h r ih => exact fun hf => .cons (h f' (fun t ht => hf x List.mem_cons_self t ht) G w m a hF) (ih fun y hy => hf y (List.mem_cons_of_mem _ hy))
mutual
theorem D.ren_dead (ρ : Nat → Nat) : ∀ d : D, d.live (fun _ => false) = true → d.ren ρ = d
  | .v x, _ => rfl
  | .agg cs, h => by simp only [D.ren]; rw [D.rens_dead ρ cs (by simpa [D.live] using h)]
  | .tup cs, h => by simp only [D.ren]; rw [D.rens_dead ρ cs (by simpa [D.live] using h)]
  | .ptr id off, h => by simp [D.live] at h
  | .view id _ _ _, h => by simp [D.live] at h
  | .vptr id _ _ _, h => by simp [D.live] at h
  | .ref cs, _ => rfl
  | .fn f a b, h => by
    simp only [D.live, Bool.and_eq_true] at h
    simp only [D.ren]
    rw [D.rens_dead ρ a h.1, D.rens_dead ρ b h.2]
  | .cond b d, h => by simp only [D.ren]; rw [D.ren_dead ρ d (by simpa [D.live] using h)]
  | .any, _ => rfl
theorem D.rens_dead (ρ : Nat → Nat) : ∀ ds : List D, D.lives (fun _ => false) ds = true → D.rens ρ ds = ds
  | [], _ => rfl
  | d :: ds, h => by
    simp only [D.lives, Bool.and_eq_true] at h
    simp only [D.rens]
    rw [D.ren_dead ρ d h.1, D.rens_dead ρ ds h.2]
end
inductive PreAt (m : Mem) (ρ : Nat → Nat) : AH → Prop
  | nil : PreAt m ρ []
  | cons {i : Nat} {o : Ob} {r : AH} (h : m (ρ i) = some (o.ren ρ)) (hr : PreAt m ρ r) : PreAt m ρ ((i, o) :: r)
theorem PreAt.at {m : Mem} {ρ : Nat → Nat} {pre : AH} (h : PreAt m ρ pre) : ∀ i o, look pre i = some o → m (ρ i) = some (o.ren ρ) := by
  induction h with
  | nil => intro i o h; cases h
  | @cons k o r h hr ih =>
    intro i o' ho
    by_cases hk : k = i
    · subst hk; rw [look_cons_self] at ho; injection ho with ho; subst ho; exact h
    · rw [look_cons_ne _ _ hk] at ho; exact ih i o' ho
section
variable {X : Cx} {o : Oper} {f : Nat → D} {m : Mem} {d : D} {T : List Nat}
theorem run_call_func {P : Program} {w : World} {a : Act} {g : FuncId} {xs : Array Operand} {tys : Array TypeId} (ho : o.op = .call { callee := .value (.func g), args := xs, argTypes := tys }) (he : entersB P g = true) :
    (execOp a.eval o).run P w = .ok (.enter g (xs.map a.eval)) w := by
  have h1 : (execOp a.eval o).run P w = (callFunc g (xs.map a.eval)).run P w := by
    simp [execOp, ho, resolve, Act.eval, Deferred.ofValue, invoke]
  rw [h1, run_enters he]
theorem stepU_call {g : FuncId} {xs : Array Operand} {tys : Array TypeId} {args : List D} {pre post : AH} {np : Nat} {r : D} {upd : AH} (l : List Nat) (ho : o.op = .call { callee := .value (.func g), args := xs, argTypes := tys }) (he : entersB X.P g = true)
    (hc : Con X.P g args pre np (.ret r) post) (hx : EvL f xs.toList (D.rens (rho l) args)) (hpre : PreAt m (rho l) pre) (hnd : nodupB l = true) (hB : callB l pre post np X.np = true) (hpl : preLive pre) (hal : D.lives (dom pre) args = true)
    (hu : AH.ren (rho l) post = upd) (hd : r.ren (rho l) = d) : StepU X o f m d upd ((keys pre).map (rho l)) := by
  subst hu hd
  intro f' m' hf hT hn G w a hO hF K Q hK
  have hA := hx.rep hF (fun x hx t ht => hf t (by subst ht; rw [ho]; simp only [Op.operands, Call.operands]; exact Array.mem_append.2 (.inr (by simpa using hx))))
  have hinj := rho_inj hnd
  have hpre' : ∀ i o, look pre i = some o → m' (rho l i) = some (o.ren (rho l)) := fun i o h => by
    rw [hT (rho l i) (List.mem_map.2 ⟨i, mem_keys (dom_of h), rfl⟩)]; exact hpre.at i o h
  have hnew : ∀ i, dom post i = true → dom pre i = false → m' (rho l i) = none := fun i h1 h2 => by
    obtain ⟨o', ho'⟩ := of_dom h1
    have hin : (rho l i, o'.ren (rho l)) ∈ AH.ren (rho l) post := by
      have := mem_of_look (ah := AH.ren (rho l) post) (i := rho l i) (o := o'.ren (rho l)) (by rw [look_ren hinj, ho']; rfl)
      exact this
    refine hn _ hin fun hmem => ?_
    obtain ⟨j, hj, he⟩ := List.mem_map.1 hmem
    have := hinj _ _ he
    subst this
    unfold keys at hj
    obtain ⟨p, hp, rfl⟩ := List.mem_map.1 hj
    rw [dom_mem hp] at h2; cases h2
  unfold Oper.wp
  rw [run_call_func ho he, Oper.upon_enter]
  have hus : (xs.toList.map a.eval).toArray = xs.map a.eval := by rw [← Array.toList_map]
  rw [← hus]
  refine (call_main hc l hnd hB hO hpre' hnew hpl hal _ hA).mono fun e w' ⟨G', h1, h2, h3⟩ => ?_
  cases e with
  | returned v => exact hK G' w' v h1 h2 h3
  | panicked c => exact h3.elim
  | outgrown => exact h3.elim
/-- A call that touches no memory of one's own. -/
theorem stepU_call0 {g : FuncId} {xs : Array Operand} {tys : Array TypeId} {args : List D} {np : Nat} (ho : o.op = .call { callee := .value (.func g), args := xs, argTypes := tys }) (he : entersB X.P g = true)
    (hc : Con X.P g args [] np (.ret d) []) (hx : EvL f xs.toList args) (ha : D.lives (fun _ => false) args = true) (hd : d.live (fun _ => false) = true) : StepU X o f m d [] [] :=
  stepU_call [] ho he hc (by rw [D.rens_dead _ _ ha]; exact hx) .nil rfl rfl (fun i cs h => by cases h) ha rfl (D.ren_dead _ _ hd)
/-- A call that makes one row. -/
theorem stepU_call1 {g : FuncId} {xs : Array Operand} {tys : Array TypeId} {args : List D} {np v n len : Nat} {e : TypeId} {c : List (List V)} (id : Nat) (ho : o.op = .call { callee := .value (.func g), args := xs, argTypes := tys }) (he : entersB X.P g = true)
    (hc : Con X.P g args [] 0 (.ret (.view 0 v 0 len)) [(0, .row v n e c)]) (hx : EvL f xs.toList args) (ha : D.lives (fun _ => false) args = true) (hid : X.np ≤ id) : StepU X o f m (.view id v 0 len) [(id, .row v n e c)] [] :=
  stepU_call [id] ho he hc (by rw [D.rens_dead _ _ ha]; exact hx) .nil rfl (by simp [callB, keys, hid]) (fun i cs h => by cases h) ha rfl rfl
theorem rep_sl {G : Gh} {w : World} {m : Mem} {c : List (List V)} {u : Value} (h : RepD G w m (.v (.sl c)) u) : RepV G.S w (.sl c) u := by cases h with | v _ _ h => exact h
theorem repV_len {Z : Nat → Prop} {w : World} {c : List (List V)} {u : Value} (h : RepV Z w (.sl c) u) : ∃ A cap, u = .slice A c.length cap ∧ c.length ≤ cap ∧ cap ≤ maxLen := by
  cases h with
  | nil A cap hm => exact ⟨A, cap, rfl, Nat.zero_le _, hm⟩
  | sl _ g o n cap us hne hz hn hs hcap hm hc hr => exact ⟨_, cap, rfl, hcap, hm⟩
/-- len(x) -/
theorem stepU_len {x : Operand} {t e : TypeId} {c : List (List V)} (ho : o.op = .call { callee := .builtin .len, args := #[x], argTypes := #[t] }) (ht : X.P.underlying t = some (.slice e)) (hx : Ev f x (.v (.sl c))) : StepU X o f m (.v (.int .i64 (c.length : Int))) [] [] :=
  stepU_pure fun f' m' hf _ G w a _ hF => by
    obtain ⟨A, cap, h, _⟩ := repV_len (rep_sl (ev_at hx (by simp [ho, Op.operands, Call.operands]) hf hF))
    exact ⟨_, by simp [execOp, ho, resolve, invoke, builtin, Builtin.len_, run_underlying ht, h, goInt], mk_int _ _⟩
theorem stepU_lenS {x : Operand} {t : TypeId} {l : List UInt8} (ho : o.op = .call { callee := .builtin .len, args := #[x], argTypes := #[t] }) (ht : X.P.underlying t = some .string) (hx : Ev f x (.v (.str l))) : StepU X o f m (.v (.int .i64 (l.length : Int))) [] [] :=
  stepU_pure fun f' m' hf _ G w a _ hF => by
    have h := rep_str (ev_at hx (by simp [ho, Op.operands, Call.operands]) hf hF)
    exact ⟨_, by simp [execOp, ho, resolve, invoke, builtin, Builtin.len_, run_underlying ht, h, goInt], mk_int _ _⟩
theorem stepU_lenV {x : Operand} {t e : TypeId} {id ver off len n : Nat} {e' : TypeId} {c : List (List V)} (ho : o.op = .call { callee := .builtin .len, args := #[x], argTypes := #[t] }) (ht : X.P.underlying t = some (.slice e)) (hx : Ev f x (.view id ver off len)) (hm : m id = some (.row ver n e' c)) : StepU X o f m (.v (.int .i64 (len : Int))) [] [id] :=
  stepU_pure fun f' m' hf hT G w a _ hF => by
    have h := ev_at hx (by simp [ho, Op.operands, Call.operands]) hf hF
    have hm' := (hT id (by simp)).trans hm
    generalize hu : a.eval x = u at h
    cases h with
    | view _ _ _ _ _ ver' n' e'' c' h hv h1 h2 =>
      rw [hm'] at h
      injection h with h
      injection h with h3 h4 h5 h6
      subst h3
      obtain ⟨_, A, cap, rfl, _⟩ := h2 rfl
      exact ⟨_, by simp [execOp, ho, resolve, invoke, builtin, Builtin.len_, run_underlying ht, hu, goInt], mk_int _ _⟩
/-- x[i] of a text. -/
theorem stepU_indexS {x y : Operand} {t : TypeId} {l : List UInt8} {i : Nat} {k : IntKind} {p : Int} {b : UInt8} (ho : o.op = .index t x y) (ht : X.P.underlying t = some .string) (hx : Ev f x (.v (.str l))) (hy : Ev f y (.v (.int k p))) (hp : p = (i : Int)) (hb : l[i]? = some b) : StepU X o f m (.v (.int .u8 (b.toNat : Int))) [] [] :=
  stepU_pure fun f' m' hf _ G w a _ hF => by
    have h1 := rep_str (ev_at hx (by simp [ho, Op.operands]) hf hF)
    have h2 := rep_int (ev_at hy (by simp [ho, Op.operands]) hf hF)
    subst hp
    refine ⟨.int .u8 (b.toNat : Int), ?_, mk_int _ _⟩
    have hs : (S l)[i]? = some b := by
      have hlt : i < l.length := (List.getElem?_eq_some_iff.1 hb).1
      have h3 : (S l)[i]? = (S l).toList[i]? := by rw [getElem?_pos (S l) i (by rw [S_size]; exact hlt), getElem?_pos (S l).toList i (by simpa using hlt), toget]
      rw [h3, S_toList, hb]
    simp [execOp, ho, h1, h2, Instr.index, asIntOf, run_underlying ht, hs]
/-- &x[i] of a slice that will not change. -/
theorem stepU_indexAddr {x y : Operand} {t e : TypeId} {c : List (List V)} {i : Nat} {k : IntKind} {p : Int} {cs : List V} {n : Nat} {b : Bool} (ho : o.op = .indexAddr t x y) (ht : X.P.underlying t = some (.slice e)) (hs : sizeB X.P e = some (b, n)) (hx : Ev f x (.v (.sl c))) (hy : Ev f y (.v (.int k p))) (hp : p = (i : Int)) (hb : c[i]? = some cs) (hn : cs.length = n) :
    StepU X o f m (.ref cs) [] [] :=
  stepU_pure fun f' m' hf _ G w a _ hF => by
    have h1 := rep_sl (ev_at hx (by simp [ho, Op.operands]) hf hF)
    have h2 := rep_int (ev_at hy (by simp [ho, Op.operands]) hf hF)
    have hlt : i < c.length := (List.getElem?_eq_some_iff.1 hb).1
    subst hp
    generalize hu : a.eval x = u at h1
    cases h1 with
    | nil A cap hm => simp at hlt
    | sl _ g q n' cap us hne hz hn' hs' hcap hm hc hr =>
      have hnn : n' = n := by rw [← hn]; exact (hs' cs (List.mem_of_getElem? hb)).symm
      subst hnn
      have hel : ∀ j x, cs[j]? = some x → elem? c i j = some x := fun j x hx => by unfold elem?; rw [hb]; exact hx
      refine ⟨.pointer (some ⟨g, q + i * n', none⟩), ?_, .ref cs g (q + i * n') (us i) hz (fun j x hx => by rw [Nat.add_assoc]; exact hc i j x (hel j x hx)) (fun j x hx => hr i j x (hel j x hx))⟩
      simp [execOp, ho, hu, h2, Instr.indexAt, asIntOf, run_underlying ht, (run_sizeB hs w).1, hlt, addr_add]
/-- x[lo:hi] of a slice that will not change. -/
def cut (lo hi : Nat) (c : List (List V)) : List (List V) := (c.drop lo).take (hi - lo)
theorem repV_cut {Z : Nat → Prop} {w : World} {c : List (List V)} {u : Value} (h : RepV Z w (.sl c) u) (lo hi n : Nat) (hlo : lo ≤ hi) (hhi : hi ≤ c.length) (hsz : ∀ e ∈ c, e.length = n) : ∃ A cap, u = .slice A c.length cap ∧ c.length ≤ cap ∧
    RepV Z w (.sl (cut lo hi c)) (.slice (if cap = lo then A else A.map (·.add (lo * n))) (hi - lo) (cap - lo)) := by
  have elem_cut : ∀ i j x, elem? (cut lo hi c) i j = some x → elem? c (lo + i) j = some x := fun i j x hx => by
    unfold elem? cut at hx
    unfold elem?
    rw [List.getElem?_take] at hx
    split at hx
    · rw [List.getElem?_drop] at hx; exact hx
    · cases hx
  cases h with
  | nil A cap hm =>
    have : cut lo hi [] = [] := by simp [cut]
    rw [this]
    have h0 : hi - lo = 0 := by simp at hhi; omega
    rw [h0]
    exact ⟨A, cap, rfl, Nat.zero_le _, .nil _ _ (by omega)⟩
  | sl _ g o n' cap us hne hz hn hs hcap hm hc hr =>
    have hnn : n' = n := by rw [← hs c[0] (List.getElem_mem hne)]; exact hsz _ (List.getElem_mem hne)
    subst hnn
    refine ⟨_, cap, rfl, hcap, ?_⟩
    have hl : (cut lo hi c).length = hi - lo := by simp [cut]; omega
    by_cases hlh : lo = hi
    · subst hlh
      have : cut lo lo c = [] := by simp [cut]
      rw [this, Nat.sub_self]
      exact .nil _ _ (by omega)
    · rw [if_neg (by omega)]
      have h := RepV.sl (Z := Z) (w := w) (cut lo hi c) g (o + lo * n') n' (cap - lo) (fun i j => us (lo + i) j) (by omega) hz hn (fun e he => hs e (List.mem_of_mem_drop (List.mem_of_mem_take he))) (by omega) (by omega)
        (fun i j x hx => by
          have := hc (lo + i) j x (elem_cut i j x hx)
          rw [show o + lo * n' + (i * n' + j) = o + ((lo + i) * n' + j) from by rw [Nat.add_mul]; omega]
          exact this)
        (fun i j x hx => hr (lo + i) j x (elem_cut i j x hx))
      rw [hl] at h
      have e : (Option.some (⟨g, o, none⟩ : Addr)).map (·.add (lo * n')) = some ⟨g, o + lo * n', none⟩ := by simp [addr_add]
      rw [e]
      exact h
/-- A bound of a slice expression. -/
inductive EvO (f : Nat → D) : Option Operand → Option Nat → Prop
  | no : EvO f none none
  | yes {x : Operand} {k : IntKind} {p : Int} {i : Nat} (h : Ev f x (.v (.int k p))) (hp : p = (i : Int)) : EvO f (some x) (some i)
theorem EvO.at {f f' : Nat → D} {G : Gh} {w : World} {m : Mem} {a : Act} (hF : FrOk G w m f' a) {x : Option Operand} {i : Option Nat} (h : EvO f x i) (hf : ∀ t, x = some (.tmp t) → f' t = f t) : ∃ k : IntKind, x.map a.eval = i.map fun i => Value.int k (i : Int) := by
  cases h with
  | no => exact ⟨.i64, rfl⟩
  | @yes x k p i h hp =>
    subst hp
    have := rep_int (h f' (fun t ht => hf t (by rw [ht])) G w m a hF)
    exact ⟨k, by simp [this]⟩
theorem run_bounds {P : Program} {w : World} (b : Bool) (len cap : Nat) (lo hi : Option Nat) (k k' : IntKind) (h1 : lo.getD 0 ≤ hi.getD len) (h2 : hi.getD len ≤ cap) : (Instr.sliceBounds b len cap (lo.map fun i => Value.int k (i : Int)) (hi.map fun i => Value.int k' (i : Int)) none).run P w = .ok (lo.getD 0, hi.getD len, cap) w := by
  unfold Instr.sliceBounds
  have bd : ∀ (k : IntKind) (i y : Nat) (code : BoundsCode), i ≤ y → (Instr.sliceBound (.int k (i : Int)) y code).run P w = .ok i w := fun k i y code h => by
    unfold Instr.sliceBound
    simp only [asIntOf, Sem.run_bind, Sem.run_pure, Result.andThen_ok]
    rw [if_pos (by omega)]; simp
  cases lo with
  | none =>
    cases hi with
    | none => simp
    | some j => simp at h1 h2; simp [bd k' j cap _ h2]
  | some i =>
    cases hi with
    | none => simp at h1 h2; simp [bd k i len _ h1]
    | some j => simp at h1 h2; simp [bd k' j cap _ h2, bd k i j _ h1]
theorem stepU_slice {x : Operand} {lo hi : Option Operand} {t e : TypeId} {c : List (List V)} {i j : Option Nat} {b : Bool} {n : Nat} (ho : o.op = .slice t x lo hi none) (ht : X.P.underlying t = some (.slice e)) (hs : sizeB X.P e = some (b, n)) (hsz : ∀ e ∈ c, e.length = n) (hx : Ev f x (.v (.sl c))) (hlo : EvO f lo i) (hhi : EvO f hi j)
    (h1 : i.getD 0 ≤ j.getD c.length) (h2 : j.getD c.length ≤ c.length) {c' : List (List V)} (hc : cut (i.getD 0) (j.getD c.length) c = c') : StepU X o f m (.v (.sl c')) [] [] :=
  stepU_pure fun f' m' hf _ G w a _ hF => by
    subst hc
    have hr := rep_sl (ev_at hx (by simp [ho, Op.operands]) hf hF)
    obtain ⟨k1, e1⟩ := hlo.at hF (fun t ht => hf t (by subst ht; simp [ho, Op.operands]))
    obtain ⟨k2, e2⟩ := hhi.at hF (fun t ht => hf t (by subst ht; simp [ho, Op.operands]))
    obtain ⟨A, cap, hu, hcap, hr'⟩ := repV_cut hr (i.getD 0) (j.getD c.length) n h1 h2 hsz
    refine ⟨_, ?_, .v _ _ hr'⟩
    have hb := run_bounds (P := X.P) (w := w) true c.length cap i j k1 k2 h1 (by omega)
    simp only [execOp, ho, hu, e1, e2, Instr.sliceAt, Sem.run_bind, run_underlying ht, Result.andThen_ok, Instr.slice, Option.map_none, hb, (run_sizeB hs w).1, Sem.run_pure]
end
end Go.Proofs.Ytlfkgbcclinnbaa
