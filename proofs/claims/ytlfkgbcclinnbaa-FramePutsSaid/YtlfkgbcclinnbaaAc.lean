/- Abstract states: functions, their contracts, what is dropped at their end. No program, no condition. -/
import Derived.Test.YtlfkgbcclinnbaaAw
namespace Go.Proofs.Ytlfkgbcclinnbaa
set_option linter.all false
open Go Go.RowKit

mutual
/-- Does a value name only memories that are kept? -/
def D.live (k : Nat → Bool) : D → Bool
  | .v _ | .ref _ | .any => true
  | .agg cs => D.lives k cs
  | .tup ds => D.lives k ds
  | .ptr id _ => k id
  | .view id _ _ _ => k id
  | .vptr id _ _ _ => k id
  | .fn _ a b => D.lives k a && D.lives k b
  | .cond _ d => D.live k d
def D.lives (k : Nat → Bool) : List D → Bool
  | [] => true
  | d :: ds => D.live k d && D.lives k ds
end
theorem D.lives_get {k : Nat → Bool} : ∀ {ds : List D} {i : Nat} {d : D}, D.lives k ds = true → ds[i]? = some d → d.live k = true
  | [], i, d, _, h => by simp at h
  | e :: ds, 0, d, h, hd => by
    simp only [D.lives, Bool.and_eq_true] at h
    simp at hd; subst hd; exact h.1
  | e :: ds, i + 1, d, h, hd => by
    simp only [D.lives, Bool.and_eq_true] at h
    exact D.lives_get h.2 (by simpa using hd)
theorem D.lives_v {k : Nat → Bool} (xs : List V) : D.lives k (xs.map .v) = true := by
  induction xs with
  | nil => rfl
  | cons x xs ih => simp [D.lives, D.live, ih]
section
variable {X : Cx} {G : Gh} {w : World} {m m' : Mem}
theorem RepD.part {d : D} {u : Value} (h : RepD G w m d u) {k : Nat → Bool} (hk : ∀ id, k id = true → m' id = m id) (hl : d.live k = true) : RepD G w m' d u := by
  induction h with
  | v x u h => exact .v x u h
  | agg cs us hl' h1 h ih => exact .agg cs us hl' h1 fun i d u hd hu => ih i d u hd hu (D.lives_get (by simpa [D.live] using hl) hd)
  | tup ds us hl' h ih => exact .tup ds us hl' fun i d u hd hu => ih i d u hd hu (D.lives_get (by simpa [D.live] using hl) hd)
  | ptr id off g cs h hg => exact .ptr id off g cs ((hk id (by simpa [D.live] using hl)).trans h) hg
  | view id ver off len u ver' n e c h hv h1 h2 => exact .view id ver off len u ver' n e c ((hk id (by simpa [D.live] using hl)).trans h) hv h1 h2
  | vptr id ver i j u ver' n e c h hv h1 h2 => exact .vptr id ver i j u ver' n e c ((hk id (by simpa [D.live] using hl)).trans h) hv h1 h2
  | ref cs g o us hz hc hr => exact .ref cs g o us hz hc hr
  | fn f first caps us vs hl1 hl2 h h' ih ih' =>
    simp only [D.live, Bool.and_eq_true] at hl
    exact .fn f first caps us vs hl1 hl2 (fun i d u hd hu => ih i d u hd hu (D.lives_get hl.1 hd)) (fun i d u hd hu => ih' i d u hd hu (D.lives_get hl.2 hd))
  | cond b d u h h0 ih => exact .cond b d u (fun hb => ih hb (by simpa [D.live] using hl)) h0
  | any u => exact .any u
theorem RepDs.part {ds : List D} {us : List Value} (h : RepDs G w m ds us) {k : Nat → Bool} (hk : ∀ id, k id = true → m' id = m id) (hl : D.lives k ds = true) : RepDs G w m' ds us :=
  ⟨h.1, fun i d u hd hu => (h.2 i d u hd hu).part hk (D.lives_get hl hd)⟩
def dom (ah : AH) (id : Nat) : Bool := (look ah id).isSome
/-- Only these memories are kept. -/
inductive KeepA (ah : AH) (k : Nat → Bool) : AH → Prop
  | nil : KeepA ah k []
  | box {id : Nat} {cs : List D} {r : AH} (h : look ah id = some (.box cs)) (hl : D.lives k cs = true) (hr : KeepA ah k r) : KeepA ah k ((id, .box cs) :: r)
  | row {id ver n : Nat} {e : TypeId} {c : List (List V)} {r : AH} (h : look ah id = some (.row ver n e c)) (hr : KeepA ah k r) : KeepA ah k ((id, .row ver n e c) :: r)
inductive KeepF (fr : Fm) (k : Nat → Bool) : Fm → Prop
  | nil : KeepF fr k []
  | cons {t : Nat} {d : D} {r : Fm} (h : look fr t = some d) (hl : d.live k = true) (hr : KeepF fr k r) : KeepF fr k ((t, d) :: r)
theorem KeepA.at {ah ah' : AH} {k : Nat → Bool} (h : KeepA ah k ah') : ∀ id o, look ah' id = some o → look ah id = some o ∧ ∀ cs, o = .box cs → D.lives k cs = true := by
  induction h with
  | nil => intro id o h; cases h
  | @box i cs r h hl hr ih =>
    intro id o ho
    by_cases hi : i = id
    · subst hi; rw [look_cons_self] at ho; injection ho with ho; subst ho; exact ⟨h, fun cs' he => by injection he with he; subst he; exact hl⟩
    · rw [look_cons_ne _ _ hi] at ho; exact ih id o ho
  | @row i ver n e c r h hr ih =>
    intro id o ho
    by_cases hi : i = id
    · subst hi; rw [look_cons_self] at ho; injection ho with ho; subst ho; exact ⟨h, fun cs' he => by cases he⟩
    · rw [look_cons_ne _ _ hi] at ho; exact ih id o ho
theorem KeepF.at {fr fr' : Fm} {k : Nat → Bool} (h : KeepF fr k fr') : ∀ t d, look fr' t = some d → look fr t = some d ∧ d.live k = true := by
  induction h with
  | nil => intro id o h; cases h
  | @cons t d r h hl hr ih =>
    intro t' d' hd
    by_cases hi : t = t'
    · subst hi; rw [look_cons_self] at hd; injection hd with hd; subst hd; exact ⟨h, hl⟩
    · rw [look_cons_ne _ _ hi] at hd; exact ih t' d' hd
theorem Ok.keepA {ah ah' : AH} (h : Ok X G w (look ah)) (hk : KeepA ah (dom ah') ah') : Ok X G w (look ah') ∧ ∀ id, dom ah' id = true → look ah' id = look ah id := by
  have hat := hk.at
  have hd : ∀ id, dom ah' id = true → look ah' id = look ah id := fun id hi => by
    unfold dom at hi
    cases ho : look ah' id with
    | none => rw [ho] at hi; cases hi
    | some o => exact (hat id o ho).1.symm
  have hne : ∀ id, look ah' id ≠ none → look ah id ≠ none := fun id hi => by
    cases ho : look ah' id with
    | none => exact absurd ho hi
    | some o => rw [(hat id o ho).1]; simp
  refine ⟨⟨fun id o ho => ?_, fun i j g hi hj => h.inj i j g (hne i hi) (hne j hj), fun i g hi => h.apart i g (hne i hi), h.low, h.keep, h.os, h.tape, h.output, h.size, h.s0, h.sk, fun id cs hid ho => h.pin id cs hid (hat id _ ho).1⟩, hd⟩
  have h1 := h.ob id o (hat id o ho).1
  cases o with
  | box cs =>
    obtain ⟨g, us, t, h2, h3, h4, h5⟩ := h1
    exact ⟨g, us, t, h2, h3, h4, h5.part hd ((hat id _ ho).2 cs rfl)⟩
  | row ver n e c => exact h1
theorem weak_keep {fr fr' : Fm} {ah ah' : AH} (ha : KeepA ah (dom ah') ah') (hf : KeepF fr (dom ah') fr') : Weak X fr ah fr' ah' := fun G w a hS => by
  obtain ⟨h1, h2⟩ := hS.ok.keepA ha
  refine ⟨G, h1, fun t => ?_, hS.nt, hS.df⟩
  cases hl : look fr' t with
  | none => unfold Fm.at; rw [hl]; exact .any _
  | some d =>
    obtain ⟨h3, h4⟩ := hf.at t d hl
    rw [Fm.at_eq hl]
    have := hS.fr t
    rw [Fm.at_eq h3] at this
    exact this.part h2 h4
theorem aw_keep {Q : AX → Fm → AH → Prop} {c : Code} {fr fr' : Fm} {ah ah' : AH} (ha : KeepA ah (dom ah') ah') (hf : KeepF fr (dom ah') fr') (k : aw X c Q fr' ah') : aw X c Q fr ah := aw_weak (weak_keep ha hf) k
end
/-- What a call comes to. -/
inductive Out where
  | ret (d : D)
  | pan (d : D)
def OutAt (G : Gh) (w : World) (m : Mem) : Out → Ending → Prop
  | .ret d, .returned v => RepD G w m d v
  | .pan d, .panicked chain => ∃ v, chain = [{ v, recovered := false }] ∧ RepD G w m d v
  | _, _ => False
/-- A function's contract: of arguments and memories known so it comes to this, and leaves the memories so. -/
def Con (P : Program) (f : FuncId) (args : List D) (pre : AH) (np : Nat) (out : Out) (post : AH) : Prop :=
  ∀ (K : Nat → Prop) (G : Gh) (w : World) (us : List Value), (∀ g, G.S g → K g) → Ok ⟨P, 0, w, K, G.S, np, G.μ⟩ G w (look pre) → RepDs G w (look pre) args us →
    Calls P f us.toArray w fun e w' => ∃ G', Ok ⟨P, 0, w, K, G.S, np, G.μ⟩ G' w' (look post) ∧ OutAt G' w' (look post) out e
/-- The parameters' slots. -/
def argsFr : Nat → List D → Fm
  | _, [] => []
  | t, d :: ds => (t, d) :: argsFr (t + 1) ds
theorem argsFr_look : ∀ (ds : List D) (k t : Nat), look (argsFr k ds) t = if k ≤ t then ds[t - k]? else none
  | [], k, t => by simp [argsFr, look]
  | d :: ds, k, t => by
    unfold argsFr
    by_cases h : k = t
    · subst h; rw [look_cons_self]; simp
    · rw [look_cons_ne _ _ h, argsFr_look ds (k + 1) t]
      by_cases h1 : k ≤ t
      · rw [if_pos (by omega), if_pos h1, show t - k = (t - (k + 1)) + 1 from by omega, List.getElem?_cons_succ]
      · rw [if_neg (by omega), if_neg h1]
theorem Ok.nt {X : Cx} {G : Gh} {w : World} {m : Mem} (h : Ok X G w m) (n : Nat) : Ok { X with nt := n } G w m := ⟨h.ob, h.inj, h.apart, h.low, h.keep, h.os, h.tape, h.output, h.size, h.s0, h.sk, h.pin⟩
/-- What the results are. -/
inductive ResIs (P : Program) (fr : Fm) (ah : AH) : List ResultVar → List D → Prop
  | nil : ResIs P fr ah [] []
  | tmp {t : Nat} {d : D} {rs : List ResultVar} {ds : List D} (h : look fr t = some d) (hr : ResIs P fr ah rs ds) : ResIs P fr ah (.tmp t :: rs) (d :: ds)
  | cell {t id n : Nat} {ty : TypeId} {b : Bool} {cs : List D} {d : D} {rs : List ResultVar} {ds : List D} (h : look fr t = some (.ptr id 0)) (hm : look ah id = some (.box cs)) (hs : sizeB P ty = some (b, n)) (hn : (b = true ∨ n = 1) ∧ n ≤ cs.length)
      (hd : rd b (cs.take n) = d) (hr : ResIs P fr ah rs ds) : ResIs P fr ah (.cell t ty :: rs) (d :: ds)
def retD (ds : List D) : D := match ds with | [d] => d | ds => .tup ds
def resOne (tmps : Array Value) : ResultVar → Sem Value
  | .tmp t => pure (tmps.getD t undef)
  | .cell c t => do loadVar t (← asAddr (tmps.getD c undef))
theorem run_results {X : Cx} {G : Gh} {w : World} {fr : Fm} {ah : AH} {a : Act} (hO : Ok X G w (look ah)) (hF : FrOk G w (look ah) fr.at a) : ∀ {rs : List ResultVar} {ds : List D}, ResIs X.P fr ah rs ds →
    ∃ us : List Value, (rs.mapM (resOne a.tmps)).run X.P w = .ok us w ∧ RepDs G w (look ah) ds us := by
  intro rs ds h
  induction h with
  | nil => exact ⟨[], by simp, .nil⟩
  | @tmp t d rs ds h hr ih =>
    obtain ⟨us, h1, h2⟩ := ih
    have h3 := hF t
    rw [Fm.at_eq h] at h3
    exact ⟨a.tmps.getD t undef :: us, by simp only [List.mapM_cons, resOne, Sem.run_bind, Sem.run_pure, Result.andThen_ok, h1], .cons h3 h2⟩
  | @cell t id n ty b cs d rs ds h hm hs hn hd hr ih =>
    obtain ⟨us, h1, h2⟩ := ih
    have h3 := hF t
    rw [Fm.at_eq h] at h3
    obtain ⟨g, cs', h4, h5, h6⟩ := rep_ptr h3
    obtain ⟨g', vs, t', k1, k2, k3, k4⟩ := hO.ob id _ hm
    obtain rfl : g' = g := by rw [k1] at h5; simpa using h5
    have hR := k4.take n
    have hl : (vs.take n).length = n := by have := hR.1; rw [this]; simp; omega
    have hrun := run_loadVar_at (w := w) hs g' 0 (vs.take n) hl (fun j u hu => by
      rw [Nat.zero_add, cell_box k2 (id := id) (cs := cs)]
      rw [List.getElem?_take] at hu
      split at hu
      · exact hu
      · cases hu) (fun hb => by rcases hn.1 with h | h <;> simp_all)
    refine ⟨(if b then .agg (vs.take n).toArray else (vs.take n).headD undef) :: us, ?_, .cons (by rw [← hd]; exact rep_rd hR (fun u hu => k3 u (List.mem_of_mem_take hu))) h2⟩
    simp only [List.mapM_cons, resOne, Sem.run_bind, Sem.run_pure, Result.andThen_ok, h4, asAddr, hrun, h1]
def retV (us : List Value) : Value := match us with | [u] => u | us => .tuple us.toArray
theorem rep_ret {G : Gh} {w : World} {m : Mem} {ds : List D} {us : List Value} (h : RepDs G w m ds us) : RepD G w m (retD ds) (retV us) := by
  match ds, us, h with
  | [], [], h => exact .tup [] [] h.1 h.2
  | [d], [u], h => exact h.2 0 d u rfl rfl
  | d :: d' :: ds, u :: u' :: us, h => exact .tup _ _ h.1 h.2
  | [], u :: us, h => have := h.1; simp at this
  | [d], [], h => have := h.1; simp at this
  | [d], u :: u' :: us, h => have := h.1; simp at this
  | d :: d' :: ds, [], h => have := h.1; simp at this
  | d :: d' :: ds, [u], h => have := h.1; simp at this
theorem run_results_of {P : Program} {fn : Func} {w : World} {tmps : Array Value} {us : List Value}
    (h : (fn.results.toList.mapM (resOne tmps)).run P w = .ok us w) : (results fn tmps).run P w = .ok (retV us) w := by
  have e : results fn tmps = (do let vs ← fn.results.mapM (resOne tmps); pure (if h : vs.size = 1 then vs[0] else .tuple vs)) := by
    unfold results
    congr 1
  rw [e, Array.mapM_eq_mapM_toList]
  simp only [Sem.run_bind, Sem.run_map, h, Result.andThen_ok, Sem.run_pure]
  congr 1
  match us with
  | [] => rfl
  | [u] => rfl
  | u :: u' :: us => rfl
/-- A function's contract, out of the walk of its body. -/
theorem con_of {P : Program} {f : FuncId} {fn : Func} {c : Code} {args : List D} {pre post : AH} {np : Nat} {out : Out} (hf : P.funcs[f]? = some fn) (hb : fn.body = some c) (hargs : args.length ≤ fn.ntmps)
    (h : ∀ (X : Cx) (Q : AX → Fm → AH → Prop), X.P = P → X.nt = fn.ntmps → X.np = np →
      (∀ fr ah rs ds d, fn.results.toList = rs → ResIs P fr ah rs ds → retD ds = d → out = .ret d → KeepA ah (dom post) post → d.live (dom post) = true → Q .ret fr ah ∧ Q .normal fr ah) →
      (∀ fr ah d, out = .pan d → KeepA ah (dom post) post → d.live (dom post) = true → Q (.pan d) fr ah) → aw X c Q (argsFr 0 args) pre) : Con P f args pre np out post := by
  intro K G w us hSK hO hA
  refine calls_of_wp hf hb ?_
  have hsz : (us.toArray ++ Array.replicate (fn.ntmps - us.toArray.size) undef).size = fn.ntmps := by simp; have := hA.1; omega
  let X : Cx := ⟨P, fn.ntmps, w, K, G.S, np, G.μ⟩
  let Q : AX → Fm → AH → Prop := fun e fr ah => match e with
    | .ret | .normal => ∃ ds d, ResIs P fr ah fn.results.toList ds ∧ retD ds = d ∧ out = .ret d ∧ KeepA ah (dom post) post ∧ d.live (dom post) = true
    | .pan d => out = .pan d ∧ KeepA ah (dom post) post ∧ d.live (dom post) = true
    | _ => False
  have hw := h X Q rfl rfl rfl (fun fr ah rs ds d e1 e2 e3 e4 e5 e6 => by subst e1; exact ⟨⟨ds, d, e2, e3, e4, e5, e6⟩, ⟨ds, d, e2, e3, e4, e5, e6⟩⟩) (fun fr ah d e1 e2 e3 => ⟨e1, e2, e3⟩)
    G w { tmps := us.toArray ++ Array.replicate (fn.ntmps - us.toArray.size) undef, defers := [] } ⟨hO.nt _, fun t => ?_, hsz, rfl⟩
  · refine wp_mono hw fun e a w' q => ?_
    have fin : ∀ G' fr ah, St X G' w' a fr ah → (∃ ds d, ResIs P fr ah fn.results.toList ds ∧ retD ds = d ∧ out = .ret d ∧ KeepA ah (dom post) post ∧ d.live (dom post) = true) →
        a.defers = [] ∧ ∃ v, (results fn a.tmps).run P w' = .ok v w' ∧ ∃ G', Ok ⟨P, 0, w, K, G.S, np, G.μ⟩ G' w' (look post) ∧ OutAt G' w' (look post) out (.returned v) := by
      intro G' fr ah hS ⟨ds, d, e2, e3, e4, e5, e6⟩
      obtain ⟨vs, h1, h2⟩ := run_results (X := X) hS.ok hS.fr e2
      obtain ⟨h3, h4⟩ := hS.ok.keepA e5
      refine ⟨hS.df, _, run_results_of h1, G', h3.nt 0, ?_⟩
      subst e4
      have h5 : RepD G' w' (look ah) d (retV vs) := by
        subst e3
        exact rep_ret h2
      exact h5.part h4 e6
    cases e with
    | normal => obtain ⟨G', fr, ah, hS, hq⟩ := q; exact fin G' fr ah hS hq
    | ret => obtain ⟨G', fr, ah, hS, hq⟩ := q; exact fin G' fr ah hS hq
    | exit id => obtain ⟨G', fr, ah, hS, hq⟩ := q; exact hq.elim
    | goto l => obtain ⟨G', fr, ah, hS, hq⟩ := q; exact hq.elim
    | panic chain =>
      obtain ⟨G', fr, ah, d, v, hS, h1, h2, rfl, h4, h5⟩ := q
      obtain ⟨h6, h7⟩ := hS.ok.keepA h4
      exact ⟨hS.df, G', h6.nt 0, v, h1, h2.part h7 h5⟩
    | outgrown => exact q.elim
  · unfold Fm.at
    rw [argsFr_look]
    simp only [Nat.zero_le, if_true, Nat.sub_zero]
    cases hd : args[t]? with
    | none => exact .any _
    | some d =>
      have hlt : t < us.length := by rw [hA.1]; exact (List.getElem?_eq_some_iff.1 hd).1
      refine hA.2 t d _ hd ?_
      rw [Array.getD_eq_getD_getElem?, Array.getElem?_append_left (by simpa using hlt)]
      simp [hlt]
end Go.Proofs.Ytlfkgbcclinnbaa
