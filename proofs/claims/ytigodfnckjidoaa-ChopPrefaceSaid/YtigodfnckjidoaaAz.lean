/- Abstract states: a function's body walked in one world; a region that holds a call of yield. No program, no condition. -/
import Derived.Test.YtigodfnckjidoaaAv
import Derived.Test.YtigodfnckjidoaaAy
namespace Go.Proofs.Ytigodfnckjidoaa
set_option linter.all false
open Go Go.RowKit
/-- What a body that runs in one world knows of it. -/
structure Here (X : Cx) (K : Nat → Prop) (G : Gh) (w : World) : Prop where
  w0 : X.w0 = w
  K : X.K = K
  S0 : X.S0 = G.S
  pin : X.pin = G.μ
theorem run_of {P : Program} {args : List D} {pre : AH} {np : Nat} {K : Nat → Prop} {G : Gh} {w : World} {us : List Value} (hO : Ok ⟨P, 0, w, K, G.S, np, G.μ, []⟩ G w (look pre)) (hA : RepDs G w (look pre) args us) {f : FuncId} {fn : Func} {c : Code} {post : AH} {out : Out} (hf : P.funcs[f]? = some fn) (hb : fn.body = some c) (hargs : args.length ≤ fn.ntmps)
    (h : ∀ (X : Cx) (Q : AX → Fm → AH → Prop), X.P = P → X.nt = fn.ntmps → X.np = np → Here X K G w →
      (∀ fr ah rs ds d, fn.results.toList = rs → ResIs P fr ah rs ds → retD ds = d → out = .ret d → KeepA ah (dom post) post → d.live (dom post) = true → Q .ret fr ah ∧ Q .normal fr ah) →
      (∀ fr ah d, out = .pan d → KeepA ah (dom post) post → d.live (dom post) = true → Q (.pan d) fr ah) → aw X c Q (argsFr 0 args) pre) :
    Calls P f us.toArray w fun e w' => ∃ G', Ok ⟨P, 0, w, K, G.S, np, G.μ, []⟩ G' w' (look post) ∧ OutAt G' w' (look post) out e := by
  refine callsIn_wide.1 (callsIn_of_wp_marks (n := 0) hf hb trivial (wpIn_wide.2 ?_) rfl)
  have hsz : (us.toArray ++ Array.replicate (fn.ntmps - us.toArray.size) undef).size = fn.ntmps := by simp; have := hA.1; omega
  let X : Cx := ⟨P, fn.ntmps, w, K, G.S, np, G.μ, []⟩
  let Q : AX → Fm → AH → Prop := fun e fr ah => match e with
    | .ret | .normal => ∃ ds d, ResIs P fr ah fn.results.toList ds ∧ retD ds = d ∧ out = .ret d ∧ KeepA ah (dom post) post ∧ d.live (dom post) = true
    | .pan d => out = .pan d ∧ KeepA ah (dom post) post ∧ d.live (dom post) = true
    | _ => False
  have hw := h X Q rfl rfl rfl ⟨rfl, rfl, rfl, rfl⟩ (fun fr ah rs ds d e1 e2 e3 e4 e5 e6 => by subst e1; exact ⟨⟨ds, d, e2, e3, e4, e5, e6⟩, ⟨ds, d, e2, e3, e4, e5, e6⟩⟩) (fun fr ah d e1 e2 e3 => ⟨e1, e2, e3⟩)
    G w { tmps := us.toArray ++ Array.replicate (fn.ntmps - us.toArray.size) undef, defers := [] } ⟨hO.nt _, fun t => ?_, hsz, DfOk.nil⟩
  · refine wp_mono hw fun e a w' q => ?_
    have fin0 : ∀ (w' : World) G' fr ah, Ok X G' w' (look ah) → FrOk G' w' (look ah) fr.at a → (∃ ds d, ResIs P fr ah fn.results.toList ds ∧ retD ds = d ∧ out = .ret d ∧ KeepA ah (dom post) post ∧ d.live (dom post) = true) →
        ∃ v, (results fn a.tmps).run P w' = .ok v w' ∧ ∃ G', Ok ⟨P, 0, w, K, G.S, np, G.μ, []⟩ G' w' (look post) ∧ OutAt G' w' (look post) out (.returned v) := by
      intro w' G' fr ah hok hfr ⟨ds, d, e2, e3, e4, e5, e6⟩
      obtain ⟨vs, h1, h2⟩ := run_results (X := X) hok hfr e2
      obtain ⟨h3, h4⟩ := hok.keepA e5
      refine ⟨_, run_results_of h1, G', h3.nt 0, ?_⟩
      subst e4
      have h5 : RepD G' w' (look ah) d (retV vs) := by
        subst e3
        exact rep_ret h2
      exact h5.part h4 e6
    have fin : ∀ G' fr ah, St X G' w' a fr ah → (∃ ds d, ResIs P fr ah fn.results.toList ds ∧ retD ds = d ∧ out = .ret d ∧ KeepA ah (dom post) post ∧ d.live (dom post) = true) →
        LeavesInM Fence.wide 0 P fn a.tmps (fun e w' => ∃ G', Ok ⟨P, 0, w, K, G.S, np, G.μ, []⟩ G' w' (look post) ∧ OutAt G' w' (look post) out e) a.defers .returning w' := by
      intro G' fr ah hS hq
      obtain ⟨Ds, hd, hnd, hDs⟩ := hS.df
      rw [hd]
      show LeavesInM _ _ _ _ _ _ (Ds.map mark ++ []) _ _
      clear hd
      have key : ∀ (Ds : List Nat) (w' : World), Ds.Nodup → (∀ D ∈ Ds, w.heap.size ≤ D ∧ w'.heap[D]? = some (.deferred (some []))) → Ok X G' w' (look ah) → FrOk G' w' (look ah) fr.at a →
          LeavesInM Fence.wide 0 P fn a.tmps (fun e w' => ∃ G', Ok ⟨P, 0, w, K, G.S, np, G.μ, []⟩ G' w' (look post) ∧ OutAt G' w' (look post) out e) (Ds.map mark ++ []) .returning w' := by
        intro Ds
        induction Ds with
        | nil => intro w' _ _ h1 h2; exact fin0 w' G' fr ah h1 h2 hq
        | cons D Ds ih =>
          intro w' hn hD h1 h2
          obtain ⟨d2, d4⟩ := hD D List.mem_cons_self
          refine ⟨(fun h => by cases h), .inl ⟨D, _, rfl, run_takeDeferred d4, ?_⟩⟩
          refine ih _ (List.nodup_cons.1 hn).2 (fun D' hD' => ?_) (h1.putMark d4 d2 _) (fun t => (h2 t).cells (kept_put d4 _))
          obtain ⟨e1, e2⟩ := hD D' (List.mem_cons_of_mem _ hD')
          exact ⟨e1, (World.putObj_heap_other (fun he => (List.nodup_cons.1 hn).1 (by rw [← he]; exact hD'))).trans e2⟩
      exact key Ds w' hnd (fun D hD => ⟨(hDs D hD).1, (hDs D hD).2.2⟩) hS.ok hS.fr
    cases e with
    | normal => obtain ⟨G', fr, ah, hS, hq⟩ := q; exact fin G' fr ah hS hq
    | ret => obtain ⟨G', fr, ah, hS, hq⟩ := q; exact fin G' fr ah hS hq
    | exit id => obtain ⟨G', fr, ah, hS, hq⟩ := q; exact hq.elim
    | goto l => obtain ⟨G', fr, ah, hS, hq⟩ := q; exact hq.elim
    | panic chain =>
      obtain ⟨G', fr, ah, d, v, hS, h1, h2, rfl, h4, h5⟩ := q
      have pan : ∀ w' , Ok X G' w' (look ah) → RepD G' w' (look ah) d v → ∃ G', Ok ⟨P, 0, w, K, G.S, np, G.μ, []⟩ G' w' (look post) ∧ OutAt G' w' (look post) (.pan d) (.panicked chain) := fun w' hok hd => by
        obtain ⟨h6, h7⟩ := hok.keepA h4
        exact ⟨G', h6.nt 0, v, h1, hd.part h7 h5⟩
      obtain ⟨Ds, hd, hnd, hDs⟩ := hS.df
      show LeavesInM _ _ _ _ _ _ a.defers _ _
      rw [hd]
      show LeavesInM _ _ _ _ _ _ (Ds.map mark ++ []) _ _
      clear hd
      have key : ∀ (Ds : List Nat) (w' : World), Ds.Nodup → (∀ D ∈ Ds, w.heap.size ≤ D ∧ w'.heap[D]? = some (.deferred (some []))) → Ok X G' w' (look ah) → RepD G' w' (look ah) d v →
          LeavesInM Fence.wide 0 P fn a.tmps (fun e w' => ∃ G', Ok ⟨P, 0, w, K, G.S, np, G.μ, []⟩ G' w' (look post) ∧ OutAt G' w' (look post) (.pan d) e) (Ds.map mark ++ []) (.panicking chain) w' := by
        intro Ds
        induction Ds with
        | nil => intro w' _ _ h1 h2; exact pan w' h1 h2
        | cons D Ds ih =>
          intro w' hn hD h1 h2
          obtain ⟨d2, d4⟩ := hD D List.mem_cons_self
          refine ⟨(fun h => by cases h), .inl ⟨D, _, rfl, run_takeDeferred d4, ?_⟩⟩
          refine ih _ (List.nodup_cons.1 hn).2 (fun D' hD' => ?_) (h1.putMark d4 d2 _) (h2.cells (kept_put d4 _))
          obtain ⟨e1, e2⟩ := hD D' (List.mem_cons_of_mem _ hD')
          exact ⟨e1, (World.putObj_heap_other (fun he => (List.nodup_cons.1 hn).1 (by rw [← he]; exact hD'))).trans e2⟩
      exact key Ds w' hnd (fun D hD => ⟨(hDs D hD).1, (hDs D hD).2.2⟩) hS.ok h2
    | outgrown => exact q.elim
  · unfold Fm.at
    rw [argsFr_look]
    simp only [Nat.zero_le, if_true, Nat.sub_zero]
    cases hd : args[t]? with
    | none => exact .any _
    | some d =>
      have hlt : t < us.length := by rw [hA.1]; exact (List.getElem?_eq_some_iff.1 hd).1
      refine hA.2 t d _ hd ?_
      rw [Array.getD_eq_getD_getElem?, Array.getElem?_append_left (by simpa using hlt)]
      simp [hlt]
section
variable {X : Cx} {Q : AX → Fm → AH → Prop} {fr : Fm} {ah : AH} {r : Option Nat}
/-- A region that holds a call of yield. -/
theorem aw_regionY {id : Nat} {l : List Oper} {rest : Code} (h : ∀ K : Fm → AH → Prop, (∀ fr ah, aw X rest Q fr ah → K fr ah) → awlY none X l.toArray K Q l fr ah) : aw X (.seq (.region id l.toArray false) rest) Q fr ah :=
  aw_ofY (awY_region fun K hK => h K fun fr ah hr => hK fr ah fun G w a hS => wpIn_wide.2 (hr G w a hS))
theorem aY {ops : Array Oper} {K : Fm → AH → Prop} {o : Oper} {os : List Oper} {d : D} {upd : AH} {T : List Nat} (h : StepU X o fr.at (look ah) d upd T) (k : awlY r X ops K Q os (pushF fr o.dst d) (upd ++ ah)) (hg : o.guard = none := by exact rfl) (hd : dstB X.nt o.dst = true := by exact rfl) (hn : freshB upd T ah = true := by exact rfl) (hnd : noDefer o = true := by exact rfl) : awlY r X ops K Q (o :: os) fr ah := awlY_step (step_u hg h) hd hn k hnd
theorem gY {ops : Array Oper} {K : Fm → AH → Prop} {o : Oper} {os : List Oper} {d : D} {T : List Nat} {j t : Nat} {b B : Bool} (hg : o.guard = some (j, b)) (hj : (ops[j]?).bind (·.dst) = some t) (ht : Ev fr.at (.tmp t) (.v (.bool B))) (h : (B == b) = true → StepU X o fr.at (look ah) d [] T) (k : awlY r X ops K Q os (pushF fr o.dst (.cond (B == b) d)) ah) (hd : dstB X.nt o.dst = true := by exact rfl) (hnd : noDefer o = true := by exact rfl) : awlY r X ops K Q (o :: os) fr ah := awlY_step (step_if hg hj ht h) hd rfl k hnd
/-- A block. -/
theorem awY_block {id : Nat} {c : Code} (h : awY r X c (blockQ id Q) fr ah) : awY r X (.block id c) Q fr ah := fun G w a hS =>
  wpIn_block (wpIn_mono (h G w a hS) fun e a w q => by
    cases e with
    | normal => exact q
    | exit i =>
      by_cases hi : i = id
      · subst hi
        obtain ⟨G', fr', ah', h1, h2⟩ := q
        simp only [blockQ, Nat.beq_refl, cond_true] at h2
        simp only [Exit.inBlock, if_true]
        exact ⟨G', fr', ah', h1, h2⟩
      · obtain ⟨G', fr', ah', h1, h2⟩ := q
        have : Nat.beq i id = false := by
          cases hq : Nat.beq i id with
          | true => exact absurd (Nat.eq_of_beq_eq_true hq) hi
          | false => rfl
        simp only [blockQ, this, cond_false] at h2
        simp only [Exit.inBlock, if_neg hi]
        exact ⟨G', fr', ah', h1, h2⟩
    | goto l => exact q
    | ret => exact q
    | panic ch => exact q
    | outgrown => exact q)
end
end Go.Proofs.Ytigodfnckjidoaa
