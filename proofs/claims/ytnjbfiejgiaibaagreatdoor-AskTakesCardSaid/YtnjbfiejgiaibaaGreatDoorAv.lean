/- Abstract states: a range over a function: one round; the statement. No program, no condition. -/
import Derived.Test.YtnjbfiejgiaibaaGreatDoorAtToAr
namespace Go.Proofs.YtnjbfiejgiaibaaGreatDoor
set_option linter.all false
open Go Go.RowKit
/-- Objects that hold what an abstract state speaks of. -/
def Obj.held (o : Obj) : Prop := (∃ cur e z, o = .cells cur e z) ∨ ∃ es c, o = .map es c
theorem kept_held {w w' : World} (h : ∀ (g : Nat) (ob : Obj), w.heap[g]? = some ob → Obj.held ob → w'.heap[g]? = some ob) : CellsKept w w' := fun a v hv => by
  unfold World.cell? at hv ⊢
  cases ho : w.heap[a.block]? with
  | none => rw [ho] at hv; simp at hv
  | some ob =>
    rw [ho] at hv
    have hc : Obj.held ob := by
      cases ob <;> first | exact .inl ⟨_, _, _, rfl⟩ | exact .inr ⟨_, _, rfl⟩ | (simp at hv; done)
    rw [h _ _ ho hc]; exact hv
/-- A state in another context, in a world that has kept what it speaks of. -/
theorem Ok.move {X Y : Cx} {G : Gh} {w w' : World} {m : Mem} (h : Ok X G w m) (hk : ∀ (g : Nat) (ob : Obj), w.heap[g]? = some ob → Obj.held ob → w'.heap[g]? = some ob) (hz : w.heap.size ≤ w'.heap.size)
    (hK : ∀ g, Y.K g → g < Y.w0.heap.size ∧ w'.heap[g]? = Y.w0.heap[g]?) (hap : ∀ i g, m i ≠ none → G.μ i = some g → ¬ Y.K g) (hos : w'.os = Y.w0.os) (htp : w'.tape = Y.w0.tape) (hou : w'.output = Y.w0.output) (hsz : Y.w0.heap.size ≤ w'.heap.size)
    (h0 : ∀ g, Y.S0 g → G.S g) (hsk : ∀ g, G.S g → Y.K g → Y.S0 g) (hpin : ∀ id o, id < Y.np → m id = some o → o.fixed = true → G.μ id = Y.pin id) (hsh : Shp Y.P Y.K Y.w0) : Ok Y G w' m := by
  have hc := kept_held hk
  refine ⟨fun id ob ho => ?_, h.inj, fun i g hi hg => ⟨(h.apart i g hi hg).1, hap i g hi hg⟩, fun g hg => Nat.lt_of_lt_of_le (h.low g hg) hz, hK, hos, htp, hou, hsz, h0, hsk, hpin, hsh⟩
  have h1 := h.ob id ob ho
  cases ob with
  | box cs =>
    obtain ⟨g, us, t, h2, h3, h4, h5⟩ := h1
    exact ⟨g, us, t, h2, hk _ _ h3 (.inl ⟨_, _, _, rfl⟩), h4, h5.1, fun i d u hd hu => (h5.2 i d u hd hu).cells hc⟩
  | row ver n e c =>
    obtain ⟨h2, h3, h4, h5, h6⟩ := h1
    refine ⟨h2, h3, h4, h5, ?_⟩
    rcases h6 with h6 | ⟨g, cur, us, fz, e0', hfz, h7, h8, h9, h10, h11⟩
    · exact .inl h6
    · exact .inr ⟨g, cur, us, fz, e0', hfz, h7, hk _ _ h8 (.inl ⟨_, _, _, rfl⟩), h9, h10, fun i j x hx => (h11 i j x hx).cells hc⟩
  | mp agg l =>
    obtain ⟨g, es, clk, h2, h3, h4, h5⟩ := h1
    refine ⟨g, es, clk, h2, hk _ _ h3 (.inr ⟨_, _, rfl⟩), h4, fun i x e hx he => ?_⟩
    obtain ⟨q1, us, q2, q3, q4, q5⟩ := h5 i x e hx he
    exact ⟨q1, us, q2, q3, q4, fun j y u hy hu => (q5 j y u hy hu).cells hc⟩
theorem put_held {w : World} {l : Nat} {ob : Obj} (hl : w.heap[l]? = some ob) (hn : ¬ Obj.held ob) (o : Obj) : ∀ (g : Nat) (x : Obj), w.heap[g]? = some x → Obj.held x → (w.putObj l o).heap[g]? = some x := fun g x hg hx => by
  have : g ≠ l := fun he => by rw [he, hl] at hg; injection hg with hg; exact hn (hg ▸ hx)
  rw [World.putObj_heap_other this]; exact hg
theorem loop_not {r : Loop} : ¬ Obj.held (.loop r) := by rintro (⟨_, _, _, h⟩ | ⟨_, _, h⟩) <;> cases h
/-- One round: the assignment and the body, walked. -/
theorem round_run {P : Program} {nt np l : Nat} {rec : Loop} {us : List Value} {K : Nat → Prop} {H : Gh} {w : World} {pre post : AH} {fr0 : Fm} (hl : w.heap[l]? = some (.loop rec)) (hKl : K l) (hst : rec.state = .ready) (hpe : rec.pending = none) (hps : us.length = rec.params.size)
    (hO : Ok ⟨P, 0, w, K, H.S, np, H.μ, []⟩ H w (look pre)) (hF : FrOk H w (look pre) fr0.at { tmps := (rec.params.zip us.toArray).foldl (fun tmps (t, a) => tmps.setIfInBounds t a) rec.tmps, defers := [] })
    (hsz : ((rec.params.zip us.toArray).foldl (fun tmps (t, a) => tmps.setIfInBounds t a) rec.tmps).size = nt)
    (hcode : ∀ X : Cx, X.P = P → X.nt = nt → X.np = np → awY (some l) X rec.assign (fun e fr ah => e = .normal ∧ ∀ X' : Cx, X'.P = P → X'.nt = nt → X'.np = np → awY (some l) X' rec.body (fun e fr ah => e = .normal ∧ KeepA ah (dom post) post) fr ah) fr0 pre) :
    ∃ fn tmps assign body, (Instr.yield l us.toArray).run P w = .ok (.round l fn tmps assign body) w ∧
      RoundIn Fence.wide 0 P l fn tmps assign body w (fun e w' => ∃ G', Ok ⟨P, 0, w, K, H.S, np, H.μ, []⟩ G' w' (look post) ∧ OutAt G' w' (look post) (.ret (.v (.bool true))) e) := by
  refine ⟨_, _, _, _, run_yield hl (by simpa using hps), roundIn_of_wpIn trivial ?_⟩
  have hA := hcode ⟨P, nt, w, K, H.S, np, H.μ, []⟩ rfl rfl rfl H w _ ⟨hO.nt _, hF, hsz, DfOk.nil⟩
  refine wpIn_mono (F := Fw (some l)) hA fun e a1 w1 q => ?_
  cases e with
  | normal =>
    obtain ⟨G1, fr1, ah1, hS1, -, hb⟩ := q
    have hl1 : w1.heap[l]? = some (.loop rec) := (hS1.ok.keep l hKl).2.trans hl
    refine ⟨_, run_beginRound hl1 hst, ?_⟩
    have hkp := put_held hl1 loop_not (.loop { rec with state := .busy })
    have hS2 : St ⟨P, nt, w1.putObj l (.loop { rec with state := .busy }), K, H.S, np, H.μ, a1.defers⟩ G1 (w1.putObj l (.loop { rec with state := .busy })) a1 fr1 ah1 := by
      refine ⟨hS1.ok.move hkp (by simp) (fun g hg => ⟨?_, rfl⟩) (fun i g hi hg => (hS1.ok.apart i g hi hg).2) rfl rfl rfl (Nat.le_refl _) hS1.ok.s0 hS1.ok.sk hS1.ok.pin (hS1.ok.shpw.keepC (kept_held hkp)), fun t => (hS1.fr t).cells (kept_held hkp), hS1.nt, DfOk.nil⟩
      have h1 := (hS1.ok.keep g hg).1
      have h2 := hS1.ok.size
      show g < (w1.putObj l _).heap.size
      rw [World.putObj_size]; exact Nat.lt_of_lt_of_le h1 h2
    have hB := hb _ rfl rfl rfl G1 _ a1 hS2
    refine wpIn_mono (F := Fw (some l)) hB fun e a3 w3 q3 => ?_
    cases e with
    | normal =>
      obtain ⟨G3, fr3, ah3, hS3, -, hkeep⟩ := q3
      have hlt : l < w1.heap.size := (Array.getElem?_eq_some_iff.1 hl1).1
      have hl3 : w3.heap[l]? = some (.loop { rec with state := .busy }) := (hS3.ok.keep l hKl).2.trans (World.putObj_heap_same hlt)
      refine ⟨_, _, run_endRound none hl3, ?_⟩
      have hrec : ({ ({ rec with state := .busy } : Loop) with state := if (none : Option Code).isNone then .ready else .done, pending := none } : Loop) = rec := by
        obtain ⟨a, b, c, d, e, f, g, i⟩ := rec
        simp only at hst hpe
        subst hst hpe
        rfl
      rw [hrec]
      obtain ⟨h3, h4⟩ := hS3.ok.keepA hkeep
      have hkp3 := put_held hl3 loop_not (.loop rec)
      refine ⟨G3, ?_, mk_bool _⟩
      refine h3.move hkp3 (by simp) (fun g hg => ⟨(hS1.ok.keep g hg).1, ?_⟩) (fun i g hi hg => (h3.apart i g hi hg).2) ?_ ?_ ?_ ?_ h3.s0 h3.sk h3.pin hS1.ok.shp
      · by_cases he : g = l
        · subst he
          rw [World.putObj_heap_same (Array.getElem?_eq_some_iff.1 hl3).1]; exact hl.symm
        · rw [World.putObj_heap_other he]
          have e1 : w3.heap[g]? = (w1.putObj l (.loop { rec with state := .busy })).heap[g]? := (h3.keep g hg).2
          rw [e1, World.putObj_heap_other he]
          exact (hS1.ok.keep g hg).2
      · exact (show w3.os = w1.os from h3.os).trans hS1.ok.os
      · exact (show w3.tape = w1.tape from h3.tape).trans hS1.ok.tape
      · exact (show w3.output = w1.output from h3.output).trans hS1.ok.output
      · have e1 : w.heap.size ≤ w1.heap.size := hS1.ok.size
        have e2 : (w1.putObj l (.loop { rec with state := .busy })).heap.size ≤ w3.heap.size := h3.size
        rw [World.putObj_size] at e2 ⊢
        exact Nat.le_trans e1 e2
    | ret => obtain ⟨G3, fr3, ah3, hS3, h, -⟩ := q3; cases h
    | exit id => obtain ⟨G3, fr3, ah3, hS3, h, -⟩ := q3; cases h
    | goto t => obtain ⟨G3, fr3, ah3, hS3, h, -⟩ := q3; cases h
    | panic ch => obtain ⟨G3, fr3, ah3, d, v, -, -, -, h, -⟩ := q3; cases h
    | outgrown => exact q3.elim
  | ret => obtain ⟨G3, fr3, ah3, hS3, h, -⟩ := q; cases h
  | exit id => obtain ⟨G3, fr3, ah3, hS3, h, -⟩ := q; cases h
  | goto t => obtain ⟨G3, fr3, ah3, hS3, h, -⟩ := q; cases h
  | panic ch => obtain ⟨G3, fr3, ah3, d, v, -, -, -, h, -⟩ := q; cases h
  | outgrown => exact q.elim
theorem Ok.addS {X : Cx} {G : Gh} {w : World} {m : Mem} (h : Ok X G w m) (D : Nat) (hD : D < w.heap.size) (hap : ∀ i, m i ≠ none → G.μ i ≠ some D) (hKD : ¬ X.K D) : Ok X { G with S := fun g => G.S g ∨ g = D } w m ∧ Ext G w m { G with S := fun g => G.S g ∨ g = D } w m := by
  have e1 : Ext G w m { G with S := fun g => G.S g ∨ g = D } w m := ⟨fun g hg => ⟨.inl hg, rfl⟩, fun _ cs h => ⟨cs, h, rfl⟩, fun _ ver _ _ c h => ⟨ver, c, h, Nat.le_refl _, fun _ => ⟨Nat.le_refl _, rfl, rfl⟩⟩, fun _ a l h => ⟨a, l, h, rfl⟩⟩
  refine ⟨⟨fun i o ho => (h.ob i o ho).ext e1 rfl rfl fun _ _ => rfl, h.inj, fun i g hi hg => ⟨fun hs => ?_, (h.apart i g hi hg).2⟩, fun g hg => ?_, h.keep, h.os, h.tape, h.output, h.size, fun g hg => .inl (h.s0 g hg), fun g hg hk => ?_, h.pin, h.shp⟩, e1⟩
  · rcases hs with hs | rfl
    · exact (h.apart i g hi hg).1 hs
    · exact hap i hi hg
  · rcases hg with hg | rfl
    · exact h.low g hg
    · exact hD
  · rcases hg with hg | rfl
    · exact h.sk g hg hk
    · exact absurd hk hKD
/-- The statement: a range over a function whose value is known, its rounds and its own text told by 'hit'. -/
theorem aw_rangeFunc {X : Cx} {Q : AX → Fm → AH → Prop} {fr : Fm} {ah : AH} {g : Operand} {ps : Array Tmp} {assign body : Code} {gf : FuncId} {caps cargs : List D} {pre post : AH} {np : Nat} (l0 : List Nat) (hg : Ev fr.at g (.fn (.func gf) [] caps)) (he : entersB X.P gf = true)
    (hit : ∀ (G : Gh) (w : World) (a : Act), St X G w a fr ah → ∀ (w1 : World) (l : Nat) (rec : Loop), w1.heap[l]? = some (.loop rec) → rec.state = .ready → rec.pending = none → rec.tmps = a.tmps → rec.params = ps → rec.assign = assign → rec.body = body →
      ∀ (K : Nat → Prop) (H : Gh) (us : List Value), K l → (∀ g, H.S g → K g) → H.S = G.S → (∀ i, H.μ i = G.μ (rho l0 i)) → Ok ⟨X.P, 0, w1, K, H.S, np, H.μ, []⟩ H w1 (look pre) → RepDs H w1 (look pre) cargs us →
      Calls X.P gf (Value.func (.yield l) #[] #[] :: us).toArray w1 (fun e w' => ∃ G', Ok ⟨X.P, 0, w1, K, H.S, np, H.μ, []⟩ G' w' (look post) ∧ OutAt G' w' (look post) (.ret .any) e))
    (hcap : D.rens (rho l0) cargs = caps) (hpre : PreAt (look ah) (rho l0) pre) (hnd : nodupB l0 = true) (hB : callB l0 pre post np X.np = true) (hpl : preLive pre) (hal : D.lives (dom pre) cargs = true) (hnew : ∀ i, dom post i = true → dom pre i = false → look ah (rho l0 i) = none)
    (k : Q .normal fr (AH.ren (rho l0) post ++ ah)) (hrf : rfN X.nt = true := by exact rfl) : aw X (.rangeFunc g ps assign body) Q fr ah := fun G w a hS => by
  refine wpIn_wide.1 (wpIn_rangeFunc (F := Fence.wide) (n := 0) fun fn _ => ?_)
  have hfv : RepD G w (look ah) (.fn (.func gf) [] caps) (a.eval g) := hg fr.at (fun _ _ => rfl) G w _ a hS.fr
  obtain ⟨us0, vs, hev, h1, h2⟩ := rep_fn hfv
  obtain rfl : us0 = [] := List.eq_nil_of_length_eq_zero h1.1
  obtain ⟨rec, hrec⟩ : ∃ rec : Loop, rec = { state := .ready, pending := none, fn, tmps := a.tmps, params := ps, assign, body, defers := w.heap.size } := ⟨_, rfl⟩
  obtain ⟨w1, hw1⟩ : ∃ w1, (w.alloc (.deferred (some []))).alloc (.loop rec) = w1 := ⟨_, rfl⟩
  have hsz1 : w1.heap.size = w.heap.size + 2 := by rw [← hw1]; simp [World.size_alloc]
  have hold : ∀ g, g < w.heap.size → w1.heap[g]? = w.heap[g]? := fun g hg => by
    rw [← hw1, Below.heap_alloc _ _ _ (by rw [World.size_alloc]; omega), Below.heap_alloc _ _ _ hg]
  have hL1 : w1.heap[w.heap.size + 1]? = some (.loop rec) := by
    rw [← hw1]; have := World.alloc_heap_new (w.alloc (.deferred (some []))) (.loop rec); rwa [World.size_alloc] at this
  have hD1 : w1.heap[w.heap.size]? = some (.deferred (some [])) := by
    rw [← hw1, Below.heap_alloc _ _ _ (by rw [World.size_alloc]; omega)]; exact World.alloc_heap_new w _
  have hos1 : w1.os = w.os ∧ w1.tape = w.tape ∧ w1.output = w.output := by rw [← hw1]; exact ⟨rfl, rfl, rfl⟩
  have hheld1 : ∀ (g : Nat) (ob : Obj), w.heap[g]? = some ob → Obj.held ob → w1.heap[g]? = some ob := fun g ob hg _ => (hold g (Array.getElem?_eq_some_iff.1 hg).1).trans hg
  let Z : Cx := ⟨X.P, X.nt, w1, fun g => X.K g ∨ g = w.heap.size ∨ g = w.heap.size + 1, X.S0, X.np, X.pin, X.df⟩
  have hXK : ∀ g, X.K g → g < w.heap.size := fun g hg => Nat.lt_of_lt_of_le (hS.ok.keep g hg).1 hS.ok.size
  have hO1 : Ok Z G w1 (look ah) := by
    refine hS.ok.move hheld1 (by omega) (fun g hg => ⟨?_, rfl⟩) (fun i g hi hg hK => ?_) rfl rfl rfl (Nat.le_refl _) hS.ok.s0 (fun g hg hK => ?_) hS.ok.pin ((hS.ok.shpw.keepC (kept_held hheld1)).mono fun g hg => .inl hg)
    · show g < w1.heap.size
      rcases hg with hg | rfl | rfl
      · have := hXK g hg; omega
      · omega
      · omega
    · have hlt : g < w.heap.size := by
        cases ho : look ah i with
        | none => exact absurd ho hi
        | some o => exact (hS.ok.ob i o ho).lt hg
      rcases hK with hK | rfl | rfl
      · exact (hS.ok.apart i g hi hg).2 hK
      · omega
      · omega
    · have hlt := hS.ok.low g hg
      rcases hK with hK | rfl | rfl
      · exact hS.ok.sk g hg hK
      · omega
      · omega
  have hE1 : Ext G w (look ah) G w1 (look ah) := ⟨fun g hg => ⟨hg, hold g (hS.ok.low g hg)⟩, fun _ cs h => ⟨cs, h, rfl⟩, fun _ ver _ _ c h => ⟨ver, c, h, Nat.le_refl _, fun _ => ⟨Nat.le_refl _, rfl, rfl⟩⟩, fun _ a l h => ⟨a, l, h, rfl⟩⟩
  have hA1 : RepDs G w1 (look ah) (D.rens (rho l0) cargs) vs := by rw [hcap]; exact ⟨h2.1, fun i d u hd hu => (h2.2 i d u hd hu).ext hE1⟩
  have hinj := rho_inj hnd
  have main := call_mainR (X := Z) (w := w1) (m := look ah) (us := vs) (out := .ret .any) (args := cargs) (pre := pre) (post := post) (np := np) (Run := fun R => Calls X.P gf (Value.func (.yield (w.heap.size + 1)) #[] #[] :: vs).toArray w1 R) (fun _ _ h hc => hc.mono h) l0
    (fun K H h1 h2 h3 h4 h5 h6 h7 => hit G w a hS w1 (w.heap.size + 1) rec hL1 (by rw [hrec]) (by rw [hrec]) (by rw [hrec]) (by rw [hrec]) (by rw [hrec]) (by rw [hrec]) K H vs (h1 _ (.inr (.inr rfl))) h2 h3 h4 h6 h7)
    hnd hB hO1 (fun i o h => hpre.at i o h) hnew hpl hal hA1
  refine ⟨w.heap.size + 1, [{ target := .collected w.heap.size, args := #[] }], w1, { target := .fn (.func gf) vs.toArray, args := #[.func (.yield (w.heap.size + 1)) #[] #[]] }, w1, gf, (Value.func (.yield (w.heap.size + 1)) #[] #[] :: vs).toArray, w1, ?_, ?_, fun _ _ => trivial, ?_, (fun h => by cases h), ?_⟩
  · rw [← hw1, hrec]; exact run_enterLoop_outer _ _ _ _ _
  · simp only [resolve, hev]
    simp [go_sem]
  · simp [invoke, run_enters he]
  · refine callsIn_wide.2 (main.mono fun e w3 ⟨G3, q1, q2, q3⟩ => ?_)
    rw [over_look] at q1 q2
    cases e with
    | returned v =>
      have hl3 : w3.heap[w.heap.size + 1]? = some (.loop rec) := (q1.keep _ (.inr (.inr rfl))).2.trans hL1
      have hd3 : w3.heap[w.heap.size]? = some (.deferred (some [])) := (q1.keep _ (.inr (.inl rfl))).2.trans hD1
      have hend := run_endLoop (P := X.P) hl3 (by rw [hrec]; simp)
      have hpn : rec.pending = none := by rw [hrec]
      rw [hpn] at hend
      refine ⟨none, _, hend, ?_⟩
      have hkp := put_held hl3 loop_not (.loop { rec with state := .exhausted, pending := none })
      have hne : ∀ g, g < w.heap.size + 1 → (w3.putObj (w.heap.size + 1) (.loop { rec with state := .exhausted, pending := none })).heap[g]? = w3.heap[g]? := fun g hg => World.putObj_heap_other (by omega)
      have hO4 : Ok X G3 (w3.putObj (w.heap.size + 1) (.loop { rec with state := .exhausted, pending := none })) (look (AH.ren (rho l0) post ++ ah)) := by
        refine q1.move hkp (by simp) (fun g hg => ⟨(hS.ok.keep g hg).1, ?_⟩) (fun i g hi hg hK => (q1.apart i g hi hg).2 (.inl hK)) ?_ ?_ ?_ ?_ q1.s0 (fun g hg hK => q1.sk g hg (.inl hK)) q1.pin hS.ok.shp
        · rw [hne g (by have := hXK g hg; omega)]
          exact ((q1.keep g (.inl hg)).2.trans (hold g (hXK g hg))).trans (hS.ok.keep g hg).2
        · exact ((show w3.os = w1.os from q1.os).trans hos1.1).trans hS.ok.os
        · exact ((show w3.tape = w1.tape from q1.tape).trans hos1.2.1).trans hS.ok.tape
        · exact ((show w3.output = w1.output from q1.output).trans hos1.2.2).trans hS.ok.output
        · have e1 : w1.heap.size ≤ w3.heap.size := q1.size
          have e2 := hS.ok.size
          rw [World.putObj_size]; omega
      have hlt3 : w.heap.size < w3.heap.size := (Array.getElem?_eq_some_iff.1 hd3).1
      obtain ⟨hO5, hE5⟩ := hO4.addS w.heap.size (by rw [World.putObj_size]; exact hlt3) (fun i hi hg => (q1.apart i _ hi hg).2 (.inr (.inl rfl))) (fun hK => by have := hXK _ hK; omega)
      refine ⟨_, fr, _, ⟨hO5, fun t => ?_, hS.nt, ?_⟩, k⟩
      · exact (((hS.fr t).ext hE1).ext q2 |>.cells (kept_held hkp)).ext hE5
      · obtain ⟨Ds, d1, d2, d3⟩ := hS.df
        refine ⟨w.heap.size :: Ds, by show _ ++ a.defers = _; rw [d1]; rfl, List.nodup_cons.2 ⟨fun hD => ?_, d2⟩, fun D hD => ?_⟩
        · have := (Array.getElem?_eq_some_iff.1 (d3 _ hD).2.2.1).1; omega
        · rcases List.mem_cons.1 hD with rfl | hD
          · exact ⟨hS.ok.size, .inr rfl, (hne _ (by omega)).trans hd3, hrf⟩
          · obtain ⟨b1, b2, b3, b4⟩ := d3 D hD
            have hlt := (Array.getElem?_eq_some_iff.1 b3).1
            obtain ⟨c1, c2⟩ := q2.s D (hE1.s D b2).1
            exact ⟨b1, .inl c1, (hne _ (by omega)).trans (c2.trans ((hold D hlt).trans b3)), b4⟩
    | panicked c => exact q3.elim
    | outgrown => exact q3.elim
end Go.Proofs.YtnjbfiejgiaibaaGreatDoor
