/- Abstract states: memory is made, read, written. No program, no condition. -/
import Derived.Test.YtlfkgbcclinnbaaAo
import Derived.Laws.Tables
namespace Go.Proofs.Ytlfkgbcclinnbaa
set_option linter.all false
open Go Go.RowKit

section
variable {X : Cx} {G G' : Gh} {w w' : World} {m : Mem}
theorem BoxAt.ext {m' : Mem} {id : Nat} {cs : List D} (h : BoxAt G w m id cs) (k : Ext G w m G' w' m') (hμ : G'.μ id = G.μ id) (hb : ∀ g, G.μ id = some g → w'.heap[g]? = w.heap[g]?) : BoxAt G' w' m' id cs := by
  obtain ⟨g, us, t, h1, h2, h3, h4⟩ := h
  exact ⟨g, us, t, hμ.trans h1, (hb g h1).trans h2, h3, h4.ext k⟩
theorem RowAt.ext {m' : Mem} {id n : Nat} {e : TypeId} {c : List (List V)} (h : RowAt G w id n e c) (k : Ext G w m G' w' m') (hμ : G'.μ id = G.μ id) (hc : G'.cap id = G.cap id) (hb : ∀ g, G.μ id = some g → w'.heap[g]? = w.heap[g]?) : RowAt G' w' id n e c := by
  obtain ⟨h1, h2, h3, h4, h5⟩ := h
  refine ⟨h1, h2, by rw [hc]; exact h3, by rw [hc]; exact h4, ?_⟩
  rcases h5 with ⟨h6, h7⟩ | ⟨g, cur, us, h6, h7, h8, h10, h11⟩
  · exact .inl ⟨hμ.trans h6, hc.trans h7⟩
  · exact .inr ⟨g, cur, us, hμ.trans h6, (hb g h6).trans h7, by rw [hc]; exact h8, h10, fun i j x hx => (h11 i j x hx).ext k⟩
theorem ObAt.ext {m' : Mem} {id : Nat} {o : Ob} (h : ObAt G w m id o) (k : Ext G w m G' w' m') (hμ : G'.μ id = G.μ id) (hc : G'.cap id = G.cap id) (hb : ∀ g, G.μ id = some g → w'.heap[g]? = w.heap[g]?) : ObAt G' w' m' id o := by
  cases o with
  | box cs => exact BoxAt.ext h k hμ hb
  | row ver n e c => exact RowAt.ext h k hμ hc hb
theorem ObAt.lt {id : Nat} {o : Ob} (h : ObAt G w m id o) {g : Nat} (hg : G.μ id = some g) : g < w.heap.size := by
  cases o with
  | box cs =>
    obtain ⟨g', us, t, h1, h2, _⟩ := h
    obtain rfl : g' = g := by rw [h1] at hg; simpa using hg
    exact (Array.getElem?_eq_some_iff.1 h2).1
  | row ver n e c =>
    obtain ⟨_, _, _, _, h5⟩ := h
    rcases h5 with ⟨h6, _⟩ | ⟨g', cur, us, h6, h7, _⟩
    · rw [h6] at hg; cases hg
    · obtain rfl : g' = g := by rw [h6] at hg; simpa using hg
      exact (Array.getElem?_eq_some_iff.1 h7).1
/-- One memory is made, or changed. -/
theorem Ok.step (h : Ok X G w m) (id : Nat) (o : Ob) (hS : G'.S = G.S) (hμ : ∀ i, i ≠ id → G'.μ i = G.μ i ∧ G'.cap i = G.cap i)
    (hnew : ∀ g, G'.μ id = some g → w.heap.size ≤ g ∨ (m id ≠ none ∧ G.μ id = some g))
    (hw : ∀ g, g < w.heap.size → (m id ≠ none → G.μ id ≠ some g) → w'.heap[g]? = w.heap[g]?)
    (hsz : w.heap.size ≤ w'.heap.size) (hos : w'.os = w.os) (htp : w'.tape = w.tape) (hou : w'.output = w.output)
    (hrel : ∀ o', m id = some o' → (∀ cs, o' = .box cs → (∃ cs', o = .box cs') ∧ G'.μ id = G.μ id) ∧
      (∀ ver n e c, o' = .row ver n e c → ∃ ver' c', o = .row ver' n e c' ∧ ver ≤ ver' ∧ (ver = ver' → c.length ≤ c'.length ∧ G'.μ id = G.μ id ∧ G'.cap id = G.cap id)))
    (hob : Ext G w m G' w' (over [(id, o)] m) → ObAt G' w' (over [(id, o)] m) id o) (hpin : ∀ cs, id < X.np → o = .box cs → G'.μ id = X.pin id) :
    Ok X G' w' (over [(id, o)] m) ∧ Ext G w m G' w' (over [(id, o)] m) := by
  have at_ne : ∀ i, i ≠ id → over [(id, o)] m i = m i := fun i hi => by unfold over; rw [look_cons_ne _ _ (Ne.symm hi)]; rfl
  have at_id : over [(id, o)] m id = some o := by unfold over; rw [look_cons_self]
  have hSw : ∀ g, G.S g → w'.heap[g]? = w.heap[g]? := fun g hg => hw g (h.low g hg) fun hm he => (h.apart id g hm he).1 hg
  have hext : Ext G w m G' w' (over [(id, o)] m) := by
    refine ⟨fun g hg => ⟨by rw [hS]; exact hg, hSw g hg⟩, fun i cs hi => ?_, fun i ver n e c hi => ?_⟩
    · by_cases hd : i = id
      · subst hd
        obtain ⟨⟨cs', rfl⟩, h2⟩ := (hrel _ hi).1 cs rfl
        exact ⟨cs', at_id, h2⟩
      · exact ⟨cs, by rw [at_ne i hd]; exact hi, (hμ i hd).1⟩
    · by_cases hd : i = id
      · subst hd
        obtain ⟨ver', c', rfl, h2, h3⟩ := (hrel _ hi).2 ver n e c rfl
        exact ⟨ver', c', at_id, h2, h3⟩
      · exact ⟨ver, c, by rw [at_ne i hd]; exact hi, Nat.le_refl _, fun _ => ⟨Nat.le_refl _, (hμ i hd).1, (hμ i hd).2⟩⟩
  refine ⟨⟨fun i o' hi => ?_, fun i j g hi hj hgi hgj => ?_, fun i g hi hgi => ?_, fun g hg => ?_, fun g hg => ?_, hos.trans h.os, htp.trans h.tape, hou.trans h.output, Nat.le_trans h.size hsz, fun g hg => by rw [hS]; exact h.s0 g hg, fun g hg hk => h.sk g (by rwa [hS] at hg) hk, fun i cs hi hm => ?_⟩, hext⟩
  · by_cases hd : i = id
    · subst hd
      rw [at_id] at hi
      obtain rfl : o = o' := by simpa using hi
      exact hob hext
    · rw [at_ne i hd] at hi
      refine (h.ob i o' hi).ext hext (hμ i hd).1 (hμ i hd).2 fun g hg => hw g ((h.ob i o' hi).lt hg) fun hm he => ?_
      exact hd (h.inj i id g (by rw [hi]; simp) hm hg he)
  · by_cases hdi : i = id
    · by_cases hdj : j = id
      · rw [hdi, hdj]
      · subst hdi
        rw [at_ne j hdj] at hj
        rw [(hμ j hdj).1] at hgj
        cases hj' : m j with
        | none => exact absurd hj' hj
        | some oj =>
          rcases hnew g hgi with h1 | ⟨h1, h2⟩
          · have := (h.ob j oj hj').lt hgj; omega
          · exact (h.inj i j g h1 hj h2 hgj)
    · rw [at_ne i hdi] at hi
      rw [(hμ i hdi).1] at hgi
      by_cases hdj : j = id
      · subst hdj
        cases hi' : m i with
        | none => exact absurd hi' hi
        | some oi =>
          rcases hnew g hgj with h1 | ⟨h1, h2⟩
          · have := (h.ob i oi hi').lt hgi; omega
          · exact (h.inj i j g hi h1 hgi h2)
      · rw [at_ne j hdj] at hj
        rw [(hμ j hdj).1] at hgj
        exact h.inj i j g hi hj hgi hgj
  · rw [hS]
    by_cases hd : i = id
    · subst hd
      rcases hnew g hgi with h1 | ⟨h1, h2⟩
      · refine ⟨fun hs => ?_, fun hk => ?_⟩
        · have := h.low g hs; omega
        · have := (h.keep g hk).1; have := h.size; omega
      · exact h.apart i g h1 h2
    · rw [at_ne i hd] at hi
      rw [(hμ i hd).1] at hgi
      exact h.apart i g hi hgi
  · rw [hS] at hg; have := h.low g hg; omega
  · obtain ⟨h1, h2⟩ := h.keep g hg
    refine ⟨h1, ?_⟩
    rw [hw g (by have := h.size; omega) fun hm he => (h.apart id g hm he).2 hg, h2]
  · by_cases hd : i = id
    · subst hd
      rw [at_id] at hm
      exact hpin cs hi (by simpa using hm)
    · rw [at_ne i hd] at hm
      rw [(hμ i hd).1]
      exact h.pin i cs hi hm
/-- The ghost with a new place. -/
def Gh.at_ (G : Gh) (id : Nat) (p : Option Nat) (c : Nat) : Gh := { G with μ := fun i => if i = id then p else G.μ i, cap := fun i => if i = id then c else G.cap i }
theorem Gh.at_μ (G : Gh) (id : Nat) (p : Option Nat) (c : Nat) : (G.at_ id p c).μ id = p := by simp [Gh.at_]
theorem Gh.at_cap (G : Gh) (id : Nat) (p : Option Nat) (c : Nat) : (G.at_ id p c).cap id = c := by simp [Gh.at_]
theorem Gh.at_ne (G : Gh) {id i : Nat} (p : Option Nat) (c : Nat) (h : i ≠ id) : (G.at_ id p c).μ i = G.μ i ∧ (G.at_ id p c).cap i = G.cap i := by simp [Gh.at_, h]
theorem over_at {id : Nat} {o : Ob} : over [(id, o)] m id = some o := by unfold over; rw [look_cons_self]
/-- A variable is made. -/
theorem Ok.newBox (h : Ok X G w m) {id : Nat} (hid : m id = none) (hnp : X.np ≤ id) (cs : List D) (us : List Value) (t : TypeId) (h1 : ∀ u ∈ us, u.oneCell' = true) (hr : RepDs G w m cs us) :
    let G' := G.at_ id (some w.heap.size) 0
    let w' := w.alloc (.cells us.toArray t)
    Ok X G' w' (over [(id, .box cs)] m) ∧ Ext G w m G' w' (over [(id, .box cs)] m) ∧ RepD G' w' (over [(id, .box cs)] m) (.ptr id 0) (.pointer (some ⟨w.heap.size, 0, none⟩)) := by
  intro G' w'
  obtain ⟨a, b⟩ := h.step (G' := G') (w' := w') id (.box cs) rfl (fun i hi => Gh.at_ne G _ _ hi) (fun g hg => by
      rw [Gh.at_μ] at hg; injection hg with hg; exact .inl (by omega)) (fun g hg _ => Below.heap_alloc w _ g hg) (by show w.heap.size ≤ (w.alloc _).heap.size; rw [World.size_alloc]; omega) rfl rfl rfl
      (fun o' ho' => by rw [hid] at ho'; cases ho') (fun k => ⟨w.heap.size, us, t, Gh.at_μ _ _ _ _, heap_alloc_new w _, h1, hr.ext k⟩) (fun cs hlt _ => by omega)
  exact ⟨a, b, .ptr id 0 _ cs over_at (Gh.at_μ _ _ _ _)⟩
/-- A variable is written. -/
theorem Ok.setBox (h : Ok X G w m) {id g : Nat} {cs cs' : List D} (hid : m id = some (.box cs)) (hg : G.μ id = some g) (us us' : List Value) (t : TypeId) (hh : w.heap[g]? = some (.cells us.toArray t (0, 0)))
    (h1 : ∀ u ∈ us', u.oneCell' = true) (hr : RepDs G w m cs' us') (hh' : w'.heap[g]? = some (.cells us'.toArray t (0, 0))) (hf : ∀ k, k ≠ g → w'.heap[k]? = w.heap[k]?) (hsz : w'.heap.size = w.heap.size)
    (hos : w'.os = w.os) (htp : w'.tape = w.tape) (hou : w'.output = w.output) :
    Ok X G w' (over [(id, .box cs')] m) ∧ Ext G w m G w' (over [(id, .box cs')] m) :=
  h.step (G' := G) (w' := w') id (.box cs') rfl (fun i hi => ⟨rfl, rfl⟩) (fun g' hg' => .inr ⟨by rw [hid]; simp, hg'⟩) (fun k hk hne => hf k fun e => hne (by rw [hid]; simp) (by rw [hg, e])) (by omega) hos htp hou
    (fun o' ho' => by
      rw [hid] at ho'
      injection ho' with ho'
      subst ho'
      exact ⟨fun _ _ => ⟨⟨cs', rfl⟩, rfl⟩, fun _ _ _ _ he => by cases he⟩)
    (fun k => ⟨g, us', t, hg, hh', h1, hr.ext k⟩) (fun cs'' hlt _ => h.pin id cs hlt hid)
theorem cell_box {id g : Nat} {cs : List D} {us : List Value} {t : TypeId} (hh : w.heap[g]? = some (.cells us.toArray t (0, 0))) (i : Nat) : w.cell? ⟨g, i, none⟩ = us[i]? := by
  simp [World.cell?, hh]
theorem frozen_box {g : Nat} {us : List Value} {t : TypeId} (hh : w.heap[g]? = some (.cells us.toArray t (0, 0))) (i : Nat) : w.frozen? ⟨g, i, none⟩ = false := by
  simp [World.frozen?, hh]
theorem addr_add (g o i : Nat) : (⟨g, o, none⟩ : Addr).add i = ⟨g, o + i, none⟩ := by unfold Addr.add; split <;> simp_all
theorem run_loadCells_at {P : Program} (g o : Nat) (us : List Value) (h : ∀ j u, us[j]? = some u → w.cell? ⟨g, o + j, none⟩ = some u) : (loadCells ⟨g, o, none⟩ us.length).run P w = .ok us.toArray w :=
  run_loadCells_list (P := P) w ⟨g, o, none⟩ us (fun j v hv => by rw [addr_add]; exact h j v hv)
/-- A type's size, and whether its values have many cells; where a field lies. -/
def sizeB (P : Program) (t : TypeId) : Option (Bool × Nat) :=
  match P.underlying t, P.info? t with
  | some d, some i => some ((match d with | .struct _ | .array _ _ => true | _ => false), i.size)
  | _, _ => none
def fieldOff (P : Program) (t i : Nat) : Option Nat :=
  match P.underlying t with
  | some (.struct fs) => (fs[i]?).bind fun f => (P.info? f.type).bind fun n => if n.size = 0 then none else some f.offset
  | _ => none
theorem run_sizeB {P : Program} {t : TypeId} {b : Bool} {n : Nat} (h : sizeB P t = some (b, n)) (w : World) : (Go.sizeOf t).run P w = .ok n w ∧ (isAgg t).run P w = .ok b w := by
  unfold sizeB at h
  cases hu : P.underlying t with
  | none => simp [hu] at h
  | some d =>
    cases hi : P.info? t with
    | none => simp [hu, hi] at h
    | some i =>
      simp only [hu, hi, Option.some.injEq, Prod.mk.injEq] at h
      obtain ⟨h1, h2⟩ := h
      refine ⟨by simp [Go.sizeOf, typeInfo, hi, h2], ?_⟩
      unfold Go.isAgg
      simp only [Sem.run_bind, run_underlying hu, Result.andThen_ok]
      cases d <;> first | (subst h1; rfl) | (simp at h1; subst h1; rfl)
/-- A variable is read: its cells are known. -/
theorem run_loadVar_at {P : Program} {t : TypeId} {b : Bool} {n : Nat} (hs : sizeB P t = some (b, n)) (g o : Nat) (us : List Value) (hl : us.length = n) (h : ∀ j u, us[j]? = some u → w.cell? ⟨g, o + j, none⟩ = some u) (h1 : b = false → n = 1) :
    (loadVar t ⟨g, o, none⟩).run P w = .ok (if b then .agg us.toArray else us.headD undef) w := by
  unfold loadVar
  simp only [Sem.run_bind, (run_sizeB hs w).2, Result.andThen_ok]
  cases b with
  | true => simp only [if_true, Sem.run_bind, (run_sizeB hs w).1, Result.andThen_ok]; subst hl; rw [run_loadCells_at g o us h]; simp
  | false =>
    have := h1 rfl
    subst this
    match us, hl with
    | [u], _ =>
      have := h 0 u rfl
      simp only [Nat.add_zero] at this
      simp [run_load, this]
end
/-- What is read of known cells. -/
def rd (agg : Bool) (cs : List D) : D := if agg then .agg cs else cs.headD .any
theorem rep_rd {G : Gh} {w : World} {m : Mem} {b : Bool} {cs : List D} {us : List Value} (h : RepDs G w m cs us) (h1 : ∀ u ∈ us, u.oneCell' = true) : RepD G w m (rd b cs) (if b then .agg us.toArray else us.headD undef) := by
  cases b with
  | true => exact .agg cs us h.1 h1 h.2
  | false =>
    cases cs with
    | nil => exact .any _
    | cons d cs =>
      cases us with
      | nil => have := h.1; simp at this
      | cons u us => exact h.2 0 d u rfl rfl
theorem RepDs.drop {G : Gh} {w : World} {m : Mem} {ds : List D} {us : List Value} (h : RepDs G w m ds us) (k : Nat) : RepDs G w m (ds.drop k) (us.drop k) :=
  ⟨by simp [h.1], fun i d u hd hu => by rw [List.getElem?_drop] at hd hu; exact h.2 _ d u hd hu⟩
theorem RepDs.take {G : Gh} {w : World} {m : Mem} {ds : List D} {us : List Value} (h : RepDs G w m ds us) (k : Nat) : RepDs G w m (ds.take k) (us.take k) :=
  ⟨by simp [h.1], fun i d u hd hu => by
    rw [List.getElem?_take] at hd hu
    split at hd <;> simp_all
    exact h.2 _ d u hd hu⟩
section
variable {X : Cx} {o : Oper} {f : Nat → D} {m : Mem} {d : D} {T : List Nat}
theorem rep_ptr {G : Gh} {w : World} {id off : Nat} {u : Value} (h : RepD G w m (.ptr id off) u) : ∃ g cs, u = .pointer (some ⟨g, off, none⟩) ∧ G.μ id = some g ∧ m id = some (.box cs) := by
  cases h with | ptr _ _ g cs h hg => exact ⟨g, cs, rfl, hg, h⟩
theorem stepU_nilCheck {x : Operand} {id off : Nat} (ho : o.op = .nilCheck x) (hx : Ev f x (.ptr id off)) : StepU X o f m (.ptr id off) [] [] :=
  stepU_pure fun f' m' hf _ G w a _ hF => by
    have h := ev_at hx (by simp [ho, Op.operands]) hf hF
    obtain ⟨g, cs, h1, _, _⟩ := rep_ptr h
    refine ⟨a.eval x, ?_, h⟩
    rw [h1]
    simp [execOp, ho, h1]
theorem run_fieldAt {P : Program} {w : World} {t : TypeId} {i off : Nat} (h : fieldOff P t i = some off) (g o : Nat) : (Instr.fieldAt t (.pointer (some ⟨g, o, none⟩)) i).run P w = .ok (.pointer (some ⟨g, o + off, none⟩)) w := by
  unfold fieldOff at h
  cases hu : P.underlying t with
  | none => simp [hu] at h
  | some d =>
    cases d <;> simp only [hu] at h <;> first | cases h | skip
    rename_i fs
    cases hf : fs[i]? with
    | none => simp [hf] at h
    | some fd =>
      cases hi : P.info? fd.type with
      | none => simp [hf, hi] at h
      | some n =>
        by_cases h0 : n.size = 0
        · simp [hf, hi, h0] at h
        · simp [hf, hi, h0] at h
          simp [Instr.fieldAt, run_underlying hu, hf, Instr.sureAddr, fieldPlace, sizeOf, typeInfo, hi, h0, addr_add, h]
theorem stepU_fieldAddr {t : TypeId} {x : Operand} {i off id k : Nat} (ho : o.op = .fieldAddr t x i) (hx : Ev f x (.ptr id off)) (h : fieldOff X.P t i = some k) : StepU X o f m (.ptr id (off + k)) [] [] :=
  stepU_pure fun f' m' hf _ G w a _ hF => by
    obtain ⟨g, cs, h1, h2, h3⟩ := rep_ptr (ev_at hx (by simp [ho, Op.operands]) hf hF)
    exact ⟨_, by simp only [execOp, ho, h1, Sem.run_bind, run_fieldAt h, Result.andThen_ok, Sem.run_pure], .ptr id _ g cs h3 h2⟩
theorem rep_ref {G : Gh} {w : World} {m : Mem} {cs : List V} {u : Value} (h : RepD G w m (.ref cs) u) : ∃ (g o : Nat) (us : Nat → Value), u = .pointer (some ⟨g, o, none⟩) ∧ G.S g ∧ (∀ (j : Nat) (x : V), cs[j]? = some x → w.cell? ⟨g, o + j, none⟩ = some (us j)) ∧ ∀ (j : Nat) (x : V), cs[j]? = some x → RepV G.S w x (us j) := by
  cases h with | ref _ g o us hz hc hr => exact ⟨g, o, us, rfl, hz, hc, hr⟩
theorem stepU_fieldRef {t : TypeId} {x : Operand} {i k : Nat} {cs : List V} (ho : o.op = .fieldAddr t x i) (hx : Ev f x (.ref cs)) (h : fieldOff X.P t i = some k) : StepU X o f m (.ref (cs.drop k)) [] [] :=
  stepU_pure fun f' m' hf _ G w a _ hF => by
    obtain ⟨g, p, us, h1, hz, hc, hr⟩ := rep_ref (ev_at hx (by simp [ho, Op.operands]) hf hF)
    exact ⟨_, by simp only [execOp, ho, h1, Sem.run_bind, run_fieldAt h, Result.andThen_ok, Sem.run_pure],
      .ref _ g (p + k) (fun j => us (k + j)) hz (fun j x hx => by rw [List.getElem?_drop] at hx; rw [Nat.add_assoc]; exact hc _ x hx) (fun j x hx => by rw [List.getElem?_drop] at hx; exact hr _ x hx)⟩
/-- A read of a variable. -/
theorem stepU_load {t : TypeId} {x : Operand} {id off n : Nat} {b : Bool} {cs : List D} (ho : o.op = .load t x) (hx : Ev f x (.ptr id off)) (hm : m id = some (.box cs)) (hs : sizeB X.P t = some (b, n)) (hn : (b = true ∨ n = 1) ∧ off + n ≤ cs.length) (hd : rd b ((cs.drop off).take n) = d) : StepU X o f m d [] [id] :=
  stepU_pure fun f' m' hf hT G w a hO hF => by
    obtain ⟨g, cs', h1, h2, h3⟩ := rep_ptr (ev_at hx (by simp [ho, Op.operands]) hf hF)
    have hm' := (hT id (by simp)).trans hm
    obtain ⟨g', us, t', h4, h5, h6, h7⟩ := hO.ob id _ hm'
    obtain rfl : g' = g := by rw [h4] at h2; simpa using h2
    have hr := (h7.drop off).take n
    have hl : ((us.drop off).take n).length = n := by have := hr.1; rw [this]; simp; omega
    refine ⟨_, ?_, by rw [← hd]; exact rep_rd hr (fun u hu => h6 u (List.mem_of_mem_drop (List.mem_of_mem_take hu)))⟩
    simp only [execOp, ho, h1, Instr.loadAt, Instr.sureAddr, Sem.run_bind, Sem.run_pure, Result.andThen_ok]
    rw [run_loadVar_at hs g' off _ hl (fun j u hu => by
      rw [cell_box h5 (id := id) (cs := cs)]
      rw [List.getElem?_take] at hu
      split at hu
      · rw [List.getElem?_drop] at hu; exact hu
      · cases hu) (fun hb => by rcases hn.1 with h | h <;> simp_all)]
    simp
/-- A read of what will not change. -/
theorem stepU_loadRef {t : TypeId} {x : Operand} {n : Nat} {b : Bool} {cs : List V} (ho : o.op = .load t x) (hx : Ev f x (.ref cs)) (hs : sizeB X.P t = some (b, n)) (hn : (b = true ∨ n = 1) ∧ n ≤ cs.length) (hd : rd b ((cs.take n).map .v) = d) : StepU X o f m d [] [] :=
  stepU_pure fun f' m' hf _ G w a hO hF => by
    obtain ⟨g, p, us, h1, hz, hc, hr⟩ := rep_ref (ev_at hx (by simp [ho, Op.operands]) hf hF)
    have hl : ((List.range n).map us).length = n := by simp
    have hR : RepDs G w m' ((cs.take n).map .v) ((List.range n).map us) := by
      refine ⟨by simp; omega, fun i d u hd hu => ?_⟩
      rw [List.getElem?_map] at hd hu
      by_cases hi : i < n
      · rw [List.getElem?_range hi] at hu
        rw [List.getElem?_take_of_lt hi] at hd
        cases hc' : cs[i]? with
        | none => simp [hc'] at hd
        | some y => simp [hc'] at hd hu; subst hd hu; exact .v _ _ (hr i y hc')
      · rw [List.getElem?_eq_none (by simp; omega)] at hu; cases hu
    have hO1 : ∀ u ∈ (List.range n).map us, u.oneCell' = true := fun u hu => by
      obtain ⟨j, hj, rfl⟩ := List.mem_map.1 hu
      have hj' := List.mem_range.1 hj
      exact (hr j cs[j] (List.getElem?_eq_getElem (by omega))).one
    refine ⟨_, ?_, by rw [← hd]; exact rep_rd hR hO1⟩
    simp only [execOp, ho, h1, Instr.loadAt, Instr.sureAddr, Sem.run_bind, Sem.run_pure, Result.andThen_ok]
    rw [run_loadVar_at hs g p _ hl (fun j u hu => by
      rw [List.getElem?_map] at hu
      by_cases hi : j < n
      · rw [List.getElem?_range hi] at hu
        simp at hu
        subst hu
        exact hc j cs[j] (List.getElem?_eq_getElem (by omega))
      · rw [List.getElem?_eq_none (by simp; omega)] at hu; cases hu) (fun hb => by rcases hn.1 with h | h <;> simp_all)]
    simp
/-- What a value's cells are. -/
def D.cells : D → List D
  | .agg cs => cs
  | d => [d]
def D.plain : D → Bool
  | .agg _ => true
  | d => d.one
theorem rep_cells {G : Gh} {w : World} {m : Mem} {d : D} {u : Value} (h : RepD G w m d u) (hp : d.plain = true) : RepDs G w m d.cells u.cells.toList ∧ ∀ v ∈ u.cells.toList, v.oneCell' = true := by
  by_cases hd : ∃ cs, d = .agg cs
  · obtain ⟨cs, rfl⟩ := hd
    cases h with | agg _ us hl h1 h => exact ⟨⟨hl, h⟩, h1⟩
  · have h1 : d.one = true := by cases d <;> first | exact hp | exact absurd ⟨_, rfl⟩ hd
    have h2 := h.one h1
    have h3 : d.cells = [d] := by cases d <;> first | rfl | exact absurd ⟨_, rfl⟩ hd
    have h4 : u.cells = #[u] := by cases u <;> first | rfl | (simp [Value.oneCell'] at h2)
    rw [h3, h4]
    exact ⟨.cons h .nil, fun v hv => by simp at hv; subst hv; exact h2⟩
/-- A variable is made: 'zero' tells its cells. -/
def zeroCs (P : Program) (t : TypeId) : Option (List Value) := ((P.info? t).bind (·.zero)).map (·.cells.toList)
/-- Values of the text, as they are known. -/
inductive Lits : List Value → List D → Prop
  | nil : Lits [] []
  | int (k : IntKind) (n : Int) {us ds} (h : Lits us ds) : Lits (.int k n :: us) (.v (.int k n) :: ds)
  | bool (b : Bool) {us ds} (h : Lits us ds) : Lits (.bool b :: us) (.v (.bool b) :: ds)
  | str {us ds} (h : Lits us ds) : Lits (.string ByteArray.empty :: us) (.v (.str []) :: ds)
  | lit (v : Value) {us ds} (hv : v.oneCell' = true) (h : Lits us ds) : Lits (v :: us) (.v (.lit v) :: ds)
theorem Lits.rep {G : Gh} {w : World} {m : Mem} {us : List Value} {ds : List D} (h : Lits us ds) : RepDs G w m ds us ∧ ∀ u ∈ us, u.oneCell' = true := by
  induction h with
  | nil => exact ⟨.nil, fun u h => by simp at h⟩
  | int k n h ih => exact ⟨.cons (mk_int k n) ih.1, fun u hu => by rcases List.mem_cons.1 hu with rfl | hu; exact rfl; exact ih.2 u hu⟩
  | bool b h ih => exact ⟨.cons (mk_bool b) ih.1, fun u hu => by rcases List.mem_cons.1 hu with rfl | hu; exact rfl; exact ih.2 u hu⟩
  | str h ih => exact ⟨.cons (mk_str []) ih.1, fun u hu => by rcases List.mem_cons.1 hu with rfl | hu; exact rfl; exact ih.2 u hu⟩
  | lit v hv h ih => exact ⟨.cons (.v _ _ (.lit v hv)) ih.1, fun u hu => by rcases List.mem_cons.1 hu with rfl | hu; exact hv; exact ih.2 u hu⟩
theorem run_newVar' {P : Program} {w : World} (t : TypeId) (v : Value) : (newVar t v).run P w = .ok ⟨w.heap.size, 0, none⟩ (w.alloc (.cells v.cells t)) := by
  rfl
theorem stepU_alloc {t : TypeId} {us : List Value} {cs : List D} (ho : o.op = .alloc t) (id : Nat) (hnp : X.np ≤ id) (hz : zeroCs X.P t = some us) (hl : Lits us cs) : StepU X o f m (.ptr id 0) [(id, .box cs)] [] :=
  fun f' m' hf _ hn G w a hO hF K Q hK => by
    unfold zeroCs at hz
    cases hi : X.P.info? t with
    | none => simp [hi] at hz
    | some i =>
      cases hzz : i.zero with
      | none => simp [hi, hzz] at hz
      | some z =>
        simp [hi, hzz] at hz
        obtain ⟨h1, h2, h3⟩ := hO.newBox (id := id) (hn (id, Ob.box cs) (List.mem_singleton.2 rfl) List.not_mem_nil) hnp cs us t (Lits.rep (G := G) (w := w) (m := m') hl).2 (Lits.rep hl).1
        have hr : (execOp a.eval o).run X.P w = .ok (.value (.pointer (some ⟨w.heap.size, 0, none⟩))) (w.alloc (.cells us.toArray t)) := by
          simp only [execOp, ho, Instr.alloc, Sem.run_bind, zeroValue, typeInfo, run_program, Result.andThen_ok, hi, hzz, Sem.run_pure, run_newVar']
          rw [← hz]
        unfold Oper.wp
        rw [hr]
        exact hK _ _ _ h1 h2 h3
/-- box: a variable with a value. -/
theorem stepU_box {t : TypeId} {x : Operand} {d : D} (ho : o.op = .box t x) (id : Nat) (hnp : X.np ≤ id) (hx : Ev f x d) (hp : d.plain = true) : StepU X o f m (.ptr id 0) [(id, .box d.cells)] [] :=
  fun f' m' hf _ hn G w a hO hF K Q hK => by
    obtain ⟨h4, h5⟩ := rep_cells (ev_at hx (by simp [ho, Op.operands]) hf hF) hp
    obtain ⟨h1, h2, h3⟩ := hO.newBox (id := id) (hn (id, Ob.box d.cells) (List.mem_singleton.2 rfl) List.not_mem_nil) hnp d.cells (a.eval x).cells.toList t h5 h4
    have hr : (execOp a.eval o).run X.P w = .ok (.value (.pointer (some ⟨w.heap.size, 0, none⟩))) (w.alloc (.cells (a.eval x).cells.toList.toArray t)) := by
      simp only [execOp, ho, Instr.box, Sem.run_bind, run_newVar', Result.andThen_ok, Sem.run_pure, Array.toArray_toList]
    unfold Oper.wp
    rw [hr]
    exact hK _ _ _ h1 h2 h3
/-- Cells overwritten from a place on. -/
def splice (cs : List D) (k : Nat) (ds : List D) : List D := cs.take k ++ ds ++ cs.drop (k + ds.length)
theorem run_storeCells_box {P : Program} (g : Nat) (t : TypeId) : ∀ (vs : List Value) (o i : Nat) (us : List Value) (w : World), w.heap[g]? = some (.cells us.toArray t (0, 0)) → o + i + vs.length ≤ us.length → (∀ v ∈ vs, v.oneCell' = true) →
    ∃ w', (storeCells ⟨g, o, none⟩ vs i).run P w = .ok () w' ∧ w'.heap[g]? = some (.cells (us.take (o + i) ++ vs ++ us.drop (o + i + vs.length)).toArray t (0, 0)) ∧ (∀ k, k ≠ g → w'.heap[k]? = w.heap[k]?) ∧ w'.heap.size = w.heap.size ∧ w'.os = w.os ∧ w'.tape = w.tape ∧ w'.output = w.output
  | [], o, i, us, w, hh, hl, h1 => ⟨w, rfl, by simpa using hh, fun _ _ => rfl, rfl, rfl, rfl, rfl⟩
  | v :: vs, o, i, us, w, hh, hl, h1 => by
    simp only [List.length_cons] at hl
    have hlt : o + i < us.length := by omega
    have hc : w.cell? ⟨g, o + i, none⟩ = some us[o + i] := by simp [World.cell?, hh, hlt]
    have hf : w.frozen? ⟨g, o + i, none⟩ = false := by simp [World.frozen?, hh]
    have hh2 : (w.setCell ⟨g, o + i, none⟩ v).heap[g]? = some (.cells (us.set (o + i) v).toArray t (0, 0)) := by simp [World.setCell, Array.getElem?_modify, hh]
    obtain ⟨w', h2, h3, h4, h5, h6, h7, h8⟩ := run_storeCells_box (P := P) g t vs o (i + 1) (us.set (o + i) v) _ hh2 (by simp; omega) (fun u hu => h1 u (List.mem_cons_of_mem _ hu))
    refine ⟨w', ?_, ?_, fun k hk => (h4 k hk).trans (Below.heap_setCell w ⟨g, o + i, none⟩ v k hk), by rw [h5]; simp [World.setCell], h6, h7, h8⟩
    · simp only [storeCells, Sem.run_bind, addr_add, run_store P w _ v .plain (h1 v List.mem_cons_self), hc, hf, Bool.false_eq_true, if_false, Result.andThen_ok]
      exact h2
    · rw [h3]
      congr 3
      rw [show o + (i + 1) = o + i + 1 from by omega, List.drop_set_of_lt (by omega)]
      simp only [List.length_cons]
      rw [show o + i + (vs.length + 1) = o + i + 1 + vs.length from by omega]
      congr 1
      rw [List.take_succ_eq_append_getElem (by simpa using hlt), List.take_set]
      rw [List.set_eq_of_length_le (by simp; omega)]; simp
/-- A write to a variable. -/
theorem stepU_store {t : TypeId} {x y : Operand} {id off n : Nat} {b : Bool} {cs cs' : List D} {d : D} (ho : o.op = .store t x y) (hx : Ev f x (.ptr id off)) (hy : Ev f y d) (hp : d.plain = true) (hm : m id = some (.box cs)) (hs : sizeB X.P t = some (b, n))
    (hn : d.cells.length = n ∧ off + n ≤ cs.length) (hc : splice cs off d.cells = cs') : StepU X o f m .any [(id, .box cs')] [id] :=
  fun f' m' hf hT hnew G w a hO hF K Q hK => by
    obtain ⟨g, cs0, h1, h2, h3⟩ := rep_ptr (ev_at hx (by simp [ho, Op.operands]) hf hF)
    obtain ⟨h4, h5⟩ := rep_cells (ev_at hy (by simp [ho, Op.operands]) hf hF) hp
    have hm' := (hT id (by simp)).trans hm
    obtain ⟨g', us, t', h6, h7, h8, h9⟩ := hO.ob id _ hm'
    obtain rfl : g' = g := by rw [h6] at h2; simpa using h2
    have hl1 := h4.1
    have hl2 := h9.1
    have hlen : (a.eval y).cells.toList.length = d.cells.length := hl1
    obtain ⟨w', k1, k2, k3, k4, k5, k6, k7⟩ := run_storeCells_box (P := X.P) g' t' (a.eval y).cells.toList off 0 us w h7 (by omega) h5
    rw [Nat.add_zero] at k2
    obtain ⟨e1, e2⟩ := hO.setBox (w' := w') hm' h6 us (us.take off ++ (a.eval y).cells.toList ++ us.drop (off + (a.eval y).cells.toList.length)) t' h7 (cs' := cs') (fun u hu => by
        rcases List.mem_append.1 hu with hu | hu
        · rcases List.mem_append.1 hu with hu | hu
          · exact h8 u (List.mem_of_mem_take hu)
          · exact h5 u hu
        · exact h8 u (List.mem_of_mem_drop hu)) (by
        subst hc
        unfold splice
        rw [hlen]
        refine ⟨by simp only [List.length_append, List.length_take, List.length_drop]; omega, fun i d' u hd hu => ?_⟩
        by_cases hi : i < off
        · rw [List.append_assoc, List.getElem?_append_left (by simp; omega), List.getElem?_take_of_lt hi] at hd hu
          exact h9.2 i d' u hd hu
        · rw [List.append_assoc, List.getElem?_append_right (by simp; omega)] at hd hu
          rw [List.length_take, Nat.min_eq_left (by omega)] at hd hu
          by_cases hi2 : i - off < d.cells.length
          · rw [List.getElem?_append_left (by omega)] at hd hu
            exact h4.2 _ d' u hd hu
          · rw [List.getElem?_append_right (by omega)] at hd hu
            rw [hlen] at hu
            rw [List.getElem?_drop] at hd hu
            exact h9.2 _ d' u hd hu) k2 k3 k4 k5 k6 k7
    have hr : (execOp a.eval o).run X.P w = .ok .skip w' := by
      have hsz : (a.eval y).cells.size = n := by have := hl1; simp at this; omega
      simp only [execOp, ho, h1, Instr.storeAt, Instr.sureAddr, Sem.run_bind, Sem.run_pure, Result.andThen_ok, storeVar, (run_sizeB hs w).1, hsz, ne_eq, not_true_eq_false, if_false, k1]
    unfold Oper.wp
    rw [hr]
    exact hK _ _ _ e1 e2 (.any _)
end
end Go.Proofs.Ytlfkgbcclinnbaa
