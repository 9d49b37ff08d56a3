/- Abstract states: functions as values, with what they captured; maps whose keys are texts. No program, no condition. -/
import Derived.Test.YtnjbfiejgiaibaaGreatDoorAs
import Derived.MapKept
namespace Go.Proofs.YtnjbfiejgiaibaaGreatDoor
set_option linter.all false
open Go Go.RowKit

theorem RepDs.app {G : Gh} {w : World} {m : Mem} {ds es : List D} {us vs : List Value} (h : RepDs G w m ds us) (k : RepDs G w m es vs) : RepDs G w m (ds ++ es) (us ++ vs) := by
  refine ⟨by simp [h.1, k.1], fun i d u hd hu => ?_⟩
  by_cases hi : i < ds.length
  · rw [List.getElem?_append_left hi] at hd
    rw [List.getElem?_append_left (by rw [h.1]; exact hi)] at hu
    exact h.2 i d u hd hu
  · rw [List.getElem?_append_right (by omega)] at hd
    rw [List.getElem?_append_right (by rw [h.1]; omega), h.1] at hu
    exact k.2 _ d u hd hu
section
variable {X : Cx} {o : Oper} {f : Nat → D} {m : Mem} {d : D} {T : List Nat}
/-- A function's value is made. -/
theorem stepU_makeFn {g : Fn} {xs ys : Array Operand} {first caps : List D} (ho : o.op = .makeFunc g xs ys) (hx : EvL f xs.toList first) (hy : EvL f ys.toList caps) : StepU X o f m (.fn g first caps) [] [] :=
  stepU_pure fun f' m' hf _ G w a _ hF => by
    have h1 := hx.rep hF (fun x hx t ht => hf t (by subst ht; rw [ho]; simp only [Op.operands]; exact Array.mem_append.2 (.inl (by simpa using hx))))
    have h2 := hy.rep hF (fun x hx t ht => hf t (by subst ht; rw [ho]; simp only [Op.operands]; exact Array.mem_append.2 (.inr (by simpa using hx))))
    refine ⟨.func g (xs.map a.eval) (ys.map a.eval), by simp [execOp, ho, Instr.makeFunc], ?_⟩
    have e1 : xs.map a.eval = (xs.toList.map a.eval).toArray := by rw [← Array.toList_map]
    have e2 : ys.map a.eval = (ys.toList.map a.eval).toArray := by rw [← Array.toList_map]
    rw [e1, e2]
    exact .fn g first caps _ _ h1.1 h2.1 h1.2 h2.2
theorem rep_fn {G : Gh} {w : World} {g : Fn} {first caps : List D} {u : Value} (h : RepD G w m (.fn g first caps) u) : ∃ us vs : List Value, u = .func g us.toArray vs.toArray ∧ RepDs G w m first us ∧ RepDs G w m caps vs := by
  cases h with
  | fn _ _ _ us vs hl hl' h h' => exact ⟨us, vs, rfl, ⟨hl, h⟩, ⟨hl', h'⟩⟩
/-- A function's value is called. -/
theorem stepU_callC {x : Operand} {g : FuncId} {xs : Array Operand} {tys : Array TypeId} {args as_ first caps : List D} {pre post : AH} {np : Nat} {r : D} {upd : AH} (l : List Nat) (ho : o.op = .call { callee := .value x, args := xs, argTypes := tys }) (hfn : Ev f x (.fn (.func g) first caps)) (he : entersB X.P g = true)
    (hc : Con X.P g args pre np (.ret r) post) (hx : EvL f xs.toList as_) (has : D.rens (rho l) args = first ++ as_ ++ caps) (hpre : PreAt m (rho l) pre) (hnd : nodupB l = true) (hB : callB l pre post np X.np = true) (hpl : preLive pre) (hal : D.lives (dom pre) args = true)
    (hu : AH.ren (rho l) post = upd) (hd : r.ren (rho l) = d) : StepU X o f m d upd ((keys pre).map (rho l)) := by
  subst hu hd
  intro f' m' hf hT hn G w a hO hF K Q hK
  have hA0 := hx.rep hF (fun y hy t ht => hf t (by subst ht; rw [ho]; simp only [Op.operands, Call.operands]; exact Array.mem_append.2 (.inr (by simpa using hy))))
  have hfv := ev_at hfn (by simp [ho, Op.operands, Call.operands]) hf hF
  obtain ⟨us, vs, hev, h1, h2⟩ := rep_fn hfv
  have hA : RepDs G w m' (D.rens (rho l) args) (us ++ xs.toList.map a.eval ++ vs) := by rw [has]; exact (h1.app hA0).app h2
  have hinj := rho_inj hnd
  have hpre' : ∀ i o, look pre i = some o → m' (rho l i) = some (o.ren (rho l)) := fun i o h => by
    rw [hT (rho l i) (List.mem_map.2 ⟨i, mem_keys (dom_of h), rfl⟩)]; exact hpre.at i o h
  have hnew : ∀ i, dom post i = true → dom pre i = false → m' (rho l i) = none := fun i h1 h2 => by
    obtain ⟨o', ho'⟩ := of_dom h1
    have hin : (rho l i, o'.ren (rho l)) ∈ AH.ren (rho l) post := by
      have := mem_of_look (ah := AH.ren (rho l) post) (i := rho l i) (o := o'.ren (rho l)) (by rw [look_ren hinj, ho']; rfl)
      exact this
    refine hn _ hin fun hmem => ?_
    obtain ⟨j, hj, he⟩ := List.mem_map.1 hmem
    have := hinj _ _ he
    subst this
    unfold keys at hj
    obtain ⟨p, hp, rfl⟩ := List.mem_map.1 hj
    rw [dom_mem hp] at h2; cases h2
  have hrun : (execOp a.eval o).run X.P w = (callFunc g ((us ++ xs.toList.map a.eval ++ vs).toArray)).run X.P w := by
    have e1 : xs.map a.eval = (xs.toList.map a.eval).toArray := by rw [← Array.toList_map]
    simp [execOp, ho, resolve, hev, Deferred.ofValue, invoke, e1]
  unfold Oper.wp
  rw [hrun, run_enters he, Oper.upon_enter]
  refine (call_main hc l hnd hB hO hpre' hnew hpl hal _ hA).mono fun e w' ⟨G', h1, h2, h3⟩ => ?_
  cases e with
  | returned v => exact hK G' w' v h1 h2 h3
  | panicked c => exact h3.elim
  | outgrown => exact h3.elim
end
section
variable {X : Cx} {o : Oper} {f : Nat → D} {m : Mem} {d : D}
/-- A function's value is called; it leaves the memories as they were. -/
theorem stepU_callR {x : Operand} {g : FuncId} {xs : Array Operand} {tys : Array TypeId} {args as_ first caps : List D} {pre : AH} {np : Nat} {r : D} (l : List Nat) (ho : o.op = .call { callee := .value x, args := xs, argTypes := tys }) (hfn : Ev f x (.fn (.func g) first caps)) (he : entersB X.P g = true)
    (hc : Con X.P g args pre np (.ret r) pre) (hx : EvL f xs.toList as_) (has : D.rens (rho l) args = first ++ as_ ++ caps) (hpre : PreAt m (rho l) pre) (hnd : nodupB l = true) (hB : callB l pre pre np X.np = true) (hpl : preLive pre) (hal : D.lives (dom pre) args = true)
    (hd : r.ren (rho l) = d) : StepU X o f m d [] ((keys pre).map (rho l)) := by
  have h := stepU_callC (m := m) l ho hfn he hc hx has hpre hnd hB hpl hal rfl hd
  intro f' m' hf hT hn G w a hO hF K Q hK
  have hinj := rho_inj hnd
  have hpre' : ∀ i o, look pre i = some o → m' (rho l i) = some (o.ren (rho l)) := fun i o h => by
    rw [hT (rho l i) (List.mem_map.2 ⟨i, mem_keys (dom_of h), rfl⟩)]; exact hpre.at i o h
  have hov : over (AH.ren (rho l) pre) m' = m' := by
    funext j
    unfold over
    by_cases hin : ∃ i, dom pre i = true ∧ rho l i = j
    · obtain ⟨i, hi, rfl⟩ := hin
      obtain ⟨ob, hob⟩ := of_dom hi
      rw [look_ren hinj, hob, hpre' i ob hob]; rfl
    · rw [look_ren_none _ _ fun i hi he => hin ⟨i, hi, he⟩]
  refine h f' m' hf hT (fun p hp hT' => ?_) G w a hO hF K Q fun G' w' u h1 h2 h3 => ?_
  · exfalso
    have hk : p.1 ∈ keys (AH.ren (rho l) pre) := List.mem_map.2 ⟨p, hp, rfl⟩
    apply hT'
    have key : ∀ q : AH, keys (AH.ren (rho l) q) = (keys q).map (rho l) := fun q => by
      induction q with
      | nil => rfl
      | cons y q ih => simp only [keys] at ih ⊢; simp [AH.ren, ih]
    rw [key] at hk; exact hk
  · rw [hov] at h1 h2 h3
    exact hK G' w' u h1 h2 h3
end
def lookM (k : List UInt8) : List (List UInt8 × List V) → Option (List V)
  | [] => none
  | x :: r => if x.1 = k then some x.2 else lookM k r
def putM (k : List UInt8) (vs : List V) : List (List UInt8 × List V) → List (List UInt8 × List V)
  | [] => [(k, vs)]
  | x :: r => if x.1 = k then (k, vs) :: r else x :: putM k vs r
theorem S_inj' {a b : List UInt8} (h : S a = S b) : a = b := by rw [← S_toList a, h, S_toList]
open Go.MapKept
theorem find_at {Z : Nat → Prop} {w : World} {agg : Bool} (k : List UInt8) : ∀ (l : List (List UInt8 × List V)) (es : List MapEntry) (i : Nat), es.length = l.length → (∀ (i : Nat) x e, l[i]? = some x → es[i]? = some e → EnAt Z w agg x e) →
    (lookM k l = none ∧ Instr.findNow .string (.string (S k)) es i = some none ∧ ∀ vs, putM k vs l = l ++ [(k, vs)]) ∨
    ∃ j e vs0, Instr.findNow .string (.string (S k)) es i = some (some (i + j, e.val)) ∧ l[j]? = some (k, vs0) ∧ es[j]? = some e ∧ lookM k l = some vs0 ∧ ∀ vs, putM k vs l = l.set j (k, vs)
  | [], [], i, _, _ => .inl ⟨rfl, rfl, fun _ => rfl⟩
  | x :: l, e :: es, i, hl, h => by
    have h0 := (h 0 x e rfl rfl).1
    by_cases hx : x.1 = k
    · refine .inr ⟨0, e, x.2, ?_, by rw [← hx]; rfl, rfl, by simp [lookM, hx], fun vs => by simp [putM, hx]⟩
      simp [Instr.findNow, Instr.sameNow, h0, hx, (bytes_beq (S k) (S k)).2 rfl]
    · have hne : (S k == S x.1) = false := by
        cases hb : (S k == S x.1) with
        | false => rfl
        | true => exact absurd (S_inj' ((bytes_beq _ _).1 hb)).symm hx
      rcases find_at k l es (i + 1) (by simpa using hl) (fun j y f hy hf => h (j + 1) y f (by simpa using hy) (by simpa using hf)) with ⟨h1, h2, h3⟩ | ⟨j, f, vs0, h1, h2, h3, h4, h5⟩
      · exact .inl ⟨by simp [lookM, hx, h1], by simp [Instr.findNow, Instr.sameNow, h0, hne, h2], fun vs => by simp [putM, hx, h3]⟩
      · exact .inr ⟨j + 1, f, vs0, by simp [Instr.findNow, Instr.sameNow, h0, hne, h1]; omega, by simpa using h2, by simpa using h3, by simp [lookM, hx, h4], fun vs => by simp [putM, hx, h5]⟩
  | [], _ :: _, _, hl, _ => by simp at hl
  | _ :: _, [], _, hl, _ => by simp at hl
def zeroV (P : Program) (t : TypeId) : Option Value := (P.info? t).bind (·.zero)
theorem run_zeroV {P : Program} {t : TypeId} {z : Value} (h : zeroV P t = some z) (w : World) : (zeroValue t).run P w = .ok z w := by
  unfold zeroV at h
  cases hi : P.info? t with
  | none => rw [hi] at h; cases h
  | some i =>
    rw [hi] at h
    have h : i.zero = some z := h
    simp [zeroValue, typeInfo, hi, h]
inductive ZIs : Bool → Value → List V → Prop
  | agg {us : List Value} {zs : List V} (h : Lits us (zs.map .v)) : ZIs true (.agg us.toArray) zs
  | one {u : Value} {z : V} (h : Lits [u] [.v z]) : ZIs false u [z]
theorem rep_mref {G : Gh} {w : World} {m : Mem} {id : Nat} {u : Value} (h : RepD G w m (.mref id) u) : ∃ g, u = .map (some g) ∧ G.μ id = some g := by
  cases h with | mref _ g a l h hg => exact ⟨g, rfl, hg⟩
theorem rep_rdV {G : Gh} {w : World} {m : Mem} {agg : Bool} {vs : List V} {us : List Value} (hl : us.length = vs.length) (h1 : ∀ u ∈ us, u.oneCell' = true) (h : ∀ (j : Nat) (y : V) (u : Value), vs[j]? = some y → us[j]? = some u → RepV G.S w y u) :
    RepD G w m (rd agg (vs.map .v)) (if agg then .agg us.toArray else us.headD undef) :=
  rep_rd ⟨by simp [hl], fun i d u hd hu => by
    rw [List.getElem?_map] at hd
    cases hv : vs[i]? with
    | none => rw [hv] at hd; cases hd
    | some y => rw [hv] at hd; injection hd with hd; subst hd; exact .v y u (h i y u hv hu)⟩ h1
theorem rep_zis {G : Gh} {w : World} {m : Mem} {agg : Bool} {z : Value} {zs : List V} (h : ZIs agg z zs) : RepD G w m (rd agg (zs.map .v)) z := by
  cases h with
  | @agg us _ h =>
    obtain ⟨h1, h2⟩ := h.rep (G := G) (w := w) (m := m)
    exact rep_rd (b := true) h1 h2
  | one h =>
    obtain ⟨h1, h2⟩ := h.rep (G := G) (w := w) (m := m)
    exact rep_rd (b := false) (us := [z]) h1 h2
section
variable {X : Cx} {o : Oper} {f : Nat → D} {m : Mem} {d : D} {T : List Nat}
/-- A map is made. -/
theorem stepU_makeMap {t : TypeId} (id : Nat) (agg : Bool) (ho : o.op = .makeMap t none) (hnp : X.np ≤ id) : StepU X o f m (.mref id) [(id, .mp agg [])] [] :=
  fun f' m' hf hT hnew G w a hO hF K Q hK => by
    have hid : m' id = none := hnew (id, Ob.mp agg []) (List.mem_singleton.2 rfl) List.not_mem_nil
    obtain ⟨k1, k2⟩ := hO.step (G' := G.at_ id (some w.heap.size) 0) (w' := w.alloc (.map #[] 0)) id (.mp agg []) rfl (fun i hi => Gh.at_ne G _ _ hi) (fun g hg => by
      rw [Gh.at_μ] at hg; injection hg with hg; exact .inl (by omega)) (fun g hg _ => Below.heap_alloc w _ g hg) (by show w.heap.size ≤ (w.alloc _).heap.size; rw [World.size_alloc]; omega) rfl rfl rfl
      (fun o' ho' => by rw [hid] at ho'; cases ho') (fun k => ⟨w.heap.size, #[], 0, Gh.at_μ _ _ _ _, heap_alloc_new w _, rfl, fun i x e hx => by simp at hx⟩) (fun cs _ he => by cases he) (fun a l hh => by rw [hid] at hh; cases hh) (fun a l hlt _ => by omega)
    unfold Oper.wp
    have hr : (execOp a.eval o).run X.P w = .ok (.value (.map (some w.heap.size))) (w.alloc (.map #[] 0)) := by
      simp [execOp, ho, Instr.makeMap]
    rw [hr]
    exact hK _ _ _ k1 k2 (.mref id w.heap.size agg [] over_at (Gh.at_μ _ _ _ _))
/-- m[k] -/
theorem stepU_lookup {t kt et : TypeId} {x y : Operand} {ok : Bool} {id : Nat} {agg : Bool} {l : List (List UInt8 × List V)} {k : List UInt8} {z : Value} {zs : List V} (ho : o.op = .lookup t x y ok) (ht : X.P.underlying t = some (.map kt et)) (hk : X.P.underlying kt = some .string) (hz : zeroV X.P et = some z)
    (hx : Ev f x (.mref id)) (hy : Ev f y (.v (.str k))) (hm : m id = some (.mp agg l)) (hzz : ZIs agg z zs) (hd : (if ok then .tup [rd agg (((lookM k l).getD zs).map .v), .v (.bool (lookM k l).isSome)] else rd agg (((lookM k l).getD zs).map .v)) = d) : StepU X o f m d [] [id] :=
  stepU_pure fun f' m' hf hT G w a hO hF => by
    subst hd
    have hm' := (hT id (by simp)).trans hm
    obtain ⟨g, hu, hg⟩ := rep_mref (ev_at hx (by simp [ho, Op.operands]) hf hF)
    have hku := rep_str (ev_at hy (by simp [ho, Op.operands]) hf hF)
    obtain ⟨g', es, clk, h1, h2, h3, h4⟩ := hO.ob id _ hm'
    obtain rfl : g' = g := by rw [h1] at hg; injection hg
    have key : ∃ v, RepD G w m' (rd agg (((lookM k l).getD zs).map .v)) v ∧ (Instr.lookup t (.map (some g')) (.string (S k)) ok).run X.P w = .ok (if ok then .tuple #[v, .bool (lookM k l).isSome] else v) w := by
      rcases find_at k l es.toList 0 (by simpa using h3) (fun i x e hx he => h4 i x e hx (by simpa using he)) with ⟨q1, q2, -⟩ | ⟨j, e, vs0, q1, q2, q3, q4, -⟩
      · refine ⟨z, by rw [q1]; exact rep_zis hzz, ?_⟩
        simp [Instr.lookup, run_underlying ht, MapKept.run_getObj_map h2, run_checkKey hk (show IsKey .string (.string (S k)) by simp [IsKey]), run_findKey hk q2, run_zeroV hz, q1]
        try (cases ok <;> rfl)
      · obtain ⟨-, us, u1, u2, u3, u4⟩ := h4 j _ e q2 (by simpa using q3)
        refine ⟨e.val, by rw [q4, u2]; exact rep_rdV u1 u3 u4, ?_⟩
        simp [Instr.lookup, run_underlying ht, MapKept.run_getObj_map h2, run_checkKey hk (show IsKey .string (.string (S k)) by simp [IsKey]), run_findKey hk q1, q4]
        try (cases ok <;> rfl)
    obtain ⟨v, k1, k2⟩ := key
    refine ⟨(if ok then .tuple #[v, .bool (lookM k l).isSome] else v), by simp [execOp, ho, hu, hku, k2], ?_⟩
    cases ok with
    | false => exact k1
    | true => exact .tup _ [v, .bool (lookM k l).isSome] rfl (RepDs.cons k1 (.cons (mk_bool _) .nil)).2
/-- m[k] = v -/
theorem stepU_mapUpdate {t kt et : TypeId} {x y q : Operand} {id : Nat} {agg : Bool} {l l' : List (List UInt8 × List V)} {k : List UInt8} {vs : List V} (ho : o.op = .mapUpdate t x y q) (ht : X.P.underlying t = some (.map kt et)) (hk : X.P.underlying kt = some .string)
    (hx : Ev f x (.mref id)) (hy : Ev f y (.v (.str k))) (hq : Ev f q (rd agg (vs.map .v))) (hm : m id = some (.mp agg l)) (hn : agg = true ∨ vs.length = 1) (hl : putM k vs l = l') : StepU X o f m .any [(id, .mp agg l')] [id] :=
  fun f' m' hf hT hnew G w a hO hF K Q hK => by
    subst hl
    have hm' := (hT id (by simp)).trans hm
    obtain ⟨g, hu, hg⟩ := rep_mref (ev_at hx (by simp [ho, Op.operands]) hf hF)
    have hku := rep_str (ev_at hy (by simp [ho, Op.operands]) hf hF)
    have hqr := ev_at hq (by simp [ho, Op.operands]) hf hF
    obtain ⟨us, u1, u2, u3, u4⟩ : ∃ us : List Value, us.length = vs.length ∧ a.eval q = (if agg then .agg us.toArray else us.headD undef) ∧ (∀ u ∈ us, u.oneCell' = true) ∧ ∀ (j : Nat) (y : V) (u : Value), vs[j]? = some y → us[j]? = some u → RepV G.S w y u := by
      generalize a.eval q = u at hqr
      cases agg with
      | true =>
        cases hqr with
        | agg _ us hl h1 h =>
          refine ⟨us, by simpa using hl, rfl, h1, fun j y u hy hu => ?_⟩
          have := h j (.v y) u (by simp [hy]) hu
          cases this with | v _ _ h => exact h
      | false =>
        have hl1 : vs.length = 1 := by simpa using hn
        match vs, hl1 with
        | [v], _ =>
          have h1 : RepD G w m' (.v v) u := hqr
          refine ⟨[u], rfl, rfl, fun u' hu' => ?_, fun j y u' hy hu' => ?_⟩
          · rw [List.mem_singleton.1 hu']; exact h1.one rfl
          · cases j with
            | zero => simp at hy hu'; subst hy hu'; cases h1 with | v _ _ h => exact h
            | succ j => simp at hy
    obtain ⟨g', es, clk, h1, h2, h3, h4⟩ := hO.ob id _ hm'
    obtain rfl : g' = g := by rw [h1] at hg; injection hg
    have hkey : IsKey .string (.string (S k)) := by simp [IsKey]
    have hgl : g' < w.heap.size := (Array.getElem?_eq_some_iff.1 h2).1
    have fin : ∀ (es' : Array MapEntry) (clk' : Nat), es'.size = (putM k vs l).length → (∀ (i : Nat) x e, (putM k vs l)[i]? = some x → es'[i]? = some e → EnAt G.S w agg x e) →
        Ok X G { w with heap := w.heap.setIfInBounds g' (.map es' clk') } (over [(id, .mp agg (putM k vs l))] m') ∧ Ext G w m' G { w with heap := w.heap.setIfInBounds g' (.map es' clk') } (over [(id, .mp agg (putM k vs l))] m') := fun es' clk' e1 e2 =>
      hO.step (G' := G) (w' := { w with heap := w.heap.setIfInBounds g' (.map es' clk') }) id (.mp agg (putM k vs l)) rfl (fun i hi => ⟨rfl, rfl⟩) (fun g hg => .inr ⟨by rw [hm']; simp, hg⟩)
        (fun k hk hne => (heap_set h2).2 k fun e => hne (by rw [hm']; simp) (by rw [h1, e])) (by simp) rfl rfl rfl
        (fun o' ho' => by
          rw [hm'] at ho'; injection ho' with ho'; subst ho'
          exact ⟨fun cs he => (by cases he), fun _ _ _ _ he => (by cases he)⟩)
        (fun kx => ⟨g', es', clk', h1, (heap_set h2).1, e1, fun i x e hx he => by
          obtain ⟨r1, us, r2, r3, r4, r5⟩ := e2 i x e hx he
          exact ⟨r1, us, r2, r3, r4, fun j y u hy hu => (r5 j y u hy hu).ext kx⟩⟩) (fun cs _ he => by cases he)
        (fun a0 l0 hh => ⟨⟨_, _, rfl⟩, rfl⟩) (fun a0 l0 hlt _ => hO.pin id _ hlt hm' rfl)
    unfold Oper.wp
    rcases find_at k l es.toList 0 (by simpa using h3) (fun i x e hx he => h4 i x e hx (by simpa using he)) with ⟨q1, q2, q3⟩ | ⟨j, e, vs0, q1, q2, q3, q4, q5⟩
    · obtain ⟨k1, k2⟩ := fin (es.push ⟨.string (S k), a.eval q, clk⟩) (clk + 1) (by rw [q3]; simp [h3]) (fun i x e hx he => by
        rw [q3] at hx
        by_cases hi : i < l.length
        · rw [List.getElem?_append_left hi] at hx
          rw [Array.getElem?_push, if_neg (by omega)] at he
          exact h4 i x e hx he
        · rw [List.getElem?_append_right (by omega)] at hx
          have hi0 : i - l.length = 0 := by
            cases hc : i - l.length with
            | zero => rfl
            | succ n => rw [hc] at hx; simp at hx
          rw [hi0] at hx
          simp at hx
          rw [Array.getElem?_push, if_pos (by omega)] at he
          injection he with he
          subst hx he
          exact ⟨rfl, us, u1, u2, u3, u4⟩)
      have hr : (execOp a.eval o).run X.P w = .ok .skip { w with heap := w.heap.setIfInBounds g' (.map (es.push ⟨.string (S k), a.eval q, clk⟩) (clk + 1)) } := by
        simp [execOp, ho, hu, hku, Instr.mapUpdate, run_underlying ht, MapKept.run_getObj_map h2, run_checkKey hk hkey, run_findKey hk q2, run_setObj_map _ h2]
      rw [hr]
      exact hK _ _ _ k1 k2 (.any _)
    · have hj : j < es.size := by rw [h3]; exact (List.getElem?_eq_some_iff.1 q2).1
      have he0 : e.key = .string (S k) := (h4 j _ e q2 (by simpa using q3)).1
      obtain ⟨k1, k2⟩ := fin (es.modify j fun e => { e with key := .string (S k), val := a.eval q }) clk (by rw [q5]; simp [h3]) (fun i x e' hx he => by
        rw [q5] at hx
        rw [Array.getElem?_modify] at he
        by_cases hi : j = i
        · subst hi
          rw [List.getElem?_set_self (by omega)] at hx
          rw [if_pos rfl] at he
          rw [show es[j]? = some e from by simpa using q3] at he
          simp at hx he
          subst hx he
          exact ⟨rfl, us, u1, u2, u3, u4⟩
        · rw [List.getElem?_set_ne hi] at hx
          rw [if_neg hi] at he
          exact h4 i x e' hx he)
      have hes : es[j]? = some e := by simpa using q3
      have hr : (execOp a.eval o).run X.P w = .ok .skip { w with heap := w.heap.setIfInBounds g' (.map (es.modify j fun e => { e with key := .string (S k), val := a.eval q }) clk) } := by
        simp [execOp, ho, hu, hku, Instr.mapUpdate, run_underlying ht, MapKept.run_getObj_map h2, run_checkKey hk hkey, run_findKey hk q1, run_setObj_map _ h2, hes, he0, run_keyThatStays hkey]
      rw [hr]
      exact hK _ _ _ k1 k2 (.any _)
end
section
variable {X : Cx} {o : Oper} {f : Nat → D} {m : Mem}
theorem stepU_max {x y : Operand} {t t' : TypeId} {k : IntKind} {p q : Int} (ho : o.op = .call { callee := .builtin .max, args := #[x, y], argTypes := #[t, t'] }) (hx : Ev f x (.v (.int k p))) (hy : Ev f y (.v (.int k q))) : StepU X o f m (.v (.int k (max p q))) [] [] :=
  stepU_pure fun f' m' hf _ G w a _ hF => by
    have h1 := rep_int (ev_at hx (by simp [ho, Op.operands, Call.operands]) hf hF)
    have h2 := rep_int (ev_at hy (by simp [ho, Op.operands, Call.operands]) hf hF)
    refine ⟨.int k (max p q), ?_, mk_int _ _⟩
    by_cases h : p < q
    · have : max p q = q := by omega
      simp [execOp, ho, resolve, invoke, builtin, Builtin.max_, Builtin.max2, h1, h2, h, this]
    · have : max p q = p := by omega
      simp [execOp, ho, resolve, invoke, builtin, Builtin.max_, Builtin.max2, h1, h2, h, this]
end
end Go.Proofs.YtnjbfiejgiaibaaGreatDoor
