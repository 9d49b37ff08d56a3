/- A region that draws its order, each temporary with what is known of its value for good: one obligation an operation, whatever the order. No program, no condition. -/
import Derived.Deep.RegionHeld3
namespace Go.Proofs.Ytnaapoigmihjoaa
set_option linter.all false
open Go

/-- The frame with the temporaries of these operations at vs k, vs (k + 1), .. -/
def puts (vs : Nat → Value) : Nat → List Oper → Act → Act
  | _, [], a => a
  | k, o :: os, a => puts vs (k + 1) os (a.put o.dst (vs k))
def apartB : List Oper → Bool
  | [] => true
  | o :: os => (os.all fun y => o.dst.isNone || y.dst != o.dst) && apartB os
def backB : Nat → List Oper → Bool
  | _, [] => true
  | k, o :: os => (o.after.toList.all fun e => decide (e.on < k)) && backB (k + 1) os
theorem puts_congr {vs us : Nat → Value} : ∀ (os : List Oper) (k : Nat) (a : Act), (∀ j, k ≤ j → vs j = us j) → puts vs k os a = puts us k os a
  | [], _, _, _ => rfl
  | o :: os, k, a, h => by
    simp only [puts]
    rw [h k (Nat.le_refl _)]
    exact puts_congr os (k + 1) _ (fun j hj => h j (by omega))
theorem puts_out (vs : Nat → Value) (d : Option Tmp) (u : Value) : ∀ (os : List Oper) (k : Nat) (a : Act), (∀ o ∈ os, ∀ t, d = some t → o.dst ≠ some t) → (puts vs k os a).put d u = puts vs k os (a.put d u)
  | [], _, _, _ => rfl
  | o :: os, k, a, h => by
    simp only [puts]
    rw [puts_out vs d u os (k + 1) _ (fun x hx => h x (List.mem_cons_of_mem _ hx)), Act.put_comm a (vs k) u]
    intro t ht hd
    exact h o List.mem_cons_self t hd ht
theorem put_put (a : Act) (d : Option Tmp) (u v : Value) : (a.put d u).put d v = a.put d v := by
  cases d <;> simp [Act.put]
def vset (vs : Nat → Value) (i : Nat) (u : Value) : Nat → Value := fun j => if j = i then u else vs j
theorem puts_set (vs : Nat → Value) (u : Value) : ∀ (os : List Oper) (k i : Nat) (o : Oper) (a : Act), os[i]? = some o → apartB os = true → (puts vs k os a).put o.dst u = puts (vset vs (k + i) u) k os a
  | [], _, _, _, _, h, _ => by simp at h
  | x :: os, k, 0, o, a, h, hb => by
    simp at h
    subst h
    simp only [apartB, Bool.and_eq_true, List.all_eq_true] at hb
    simp only [puts]
    rw [puts_out vs x.dst u os (k + 1) _ (fun y hy t ht he => by
      have := hb.1 y hy
      rw [ht] at this
      simp [he] at this)]
    rw [put_put]
    have e : vset vs (k + 0) u k = u := by simp [vset]
    rw [e]
    exact puts_congr os (k + 1) _ (fun j hj => by
      unfold vset; rw [if_neg (by omega)])
  | x :: os, k, i + 1, o, a, h, hb => by
    simp only [List.getElem?_cons_succ] at h
    simp only [apartB, Bool.and_eq_true] at hb
    simp only [puts]
    rw [puts_set vs u os (k + 1) i o _ h hb.2]
    have e : vset vs (k + (i + 1)) u k = vs k := by unfold vset; rw [if_neg (by omega)]
    rw [e, show k + 1 + i = k + (i + 1) from by omega]
theorem puts_self : ∀ (os : List Oper) (a : Act) (k : Nat), apartB os = true → ∃ vs, puts vs k os a = a
  | [], a, k, _ => ⟨fun _ => undef, rfl⟩
  | o :: os, a, k, h => by
    simp only [apartB, Bool.and_eq_true] at h
    obtain ⟨vs, hv⟩ := puts_self os a (k + 1) h.2
    refine ⟨vset vs k (match o.dst with | some d => a.tmps.getD d undef | none => undef), ?_⟩
    have e : ∀ d : Option Tmp, a.put d (match d with | some d => a.tmps.getD d undef | none => undef) = a := by
      intro d
      cases d with
      | none => rfl
      | some d =>
        unfold Act.put
        obtain ⟨tm, de⟩ := a
        simp only [Act.mk.injEq, and_true]
        apply Array.ext
        · simp
        · intro i h1 h2
          rw [Array.getElem_setIfInBounds]
          split
          · rename_i he; subst he; simp [Array.getD, h2]
          · rfl
    simp only [puts]
    rw [show vset vs k (match o.dst with | some d => a.tmps.getD d undef | none => undef) k = (match o.dst with | some d => a.tmps.getD d undef | none => undef) from by simp [vset], e]
    rw [puts_congr os (k + 1) a (us := vs) (fun j hj => by unfold vset; rw [if_neg (by omega)])]
    exact hv
/-- What is known of the temporaries that these edges wait for. -/
def known (env : List (Value → World → Prop)) (vs : Nat → Value) (w : World) : List Edge → Prop
  | [] => True
  | e :: es => (Region.binds .any e = true → match env[e.on]? with | some F => F (vs e.on) w | none => True) ∧ known env vs w es
def allKnown (vs : Nat → Value) (w : World) : Nat → List (Value → World → Prop) → Prop
  | _, [] => True
  | k, F :: env => F (vs k) w ∧ allKnown vs w (k + 1) env
section
variable {P : Program} {Q : Exit → Act → World → Prop} {C : World → Prop} {Step : World → World → Prop} {l : List Oper} {a : Act}
/-- The walk: what is left to be shown once the operations ahead have been given what is known of them. -/
def wpTyped (P : Program) (Q : Exit → Act → World → Prop) (C : World → Prop) (Step : World → World → Prop) (l : List Oper) (a : Act) : List (Value → World → Prop) → List Oper → Prop
  | env, [] => ∀ vs w, C w → allKnown vs w 0 env → Q .normal (puts vs 0 l a) w
  | env, o :: rest => ∃ F : Value → World → Prop, (∀ v w w', F v w → C w' → Step w w' → F v w') ∧
      (∀ vs w, C w → known env vs w o.after.toList → ∀ K : Act → World → Prop, Shut (∀ u w', F u w' → C w' → Step w w' → K ((puts vs 0 l a).put o.dst u) w') →
        if Region.wanted o (yielded l.toArray (puts vs 0 l a).tmps) = true then Oper.wp P o (puts vs 0 l a) w K Q else K ((puts vs 0 l a).put o.dst undef) w) ∧
      wpTyped P Q C Step l a (env ++ [F]) rest
theorem known_of {env : List (Value → World → Prop)} {vs : Nat → Value} {w : World} : ∀ (es : List Edge), (∀ e ∈ es, Region.binds .any e = true → ∀ F, env[e.on]? = some F → F (vs e.on) w) → known env vs w es
  | [], _ => trivial
  | e :: es, h => ⟨fun hb => by
      cases he : env[e.on]? with
      | none => trivial
      | some F => exact h e List.mem_cons_self hb F he, known_of es (fun x hx => h x (List.mem_cons_of_mem _ hx))⟩
theorem allKnown_of {vs : Nat → Value} {w : World} : ∀ (env : List (Value → World → Prop)) (k : Nat), (∀ (i : Nat) (F : Value → World → Prop), env[i]? = some F → F (vs (k + i)) w) → allKnown vs w k env
  | [], _, _ => trivial
  | F :: env, k, h => ⟨h 0 F rfl, allKnown_of env (k + 1) (fun i G hG => by have := h (i + 1) G hG; rwa [show k + (i + 1) = k + 1 + i from by omega] at this)⟩
/-- What the walk gives: for each operation what is known, that it is for good, and the step. -/
theorem typed_all : ∀ (rest : List Oper) (env : List (Value → World → Prop)), backB env.length rest = true → wpTyped P Q C Step l a env rest →
    ∃ full : List (Value → World → Prop), full.length = env.length + rest.length ∧ (∀ i, i < env.length → full[i]? = env[i]?) ∧
      (∀ vs w, C w → allKnown vs w 0 full → Q .normal (puts vs 0 l a) w) ∧
      ∀ i o, rest[i]? = some o → ∃ F, full[env.length + i]? = some F ∧ (∀ v w w', F v w → C w' → Step w w' → F v w') ∧
        (∀ vs w, C w → known full vs w o.after.toList → ∀ K : Act → World → Prop, Shut (∀ u w', F u w' → C w' → Step w w' → K ((puts vs 0 l a).put o.dst u) w') →
          if Region.wanted o (yielded l.toArray (puts vs 0 l a).tmps) = true then Oper.wp P o (puts vs 0 l a) w K Q else K ((puts vs 0 l a).put o.dst undef) w)
  | [], env, _, h => ⟨env, by simp, fun _ _ => rfl, h, fun i o hi => by simp at hi⟩
  | o :: rest, env, hb, h => by
    obtain ⟨F, hs, hst, hr⟩ := h
    simp only [backB, Bool.and_eq_true, List.all_eq_true, decide_eq_true_eq] at hb
    obtain ⟨full, hl, hpre, hfin, hall⟩ := typed_all rest (env ++ [F]) (by simpa using hb.2) hr
    refine ⟨full, by simp at hl ⊢; omega, fun i hi => ?_, hfin, fun i x hx => ?_⟩
    · rw [hpre i (by simp; omega), List.getElem?_append_left hi]
    · cases i with
      | zero =>
        simp at hx
        subst hx
        refine ⟨F, by rw [Nat.add_zero, hpre _ (by simp)]; simp, hs, fun vs w hC hk => hst vs w hC ?_⟩
        have tr : ∀ es : List Edge, (∀ e ∈ es, e.on < env.length) → known full vs w es → known env vs w es := by
          intro es
          induction es with
          | nil => exact fun _ _ => trivial
          | cons e es ih =>
            intro h1 ⟨h2, h3⟩
            refine ⟨fun hb' => ?_, ih (fun x hx => h1 x (List.mem_cons_of_mem _ hx)) h3⟩
            have := h2 hb'
            have he := h1 e List.mem_cons_self
            rwa [hpre _ (by simp; omega), List.getElem?_append_left he] at this
        exact tr _ hb.1 hk
      | succ i =>
        simp only [List.getElem?_cons_succ] at hx
        obtain ⟨G, hG, h1, h2⟩ := hall i x hx
        exact ⟨G, by rw [← hG]; congr 1; simp; omega, h1, h2⟩
theorem wp_region_typed {id : Nat} {w : World} (C : World → Prop) (Step : World → World → Prop) (hm : P.follows .mixedOrders = true) (hd : apartB l = true) (hb : backB 0 l = true) (hC : C w.drew)
    (h : wpTyped P Q C Step l a [] l) : (Code.region id l.toArray true).wp P Q a w := by
  obtain ⟨full, hl, _, hfin, hall⟩ := typed_all l [] hb h
  simp at hl
  refine wp_region_any hm ?_
  have main : ∀ (fuel : Nat) (listed : Array Bool) (vs : Nat → Value) (w : World), listed.size = l.length → C w → (∀ i F, full[i]? = some F → listed.getD i false = true → F (vs i) w) →
      ((List.range l.length).filter fun i => !listed.getD i false).length ≤ fuel →
      wpAny P .any l.toArray Q fuel listed (puts vs 0 l a) w := by
    have over : ∀ (listed : Array Bool), listed.size = l.length → Region.ready .any l.toArray listed = [] → ∀ i, i < l.length → listed.getD i false = true := by
      intro listed hsz hr i
      induction i using Nat.strongRecOn with
      | ind i ih =>
        intro hi
        cases hc : listed.getD i false with
        | true => rfl
        | false =>
          exfalso
          have hmem : i ∈ Region.ready .any l.toArray listed := by
            rw [mem_ready]
            refine ⟨by simpa [Array.getD, hsz, hi] using hc, l[i], by simp [hi], fun e he hbd => ?_⟩
            have bk : ∀ (os : List Oper) (k j : Nat) (o : Oper), backB k os = true → os[j]? = some o → ∀ e ∈ o.after.toList, e.on < k + j := by
              intro os
              induction os with
              | nil => intro k j o _ h; simp at h
              | cons x os ihx =>
                intro k j o hbk h e he
                simp only [backB, Bool.and_eq_true, List.all_eq_true, decide_eq_true_eq] at hbk
                cases j with
                | zero => simp at h; subst h; exact hbk.1 e he
                | succ j => have := ihx (k + 1) j o hbk.2 (by simpa using h) e he; omega
            have hlt := bk l 0 i l[i] hb (by simp [hi]) e (by simpa using he)
            exact ih e.on (by omega) (by omega)
          rw [hr] at hmem
          cases hmem
    have done : ∀ (listed : Array Bool) (vs : Nat → Value) (w : World), listed.size = l.length → C w → (∀ i F, full[i]? = some F → listed.getD i false = true → F (vs i) w) → Region.ready .any l.toArray listed = [] → Q .normal (puts vs 0 l a) w := by
      intro listed vs w hsz hCw hk hr
      refine hfin vs w hCw (allKnown_of full 0 (fun i F hF => ?_))
      rw [Nat.zero_add]
      refine hk i F hF (over listed hsz hr i ?_)
      rcases Nat.lt_or_ge i full.length with h1 | h1
      · omega
      · rw [List.getElem?_eq_none h1] at hF; cases hF
    intro fuel
    induction fuel with
    | zero =>
      intro listed vs w hsz hCw hk hf
      have hr : Region.ready .any l.toArray listed = [] := by
        cases hr : Region.ready .any l.toArray listed with
        | nil => rfl
        | cons i r =>
          exfalso
          have hi : i ∈ Region.ready .any l.toArray listed := by rw [hr]; exact List.mem_cons_self
          obtain ⟨h1, o, ho, _⟩ := mem_ready.1 hi
          have hlt : i < l.length := by
            rcases Nat.lt_or_ge i l.length with h2 | h2
            · exact h2
            · simp [List.getElem?_eq_none h2] at ho
          have : i ∈ (List.range l.length).filter fun i => !listed.getD i false := by
            rw [List.mem_filter]
            exact ⟨List.mem_range.2 hlt, by simp [Array.getD, hsz, hlt] at h1 ⊢; exact h1⟩
          rw [List.eq_nil_of_length_eq_zero (Nat.le_zero.1 hf)] at this
          cases this
      exact ⟨hr, done listed vs w hsz hCw hk hr⟩
    | succ fuel ih =>
      intro listed vs w hsz hCw hk hf
      refine ⟨fun hr => done listed vs w hsz hCw hk hr, fun i hi => ?_⟩
      obtain ⟨hun, o, ho, hdep⟩ := mem_ready.1 hi
      have ho' : l[i]? = some o := by simpa using ho
      obtain ⟨F, hF, hst, hstep⟩ := hall i o ho'
      simp only [List.length_nil, Nat.zero_add] at hF
      have hlt : i < l.length := by
        rcases Nat.lt_or_ge i l.length with h2 | h2
        · exact h2
        · simp [List.getElem?_eq_none h2] at ho'
      refine wpOp_step ho (fun K hK => ?_)
      refine hstep vs w hCw (known_of _ (fun e he hbd G hG => hk e.on G hG (hdep e (by simpa using he) hbd))) K (fun u w' hFu hC' hS => ?_)
      refine hK _ _ ?_
      rw [puts_set vs u l 0 i o a ho' hd, Nat.zero_add]
      refine ih _ _ _ (by simpa using hsz) hC' (fun j G hG hj => ?_) ?_
      · by_cases hji : j = i
        · subst hji
          rw [hF] at hG
          cases hG
          simpa [vset] using hFu
        · have e : vset vs i u j = vs j := by simp [vset, hji]
          rw [e]
          have hjl : j < l.length := by
            rcases Nat.lt_or_ge j full.length with h1 | h1
            · omega
            · rw [List.getElem?_eq_none h1] at hG; cases hG
          obtain ⟨G', hG', hst', _⟩ := hall j l[j] (by simp [hjl])
          simp only [List.length_nil, Nat.zero_add] at hG'
          rw [hG] at hG'
          cases hG'
          exact hst' _ _ _ (hk j G hG (by rwa [getD_set_ne false (Ne.symm hji)] at hj)) hC' hS
      · have cnt : ∀ (r : List Nat), r.Nodup → (r.filter fun j => !(listed.setIfInBounds i true).getD j false).length + (if i ∈ r then 1 else 0) = (r.filter fun j => !listed.getD j false).length := by
          intro r
          induction r with
          | nil => intro _; simp
          | cons x r ihr =>
            intro hnd
            rw [List.nodup_cons] at hnd
            have h1 := ihr hnd.2
            by_cases hx : x = i
            · subst hx
              have hf1 : (!(listed.setIfInBounds x true).getD x false) = false := by simp [Array.getD, hsz, hlt]
              have hf2 : (!listed.getD x false) = true := by simp [Array.getD, hsz, hlt] at hun ⊢; exact hun
              rw [if_neg hnd.1] at h1
              simp only [List.filter_cons, hf1, hf2, List.mem_cons, true_or, if_true, Bool.false_eq_true, if_false, List.length_cons]
              omega
            · have e : (listed.setIfInBounds i true).getD x false = listed.getD x false := getD_set_ne false (Ne.symm hx)
              have hm : (i ∈ x :: r) = (i ∈ r) := by simp [Ne.symm hx]
              simp only [hm, List.filter_cons, e]
              split
              · simp only [List.length_cons]; omega
              · exact h1
        have := cnt (List.range l.length) List.nodup_range
        rw [if_pos (List.mem_range.2 hlt)] at this
        omega
  obtain ⟨vs, hvs⟩ := puts_self l a 0 hd
  have := main l.length (Array.replicate l.length false) vs w.drew (by simp) hC (fun i F hF hi => by
      exfalso
      have : (Array.replicate l.length false).getD i false = false := by
        simp [Array.getD]
      rw [this] at hi; cases hi) (by
        refine Nat.le_trans (List.length_filter_le _ _) (by simp))
  rw [hvs] at this
  simpa using this
theorem wanted_at {o : Oper} {ops : Array Oper} {tmps : Array Value} {j : Nat} {b : Bool} {v : Value} {d : Tmp} (hg : o.guard = some (j, b)) (hd : (ops[j]?).bind (·.dst) = some d) (ht : tmps[d]? = some v) (hv : v = .bool b) :
    Region.wanted o (yielded ops tmps) = true := by
  subst hv
  simp [Region.wanted, hg, yielded, hd, ht]
theorem unwanted_at {o : Oper} {ops : Array Oper} {tmps : Array Value} {j : Nat} {b : Bool} {v : Value} {d : Tmp} (hg : o.guard = some (j, b)) (hd : (ops[j]?).bind (·.dst) = some d) (ht : tmps[d]? = some v) (hv : v = .bool !b) :
    Region.wanted o (yielded ops tmps) = false := by
  subst hv
  simp [Region.wanted, hg, yielded, hd, ht]
/-- The beginning: the frame with its temporaries is laid out once (A). -/
theorem wp_region_typed_at {id : Nat} {w : World} {A : (Nat → Value) → Act} (hA : ∀ vs, puts vs 0 l a = A vs) (C : World → Prop) (Step : World → World → Prop) (hm : P.follows .mixedOrders = true) (hd : apartB l = true) (hb : backB 0 l = true) (hC : C w.drew)
    (h : (∀ vs, puts vs 0 l a = A vs) → wpTyped P Q C Step l a [] l) : (Code.region id l.toArray true).wp P Q a w := wp_region_typed C Step hm hd hb hC (h hA)
/-- An operation whose value is the same in every world. -/
theorem wpTyped_same {env : List (Value → World → Prop)} {o : Oper} {rest : List Oper} {A : (Nat → Value) → Act} (hA : ∀ vs, puts vs 0 l a = A vs) (c : Value) (hrefl : ∀ w, Step w w)
    (h : ∀ vs w, C w → known env vs w o.after.toList → Region.wanted o (yielded l.toArray (A vs).tmps) = true ∧ (execOp (A vs).eval o).run P w = .ok (.value c) w)
    (hr : wpTyped P Q C Step l a (env ++ [fun v _ => v = c]) rest) : wpTyped P Q C Step l a env (o :: rest) :=
  ⟨fun v _ => v = c, fun _ _ _ h _ _ => h, fun vs w hC hk K hK => by
    obtain ⟨h1, h2⟩ := h vs w hC hk
    have hK := hK c w rfl hC (hrefl w)
    rw [hA] at hK ⊢
    rw [if_pos h1]
    unfold Oper.wp
    rw [h2]
    exact hK, hr⟩
/-- An operation that is not wanted. -/
theorem wpTyped_skip {env : List (Value → World → Prop)} {o : Oper} {rest : List Oper} {A : (Nat → Value) → Act} (hA : ∀ vs, puts vs 0 l a = A vs) (hrefl : ∀ w, Step w w)
    (h : ∀ vs w, C w → known env vs w o.after.toList → Region.wanted o (yielded l.toArray (A vs).tmps) = false)
    (hr : wpTyped P Q C Step l a (env ++ [fun v _ => v = undef]) rest) : wpTyped P Q C Step l a env (o :: rest) :=
  ⟨fun v _ => v = undef, fun _ _ _ h _ _ => h, fun vs w hC hk K hK => by
    have h1 := h vs w hC hk
    have hK := hK undef w rfl hC (hrefl w)
    rw [hA] at hK ⊢
    rw [if_neg (by rw [h1]; simp)]
    exact hK, hr⟩
theorem wpTyped_step {env : List (Value → World → Prop)} {o : Oper} {rest : List Oper} {A : (Nat → Value) → Act} (hA : ∀ vs, puts vs 0 l a = A vs) (F : Value → World → Prop) (hs : ∀ v w w', F v w → C w' → Step w w' → F v w')
    (h : ∀ vs w, C w → known env vs w o.after.toList → ∀ K : Act → World → Prop, Shut (∀ u a' w', a' = (A vs).put o.dst u → F u w' → C w' → Step w w' → K a' w') →
        if Region.wanted o (yielded l.toArray (A vs).tmps) = true then Oper.wp P o (A vs) w K Q else K ((A vs).put o.dst undef) w)
    (hr : wpTyped P Q C Step l a (env ++ [F]) rest) : wpTyped P Q C Step l a env (o :: rest) := ⟨F, hs, fun vs w hC hk K hK => by
      have := h vs w hC hk K (fun u a' w' e h1 h2 h3 => by rw [e, ← hA]; exact hK u w' h1 h2 h3)
      rw [hA]
      exact this, hr⟩
/-- An operation that leaves the world as it is, and of whose value F is known. -/
theorem wpTyped_pure {env : List (Value → World → Prop)} {o : Oper} {rest : List Oper} {A : (Nat → Value) → Act} (hA : ∀ vs, puts vs 0 l a = A vs) (F : Value → World → Prop) (hs : ∀ v w w', F v w → C w' → Step w w' → F v w') (hrefl : ∀ w, Step w w)
    (h : ∀ vs w, C w → known env vs w o.after.toList → Region.wanted o (yielded l.toArray (A vs).tmps) = true ∧ ∃ u, (execOp (A vs).eval o).run P w = .ok (.value u) w ∧ F u w)
    (hr : wpTyped P Q C Step l a (env ++ [F]) rest) : wpTyped P Q C Step l a env (o :: rest) := ⟨F, hs, fun vs w hC hk K hK => by
      obtain ⟨h1, u, h2, h3⟩ := h vs w hC hk
      have hK := hK u w h3 hC (hrefl w)
      rw [hA] at hK ⊢
      rw [if_pos h1]
      unfold Oper.wp
      rw [h2]
      exact hK, hr⟩
theorem wpTyped_nil {env : List (Value → World → Prop)} {A : (Nat → Value) → Act} (hA : ∀ vs, puts vs 0 l a = A vs) (h : ∀ vs w, C w → allKnown vs w 0 env → Q .normal (A vs) w) : wpTyped P Q C Step l a env [] := fun vs w hC hk => by
  rw [hA]; exact h vs w hC hk
end
end Go.Proofs.Ytnaapoigmihjoaa
