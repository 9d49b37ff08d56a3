/- A region that draws its order, each temporary with what is known of its value for good: one obligation an operation, whatever the order. No program, no condition. -/
import Derived.Deep.RegionHeld3
namespace Go.Proofs.Ytigodfnckjidoaa
set_option linter.all false
open Go

/-- The frame with the temporaries of these operations at vs k, vs (k + 1), .. -/
def puts (vs : Nat → Value) : Nat → List Oper → Act → Act
  | _, [], a => a
  | k, o :: os, a => puts vs (k + 1) os (a.put o.dst (vs k))
def apartB : List Oper → Bool
  | [] => true
  | o :: os => (os.all fun y => o.dst.isNone || y.dst != o.dst) && apartB os
def backB : Nat → List Oper → Bool
  | _, [] => true
  | k, o :: os => (o.after.toList.all fun e => decide (e.on < k)) && backB (k + 1) os
theorem puts_congr {vs us : Nat → Value} : ∀ (os : List Oper) (k : Nat) (a : Act), (∀ j, k ≤ j → vs j = us j) → puts vs k os a = puts us k os a
  | [], _, _, _ => rfl
  | o :: os, k, a, h => by
    simp only [puts]
    rw [h k (Nat.le_refl _)]
    exact puts_congr os (k + 1) _ (fun j hj => h j (by omega))
theorem puts_out (vs : Nat → Value) (d : Option Tmp) (u : Value) : ∀ (os : List Oper) (k : Nat) (a : Act), (∀ o ∈ os, ∀ t, d = some t → o.dst ≠ some t) → (puts vs k os a).put d u = puts vs k os (a.put d u)
  | [], _, _, _ => rfl
  | o :: os, k, a, h => by
    simp only [puts]
    rw [puts_out vs d u os (k + 1) _ (fun x hx => h x (List.mem_cons_of_mem _ hx)), Act.put_comm a (vs k) u]
    intro t ht hd
    exact h o List.mem_cons_self t hd ht
theorem put_put (a : Act) (d : Option Tmp) (u v : Value) : (a.put d u).put d v = a.put d v := by
  cases d <;> simp [Act.put]
def vset (vs : Nat → Value) (i : Nat) (u : Value) : Nat → Value := fun j => if j = i then u else vs j
theorem puts_set (vs : Nat → Value) (u : Value) : ∀ (os : List Oper) (k i : Nat) (o : Oper) (a : Act), os[i]? = some o → apartB os = true → (puts vs k os a).put o.dst u = puts (vset vs (k + i) u) k os a
  | [], _, _, _, _, h, _ => by simp at h
  | x :: os, k, 0, o, a, h, hb => by
    simp at h
    subst h
    simp only [apartB, Bool.and_eq_true, List.all_eq_true] at hb
    simp only [puts]
    rw [puts_out vs x.dst u os (k + 1) _ (fun y hy t ht he => by
      have := hb.1 y hy
      rw [ht] at this
      simp [he] at this)]
    rw [put_put]
    have e : vset vs (k + 0) u k = u := by simp [vset]
    rw [e]
    exact puts_congr os (k + 1) _ (fun j hj => by
      unfold vset; rw [if_neg (by omega)])
  | x :: os, k, i + 1, o, a, h, hb => by
    simp only [List.getElem?_cons_succ] at h
    simp only [apartB, Bool.and_eq_true] at hb
    simp only [puts]
    rw [puts_set vs u os (k + 1) i o _ h hb.2]
    have e : vset vs (k + (i + 1)) u k = vs k := by unfold vset; rw [if_neg (by omega)]
    rw [e, show k + 1 + i = k + (i + 1) from by omega]
/-- What a temporary held ahead of the region. -/
def oldT (a : Act) (d : Option Tmp) : Value := match d with | some d => a.tmps.getD d undef | none => undef
def oldV (l : List Oper) (a : Act) (j : Nat) : Value := match l[j]? with | some o => oldT a o.dst | none => undef
theorem put_old (a : Act) : ∀ d : Option Tmp, a.put d (oldT a d) = a := by
  intro d
  cases d with
  | none => rfl
  | some d =>
    unfold Act.put oldT
    obtain ⟨tm, de⟩ := a
    simp only [Act.mk.injEq, and_true]
    apply Array.ext
    · simp
    · intro i h1 h2
      rw [Array.getElem_setIfInBounds]
      split
      · rename_i he; subst he; simp [Array.getD, h2]
      · rfl
theorem puts_self : ∀ (os : List Oper) (a : Act) (k : Nat), apartB os = true → ∃ vs, puts vs k os a = a ∧ ∀ j o, os[j]? = some o → vs (k + j) = oldT a o.dst
  | [], a, k, _ => ⟨fun _ => undef, rfl, fun j o h => by simp at h⟩
  | o :: os, a, k, h => by
    simp only [apartB, Bool.and_eq_true] at h
    obtain ⟨vs, hv, hold⟩ := puts_self os a (k + 1) h.2
    have e0 : vset vs k (oldT a o.dst) k = oldT a o.dst := by simp [vset]
    refine ⟨vset vs k (oldT a o.dst), ?_, fun j x hj => ?_⟩
    · simp only [puts]
      rw [e0, put_old]
      rw [puts_congr os (k + 1) a (us := vs) (fun j hj => by unfold vset; rw [if_neg (by omega)])]
      exact hv
    · cases j with
      | zero => simp at hj; subst hj; exact e0
      | succ j =>
        have := hold j x (by simpa using hj)
        rw [show k + (j + 1) = k + 1 + j from by omega]
        have e : vset vs k (oldT a o.dst) (k + 1 + j) = vs (k + 1 + j) := by unfold vset; rw [if_neg (by omega)]
        rw [e, this]
def uni (s : List Nat) (x : Nat) : List Nat := if s.contains x then s else x :: s
/-- Of each operation those that come ahead of it in every order. -/
def ancGo : List Oper → List (List Nat) → List (List Nat)
  | [], acc => acc
  | o :: os, acc => ancGo os (acc ++ [(o.after.toList.flatMap fun e => if Region.binds .any e = true then e.on :: acc.getD e.on [] else []).foldl uni []])
def anc (l : List Oper) (k : Nat) : List Nat := (ancGo l []).getD k []
/-- The operations that may come up while what is known of number j is wanted. -/
def rivals (l : List Oper) (use : Nat → Option Nat) (j : Nat) : List Nat :=
  (List.range l.length).filter fun k => k != j && !(anc l j).contains k && (match use j with | none => true | some c => k != c && !(anc l k).contains c)
/-- What is known at the beginning, till operation c0 comes up: who knows it, and who may come up meanwhile. -/
def live0 (l : List Oper) (c0 : Option Nat) (k : Nat) : Bool := match c0 with | none => true | some c => k == c || (anc l c).contains k
def rivals0 (l : List Oper) (c0 : Option Nat) : List Nat := (List.range l.length).filter fun k => match c0 with | none => true | some c => k != c && !(anc l k).contains c
def oldB (l : List Oper) (j k : Nat) : Bool := decide (j < l.length) && (anc l j).contains k
theorem uni_mem : ∀ (r s : List Nat) (x : Nat), x ∈ r.foldl uni s → x ∈ s ∨ x ∈ r
  | [], s, x, h => .inl h
  | y :: r, s, x, h => by
    rcases uni_mem r (uni s y) x h with h1 | h1
    · unfold uni at h1
      split at h1
      · exact .inl h1
      · rcases List.mem_cons.1 h1 with rfl | h2
        · exact .inr List.mem_cons_self
        · exact .inl h2
    · exact .inr (List.mem_cons_of_mem _ h1)
theorem ancGo_ok (L : Nat → Bool) : ∀ (os : List Oper) (acc : List (List Nat)), (∀ (j : Nat) (o : Oper), os[j]? = some o → L (acc.length + j) = true → ∀ e ∈ o.after.toList, Region.binds .any e = true → L e.on = true) →
    (∀ k, L k = true → ∀ i ∈ acc.getD k [], L i = true) → ∀ k, L k = true → ∀ i ∈ (ancGo os acc).getD k [], L i = true
  | [], acc, _, h => h
  | o :: os, acc, hd, h => by
    refine ancGo_ok L os _ (fun j x hj hL => ?_) (fun k hk i hi => ?_)
    · rw [List.length_append, List.length_singleton, show acc.length + 1 + j = acc.length + (j + 1) from by omega] at hL
      exact hd (j + 1) x (by simpa using hj) hL
    · rcases Nat.lt_trichotomy k acc.length with h1 | h1 | h1
      · refine h k hk i ?_
        rw [List.getD_eq_getElem?_getD, List.getElem?_append_left h1] at hi
        rwa [List.getD_eq_getElem?_getD]
      · subst h1
        rw [List.getD_eq_getElem?_getD, List.getElem?_append_right (Nat.le_refl _)] at hi
        simp only [Nat.sub_self, List.getElem?_cons_zero, Option.getD_some] at hi
        rcases uni_mem _ _ _ hi with h2 | h2
        · cases h2
        · obtain ⟨e, he, h3⟩ := List.mem_flatMap.1 h2
          by_cases hb : Region.binds .any e = true
          · rw [if_pos hb] at h3
            have hL := hd 0 o rfl hk e he hb
            rcases List.mem_cons.1 h3 with rfl | h4
            · exact hL
            · exact h e.on hL i h4
          · rw [if_neg hb] at h3; cases h3
      · rw [List.getD_eq_getElem?_getD, List.getElem?_eq_none (by simp; omega)] at hi
        cases hi
theorem anc_ok {l : List Oper} (L : Nat → Bool) (hd : ∀ (j : Nat) (o : Oper), l[j]? = some o → L j = true → ∀ e ∈ o.after.toList, Region.binds .any e = true → L e.on = true) (k : Nat) (hk : L k = true) (i : Nat) (hi : i ∈ anc l k) : L i = true :=
  ancGo_ok L l [] (fun j o hj hL => hd j o hj (by simpa using hL)) (fun k _ i hi => by simp at hi) k hk i hi
/-- Is what is known of a temporary still good when operation k comes up? 'use': the operation that spends it. -/
def live (k : Nat) : Option Nat → Bool
  | none => true
  | some c => c == k
/-- What is known of the temporaries that these edges wait for. -/
def known (use : Nat → Option Nat) (env : List (Value → World → Prop)) (vs : Nat → Value) (w : World) (k : Nat) : List Edge → Prop
  | [] => True
  | e :: es => (Region.binds .any e = true → live k (use e.on) = true → match env[e.on]? with | some F => F (vs e.on) w | none => True) ∧ known use env vs w k es
def allKnown (use : Nat → Option Nat) (vs : Nat → Value) (w : World) : Nat → List (Value → World → Prop) → Prop
  | _, [] => True
  | k, F :: env => ((use k).isNone = true → F (vs k) w) ∧ allKnown use vs w (k + 1) env
section
variable {P : Program} {Q : Exit → Act → World → Prop} {C : World → Prop} {Step : Nat → World → World → Prop} {use : Nat → Option Nat} {F0 : World → Prop} {c0 : Option Nat} {l : List Oper} {a : Act}
/-- The walk: what is left to be shown once the operations ahead have been given what is known of them. -/
def wpTyped (P : Program) (Q : Exit → Act → World → Prop) (C : World → Prop) (Step : Nat → World → World → Prop) (use : Nat → Option Nat) (F0 : World → Prop) (c0 : Option Nat) (l : List Oper) (a : Act) : List (Value → World → Prop) → List Oper → Prop
  | env, [] => ∀ vs w, C w → allKnown use vs w 0 env → (c0 = none → F0 w) → Q .normal (puts vs 0 l a) w
  | env, o :: rest => ∃ F : Value → World → Prop, (∀ k, k ∈ rivals l use env.length → ∀ v w w', F v w → C w' → Step k w w' → F v w') ∧
      (∀ vs w, C w → known use env vs w env.length o.after.toList → (live0 l c0 env.length = true → F0 w) → (∀ j, oldB l j env.length = true → vs j = oldV l a j) → ∀ K : Act → World → Prop, Shut (∀ u w', F u w' → C w' → Step env.length w w' → K ((puts vs 0 l a).put o.dst u) w') →
        if Region.wanted o (yielded l.toArray (puts vs 0 l a).tmps) = true then Oper.wp P o (puts vs 0 l a) w K Q else K ((puts vs 0 l a).put o.dst undef) w) ∧
      wpTyped P Q C Step use F0 c0 l a (env ++ [F]) rest
theorem known_of {env : List (Value → World → Prop)} {vs : Nat → Value} {w : World} {k : Nat} : ∀ (es : List Edge), (∀ e ∈ es, Region.binds .any e = true → live k (use e.on) = true → ∀ F, env[e.on]? = some F → F (vs e.on) w) → known use env vs w k es
  | [], _ => trivial
  | e :: es, h => ⟨fun hb hl => by
      cases he : env[e.on]? with
      | none => trivial
      | some F => exact h e List.mem_cons_self hb hl F he, known_of es (fun x hx => h x (List.mem_cons_of_mem _ hx))⟩
theorem allKnown_of {vs : Nat → Value} {w : World} : ∀ (env : List (Value → World → Prop)) (k : Nat), (∀ (i : Nat) (F : Value → World → Prop), env[i]? = some F → (use (k + i)).isNone = true → F (vs (k + i)) w) → allKnown use vs w k env
  | [], _, _ => trivial
  | F :: env, k, h => ⟨h 0 F rfl, allKnown_of env (k + 1) (fun i G hG => by have := h (i + 1) G hG; rwa [show k + (i + 1) = k + 1 + i from by omega] at this)⟩
/-- What the walk gives: for each operation what is known, that it is for good, and the step. -/
theorem typed_all : ∀ (rest : List Oper) (env : List (Value → World → Prop)), backB env.length rest = true → wpTyped P Q C Step use F0 c0 l a env rest →
    ∃ full : List (Value → World → Prop), full.length = env.length + rest.length ∧ (∀ i, i < env.length → full[i]? = env[i]?) ∧
      (∀ vs w, C w → allKnown use vs w 0 full → (c0 = none → F0 w) → Q .normal (puts vs 0 l a) w) ∧
      ∀ i o, rest[i]? = some o → ∃ F, full[env.length + i]? = some F ∧ (∀ k, k ∈ rivals l use (env.length + i) → ∀ v w w', F v w → C w' → Step k w w' → F v w') ∧
        (∀ vs w, C w → known use full vs w (env.length + i) o.after.toList → (live0 l c0 (env.length + i) = true → F0 w) → (∀ j, oldB l j (env.length + i) = true → vs j = oldV l a j) → ∀ K : Act → World → Prop, Shut (∀ u w', F u w' → C w' → Step (env.length + i) w w' → K ((puts vs 0 l a).put o.dst u) w') →
          if Region.wanted o (yielded l.toArray (puts vs 0 l a).tmps) = true then Oper.wp P o (puts vs 0 l a) w K Q else K ((puts vs 0 l a).put o.dst undef) w)
  | [], env, _, h => ⟨env, by simp, fun _ _ => rfl, h, fun i o hi => by simp at hi⟩
  | o :: rest, env, hb, h => by
    obtain ⟨F, hs, hst, hr⟩ := h
    simp only [backB, Bool.and_eq_true, List.all_eq_true, decide_eq_true_eq] at hb
    obtain ⟨full, hl, hpre, hfin, hall⟩ := typed_all rest (env ++ [F]) (by simpa using hb.2) hr
    refine ⟨full, by simp at hl ⊢; omega, fun i hi => ?_, hfin, fun i x hx => ?_⟩
    · rw [hpre i (by simp; omega), List.getElem?_append_left hi]
    · cases i with
      | zero =>
        simp at hx
        subst hx
        rw [Nat.add_zero]
        refine ⟨F, by rw [hpre _ (by simp)]; simp, hs, fun vs w hC hk hl0 ho => hst vs w hC ?_ hl0 ho⟩
        have tr : ∀ es : List Edge, (∀ e ∈ es, e.on < env.length) → known use full vs w env.length es → known use env vs w env.length es := by
          intro es
          induction es with
          | nil => exact fun _ _ => trivial
          | cons e es ih =>
            intro h1 ⟨h2, h3⟩
            refine ⟨fun hb' hl' => ?_, ih (fun x hx => h1 x (List.mem_cons_of_mem _ hx)) h3⟩
            have := h2 hb' hl'
            have he := h1 e List.mem_cons_self
            rwa [hpre _ (by simp; omega), List.getElem?_append_left he] at this
        exact tr _ hb.1 hk
      | succ i =>
        simp only [List.getElem?_cons_succ] at hx
        obtain ⟨G, hG, h1, h2⟩ := hall i x hx
        have e : (env ++ [F]).length + i = env.length + (i + 1) := by simp; omega
        rw [e] at hG h1 h2
        exact ⟨G, hG, h1, h2⟩
theorem typed_wpAny {w : World} (C : World → Prop) (Step : Nat → World → World → Prop) (use : Nat → Option Nat) (F0 : World → Prop) (c0 : Option Nat) (hd : apartB l = true) (hb : backB 0 l = true) (hC : C w) (hF0 : F0 w) (hs0 : ∀ k, k ∈ rivals0 l c0 → ∀ w w', F0 w → C w' → Step k w w' → F0 w')
    (h : wpTyped P Q C Step use F0 c0 l a [] l) : wpAny P .any l.toArray Q l.length (Array.replicate l.length false) a w := by
  obtain ⟨full, hl, _, hfin, hall⟩ := typed_all l [] hb h
  simp at hl
  have main : ∀ (fuel : Nat) (listed : Array Bool) (vs : Nat → Value) (w : World), listed.size = l.length → (∀ (j : Nat) (o : Oper), l[j]? = some o → listed.getD j false = true → ∀ e ∈ o.after.toList, Region.binds .any e = true → listed.getD e.on false = true) → (∀ j, j < l.length → listed.getD j false = false → vs j = oldV l a j) → C w → ((∀ c, c0 = some c → listed.getD c false = false) → F0 w) → (∀ (i : Nat) F, full[i]? = some F → listed.getD i false = true → (∀ c, use i = some c → listed.getD c false = false) → F (vs i) w) →
      ((List.range l.length).filter fun i => !listed.getD i false).length ≤ fuel →
      wpAny P .any l.toArray Q fuel listed (puts vs 0 l a) w := by
    have over : ∀ (listed : Array Bool), listed.size = l.length → Region.ready .any l.toArray listed = [] → ∀ i, i < l.length → listed.getD i false = true := by
      intro listed hsz hr i
      induction i using Nat.strongRecOn with
      | ind i ih =>
        intro hi
        cases hc : listed.getD i false with
        | true => rfl
        | false =>
          exfalso
          have hmem : i ∈ Region.ready .any l.toArray listed := by
            rw [mem_ready]
            refine ⟨by simpa [Array.getD, hsz, hi] using hc, l[i], by simp [hi], fun e he hbd => ?_⟩
            have bk : ∀ (os : List Oper) (k j : Nat) (o : Oper), backB k os = true → os[j]? = some o → ∀ e ∈ o.after.toList, e.on < k + j := by
              intro os
              induction os with
              | nil => intro k j o _ h; simp at h
              | cons x os ihx =>
                intro k j o hbk h e he
                simp only [backB, Bool.and_eq_true, List.all_eq_true, decide_eq_true_eq] at hbk
                cases j with
                | zero => simp at h; subst h; exact hbk.1 e he
                | succ j => have := ihx (k + 1) j o hbk.2 (by simpa using h) e he; omega
            have hlt := bk l 0 i l[i] hb (by simp [hi]) e (by simpa using he)
            exact ih e.on (by omega) (by omega)
          rw [hr] at hmem
          cases hmem
    have done : ∀ (listed : Array Bool) (vs : Nat → Value) (w : World), listed.size = l.length → (∀ (j : Nat) (o : Oper), l[j]? = some o → listed.getD j false = true → ∀ e ∈ o.after.toList, Region.binds .any e = true → listed.getD e.on false = true) → (∀ j, j < l.length → listed.getD j false = false → vs j = oldV l a j) → C w → ((∀ c, c0 = some c → listed.getD c false = false) → F0 w) → (∀ (i : Nat) F, full[i]? = some F → listed.getD i false = true → (∀ c, use i = some c → listed.getD c false = false) → F (vs i) w) → Region.ready .any l.toArray listed = [] → Q .normal (puts vs 0 l a) w := by
      intro listed vs w hsz hcl hold hCw h0w hk hr
      refine hfin vs w hCw (allKnown_of full 0 (fun i F hF hu => ?_)) (fun hn => h0w (fun c hc => by rw [hn] at hc; cases hc))
      rw [Nat.zero_add] at hu ⊢
      refine hk i F hF (over listed hsz hr i ?_) (fun c hc => by rw [hc] at hu; cases hu)
      rcases Nat.lt_or_ge i full.length with h1 | h1
      · omega
      · rw [List.getElem?_eq_none h1] at hF; cases hF
    intro fuel
    induction fuel with
    | zero =>
      intro listed vs w hsz hcl hold hCw h0w hk hf
      have hr : Region.ready .any l.toArray listed = [] := by
        cases hr : Region.ready .any l.toArray listed with
        | nil => rfl
        | cons i r =>
          exfalso
          have hi : i ∈ Region.ready .any l.toArray listed := by rw [hr]; exact List.mem_cons_self
          obtain ⟨h1, o, ho, _⟩ := mem_ready.1 hi
          have hlt : i < l.length := by
            rcases Nat.lt_or_ge i l.length with h2 | h2
            · exact h2
            · simp [List.getElem?_eq_none h2] at ho
          have : i ∈ (List.range l.length).filter fun i => !listed.getD i false := by
            rw [List.mem_filter]
            exact ⟨List.mem_range.2 hlt, by simp [Array.getD, hsz, hlt] at h1 ⊢; exact h1⟩
          rw [List.eq_nil_of_length_eq_zero (Nat.le_zero.1 hf)] at this
          cases this
      exact ⟨hr, done listed vs w hsz hcl hold hCw h0w hk hr⟩
    | succ fuel ih =>
      intro listed vs w hsz hcl hold hCw h0w hk hf
      refine ⟨fun hr => done listed vs w hsz hcl hold hCw h0w hk hr, fun i hi => ?_⟩
      obtain ⟨hun, o, ho, hdep⟩ := mem_ready.1 hi
      have ho' : l[i]? = some o := by simpa using ho
      obtain ⟨F, hF, hst, hstep⟩ := hall i o ho'
      simp only [List.length_nil, Nat.zero_add] at hF hst hstep
      have hlt : i < l.length := by
        rcases Nat.lt_or_ge i l.length with h2 | h2
        · exact h2
        · simp [List.getElem?_eq_none h2] at ho'
      refine wpOp_step ho (fun K hK => ?_)
      refine hstep vs w hCw (known_of _ (fun e he hbd hlv G hG => hk e.on G hG (hdep e (by simpa using he) hbd) (fun c hc => by
        rw [hc] at hlv
        simp only [live, beq_iff_eq] at hlv
        rw [hlv]
        simp [Array.getD, hsz, hlt] at hun ⊢; exact hun))) (fun hl => h0w (fun c hc => by
          have hiU : listed.getD i false = false := by simp [Array.getD, hsz, hlt] at hun ⊢; exact hun
          rw [hc] at hl
          simp only [live0, Bool.or_eq_true, beq_iff_eq, List.contains_eq_mem, decide_eq_true_eq] at hl
          rcases hl with rfl | hl
          · exact hiU
          · cases hcc : listed.getD c false with
            | false => rfl
            | true =>
              have := anc_ok (fun q => listed.getD q false) hcl c hcc i hl
              simp only [hiU] at this; cases this)) (fun j hj => hold j (by simp [oldB] at hj; exact hj.1) (by
          have hiU : listed.getD i false = false := by simp [Array.getD, hsz, hlt] at hun ⊢; exact hun
          cases hcc : listed.getD j false with
          | false => rfl
          | true =>
            have := anc_ok (fun q => listed.getD q false) hcl j hcc i (by simp [oldB] at hj; exact hj.2)
            simp only [hiU] at this; cases this)) K (fun u w' hFu hC' hS => ?_)
      refine hK _ _ ?_
      rw [puts_set vs u l 0 i o a ho' hd, Nat.zero_add]
      have hcl' : ∀ (j : Nat) (o : Oper), l[j]? = some o → (listed.setIfInBounds i true).getD j false = true → ∀ e ∈ o.after.toList, Region.binds .any e = true → (listed.setIfInBounds i true).getD e.on false = true := by
        intro j oj hoj hj e he hbd
        refine getD_set_true ?_
        by_cases hji : j = i
        · subst hji
          rw [ho'] at hoj; cases hoj
          exact hdep e (by simpa using he) hbd
        · rw [getD_set_ne false (Ne.symm hji)] at hj
          exact hcl j oj hoj hj e he hbd
      have hiU : listed.getD i false = false := by simp [Array.getD, hsz, hlt] at hun ⊢; exact hun
      refine ih _ _ _ (by simpa using hsz) hcl' (fun j hjn hj => by
        by_cases hji : j = i
        · subst hji; simp [Array.getD, hsz, hlt] at hj
        · rw [getD_set_ne false (Ne.symm hji)] at hj
          have e : vset vs i u j = vs j := by simp [vset, hji]
          rw [e]; exact hold j hjn hj) hC' (fun hc0 => ?_) (fun j G hG hj hu => ?_) ?_
      · refine hs0 i ?_ _ _ (h0w (fun c hc => ?_)) hC' hS
        · unfold rivals0
          rw [List.mem_filter]
          refine ⟨List.mem_range.2 hlt, ?_⟩
          cases hcn : c0 with
          | none => rfl
          | some c =>
            simp only [Bool.and_eq_true, bne_iff_ne, ne_eq, Bool.not_eq_true', List.contains_eq_mem, decide_eq_false_iff_not]
            have hcU := hc0 c hcn
            refine ⟨fun e => ?_, fun hm => ?_⟩
            · subst e; simp [Array.getD, hsz, hlt] at hcU
            · have := anc_ok (fun q => (listed.setIfInBounds i true).getD q false) hcl' i (by simp [Array.getD, hsz, hlt]) c hm
              simp only [hcU] at this; cases this
        · have hcU := hc0 c hc
          by_cases hci : i = c
          · subst hci; simp [Array.getD, hsz, hlt] at hcU
          · rwa [getD_set_ne false hci] at hcU
      · by_cases hji : j = i
        · subst hji
          rw [hF] at hG
          cases hG
          simpa [vset] using hFu
        · have e : vset vs i u j = vs j := by simp [vset, hji]
          rw [e]
          have hjl : j < l.length := by
            rcases Nat.lt_or_ge j full.length with h1 | h1
            · omega
            · rw [List.getElem?_eq_none h1] at hG; cases hG
          obtain ⟨G', hG', hst', _⟩ := hall j l[j] (by simp [hjl])
          simp only [List.length_nil, Nat.zero_add] at hG' hst'
          rw [hG] at hG'
          cases hG'
          have hjL : listed.getD j false = true := by rwa [getD_set_ne false (Ne.symm hji)] at hj
          have hiU : listed.getD i false = false := by simp [Array.getD, hsz, hlt] at hun ⊢; exact hun
          refine hst' i ?_ _ _ _ (hk j G hG hjL (fun c hc => ?_)) hC' hS
          · unfold rivals
            rw [List.mem_filter]
            refine ⟨List.mem_range.2 hlt, ?_⟩
            simp only [Bool.and_eq_true, bne_iff_ne, ne_eq, Bool.not_eq_true', List.contains_eq_mem, decide_eq_false_iff_not]
            refine ⟨⟨Ne.symm hji, fun hm => ?_⟩, ?_⟩
            · have := anc_ok (fun q => listed.getD q false) hcl j hjL i hm
              simp only [hiU] at this; cases this
            · split
              · rfl
              · rename_i c hc
                simp only [Bool.and_eq_true, bne_iff_ne, ne_eq, Bool.not_eq_true', List.contains_eq_mem, decide_eq_false_iff_not]
                have hcU := hu c hc
                refine ⟨fun e => ?_, fun hm => ?_⟩
                · subst e; simp [Array.getD, hsz, hlt] at hcU
                · have := anc_ok (fun q => (listed.setIfInBounds i true).getD q false) hcl' i (by simp [Array.getD, hsz, hlt]) c hm
                  simp only [hcU] at this; cases this
          · have := hu c hc
            by_cases hci : i = c
            · subst hci; simp [Array.getD, hsz, hlt] at this
            · rwa [getD_set_ne false hci] at this
      · have cnt : ∀ (r : List Nat), r.Nodup → (r.filter fun j => !(listed.setIfInBounds i true).getD j false).length + (if i ∈ r then 1 else 0) = (r.filter fun j => !listed.getD j false).length := by
          intro r
          induction r with
          | nil => intro _; simp
          | cons x r ihr =>
            intro hnd
            rw [List.nodup_cons] at hnd
            have h1 := ihr hnd.2
            by_cases hx : x = i
            · subst hx
              have hf1 : (!(listed.setIfInBounds x true).getD x false) = false := by simp [Array.getD, hsz, hlt]
              have hf2 : (!listed.getD x false) = true := by simp [Array.getD, hsz, hlt] at hun ⊢; exact hun
              rw [if_neg hnd.1] at h1
              simp only [List.filter_cons, hf1, hf2, List.mem_cons, true_or, if_true, Bool.false_eq_true, if_false, List.length_cons]
              omega
            · have e : (listed.setIfInBounds i true).getD x false = listed.getD x false := getD_set_ne false (Ne.symm hx)
              have hm : (i ∈ x :: r) = (i ∈ r) := by simp [Ne.symm hx]
              simp only [hm, List.filter_cons, e]
              split
              · simp only [List.length_cons]; omega
              · exact h1
        have := cnt (List.range l.length) List.nodup_range
        rw [if_pos (List.mem_range.2 hlt)] at this
        omega
  obtain ⟨vs, hvs, hold0⟩ := puts_self l a 0 hd
  have := main l.length (Array.replicate l.length false) vs w (by simp) (fun j o _ hj => by
      exfalso
      have : (Array.replicate l.length false).getD j false = false := by simp [Array.getD]
      rw [this] at hj; cases hj) (fun j hjn _ => by
      unfold oldV
      have hj : l[j]? = some l[j] := by simp [hjn]
      rw [hj]
      have := hold0 j l[j] hj; rwa [Nat.zero_add] at this) hC (fun _ => hF0) (fun i F hF hi => by
      exfalso
      have : (Array.replicate l.length false).getD i false = false := by
        simp [Array.getD]
      rw [this] at hi; cases hi) (by
        refine Nat.le_trans (List.length_filter_le _ _) (by simp))
  rw [hvs] at this
  exact this
theorem wp_region_typed {id : Nat} {w : World} (C : World → Prop) (Step : Nat → World → World → Prop) (use : Nat → Option Nat) (F0 : World → Prop) (c0 : Option Nat) (hm : P.follows .mixedOrders = true) (hd : apartB l = true) (hb : backB 0 l = true) (hC : C w.drew) (hF0 : F0 w.drew) (hs0 : ∀ k, k ∈ rivals0 l c0 → ∀ w w', F0 w → C w' → Step k w w' → F0 w')
    (h : wpTyped P Q C Step use F0 c0 l a [] l) : (Code.region id l.toArray true).wp P Q a w := by
  refine wp_region_any hm ?_
  have := typed_wpAny C Step use F0 c0 hd hb hC hF0 hs0 h
  simpa using this
theorem back_at : ∀ (os : List Oper) (k j : Nat) (o : Oper), backB k os = true → os[j]? = some o → ∀ e ∈ o.after.toList, e.on < k + j
  | [], _, _, _, _, h => by simp at h
  | x :: os, k, j, o, hbk, h => by
    intro e he
    simp only [backB, Bool.and_eq_true, List.all_eq_true, decide_eq_true_eq] at hbk
    cases j with
    | zero => simp at h; subst h; exact hbk.1 e he
    | succ j => have := back_at os (k + 1) j o hbk.2 (by simpa using h) e he; omega
/-- The order of the text is one of the orders. -/
theorem text_of_any (hb : backB 0 l = true) : ∀ (n k : Nat) (listed : Array Bool) (a : Act) (w : World), k + n = l.length → listed.size = l.length → (∀ i, i < l.length → listed.getD i false = decide (i < k)) →
    wpAny P .any l.toArray Q n listed a w → wpOps P l.toArray Q (List.range' k n) a w
  | 0, k, listed, a, w, _, _, _, h => by simpa [wpOps] using h.2
  | n + 1, k, listed, a, w, hk, hsz, hl, h => by
    have hr : k ∈ Region.ready .any l.toArray listed := by
      rw [mem_ready]
      have h1 := hl k (by omega)
      have hkl : k < l.length := by omega
      refine ⟨by simp [Array.getD, hsz, hkl] at h1 ⊢; exact h1, l[k], by simp [hkl], fun e he _ => ?_⟩
      have h2 := back_at l 0 k l[k] hb (by simp [hkl]) e (by simpa using he)
      rw [hl e.on (by omega)]
      simp; omega
    rw [List.range'_succ, wpOps_cons]
    refine wpOp_mono (fun a' w' h' => text_of_any hb n (k + 1) (listed.setIfInBounds k true) a' w' (by omega) (by simpa using hsz) (fun i hi => ?_) h') (h.2 k hr)
    by_cases hik : i = k
    · subst hik; simp [Array.getD, hsz, hi]
    · rw [getD_set_ne false (Ne.symm hik), hl i hi]
      simp; omega
theorem wp_region_typed_text {id : Nat} {w : World} (C : World → Prop) (Step : Nat → World → World → Prop) (use : Nat → Option Nat) (F0 : World → Prop) (c0 : Option Nat) (hd : apartB l = true) (hb : backB 0 l = true) (hC : C w) (hF0 : F0 w) (hs0 : ∀ k, k ∈ rivals0 l c0 → ∀ w w', F0 w → C w' → Step k w w' → F0 w')
    (h : wpTyped P Q C Step use F0 c0 l a [] l) : (Code.region id l.toArray false).wp P Q a w := by
  refine wp_region ?_
  have := text_of_any hb l.length 0 _ a w (by omega) (by simp) (fun i hi => by simp [Array.getD]) (typed_wpAny C Step use F0 c0 hd hb hC hF0 hs0 h)
  rw [List.range_eq_range']
  simpa using this
theorem wanted_at {o : Oper} {ops : Array Oper} {tmps : Array Value} {j : Nat} {b : Bool} {v : Value} {d : Tmp} (hg : o.guard = some (j, b)) (hd : (ops[j]?).bind (·.dst) = some d) (ht : tmps[d]? = some v) (hv : v = .bool b) :
    Region.wanted o (yielded ops tmps) = true := by
  subst hv
  simp [Region.wanted, hg, yielded, hd, ht]
theorem unwanted_at {o : Oper} {ops : Array Oper} {tmps : Array Value} {j : Nat} {b : Bool} {v : Value} {d : Tmp} (hg : o.guard = some (j, b)) (hd : (ops[j]?).bind (·.dst) = some d) (ht : tmps[d]? = some v) (hv : v = .bool !b) :
    Region.wanted o (yielded ops tmps) = false := by
  subst hv
  simp [Region.wanted, hg, yielded, hd, ht]
/-- The beginning: the frame with its temporaries is laid out once (A). -/
theorem wp_region_typed_at {id : Nat} {w : World} {A : (Nat → Value) → Act} (hA : ∀ vs, puts vs 0 l a = A vs) (C : World → Prop) (Step : Nat → World → World → Prop) (use : Nat → Option Nat) (F0 : World → Prop) (c0 : Option Nat) (hm : P.follows .mixedOrders = true) (hd : apartB l = true) (hb : backB 0 l = true) (hC : C w.drew) (hF0 : F0 w.drew) (hs0 : ∀ k, k ∈ rivals0 l c0 → ∀ w w', F0 w → C w' → Step k w w' → F0 w')
    (h : (∀ vs, puts vs 0 l a = A vs) → wpTyped P Q C Step use F0 c0 l a [] l) : (Code.region id l.toArray true).wp P Q a w := wp_region_typed C Step use F0 c0 hm hd hb hC hF0 hs0 (h hA)
theorem wp_region_typed_text_at {id : Nat} {w : World} {A : (Nat → Value) → Act} (hA : ∀ vs, puts vs 0 l a = A vs) (C : World → Prop) (Step : Nat → World → World → Prop) (use : Nat → Option Nat) (F0 : World → Prop) (c0 : Option Nat) (hd : apartB l = true) (hb : backB 0 l = true) (hC : C w) (hF0 : F0 w) (hs0 : ∀ k, k ∈ rivals0 l c0 → ∀ w w', F0 w → C w' → Step k w w' → F0 w')
    (h : (∀ vs, puts vs 0 l a = A vs) → wpTyped P Q C Step use F0 c0 l a [] l) : (Code.region id l.toArray false).wp P Q a w := wp_region_typed_text C Step use F0 c0 hd hb hC hF0 hs0 (h hA)
/-- An operation whose value is the same in every world. -/
theorem wpTyped_same {env : List (Value → World → Prop)} {o : Oper} {rest : List Oper} {A : (Nat → Value) → Act} (hA : ∀ vs, puts vs 0 l a = A vs) (c : Value) (hrefl : ∀ k w, Step k w w)
    (h : ∀ vs w, C w → known use env vs w env.length o.after.toList → (live0 l c0 env.length = true → F0 w) → (∀ j, oldB l j env.length = true → vs j = oldV l a j) → Region.wanted o (yielded l.toArray (A vs).tmps) = true ∧ (execOp (A vs).eval o).run P w = .ok (.value c) w)
    (hr : wpTyped P Q C Step use F0 c0 l a (env ++ [fun v _ => v = c]) rest) : wpTyped P Q C Step use F0 c0 l a env (o :: rest) :=
  ⟨fun v _ => v = c, fun _ _ _ _ _ h _ _ => h, fun vs w hC hk h0 ho K hK => by
    obtain ⟨h1, h2⟩ := h vs w hC hk h0 ho
    have hK := hK c w rfl hC (hrefl _ w)
    rw [hA] at hK ⊢
    rw [if_pos h1]
    unfold Oper.wp
    rw [h2]
    exact hK, hr⟩
/-- An operation that is not wanted. -/
theorem wpTyped_skip {env : List (Value → World → Prop)} {o : Oper} {rest : List Oper} {A : (Nat → Value) → Act} (hA : ∀ vs, puts vs 0 l a = A vs) (hrefl : ∀ k w, Step k w w)
    (h : ∀ vs w, C w → known use env vs w env.length o.after.toList → (live0 l c0 env.length = true → F0 w) → (∀ j, oldB l j env.length = true → vs j = oldV l a j) → Region.wanted o (yielded l.toArray (A vs).tmps) = false)
    (hr : wpTyped P Q C Step use F0 c0 l a (env ++ [fun v _ => v = undef]) rest) : wpTyped P Q C Step use F0 c0 l a env (o :: rest) :=
  ⟨fun v _ => v = undef, fun _ _ _ _ _ h _ _ => h, fun vs w hC hk h0 ho K hK => by
    have h1 := h vs w hC hk h0 ho
    have hK := hK undef w rfl hC (hrefl _ w)
    rw [hA] at hK ⊢
    rw [if_neg (by rw [h1]; simp)]
    exact hK, hr⟩
theorem wpTyped_step {env : List (Value → World → Prop)} {o : Oper} {rest : List Oper} {A : (Nat → Value) → Act} (hA : ∀ vs, puts vs 0 l a = A vs) (F : Value → World → Prop) (hs : ∀ k, k ∈ rivals l use env.length → ∀ v w w', F v w → C w' → Step k w w' → F v w')
    (h : ∀ vs w, C w → known use env vs w env.length o.after.toList → (live0 l c0 env.length = true → F0 w) → (∀ j, oldB l j env.length = true → vs j = oldV l a j) → ∀ K : Act → World → Prop, Shut (∀ u a' w', a' = (A vs).put o.dst u → F u w' → C w' → Step env.length w w' → K a' w') →
        if Region.wanted o (yielded l.toArray (A vs).tmps) = true then Oper.wp P o (A vs) w K Q else K ((A vs).put o.dst undef) w)
    (hr : wpTyped P Q C Step use F0 c0 l a (env ++ [F]) rest) : wpTyped P Q C Step use F0 c0 l a env (o :: rest) := ⟨F, hs, fun vs w hC hk h0 ho K hK => by
      have := h vs w hC hk h0 ho K (fun u a' w' e h1 h2 h3 => by rw [e, ← hA]; exact hK u w' h1 h2 h3)
      rw [hA]
      exact this, hr⟩
/-- An operation that leaves the world as it is, and of whose value F is known. -/
theorem wpTyped_pure {env : List (Value → World → Prop)} {o : Oper} {rest : List Oper} {A : (Nat → Value) → Act} (hA : ∀ vs, puts vs 0 l a = A vs) (F : Value → World → Prop) (hs : ∀ k, k ∈ rivals l use env.length → ∀ v w w', F v w → C w' → Step k w w' → F v w') (hrefl : ∀ k w, Step k w w)
    (h : ∀ vs w, C w → known use env vs w env.length o.after.toList → (live0 l c0 env.length = true → F0 w) → (∀ j, oldB l j env.length = true → vs j = oldV l a j) → Region.wanted o (yielded l.toArray (A vs).tmps) = true ∧ ∃ u, (execOp (A vs).eval o).run P w = .ok (.value u) w ∧ F u w)
    (hr : wpTyped P Q C Step use F0 c0 l a (env ++ [F]) rest) : wpTyped P Q C Step use F0 c0 l a env (o :: rest) := ⟨F, hs, fun vs w hC hk h0 ho K hK => by
      obtain ⟨h1, u, h2, h3⟩ := h vs w hC hk h0 ho
      have hK := hK u w h3 hC (hrefl _ w)
      rw [hA] at hK ⊢
      rw [if_pos h1]
      unfold Oper.wp
      rw [h2]
      exact hK, hr⟩
/-- A call of a function. -/
theorem wpTyped_call {env : List (Value → World → Prop)} {o : Oper} {rest : List Oper} {A : (Nat → Value) → Act} (hA : ∀ vs, puts vs 0 l a = A vs) (F : Value → World → Prop) (hs : ∀ k, k ∈ rivals l use env.length → ∀ v w w', F v w → C w' → Step k w w' → F v w')
    (h : ∀ vs w, C w → known use env vs w env.length o.after.toList → (live0 l c0 env.length = true → F0 w) → (∀ j, oldB l j env.length = true → vs j = oldV l a j) → Region.wanted o (yielded l.toArray (A vs).tmps) = true ∧
      ∃ f args, (execOp (A vs).eval o).run P w = .ok (.enter f args) w ∧ Calls P f args w fun e w' => ∃ u, e = .returned u ∧ F u w' ∧ C w' ∧ Step env.length w w')
    (hr : wpTyped P Q C Step use F0 c0 l a (env ++ [F]) rest) : wpTyped P Q C Step use F0 c0 l a env (o :: rest) := ⟨F, hs, fun vs w hC hk h0 ho K hK => by
      obtain ⟨h1, f, args, h2, h3⟩ := h vs w hC hk h0 ho
      rw [hA] at *
      rw [if_pos h1]
      unfold Oper.wp
      rw [h2]
      exact h3.mono fun e w' ⟨u, he, h4, h5, h6⟩ => by subst he; exact hK u w' h4 h5 h6, hr⟩
/-- An operation that makes or writes memory. -/
theorem wpTyped_make {env : List (Value → World → Prop)} {o : Oper} {rest : List Oper} {A : (Nat → Value) → Act} (hA : ∀ vs, puts vs 0 l a = A vs) (F : Value → World → Prop) (hs : ∀ k, k ∈ rivals l use env.length → ∀ v w w', F v w → C w' → Step k w w' → F v w')
    (h : ∀ vs w, C w → known use env vs w env.length o.after.toList → (live0 l c0 env.length = true → F0 w) → (∀ j, oldB l j env.length = true → vs j = oldV l a j) → Region.wanted o (yielded l.toArray (A vs).tmps) = true ∧
      ∃ u w', (execOp (A vs).eval o).run P w = .ok (.value u) w' ∧ F u w' ∧ C w' ∧ Step env.length w w')
    (hr : wpTyped P Q C Step use F0 c0 l a (env ++ [F]) rest) : wpTyped P Q C Step use F0 c0 l a env (o :: rest) := ⟨F, hs, fun vs w hC hk h0 ho K hK => by
      obtain ⟨h1, u, w', h2, h4, h5, h6⟩ := h vs w hC hk h0 ho
      rw [hA] at *
      rw [if_pos h1]
      unfold Oper.wp
      rw [h2]
      exact hK u w' h4 h5 h6, hr⟩
/-- A guarded operation: its value where it is wanted. -/
def cv (p : Bool) (x : Value) : Value := if p then x else undef
theorem wanted_cv {o : Oper} {ops : Array Oper} {tmps : Array Value} {j : Nat} {b p B : Bool} {v : Value} {d : Tmp} (hg : o.guard = some (j, b)) (hd : (ops[j]?).bind (·.dst) = some d) (ht : tmps[d]? = some v) (hv : v = cv p (.bool B)) :
    Region.wanted o (yielded ops tmps) = (p && (B == b)) := by
  subst hv
  cases p <;> simp [Region.wanted, hg, yielded, hd, ht, cv, undef]
theorem wanted_b {o : Oper} {ops : Array Oper} {tmps : Array Value} {j : Nat} {b B : Bool} {v : Value} {d : Tmp} (hg : o.guard = some (j, b)) (hd : (ops[j]?).bind (·.dst) = some d) (ht : tmps[d]? = some v) (hv : v = .bool B) :
    Region.wanted o (yielded ops tmps) = (B == b) := by
  subst hv
  simp [Region.wanted, hg, yielded, hd, ht]
/-- A guarded operation whose value, where it is wanted, is the same in every world. -/
theorem wpTyped_guard {env : List (Value → World → Prop)} {o : Oper} {rest : List Oper} {A : (Nat → Value) → Act} (hA : ∀ vs, puts vs 0 l a = A vs) (p : Bool) (c : Value) (hrefl : ∀ k w, Step k w w)
    (h : ∀ vs w, C w → known use env vs w env.length o.after.toList → (live0 l c0 env.length = true → F0 w) → (∀ j, oldB l j env.length = true → vs j = oldV l a j) →
      Region.wanted o (yielded l.toArray (A vs).tmps) = p ∧ (p = true → (execOp (A vs).eval o).run P w = .ok (.value c) w))
    (hr : wpTyped P Q C Step use F0 c0 l a (env ++ [fun v _ => v = cv p c]) rest) : wpTyped P Q C Step use F0 c0 l a env (o :: rest) :=
  ⟨fun v _ => v = cv p c, fun _ _ _ _ _ h _ _ => h, fun vs w hC hk h0 ho K hK => by
    obtain ⟨h1, h2⟩ := h vs w hC hk h0 ho
    have hK := hK (cv p c) w rfl hC (hrefl _ w)
    rw [hA] at hK ⊢
    cases p with
    | true =>
      rw [if_pos h1]
      unfold Oper.wp
      rw [h2 rfl]
      exact hK
    | false =>
      rw [if_neg (by rw [h1]; simp)]
      exact hK, hr⟩
theorem exec_pick {P : Program} {w : World} {a : Act} {o : Oper} {c x y : Operand} {B : Bool} (ho : o.op = .pick c x y) (hc : a.eval c = .bool B) :
    (execOp a.eval o).run P w = .ok (.value (if B then a.eval x else a.eval y)) w := by
  unfold execOp
  simp only [ho, hc]
  cases B <;> simp [asBool]
theorem pick_and {P : Program} {w : World} {a : Act} {o : Oper} {c x y : Operand} {B X p : Bool} (ho : o.op = .pick c x y) (hc : a.eval c = cv p (.bool B)) (hx : a.eval x = cv (p && (B == true)) (.bool X)) (hy : a.eval y = .bool false) (hp : p = true) :
    (execOp a.eval o).run P w = .ok (.value (.bool (B && X))) w := by
  subst hp
  rw [exec_pick ho hc, hx, hy]
  cases B <;> simp [cv]
theorem pick_or {P : Program} {w : World} {a : Act} {o : Oper} {c x y : Operand} {B X p : Bool} (ho : o.op = .pick c x y) (hc : a.eval c = cv p (.bool B)) (hx : a.eval x = .bool true) (hy : a.eval y = cv (p && (B == false)) (.bool X)) (hp : p = true) :
    (execOp a.eval o).run P w = .ok (.value (.bool (B || X))) w := by
  subst hp
  rw [exec_pick ho hc, hx, hy]
  cases B <;> simp [cv]
theorem pick_and0 {P : Program} {w : World} {a : Act} {o : Oper} {c x y : Operand} {B X : Bool} (ho : o.op = .pick c x y) (hc : a.eval c = .bool B) (hx : a.eval x = cv (B == true) (.bool X)) (hy : a.eval y = .bool false) :
    (execOp a.eval o).run P w = .ok (.value (.bool (B && X))) w := by
  rw [exec_pick ho hc, hx, hy]
  cases B <;> simp [cv]
theorem pick_or0 {P : Program} {w : World} {a : Act} {o : Oper} {c x y : Operand} {B X : Bool} (ho : o.op = .pick c x y) (hc : a.eval c = .bool B) (hx : a.eval x = .bool true) (hy : a.eval y = cv (B == false) (.bool X)) :
    (execOp a.eval o).run P w = .ok (.value (.bool (B || X))) w := by
  rw [exec_pick ho hc, hx, hy]
  cases B <;> simp [cv]
/-- A guarded call that leaves the world as it is. -/
theorem wpTyped_gcall {env : List (Value → World → Prop)} {o : Oper} {rest : List Oper} {A : (Nat → Value) → Act} (hA : ∀ vs, puts vs 0 l a = A vs) (p : Bool) (c : Value) (hrefl : ∀ k w, Step k w w)
    (h : ∀ vs w, C w → known use env vs w env.length o.after.toList → (live0 l c0 env.length = true → F0 w) → (∀ j, oldB l j env.length = true → vs j = oldV l a j) →
      Region.wanted o (yielded l.toArray (A vs).tmps) = p ∧ (p = true → ∃ f args, (execOp (A vs).eval o).run P w = .ok (.enter f args) w ∧ Calls P f args w fun e w' => e = .returned c ∧ w = w'))
    (hr : wpTyped P Q C Step use F0 c0 l a (env ++ [fun v _ => v = cv p c]) rest) : wpTyped P Q C Step use F0 c0 l a env (o :: rest) :=
  ⟨fun v _ => v = cv p c, fun _ _ _ _ _ h _ _ => h, fun vs w hC hk h0 ho K hK => by
    obtain ⟨h1, h2⟩ := h vs w hC hk h0 ho
    have hK := hK (cv p c) w rfl hC (hrefl _ w)
    rw [hA] at hK ⊢
    cases p with
    | true =>
      obtain ⟨f, args, h3, h4⟩ := h2 rfl
      rw [if_pos h1]
      unfold Oper.wp
      rw [h3]
      exact h4.mono fun e w' ⟨he, hw⟩ => by subst he; subst hw; exact hK
    | false =>
      rw [if_neg (by rw [h1]; simp)]
      exact hK, hr⟩
theorem wanted_none {o : Oper} {y : Nat → Option Bool} (hg : o.guard = none) : Region.wanted o y = true := by simp [Region.wanted, hg]
theorem cv_true (x : Value) : x = cv true x := rfl
theorem cv_of {p : Bool} {x y : Value} (h : y = x) (hp : p = true) : y = cv p x := by subst hp; exact h
theorem wpTyped_nil {env : List (Value → World → Prop)} {A : (Nat → Value) → Act} (hA : ∀ vs, puts vs 0 l a = A vs) (h : ∀ vs w, C w → allKnown use vs w 0 env → (c0 = none → F0 w) → Q .normal (A vs) w) : wpTyped P Q C Step use F0 c0 l a env [] := fun vs w hC hk h0 => by
  rw [hA]; exact h vs w hC hk h0
/-! The same, the last fact ahead, the number of facts written out: what the walks use. -/
def knownR (use : Nat → Option Nat) (env : List (Value → World → Prop)) (vs : Nat → Value) (w : World) (n : Nat) : List Edge → Prop
  | [] => True
  | e :: es => (Region.binds .any e = true → live n (use e.on) = true → e.on < n → match env[n - 1 - e.on]? with | some F => F (vs e.on) w | none => True) ∧ knownR use env vs w n es
def allR (use : Nat → Option Nat) (vs : Nat → Value) (w : World) : Nat → List (Value → World → Prop) → Prop → Prop
  | _, [], p => p
  | k, F :: env, p => allR use vs w (k - 1) env (((use (k - 1)).isNone = true → F (vs (k - 1)) w) ∧ p)
theorem knownR_of {env : List (Value → World → Prop)} {vs : Nat → Value} {w : World} {n : Nat} (hn : env.length = n) : ∀ es : List Edge, known use env.reverse vs w n es → knownR use env vs w n es
  | [], _ => trivial
  | e :: es, h => ⟨fun hb hl hlt => by
      have := h.1 hb hl
      rwa [List.getElem?_reverse (by omega), hn] at this, knownR_of hn es h.2⟩
theorem allKnown_append {vs : Nat → Value} {w : World} : ∀ (a b : List (Value → World → Prop)) (k : Nat), allKnown use vs w k (a ++ b) ↔ allKnown use vs w k a ∧ allKnown use vs w (k + a.length) b
  | [], b, k => by simp [allKnown]
  | F :: a, b, k => by
    have := allKnown_append (vs := vs) (w := w) a b (k + 1)
    simp only [List.cons_append, allKnown, this, List.length_cons, and_assoc]
    rw [show k + (a.length + 1) = k + 1 + a.length from by omega]
theorem allR_of {vs : Nat → Value} {w : World} : ∀ (env : List (Value → World → Prop)) (p : Prop) , allKnown use vs w 0 env.reverse → p → allR use vs w env.length env p
  | [], p, _, hp => hp
  | F :: env, p, h, hp => by
    rw [List.reverse_cons] at h
    have h2 := (allKnown_append env.reverse [F] 0).1 h
    simp only [List.length_reverse, Nat.zero_add, allKnown, and_true] at h2
    show allR use vs w (env.length + 1 - 1) env _
    rw [Nat.add_sub_cancel]
    exact allR_of env _ h2.1 ⟨h2.2, hp⟩
def wpR (P : Program) (Q : Exit → Act → World → Prop) (C : World → Prop) (Step : Nat → World → World → Prop) (use : Nat → Option Nat) (F0 : World → Prop) (c0 : Option Nat) (l : List Oper) (a : Act) (n : Nat) (env : List (Value → World → Prop)) (rest : List Oper) : Prop :=
  env.length = n → wpTyped P Q C Step use F0 c0 l a env.reverse rest
theorem wpR_start (h : wpR P Q C Step use F0 c0 l a 0 [] l) : wpTyped P Q C Step use F0 c0 l a [] l := h rfl
theorem wpR_same {n : Nat} {env : List (Value → World → Prop)} {o : Oper} {rest : List Oper} {A : (Nat → Value) → Act} (hA : ∀ vs, puts vs 0 l a = A vs) (c : Value) (hrefl : ∀ k w, Step k w w)
    (h : ∀ vs w, C w → knownR use env vs w n o.after.toList → (live0 l c0 n = true → F0 w) → (∀ j, oldB l j n = true → vs j = oldV l a j) → Region.wanted o (yielded l.toArray (A vs).tmps) = true ∧ (execOp (A vs).eval o).run P w = .ok (.value c) w)
    (hr : wpR P Q C Step use F0 c0 l a (n + 1) ((fun v _ => v = c) :: env) rest) : wpR P Q C Step use F0 c0 l a n env (o :: rest) := fun hn => wpTyped_same hA c hrefl (by rw [List.length_reverse, hn]; exact fun vs w hC hk => h vs w hC (knownR_of hn _ hk)) (by have := hr (by simp [hn]); rwa [List.reverse_cons] at this)
theorem wpR_skip {n : Nat} {env : List (Value → World → Prop)} {o : Oper} {rest : List Oper} {A : (Nat → Value) → Act} (hA : ∀ vs, puts vs 0 l a = A vs) (hrefl : ∀ k w, Step k w w)
    (h : ∀ vs w, C w → knownR use env vs w n o.after.toList → (live0 l c0 n = true → F0 w) → (∀ j, oldB l j n = true → vs j = oldV l a j) → Region.wanted o (yielded l.toArray (A vs).tmps) = false)
    (hr : wpR P Q C Step use F0 c0 l a (n + 1) ((fun v _ => v = undef) :: env) rest) : wpR P Q C Step use F0 c0 l a n env (o :: rest) := fun hn => wpTyped_skip hA hrefl (by rw [List.length_reverse, hn]; exact fun vs w hC hk => h vs w hC (knownR_of hn _ hk)) (by have := hr (by simp [hn]); rwa [List.reverse_cons] at this)
theorem wpR_pure {n : Nat} {env : List (Value → World → Prop)} {o : Oper} {rest : List Oper} {A : (Nat → Value) → Act} (hA : ∀ vs, puts vs 0 l a = A vs) (F : Value → World → Prop) (hs : ∀ k, k ∈ rivals l use n → ∀ v w w', F v w → C w' → Step k w w' → F v w') (hrefl : ∀ k w, Step k w w)
    (h : ∀ vs w, C w → knownR use env vs w n o.after.toList → (live0 l c0 n = true → F0 w) → (∀ j, oldB l j n = true → vs j = oldV l a j) → Region.wanted o (yielded l.toArray (A vs).tmps) = true ∧ ∃ u, (execOp (A vs).eval o).run P w = .ok (.value u) w ∧ F u w)
    (hr : wpR P Q C Step use F0 c0 l a (n + 1) ((F) :: env) rest) : wpR P Q C Step use F0 c0 l a n env (o :: rest) := fun hn => wpTyped_pure hA F (by rw [List.length_reverse, hn]; exact hs) hrefl (by rw [List.length_reverse, hn]; exact fun vs w hC hk => h vs w hC (knownR_of hn _ hk)) (by have := hr (by simp [hn]); rwa [List.reverse_cons] at this)
theorem wpR_call {n : Nat} {env : List (Value → World → Prop)} {o : Oper} {rest : List Oper} {A : (Nat → Value) → Act} (hA : ∀ vs, puts vs 0 l a = A vs) (F : Value → World → Prop) (hs : ∀ k, k ∈ rivals l use n → ∀ v w w', F v w → C w' → Step k w w' → F v w')
    (h : ∀ vs w, C w → knownR use env vs w n o.after.toList → (live0 l c0 n = true → F0 w) → (∀ j, oldB l j n = true → vs j = oldV l a j) → Region.wanted o (yielded l.toArray (A vs).tmps) = true ∧
      ∃ f args, (execOp (A vs).eval o).run P w = .ok (.enter f args) w ∧ Calls P f args w fun e w' => ∃ u, e = .returned u ∧ F u w' ∧ C w' ∧ Step n w w')
    (hr : wpR P Q C Step use F0 c0 l a (n + 1) ((F) :: env) rest) : wpR P Q C Step use F0 c0 l a n env (o :: rest) := fun hn => wpTyped_call hA F (by rw [List.length_reverse, hn]; exact hs) (by rw [List.length_reverse, hn]; exact fun vs w hC hk => h vs w hC (knownR_of hn _ hk)) (by have := hr (by simp [hn]); rwa [List.reverse_cons] at this)
theorem wpR_make {n : Nat} {env : List (Value → World → Prop)} {o : Oper} {rest : List Oper} {A : (Nat → Value) → Act} (hA : ∀ vs, puts vs 0 l a = A vs) (F : Value → World → Prop) (hs : ∀ k, k ∈ rivals l use n → ∀ v w w', F v w → C w' → Step k w w' → F v w')
    (h : ∀ vs w, C w → knownR use env vs w n o.after.toList → (live0 l c0 n = true → F0 w) → (∀ j, oldB l j n = true → vs j = oldV l a j) → Region.wanted o (yielded l.toArray (A vs).tmps) = true ∧
      ∃ u w', (execOp (A vs).eval o).run P w = .ok (.value u) w' ∧ F u w' ∧ C w' ∧ Step n w w')
    (hr : wpR P Q C Step use F0 c0 l a (n + 1) ((F) :: env) rest) : wpR P Q C Step use F0 c0 l a n env (o :: rest) := fun hn => wpTyped_make hA F (by rw [List.length_reverse, hn]; exact hs) (by rw [List.length_reverse, hn]; exact fun vs w hC hk => h vs w hC (knownR_of hn _ hk)) (by have := hr (by simp [hn]); rwa [List.reverse_cons] at this)
theorem wpR_guard {n : Nat} {env : List (Value → World → Prop)} {o : Oper} {rest : List Oper} {A : (Nat → Value) → Act} (hA : ∀ vs, puts vs 0 l a = A vs) (p : Bool) (c : Value) (hrefl : ∀ k w, Step k w w)
    (h : ∀ vs w, C w → knownR use env vs w n o.after.toList → (live0 l c0 n = true → F0 w) → (∀ j, oldB l j n = true → vs j = oldV l a j) →
      Region.wanted o (yielded l.toArray (A vs).tmps) = p ∧ (p = true → (execOp (A vs).eval o).run P w = .ok (.value c) w))
    (hr : wpR P Q C Step use F0 c0 l a (n + 1) ((fun v _ => v = cv p c) :: env) rest) : wpR P Q C Step use F0 c0 l a n env (o :: rest) := fun hn => wpTyped_guard hA p c hrefl (by rw [List.length_reverse, hn]; exact fun vs w hC hk => h vs w hC (knownR_of hn _ hk)) (by have := hr (by simp [hn]); rwa [List.reverse_cons] at this)
theorem wpR_gcall {n : Nat} {env : List (Value → World → Prop)} {o : Oper} {rest : List Oper} {A : (Nat → Value) → Act} (hA : ∀ vs, puts vs 0 l a = A vs) (p : Bool) (c : Value) (hrefl : ∀ k w, Step k w w)
    (h : ∀ vs w, C w → knownR use env vs w n o.after.toList → (live0 l c0 n = true → F0 w) → (∀ j, oldB l j n = true → vs j = oldV l a j) →
      Region.wanted o (yielded l.toArray (A vs).tmps) = p ∧ (p = true → ∃ f args, (execOp (A vs).eval o).run P w = .ok (.enter f args) w ∧ Calls P f args w fun e w' => e = .returned c ∧ w = w'))
    (hr : wpR P Q C Step use F0 c0 l a (n + 1) ((fun v _ => v = cv p c) :: env) rest) : wpR P Q C Step use F0 c0 l a n env (o :: rest) := fun hn => wpTyped_gcall hA p c hrefl (by rw [List.length_reverse, hn]; exact fun vs w hC hk => h vs w hC (knownR_of hn _ hk)) (by have := hr (by simp [hn]); rwa [List.reverse_cons] at this)
theorem wpR_nil {n : Nat} {env : List (Value → World → Prop)} {A : (Nat → Value) → Act} (hA : ∀ vs, puts vs 0 l a = A vs) (h : ∀ vs w, C w → allR use vs w n env True → (c0 = none → F0 w) → Q .normal (A vs) w) : wpR P Q C Step use F0 c0 l a n env [] := fun hn =>
  wpTyped_nil hA (fun vs w hC hk h0 => h vs w hC (by subst hn; exact allR_of env True hk trivial) h0)
/-- A guarded call that leaves a world of the class, its value fixed. -/
theorem wpR_gcallS {n : Nat} {env : List (Value → World → Prop)} {o : Oper} {rest : List Oper} {A : (Nat → Value) → Act} (hA : ∀ vs, puts vs 0 l a = A vs) (p : Bool) (c : Value) (hrefl : ∀ k w, Step k w w)
    (h : ∀ vs w, C w → knownR use env vs w n o.after.toList → (live0 l c0 n = true → F0 w) → (∀ j, oldB l j n = true → vs j = oldV l a j) →
      Region.wanted o (yielded l.toArray (A vs).tmps) = p ∧ (p = true → ∃ f args, (execOp (A vs).eval o).run P w = .ok (.enter f args) w ∧ Calls P f args w fun e w' => e = .returned c ∧ C w' ∧ Step n w w'))
    (hr : wpR P Q C Step use F0 c0 l a (n + 1) ((fun v _ => v = cv p c) :: env) rest) : wpR P Q C Step use F0 c0 l a n env (o :: rest) := fun hn =>
  ⟨fun v _ => v = cv p c, fun _ _ _ _ _ h _ _ => h, fun vs w hC hk h0 ho K hK => by
    rw [List.length_reverse, hn] at hk h0 ho hK
    obtain ⟨h1, h2⟩ := h vs w hC (knownR_of hn _ hk) h0 ho
    rw [hA] at hK ⊢
    cases p with
    | true =>
      obtain ⟨f, args, h3, h4⟩ := h2 rfl
      rw [if_pos h1]
      unfold Oper.wp
      rw [h3]
      exact h4.mono fun e w' ⟨he, h5, h6⟩ => by subst he; exact hK c w' rfl h5 h6
    | false =>
      rw [if_neg (by rw [h1]; simp)]
      exact hK undef w rfl hC (hrefl _ w), by have := hr (by simp [hn]); rwa [List.reverse_cons] at this⟩
end
end Go.Proofs.Ytigodfnckjidoaa
