/- Abstract states: a write into a row of one's own; a row's version told anew; a call that is lent a row. No program, no condition. -/
import Derived.Test.YthflfnehdlpmdaaDoorA3
namespace Go.Proofs.YthflfnehdlpmdaaDoor
set_option linter.all false
open Go Go.RowKit

section
variable {X : Cx} {o : Oper} {f : Nat → D} {m : Mem} {d : D} {T : List Nat}
end
mutual
/-- A row's version told anew; what speaks of an older one says nothing. -/
def D.rever (id v v' : Nat) : D → D
  | .v x => .v x
  | .agg cs => .agg (D.revers id v v' cs)
  | .tup ds => .tup (D.revers id v v' ds)
  | .ptr i off => .ptr i off
  | .view i w off len => bif Nat.beq i id then (bif Nat.beq w v then .view i v' off len else .any) else .view i w off len
  | .vptr i w a b => bif Nat.beq i id then (bif Nat.beq w v then .vptr i v' a b else .any) else .vptr i w a b
  | .ref cs => .ref cs
  | .fn f a b => .fn f (D.revers id v v' a) (D.revers id v v' b)
  | .mref i => .mref i
  | .cond b d => .cond b (D.rever id v v' d)
  | .any => .any
def D.revers (id v v' : Nat) : List D → List D
  | [] => []
  | d :: ds => D.rever id v v' d :: D.revers id v v' ds
end
theorem D.revers_map (id v v' : Nat) : ∀ ds : List D, D.revers id v v' ds = ds.map (D.rever id v v')
  | [] => rfl
  | d :: ds => by simp [D.revers, D.revers_map id v v' ds]
def Ob.rever (id v v' i : Nat) : Ob → Ob
  | .box cs => .box (D.revers id v v' cs)
  | .row w n e c => .row (bif Nat.beq i id then v' else w) n e c
  | .mp a l => .mp a l
def AH.rever (id v v' : Nat) : AH → AH
  | [] => []
  | (i, o) :: r => (i, o.rever id v v' i) :: AH.rever id v v' r
def Fm.rever (id v v' : Nat) : Fm → Fm
  | [] => []
  | (t, d) :: r => (t, d.rever id v v') :: Fm.rever id v v' r
theorem AH.rever_look (id v v' i : Nat) : ∀ ah : AH, look (AH.rever id v v' ah) i = (look ah i).map (Ob.rever id v v' i)
  | [] => rfl
  | (k, o) :: r => by
    by_cases h : k = i
    · subst h; simp only [AH.rever]; rw [look_cons_self, look_cons_self]; rfl
    · simp only [AH.rever]; rw [look_cons_ne _ _ h, look_cons_ne _ _ h, AH.rever_look id v v' i r]
theorem Fm.rever_look (id v v' t : Nat) : ∀ fr : Fm, look (Fm.rever id v v' fr) t = (look fr t).map (D.rever id v v')
  | [] => rfl
  | (k, o) :: r => by
    by_cases h : k = t
    · subst h; simp only [Fm.rever]; rw [look_cons_self, look_cons_self]; rfl
    · simp only [Fm.rever]; rw [look_cons_ne _ _ h, look_cons_ne _ _ h, Fm.rever_look id v v' t r]
theorem beq_no {i j : Nat} (h : i ≠ j) : Nat.beq i j = false := by
  cases h' : Nat.beq i j with
  | false => rfl
  | true => exact absurd (Nat.eq_of_beq_eq_true h') h
section
variable {X : Cx} {fr : Fm} {ah : AH} {id v n : Nat} {e : TypeId} {c : List (List V)}
theorem RepD.rever (v' : Nat) (hm : look ah id = some (.row v n e c)) {G : Gh} {w : World} {d : D} {u : Value} (h : RepD G w (look ah) d u) : RepD G w (look (AH.rever id v v' ah)) (d.rever id v v') u := by
  have hrow : ∀ i q n' e' c', look ah i = some (.row q n' e' c') → look (AH.rever id v v' ah) i = some (.row (bif Nat.beq i id then v' else q) n' e' c') := fun i q n' e' c' h => by rw [AH.rever_look, h]; rfl
  have hbox : ∀ i cs, look ah i = some (.box cs) → look (AH.rever id v v' ah) i = some (.box (D.revers id v v' cs)) := fun i cs h => by rw [AH.rever_look, h]; rfl
  induction h with
  | v x u h => exact .v x u h
  | agg cs us hl h1 h ih =>
    simp only [D.rever]
    refine .agg _ us (by rw [hl, D.revers_map]; simp) h1 fun i d u hd hu => ?_
    rw [D.revers_map, List.getElem?_map] at hd
    cases hc : cs[i]? with
    | none => rw [hc] at hd; cases hd
    | some d0 => rw [hc] at hd; injection hd with hd; subst hd; exact ih i d0 u hc hu
  | tup ds us hl h ih =>
    simp only [D.rever]
    refine .tup _ us (by rw [hl, D.revers_map]; simp) fun i d u hd hu => ?_
    rw [D.revers_map, List.getElem?_map] at hd
    cases hc : ds[i]? with
    | none => rw [hc] at hd; cases hd
    | some d0 => rw [hc] at hd; injection hd with hd; subst hd; exact ih i d0 u hc hu
  | ptr i off g cs h hg => exact .ptr i off g _ (hbox i cs h) hg
  | view i q off len u q' n' e' c' h hv h1 h2 =>
    simp only [D.rever]
    by_cases hi : i = id
    · subst hi
      rw [Nat.beq_refl]
      rw [hm] at h; injection h with h; injection h with a1 a2 a3 a4; subst a1 a2 a3 a4
      by_cases hq : q = v
      · subst hq
        simp only [Nat.beq_refl, cond_true]
        refine .view i v' off len u v' n e c ?_ (Nat.le_refl _) h1 fun _ => h2 rfl
        have := hrow i _ _ _ _ hm
        rwa [Nat.beq_refl] at this
      · simp only [cond_true, beq_no hq, cond_false]; exact .any _
    · simp only [beq_no hi, cond_false]
      have := hrow i _ _ _ _ h
      rw [beq_no hi] at this
      exact .view i q off len u q' n' e' c' this hv h1 h2
  | vptr i q a b u q' n' e' c' h hv h1 h2 =>
    simp only [D.rever]
    by_cases hi : i = id
    · subst hi
      rw [Nat.beq_refl]
      rw [hm] at h; injection h with h; injection h with a1 a2 a3 a4; subst a1 a2 a3 a4
      by_cases hq : q = v
      · subst hq
        simp only [Nat.beq_refl, cond_true]
        refine .vptr i v' a b u v' n e c ?_ (Nat.le_refl _) h1 fun _ => h2 rfl
        have := hrow i _ _ _ _ hm
        rwa [Nat.beq_refl] at this
      · simp only [cond_true, beq_no hq, cond_false]; exact .any _
    · simp only [beq_no hi, cond_false]
      have := hrow i _ _ _ _ h
      rw [beq_no hi] at this
      exact .vptr i q a b u q' n' e' c' this hv h1 h2
  | ref cs g o us hz hc hr => exact .ref cs g o us hz hc hr
  | mref i g a l h hg => exact .mref i g a l (by rw [AH.rever_look, h]; rfl) hg
  | fn f first caps us vs hl hl' h h' ih ih' =>
    simp only [D.rever]
    refine .fn f _ _ us vs (by rw [hl, D.revers_map]; simp) (by rw [hl', D.revers_map]; simp) (fun i d u hd hu => ?_) (fun i d u hd hu => ?_)
    · rw [D.revers_map, List.getElem?_map] at hd
      cases hc : first[i]? with
      | none => rw [hc] at hd; cases hd
      | some d0 => rw [hc] at hd; injection hd with hd; subst hd; exact ih i d0 u hc hu
    · rw [D.revers_map, List.getElem?_map] at hd
      cases hc : caps[i]? with
      | none => rw [hc] at hd; cases hd
      | some d0 => rw [hc] at hd; injection hd with hd; subst hd; exact ih' i d0 u hc hu
  | cond b d u h h0 ih => exact .cond b _ u ih h0
  | any u => exact .any u
theorem weak_rever (id : Nat) {v : Nat} (v' : Nat) (hm : look ah id = some (.row v n e c)) : Weak X fr ah (Fm.rever id v v' fr) (AH.rever id v v' ah) := fun G w a hS => by
  have hne : ∀ i, look (AH.rever id v v' ah) i ≠ none → look ah i ≠ none := fun i h h' => h (by rw [AH.rever_look, h']; rfl)
  refine ⟨G, ⟨fun i o ho => ?_, fun i j g hi hj => hS.ok.inj i j g (hne i hi) (hne j hj), fun i g hi => hS.ok.apart i g (hne i hi), hS.ok.low, hS.ok.keep, hS.ok.os, hS.ok.tape, hS.ok.output, hS.ok.size, hS.ok.s0, hS.ok.sk, fun i oo hi ho hfx => ?_, hS.ok.shp⟩, fun t => ?_, hS.nt, hS.df⟩
  · rw [AH.rever_look] at ho
    cases hl : look ah i with
    | none => rw [hl] at ho; cases ho
    | some o' =>
      rw [hl] at ho; injection ho with ho; subst ho
      have h1 := hS.ok.ob i o' hl
      cases o' with
      | box cs =>
        obtain ⟨g, us, t, h2, h3, h4, h5⟩ := h1
        refine ⟨g, us, t, h2, h3, h4, by rw [h5.1, D.revers_map]; simp, fun j d u hd hu => ?_⟩
        rw [D.revers_map, List.getElem?_map] at hd
        cases hc : cs[j]? with
        | none => rw [hc] at hd; cases hd
        | some d0 => rw [hc] at hd; injection hd with hd; subst hd; exact (h5.2 j d0 u hc hu).rever v' hm
      | row q n' e' c' => exact h1
      | mp a l => exact h1
  · rw [AH.rever_look] at ho
    cases hl : look ah i with
    | none => rw [hl] at ho; cases ho
    | some o' =>
      rw [hl] at ho; injection ho with ho
      subst ho
      exact hS.ok.pin i o' hi hl (by cases o' <;> first | rfl | cases hfx)
  · have h1 := hS.fr t
    unfold Fm.at at h1 ⊢
    rw [Fm.rever_look]
    cases hl : look fr t with
    | none => rw [hl] at h1; exact .any _
    | some d => rw [hl] at h1; exact h1.rever v' hm
end
/-- A value without any place. -/
def V.shut : V → Bool
  | .sl _ => false
  | _ => true
mutual
def D.shut : D → Bool
  | .v x => x.shut
  | .agg cs => D.shuts cs
  | .tup ds => D.shuts ds
  | .any => true
  | _ => false
def D.shuts : List D → Bool
  | [] => true
  | d :: ds => D.shut d && D.shuts ds
end
theorem D.shuts_get : ∀ {ds : List D} {i : Nat} {d : D}, D.shuts ds = true → ds[i]? = some d → d.shut = true
  | [], i, d, _, h => by simp at h
  | e :: ds, 0, d, h, hd => by
    simp only [D.shuts, Bool.and_eq_true] at h
    simp at hd; subst hd; exact h.1
  | e :: ds, i + 1, d, h, hd => by
    simp only [D.shuts, Bool.and_eq_true] at h
    exact D.shuts_get h.2 (by simpa using hd)
theorem RepV.out {Z Z' : Nat → Prop} {w w' : World} {x : V} {u : Value} (h : RepV Z w x u) (hs : x.shut = true) : RepV Z' w' x u := by
  cases h with
  | bool b => exact .bool b
  | int k n => exact .int k n
  | str l => exact .str l
  | lit _ h => exact .lit _ h
  | nil => cases hs
  | sl => cases hs
theorem RepD.out {G G' : Gh} {w w' : World} {m m' : Mem} {d : D} {u : Value} (h : RepD G w m d u) (hs : d.shut = true) : RepD G' w' m' d u := by
  induction h with
  | v x u h => exact .v x u (h.out (by simpa [D.shut] using hs))
  | agg cs us hl h1 h ih => exact .agg cs us hl h1 fun i d u hd hu => ih i d u hd hu (D.shuts_get (by simpa [D.shut] using hs) hd)
  | tup ds us hl h ih => exact .tup ds us hl fun i d u hd hu => ih i d u hd hu (D.shuts_get (by simpa [D.shut] using hs) hd)
  | any u => exact .any u
  | _ => cases hs
/-- Arguments of which some are views on a row that is lent. -/
inductive Lent (id v : Nat) (c : List (List V)) : List D → List D → Prop
  | nil : Lent id v c [] []
  | same {d : D} {ds es : List D} (hl : d.live (fun _ => false) = true) (r : Lent id v c ds es) : Lent id v c (d :: ds) (d :: es)
  | view {off len : Nat} {c' : List (List V)} {ds es : List D} (hc : cut off (off + len) c = c') (r : Lent id v c ds es) : Lent id v c (.view id v off len :: ds) (.v (.sl c') :: es)
  | agg {cs cs' ds es : List D} (h : Lent id v c cs cs') (r : Lent id v c ds es) : Lent id v c (.agg cs :: ds) (.agg cs' :: es)
theorem Lent.rep {G H : Gh} {w : World} {m : Mem} {id v n : Nat} {e : TypeId} {c : List (List V)} (hm : m id = some (.row v n e c)) (hr : RowAt G w id n e c) (hS : ∀ g, G.S g → H.S g) (hg : ∀ g, G.μ id = some g → H.S g) {ds es : List D} (h : Lent id v c ds es) : ∀ {us : List Value}, RepDs G w m ds us → RepDs H w (look []) es us := by
  induction h with
  | nil => intro us hu; exact ⟨hu.1, fun i d u h => by simp at h⟩
  | @same d ds es hl r ih =>
    intro us hu
    match us, hu with
    | u :: us, hu =>
      have h0 := hu.2 0 d u rfl rfl
      have h1 : RepD H w (look []) d u := by
        have h2 : RepD G w (look []) d u := h0.part (k := fun _ => false) (fun _ hk => by cases hk) hl
        have hx : Ext G w (look []) { G with S := H.S } w (look []) := ⟨fun g hg => ⟨hS g hg, rfl⟩, fun _ _ h => (by cases h), fun _ _ _ _ _ h => (by cases h), fun _ _ _ h => (by cases h)⟩
        have h3 := h2.ext hx
        exact h3.outof (G := H) (ρ := fun i => i) (fun i hi => absurd rfl hi) (fun i hi => absurd rfl hi) rfl (fun i o ho => (by cases ho)) |> fun h4 => by rwa [D.ren_dead _ _ hl] at h4
      exact .cons h1 (ih ⟨by have := hu.1; simpa using this, fun i d u hd hu' => hu.2 (i + 1) d u (by simpa using hd) (by simpa using hu')⟩)
    | [], hu => have := hu.1; simp at this
  | @view off len c' ds es hc r ih =>
    intro us hu
    match us, hu with
    | u :: us, hu =>
      subst hc
      have h0 := hu.2 0 _ u rfl rfl
      obtain ⟨h1, h2⟩ := rep_view h0 hm
      exact .cons (.v _ _ (repV_view hr h2 h1 hS hg)) (ih ⟨by have := hu.1; simpa using this, fun i d u hd hu' => hu.2 (i + 1) d u (by simpa using hd) (by simpa using hu')⟩)
    | [], hu => have := hu.1; simp at this
  | @agg cs cs' ds es h r ih1 ih =>
    intro us hu
    match us, hu with
    | u :: us, hu =>
      have h0 := hu.2 0 _ u rfl rfl
      refine .cons ?_ (ih ⟨by have := hu.1; simpa using this, fun i d u hd hu' => hu.2 (i + 1) d u (by simpa using hd) (by simpa using hu')⟩)
      cases h0 with
      | agg _ vs hl h1 h =>
        have hb := ih1 (us := vs) ⟨hl, h⟩
        exact .agg _ vs hb.1 h1 hb.2
    | [], hu => have := hu.1; simp at this
theorem Ok.kept {X : Cx} {G : Gh} {w w' : World} {m : Mem} (h : Ok X G w m) (hk : ∀ g, g < w.heap.size → w'.heap[g]? = w.heap[g]?) (hs : w.heap.size ≤ w'.heap.size) (ho : w'.os = w.os) (ht : w'.tape = w.tape) (hu : w'.output = w.output) : Ok X G w' m ∧ Ext G w m G w' m := by
  have hx : Ext G w m G w' m := ⟨fun g hg => ⟨hg, hk g (h.low g hg)⟩, fun id cs hi => ⟨cs, hi, rfl⟩, fun id v n e c hi => ⟨v, c, hi, Nat.le_refl _, fun _ => ⟨Nat.le_refl _, rfl, rfl⟩⟩, fun id a l hi => ⟨a, l, hi, rfl⟩⟩
  exact ⟨⟨fun id o ho => (h.ob id o ho).ext hx rfl rfl (fun g hg => hk g ((h.ob id o ho).lt hg)), h.inj, h.apart, fun g hg => Nat.lt_of_lt_of_le (h.low g hg) hs, fun g hg => ⟨(h.keep g hg).1, (hk g (by have := (h.keep g hg).1; have := h.size; omega)).trans (h.keep g hg).2⟩,
    ho.trans h.os, ht.trans h.tape, hu.trans h.output, Nat.le_trans h.size hs, h.s0, h.sk, h.pin, h.shp⟩, hx⟩
section
variable {X : Cx} {o : Oper} {f : Nat → D} {m : Mem} {d : D}
end
end Go.Proofs.YthflfnehdlpmdaaDoor
