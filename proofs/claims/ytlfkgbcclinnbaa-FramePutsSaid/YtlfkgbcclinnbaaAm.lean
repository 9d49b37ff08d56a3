/- Abstract states: a state that says less, in general. No program, no condition. -/
import Derived.Test.YtlfkgbcclinnbaaAk
namespace Go.Proofs.Ytlfkgbcclinnbaa
set_option linter.all false
open Go Go.RowKit

/-- What settles: a row's number, its version, its elements. -/
abbrev Sid := Option (Nat × Nat × List (List V))
mutual
/-- What is known of a value, said otherwise, or less. -/
inductive DW (s : Sid) (k : Nat → Bool) : D → D → Prop
  | keep {d : D} (hl : d.live k = true) : DW s k d d
  | nil : DW s k (.v (.lit (.slice none 0 0))) (.v (.sl []))
  | view {id ver off len : Nat} {c c' : List (List V)} (h : s = some (id, ver, c)) (hc : cut off (off + len) c = c') : DW s k (.view id ver off len) (.v (.sl c'))
  | any {d : D} : DW s k d .any
  | agg {cs cs' : List D} (h : DWs s k cs cs') : DW s k (.agg cs) (.agg cs')
  | tup {cs cs' : List D} (h : DWs s k cs cs') : DW s k (.tup cs) (.tup cs')
  | eq {d d' e : D} (he : d = d') (h : DW s k d' e) : DW s k d e
  | eq' {d e e' : D} (h : DW s k d e) (he : e = e') : DW s k d e'
inductive DWs (s : Sid) (k : Nat → Bool) : List D → List D → Prop
  | nil : DWs s k [] []
  | cons {d d' : D} {ds ds' : List D} (h : DW s k d d') (hr : DWs s k ds ds') : DWs s k (d :: ds) (d' :: ds')
  | same {ds : List D} (hl : D.lives k ds = true) : DWs s k ds ds
  | eq {ds ds' es : List D} (he : ds = ds') (h : DWs s k ds' es) : DWs s k ds es
end
inductive FW (fr : Fm) (s : Sid) (k : Nat → Bool) : Fm → Prop
  | nil : FW fr s k []
  | cons {t : Nat} {d d' : D} {r : Fm} (h : look fr t = some d) (hd : DW s k d d') (hr : FW fr s k r) : FW fr s k ((t, d') :: r)
inductive AW (ah : AH) (s : Sid) (k : Nat → Bool) : AH → Prop
  | nil : AW ah s k []
  | box {id : Nat} {cs cs' : List D} {r : AH} (h : look ah id = some (.box cs)) (hd : DWs s k cs cs') (hr : AW ah s k r) : AW ah s k ((id, .box cs') :: r)
  | row {id ver n : Nat} {e : TypeId} {c c' : List (List V)} {r : AH} (h : look ah id = some (.row ver n e c)) (hc : c = c') (hr : AW ah s k r) : AW ah s k ((id, .row ver n e c') :: r)
theorem FW.at {fr fr' : Fm} {s : Sid} {k : Nat → Bool} (h : FW fr s k fr') : ∀ t d', look fr' t = some d' → ∃ d, look fr t = some d ∧ DW s k d d' := by
  induction h with
  | nil => intro t d h; cases h
  | @cons t d d' r h hd hr ih =>
    intro t' e he
    by_cases hi : t = t'
    · subst hi; rw [look_cons_self] at he; injection he with he; subst he; exact ⟨d, h, hd⟩
    · rw [look_cons_ne _ _ hi] at he; exact ih t' e he
theorem AW.at {ah ah' : AH} {s : Sid} {k : Nat → Bool} (h : AW ah s k ah') : ∀ id o, look ah' id = some o → (∃ cs cs', o = .box cs' ∧ look ah id = some (.box cs) ∧ DWs s k cs cs') ∨ (∃ ver n e c, o = .row ver n e c ∧ look ah id = some o) := by
  induction h with
  | nil => intro id o h; cases h
  | @box i cs cs' r h hd hr ih =>
    intro id o ho
    by_cases hi : i = id
    · subst hi; rw [look_cons_self] at ho; injection ho with ho; subst ho; exact .inl ⟨cs, cs', rfl, h, hd⟩
    · rw [look_cons_ne _ _ hi] at ho; exact ih id o ho
  | @row i ver n e c c' r h hc hr ih =>
    intro id o ho
    subst hc
    by_cases hi : i = id
    · subst hi; rw [look_cons_self] at ho; injection ho with ho; subst ho; exact .inr ⟨ver, n, e, c, rfl, h⟩
    · rw [look_cons_ne _ _ hi] at ho; exact ih id o ho
theorem of_dom' {ah : AH} {i : Nat} (h : dom ah i = true) : ∃ o, look ah i = some o := of_dom h
section
variable {X : Cx} {fr fr' : Fm} {ah ah' : AH}
/-- What settles, settles rightly. -/
def SidOk (ah ah' : AH) : Sid → Prop
  | none => True
  | some (id, ver, c) => dom ah' id = false ∧ ∃ n e, look ah id = some (.row ver n e c)
theorem weak_all (s : Sid) (hs : SidOk ah ah' s) (ha : AW ah s (dom ah') ah') (hf : FW fr s (dom ah') fr') : Weak X fr ah fr' ah' := fun G w a hS => by
  let gone : Nat → Prop := fun g => ∃ id ver c, s = some (id, ver, c) ∧ G.μ id = some g
  let G1 : Gh := { G with S := fun g => G.S g ∨ gone g }
  have hO := hS.ok
  have hin : ∀ i o, look ah' i = some o → look ah i ≠ none := fun i o ho => by
    rcases ha.at i o ho with ⟨cs, cs', _, h, _⟩ | ⟨ver, n, e, c, _, h⟩ <;> rw [h] <;> simp
  have hsid : ∀ id ver c, s = some (id, ver, c) → dom ah' id = false ∧ ∃ n e, look ah id = some (.row ver n e c) := fun id ver c h => by subst h; exact hs
  have e1 : ∀ m', Ext G w m' G1 w m' := fun m' => ⟨fun g hg => ⟨.inl hg, rfl⟩, fun _ cs h => ⟨cs, h, rfl⟩, fun _ ver _ _ c h => ⟨ver, c, h, Nat.le_refl _, fun _ => ⟨Nat.le_refl _, rfl, rfl⟩⟩⟩
  -- the kinds are kept
  have hkind : ∀ i, dom ah' i = true → (∃ cs cs', look ah' i = some (.box cs') ∧ look ah i = some (.box cs)) ∨ look ah' i = look ah i := fun i hi => by
    obtain ⟨o, ho⟩ := of_dom' hi
    rcases ha.at i o ho with ⟨cs, cs', rfl, h, _⟩ | ⟨ver, n, e, c, rfl, h⟩
    · exact .inl ⟨cs, cs', ho, h⟩
    · exact .inr (ho.trans h.symm)
  have conv : ∀ {d : D} {u : Value}, RepD G w (look ah) d u → d.live (dom ah') = true → RepD G1 w (look ah') d u := by
    intro d u h
    induction h with
    | v x u h => intro _; exact .v x u (h.mono fun g hg => ⟨.inl hg, rfl⟩)
    | agg cs us hl' h1 h ih => intro hl; exact .agg cs us hl' h1 fun i d u hd hu => ih i d u hd hu (D.lives_get (by simpa [D.live] using hl) hd)
    | tup ds us hl' h ih => intro hl; exact .tup ds us hl' fun i d u hd hu => ih i d u hd hu (D.lives_get (by simpa [D.live] using hl) hd)
    | ptr id off g cs h hg =>
      intro hl
      rcases hkind id (by simpa [D.live] using hl) with ⟨c0, c1, h1, h2⟩ | h1
      · exact .ptr id off g c1 h1 hg
      · exact .ptr id off g cs (h1.trans h) hg
    | view id ver off len u ver' n e c h hv h1 h2 =>
      intro hl
      rcases hkind id (by simpa [D.live] using hl) with ⟨c0, c1, h3, h4⟩ | h3
      · rw [h] at h4; cases h4
      · exact .view id ver off len u ver' n e c (h3.trans h) hv h1 h2
    | vptr id ver i j u ver' n e c h hv h1 h2 =>
      intro hl
      rcases hkind id (by simpa [D.live] using hl) with ⟨c0, c1, h3, h4⟩ | h3
      · rw [h] at h4; cases h4
      · exact .vptr id ver i j u ver' n e c (h3.trans h) hv h1 h2
    | ref cs g o us hz hc hr => intro _; exact .ref cs g o us (.inl hz) hc fun j x hx => (hr j x hx).mono fun g hg => ⟨.inl hg, rfl⟩
    | fn f first caps us vs hl1 hl2 h h' ih ih' =>
      intro hl
      simp only [D.live, Bool.and_eq_true] at hl
      exact .fn f first caps us vs hl1 hl2 (fun i d u hd hu => ih i d u hd hu (D.lives_get hl.1 hd)) (fun i d u hd hu => ih' i d u hd hu (D.lives_get hl.2 hd))
    | cond b d u h h0 ih => intro hl; exact .cond b d u (fun hb => ih hb (by simpa [D.live] using hl)) h0
    | any u => intro _; exact .any u
  have convs : ∀ {ds : List D} {us : List Value}, RepDs G w (look ah) ds us → D.lives (dom ah') ds = true → RepDs G1 w (look ah') ds us := fun h hl => ⟨h.1, fun i d u hd hu => conv (h.2 i d u hd hu) (D.lives_get hl hd)⟩
  have wk : ∀ {d d' : D}, DW s (dom ah') d d' → ∀ {u : Value}, RepD G w (look ah) d u → RepD G1 w (look ah') d' u := by
    intro d d' h
    refine DW.rec (motive_1 := fun d d' _ => ∀ {u : Value}, RepD G w (look ah) d u → RepD G1 w (look ah') d' u) (motive_2 := fun ds ds' _ => ∀ {us : List Value}, RepDs G w (look ah) ds us → RepDs G1 w (look ah') ds' us) ?_ ?_ ?_ ?_ ?_ ?_ ?_ ?_ ?_ ?_ ?_ ?_ h
    · intro d hl u hu; exact conv hu hl
    · intro u hu; rw [rep_lit hu]; exact .v _ _ (.nil none 0 (by simp [maxLen]))
    · intro id ver off len c c' h hc u hu
      subst hc
      obtain ⟨h1, n, e, h2⟩ := hsid id ver c h
      obtain ⟨v1, v2⟩ := rep_view hu h2
      exact .v _ _ (repV_view (hO.ob id _ h2) v2 v1 (fun g hg => .inl hg) (fun g hg => .inr ⟨id, ver, c, h, hg⟩))
    · intro d u hu; exact .any u
    · intro cs cs' h ih u hu
      cases hu with
      | agg _ us hl h1 h => obtain ⟨a1, a2⟩ := ih ⟨hl, h⟩; exact .agg cs' us a1 h1 a2
    · intro cs cs' h ih u hu
      cases hu with
      | tup _ us hl h => obtain ⟨a1, a2⟩ := ih ⟨hl, h⟩; exact .tup cs' us a1 a2
    · intro d d' e he h ih u hu; subst he; exact ih hu
    · intro d e e' h he ih u hu; subst he; exact ih hu
    · intro us hu; exact ⟨hu.1, fun i d u hd => by simp at hd⟩
    · intro d d' ds ds' h hr ih ihr us hu
      match us, hu.1 with
      | u :: us, hl =>
        exact .cons (ih (hu.2 0 d u rfl rfl)) (ihr ⟨by simpa using hl, fun i d u hd hu' => hu.2 (i + 1) d u (by simpa using hd) (by simpa using hu')⟩)
    · intro ds hl us hu; exact convs hu hl
    · intro ds ds' es he h ih us hu; subst he; exact ih hu
  have wks : ∀ {ds ds' : List D}, DWs s (dom ah') ds ds' → ∀ {us : List Value}, RepDs G w (look ah) ds us → RepDs G1 w (look ah') ds' us := by
    intro ds ds' h us hu
    have key : ∀ {ds ds' : List D}, DWs s (dom ah') ds ds' → ds.length = ds'.length ∧ ∀ (i : Nat) d', ds'[i]? = some d' → ∃ d, ds[i]? = some d ∧ DW s (dom ah') d d' := by
      intro ds ds' h
      refine DWs.rec (motive_1 := fun d d' _ => True) (motive_2 := fun ds ds' _ => ds.length = ds'.length ∧ ∀ (i : Nat) d', ds'[i]? = some d' → ∃ d, ds[i]? = some d ∧ DW s (dom ah') d d') (by intros; trivial) (by intros; trivial) (by intros; trivial) (by intros; trivial) (by intros; trivial) (by intros; trivial) (by intros; trivial) (by intros; trivial) ?_ ?_ ?_ ?_ h
      · exact ⟨rfl, fun i d hd => by simp at hd⟩
      · intro d d' ds ds' h hr _ ih
        refine ⟨by simp [ih.1], fun i e he => ?_⟩
        cases i with
        | zero => simp at he; subst he; exact ⟨d, rfl, h⟩
        | succ i => exact ih.2 i e (by simpa using he)
      · intro ds hl; exact ⟨rfl, fun i d hd => ⟨d, hd, .keep (D.lives_get hl hd)⟩⟩
      · intro ds ds' es he h ih; subst he; exact ih
    obtain ⟨k1, k2⟩ := key h
    refine ⟨by rw [hu.1, k1], fun i d u hd hu' => ?_⟩
    obtain ⟨d0, h1, h2⟩ := k2 i d hd
    exact wk h2 (hu.2 i d0 u h1 hu')
  have hnone : ∀ i, look ah' i ≠ none → ∀ g, G.μ i = some g → ¬ gone g := fun i hi g hg ⟨id, ver, c, h1, h2⟩ => by
    obtain ⟨h3, n, e, h4⟩ := hsid id ver c h1
    cases ho : look ah' i with
    | none => exact hi ho
    | some o =>
      have := hO.inj i id g (hin i o ho) (by rw [h4]; simp) hg h2
      subst this
      unfold dom at h3
      rw [ho] at h3; cases h3
  have hin' : ∀ i, look ah' i ≠ none → look ah i ≠ none := fun i hi => by
    cases ho : look ah' i with
    | none => exact absurd ho hi
    | some o => exact hin i o ho
  refine ⟨G1, ⟨fun i o ho => ?_, fun i j g hi hj => hO.inj i j g (hin' i hi) (hin' j hj), fun i g hi hg => ⟨fun hs' => ?_, (hO.apart i g (hin' i hi) hg).2⟩, fun g hg => ?_, hO.keep, hO.os, hO.tape, hO.output, hO.size, fun g hg => .inl (hO.s0 g hg), fun g hg hk => ?_, fun i cs hi ho => ?_⟩, fun t => ?_, hS.nt, hS.df⟩
  · rcases ha.at i o ho with ⟨cs, cs', rfl, h, hd⟩ | ⟨ver, n, e, c, rfl, h⟩
    · obtain ⟨g, us, t, b1, b2, b3, b4⟩ := hO.ob i _ h
      exact ⟨g, us, t, b1, b2, b3, wks hd b4⟩
    · exact RowAt.ext (hO.ob i _ h) (e1 (look ah)) rfl rfl fun _ _ => rfl
  · rcases hs' with hs' | hs'
    · exact (hO.apart i g (hin' i hi) hg).1 hs'
    · exact hnone i hi g hg hs'
  · rcases hg with hg | ⟨id, ver, c, h1, h2⟩
    · exact hO.low g hg
    · obtain ⟨_, n, e, h4⟩ := hsid id ver c h1
      exact (hO.ob id _ h4).lt h2
  · rcases hg with hg | ⟨id, ver, c, h1, h2⟩
    · exact hO.sk g hg hk
    · obtain ⟨_, n, e, h4⟩ := hsid id ver c h1
      exact absurd hk (hO.apart id g (by rw [h4]; simp) h2).2
  · rcases ha.at i _ ho with ⟨c0, c1, _, h, _⟩ | ⟨ver, n, e, c, h, _⟩
    · exact hO.pin i c0 hi h
    · cases h
  · cases hl : look fr' t with
    | none => unfold Fm.at; rw [hl]; exact .any _
    | some d' =>
      obtain ⟨d, h1, h2⟩ := hf.at t d' hl
      rw [Fm.at_eq hl]
      have := hS.fr t
      rw [Fm.at_eq h1] at this
      exact wk h2 this
/-- A variable's nil is a row of one's own, of nothing. -/
theorem weak_nilB (b i id n : Nat) (e : TypeId) {cs cs' : List D} (hb : look ah b = some (.box cs)) (hi : cs[i]? = some (.v (.lit (.slice none 0 0)))) (hc : cs.set i (.view id 0 0 0) = cs') (hn : 0 < n) (hnp : X.np ≤ id) (hid : look ah id = none) :
    Weak X fr ah fr ((b, .box cs') :: (id, .row 0 n e []) :: ah) := fun G w a hS => by
  subst hc
  obtain ⟨h1, h2, h3⟩ := hS.ok.nilRow hid hnp n hn e
  rw [over_cons] at h1 h2 h3
  have hne : id ≠ b := fun he => by subst he; rw [hid] at hb; cases hb
  have hb' : look ((id, Ob.row 0 n e []) :: ah) b = some (.box cs) := by rw [look_cons_ne _ _ hne]; exact hb
  obtain ⟨g, us, t, b1, b2, b3, b4⟩ := h1.ob b _ hb'
  have hlt : i < us.length := by rw [b4.1]; exact (List.getElem?_eq_some_iff.1 hi).1
  have hui : us[i] = .slice none 0 0 := rep_lit (b4.2 i _ us[i] hi (List.getElem?_eq_getElem hlt))
  obtain ⟨k1, k2⟩ := h1.setBox (cs' := cs.set i (.view id 0 0 0)) (w' := w) hb' b1 us us t b2 b3 ⟨by simp [b4.1], fun j d u hd hu => by
      rw [List.getElem?_set] at hd
      by_cases hj : i = j
      · subst hj
        rw [List.getElem?_eq_getElem hlt, hui] at hu
        injection hu with hu
        subst hu
        rw [if_pos rfl] at hd
        split at hd
        · injection hd with hd; subst hd; exact h3
        · cases hd
      · rw [if_neg hj] at hd; exact b4.2 j d u hd hu⟩ b2 (fun _ _ => rfl) rfl rfl rfl rfl
  rw [over_cons] at k1 k2
  exact ⟨_, k1, (hS.fr.ext h2).ext k2, hS.nt, hS.df⟩
end
end Go.Proofs.Ytlfkgbcclinnbaa
