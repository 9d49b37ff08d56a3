/- Abstract states: the rest of a body as if begun anew; what does not speak of settled memory; a buffer that the library writes. No program, no condition. -/
import Derived.Test.YtnjbfiejgiaibaaGreatDoorBeToSkA
import Derived.Lib.BufferAt
import Derived.Lib.BufferKept
namespace Go.Proofs.YtnjbfiejgiaibaaGreatDoor
set_option linter.all false
open Go Go.RowKit
/-- A value that speaks of no memory. -/
def V.free : V → Bool
  | .sl [] => true
  | .sl (_ :: _) => false
  | _ => true
mutual
/-- What speaks of no settled memory. -/
def D.free : D → Bool
  | .v x => x.free
  | .agg cs => D.frees cs
  | .tup ds => D.frees ds
  | .ref _ => false
  | .fn _ a b => D.frees a && D.frees b
  | .cond _ d => d.free
  | _ => true
def D.frees : List D → Bool
  | [] => true
  | d :: ds => d.free && D.frees ds
end
theorem D.frees_at : ∀ {ds : List D} {i : Nat} {d : D}, D.frees ds = true → ds[i]? = some d → d.free = true
  | [], _, _, _, h => by simp at h
  | d :: ds, 0, d', h, hi => by
    injection hi with hi; subst hi
    unfold D.frees at h; rw [Bool.and_eq_true] at h; exact h.1
  | d :: ds, i + 1, d', h, hi => by
    unfold D.frees at h; rw [Bool.and_eq_true] at h
    exact D.frees_at h.2 (by simpa using hi)
theorem RepV.free {Z Z' : Nat → Prop} {w w' : World} {x : V} {u : Value} (h : RepV Z w x u) (hx : x.free = true) : RepV Z' w' x u := by
  cases h with
  | bool b => exact .bool b
  | int k n => exact .int k n
  | str l => exact .str l
  | lit _ h => exact .lit _ h
  | nil A cap hm => exact .nil A cap hm
  | sl c g o n cap us hne hz hn hs hcap hm hc hr =>
    cases c with
    | nil => simp at hne
    | cons a c => cases hx
/-- What is known of one's own memory stays known. -/
structure ExtM (G : Gh) (m : Mem) (G' : Gh) (m' : Mem) : Prop where
  box : ∀ id cs, m id = some (.box cs) → ∃ cs', m' id = some (.box cs') ∧ G'.μ id = G.μ id
  row : ∀ id ver n e c, m id = some (.row ver n e c) → ∃ ver' c', m' id = some (.row ver' n e c') ∧ ver ≤ ver' ∧ (ver = ver' → c.length ≤ c'.length ∧ G'.μ id = G.μ id ∧ G'.cap id = G.cap id)
  mp : ∀ id a l, m id = some (.mp a l) → ∃ a' l', m' id = some (.mp a' l') ∧ G'.μ id = G.μ id
theorem ExtM.refl {G G' : Gh} {m : Mem} (hμ : G'.μ = G.μ) (hc : G'.cap = G.cap) : ExtM G m G' m := ⟨fun id cs h => ⟨cs, h, by rw [hμ]⟩, fun id v n e c h => ⟨v, c, h, Nat.le_refl _, fun _ => ⟨Nat.le_refl _, by rw [hμ], by rw [hc]⟩⟩, fun id a l h => ⟨a, l, h, by rw [hμ]⟩⟩
theorem RepD.free {G G' : Gh} {w w' : World} {m m' : Mem} {d : D} {u : Value} (h : RepD G w m d u) (k : ExtM G m G' m') (hd : d.free = true) : RepD G' w' m' d u := by
  induction h with
  | v x u h => exact .v x u (h.free hd)
  | agg cs us hl h1 h ih => exact .agg cs us hl h1 fun i d u hd' hu => ih i d u hd' hu (D.frees_at hd hd')
  | tup ds us hl h ih => exact .tup ds us hl fun i d u hd' hu => ih i d u hd' hu (D.frees_at hd hd')
  | ptr id off g cs h hg =>
    obtain ⟨cs', h1, h2⟩ := k.box id cs h
    exact .ptr id off g cs' h1 (h2.trans hg)
  | view id ver off len u ver' n e c h hv h1 h2 =>
    obtain ⟨v1, c1, a1, a2, a3⟩ := k.row id ver' n e c h
    refine .view id ver off len u v1 n e c1 a1 (Nat.le_trans hv a2) h1 fun he => ?_
    obtain rfl : ver = ver' := by omega
    obtain ⟨b1, A, cap, b2, b3, b4, b5⟩ := h2 rfl
    obtain ⟨c1, c2, c3⟩ := a3 he
    exact ⟨by omega, A, cap, b2, by rw [c3]; exact b3, b4, by rw [c2]; exact b5⟩
  | ref cs g o us hz hc hr => cases hd
  | vptr id ver i j u ver' n e c h hv h1 h2 =>
    obtain ⟨v1, c1, a1, a2, a3⟩ := k.row id ver' n e c h
    refine .vptr id ver i j u v1 n e c1 a1 (Nat.le_trans hv a2) h1 fun he => ?_
    obtain rfl : ver = ver' := by omega
    obtain ⟨b1, g, b2, b3⟩ := h2 rfl
    obtain ⟨c1, c2, c3⟩ := a3 he
    exact ⟨by omega, g, c2.trans b2, b3⟩
  | fn f a b us vs hl hl' h h' ih ih' =>
    unfold D.free at hd; rw [Bool.and_eq_true] at hd
    exact .fn f a b us vs hl hl' (fun i d u hd' hu => ih i d u hd' hu (D.frees_at hd.1 hd')) (fun i d u hd' hu => ih' i d u hd' hu (D.frees_at hd.2 hd'))
  | mref id g agg l h hg =>
    obtain ⟨a', l', h1, h2⟩ := k.mp id agg l h
    exact .mref id g a' l' h1 (h2.trans hg)
  | cond b d u h h0 ih => exact .cond b d u (fun hb => ih hb hd) h0
  | any u => exact .any u
theorem look_mem {α : Type} : ∀ {l : List (Nat × α)} {i : Nat} {o : α}, look l i = some o → (i, o) ∈ l
  | [], _, _, h => by cases h
  | (k, o) :: r, i, o', h => by
    by_cases hk : k = i
    · subst hk; rw [look_cons_self] at h; injection h with h; subst h; exact List.mem_cons_self
    · rw [look_cons_ne _ _ hk] at h; exact List.mem_cons_of_mem _ (look_mem h)
def Fm.free (fr : Fm) : Bool := fr.all fun p => p.2.free
def Ob.free : Ob → Bool
  | .box cs => D.frees cs
  | .row _ _ _ c => c.all fun e => e.all V.free
  | .mp _ _ => false
def AH.free (ah : AH) : Bool := ah.all fun p => p.2.free
theorem Fm.free_at {fr : Fm} (h : fr.free = true) (t : Nat) : (fr.at t).free = true := by
  unfold Fm.at
  cases hl : look fr t with
  | none => rfl
  | some d => exact (List.all_eq_true.1 h) (t, d) (look_mem hl)
theorem RepDs.free {G G' : Gh} {w w' : World} {m m' : Mem} {ds : List D} {us : List Value} (h : RepDs G w m ds us) (k : ExtM G m G' m') (hd : D.frees ds = true) : RepDs G' w' m' ds us :=
  ⟨h.1, fun i d u hi hu => (h.2 i d u hi hu).free k (D.frees_at hd hi)⟩
theorem ObAt.free {G G' : Gh} {w w' : World} {m m' : Mem} {id : Nat} {o : Ob} (h : ObAt G w m id o) (k : ExtM G m G' m') (hμ : G'.μ id = G.μ id) (hc : G'.cap id = G.cap id) (hb : ∀ g, G.μ id = some g → w'.heap[g]? = w.heap[g]?) (ho : o.free = true) : ObAt G' w' m' id o := by
  cases o with
  | box cs =>
    obtain ⟨g, us, t, h1, h2, h3, h4⟩ := h
    exact ⟨g, us, t, hμ.trans h1, (hb g h1).trans h2, h3, h4.free k ho⟩
  | row ver n e c =>
    obtain ⟨h1, h2, h3, h4, h5⟩ := h
    refine ⟨h1, h2, by rw [hc]; exact h3, by rw [hc]; exact h4, ?_⟩
    rcases h5 with ⟨h6, h7⟩ | ⟨g, cur, us, fz, e0', hfz, h6, h7, h8, h10, h11⟩
    · exact .inl ⟨hμ.trans h6, hc.trans h7⟩
    · refine .inr ⟨g, cur, us, fz, e0', hfz, hμ.trans h6, (hb g h6).trans h7, by rw [hc]; exact h8, h10, fun i j x hx => (h11 i j x hx).free ?_⟩
      unfold elem? at hx
      cases hci : c[i]? with
      | none => rw [hci] at hx; cases hx
      | some q =>
        rw [hci] at hx
        exact (List.all_eq_true.1 ((List.all_eq_true.1 ho) q (List.mem_of_getElem? hci))) x (List.mem_of_getElem? hx)
  | mp agg l => cases ho
/-- What the rest must leave: nothing that speaks of settled memory. -/
def fromQ (Q : AX → Fm → AH → Prop) : AX → Fm → AH → Prop := fun e fr ah => match e with
  | .ret => fr.free = true ∧ ah.free = true ∧ Q .ret fr ah
  | .normal => fr.free = true ∧ ah.free = true ∧ Q .normal fr ah
  | _ => False
theorem from_ret {Q : AX → Fm → AH → Prop} {fr : Fm} {ah : AH} (h1 : fr.free = true) (h2 : ah.free = true) (h : Q .ret fr ah) : fromQ Q .ret fr ah := ⟨h1, h2, h⟩
/-- The rest of a body, as if begun anew: all that was is settled. -/
theorem aw_from {X : Cx} {Q : AX → Fm → AH → Prop} {c : Code} {fr : Fm} {ah : AH} (hnp : X.np = 0)
    (sub : ∀ (Y : Cx) G w a, St X G w a fr ah → Still Y X w a.defers → ∃ fr0, FrOk (gAll w) w (look []) fr0.at a ∧ aw Y c (fromQ Q) fr0 []) : aw X c Q fr ah := fun G w a hS => by
  let Y : Cx := ⟨X.P, X.nt, w, fun k => k < w.heap.size, fun k => k < w.heap.size, 0, fun _ => none, a.defers⟩
  obtain ⟨fr0, h0, hw⟩ := sub Y G w a hS ⟨rfl, rfl, rfl, rfl, rfl, rfl, rfl⟩
  have hO : Ok Y (gAll w) w (look []) := ⟨fun i o h => (by cases h), fun i j k hi => absurd rfl hi, fun i k hi => absurd rfl hi, fun k hk => hk, fun k hk => ⟨hk, rfl⟩, rfl, rfl, rfl, Nat.le_refl _, fun k hk => hk, fun k hk _ => hk, fun i o hi => absurd hi (Nat.not_lt_zero _), hS.ok.shpw.mono fun k hk => Nat.lt_of_lt_of_le (hS.ok.keep k hk).1 hS.ok.size⟩
  have key : ∀ a2 w2 G2 fr2 ah2, St Y G2 w2 a2 fr2 ah2 → fr2.free = true → ah2.free = true → ∃ G3, St X G3 w2 a2 fr2 ah2 := by
    intro a2 w2 G2 fr2 ah2 hS2 hf1 hf2
    have hk2 : ∀ g, g < w.heap.size → w2.heap[g]? = w.heap[g]? := fun g hg => (hS2.ok.keep g hg).2
    have hsz : w.heap.size ≤ w2.heap.size := hS2.ok.size
    let G3 : Gh := { G2 with S := fun g => G.S g ∨ (w.heap.size ≤ g ∧ G2.S g) }
    have hx : ExtM G2 (look ah2) G3 (look ah2) := ExtM.refl rfl rfl
    refine ⟨G3, ⟨fun i o ho => (hS2.ok.ob i o ho).free hx rfl rfl (fun _ _ => rfl) ((List.all_eq_true.1 hf2) (i, o) (look_mem ho)), hS2.ok.inj, fun i g hi hg => ?_, fun g hg => ?_, fun g hg => ?_, ?_, ?_, ?_, Nat.le_trans hS.ok.size hsz, fun g hg => .inl (hS.ok.s0 g hg), fun g hg hk => ?_, fun i o hi => absurd hi (by rw [hnp]; exact Nat.not_lt_zero _), hS.ok.shp⟩, fun t => (hS2.fr t).free hx (Fm.free_at hf1 t), hS2.nt, ?_⟩
    · obtain ⟨a1, a3⟩ := hS2.ok.apart i g hi hg
      have a3 : ¬ g < w.heap.size := a3
      refine ⟨fun hs => ?_, fun hk => ?_⟩
      · rcases hs with hs | hs
        · exact a3 (hS.ok.low g hs)
        · exact a1 hs.2
      · have := (hS.ok.keep g hk).1; have := hS.ok.size; omega
    · rcases hg with hg | hg
      · exact Nat.lt_of_lt_of_le (hS.ok.low g hg) hsz
      · exact hS2.ok.low g hg.2
    · have h1 := hS.ok.keep g hg
      exact ⟨h1.1, (hk2 g (by have := hS.ok.size; omega)).trans h1.2⟩
    · exact (show w2.os = w.os from hS2.ok.os).trans hS.ok.os
    · exact (show w2.tape = w.tape from hS2.ok.tape).trans hS.ok.tape
    · exact (show w2.output = w.output from hS2.ok.output).trans hS.ok.output
    · rcases hg with hg | hg
      · exact hS.ok.sk g hg hk
      · have := (hS.ok.keep g hk).1; have := hS.ok.size; omega
    · obtain ⟨Ds2, d1, d2, d3⟩ := hS2.df
      obtain ⟨Ds, e1, e2, e3⟩ := hS.df
      have d1 : a2.defers = Ds2.map mark ++ a.defers := d1
      refine ⟨Ds2 ++ Ds, by rw [d1, e1, List.map_append, List.append_assoc], ?_, fun D hD => ?_⟩
      · refine List.nodup_append.2 ⟨d2, e2, fun x hx y hy he => ?_⟩
        subst he
        have h1 := (d3 x hx).1
        have h2 := (e3 x hy).2.2.1
        have h1 : w.heap.size ≤ x := h1
        rw [Array.getElem?_eq_none h1] at h2; cases h2
      · rcases List.mem_append.1 hD with h | h
        · obtain ⟨a1, a2, a3, a4⟩ := d3 D h
          have a1 : w.heap.size ≤ D := a1
          exact ⟨Nat.le_trans hS.ok.size a1, .inr ⟨a1, a2⟩, a3, a4⟩
        · obtain ⟨a1, a2, a3, a4⟩ := e3 D h
          exact ⟨a1, .inl a2, (hk2 D (hS.ok.low D a2)).trans a3, a4⟩
  refine wp_mono (hw (gAll w) w a ⟨hO, h0, hS.nt, DfOk.nil⟩) fun e a2 w2 q => ?_
  cases e with
  | normal =>
    obtain ⟨G2, fr2, ah2, hS2, q1, q2, q3⟩ := q
    obtain ⟨G3, h3⟩ := key a2 w2 G2 fr2 ah2 hS2 q1 q2
    exact ⟨G3, fr2, ah2, h3, q3⟩
  | ret =>
    obtain ⟨G2, fr2, ah2, hS2, q1, q2, q3⟩ := q
    obtain ⟨G3, h3⟩ := key a2 w2 G2 fr2 ah2 hS2 q1 q2
    exact ⟨G3, fr2, ah2, h3, q3⟩
  | exit id => obtain ⟨_, _, _, _, hq⟩ := q; exact hq.elim
  | goto l => obtain ⟨_, _, _, _, hq⟩ := q; exact hq.elim
  | panic ch => obtain ⟨_, _, _, _, _, _, _, _, hq⟩ := q; exact hq.elim
  | outgrown => exact q
/-- A box whose cells are all settled values, read only from here on. -/
theorem all_refV {X : Cx} {G : Gh} {w : World} {m : Mem} (hO : Ok X G w m) {b : Nat} {ys : List V} {u : Value} (h : RepD G w m (.ptr b 0) u) (hb : m b = some (.box (ys.map .v))) : RepD (gAll w) w (look []) (.ref ys) u := by
  obtain ⟨q, us, t, b1, b2, b3, b4⟩ := hO.ob b _ hb
  obtain ⟨q', cs', e1, e2, e3⟩ := rep_ptr h
  have e4 : q' = q := by rw [b1] at e2; injection e2 with e2; exact e2.symm
  subst e4
  rw [e1]
  have hlen := b4.1
  rw [List.length_map] at hlen
  refine .ref ys q' 0 (fun j => us.getD j undef) ((show ObAt G w m b (.box (ys.map .v)) from hO.ob b _ hb).lt b1) (fun j x hj => ?_) (fun j x hj => ?_)
  · have hlt : j < us.length := by rw [hlen]; exact (List.getElem?_eq_some_iff.1 hj).1
    rw [Nat.zero_add, cell_box b2 (id := b) (cs := ys.map .v)]
    simp [hlt]
  · have hlt : j < us.length := by rw [hlen]; exact (List.getElem?_eq_some_iff.1 hj).1
    have h5 := b4.2 j (.v x) us[j] (by rw [List.getElem?_map, hj]; rfl) (List.getElem?_eq_getElem hlt)
    have e6 : us.getD j undef = us[j] := by simp [hlt]
    rw [e6]
    cases h5 with | v _ _ h => exact h.mono fun g hg => ⟨hO.low g hg, rfl⟩
end Go.Proofs.YtnjbfiejgiaibaaGreatDoor
