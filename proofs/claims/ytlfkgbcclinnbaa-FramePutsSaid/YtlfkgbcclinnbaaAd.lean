/- Abstract states: calls. No program, no condition. -/
import Derived.Test.YtlfkgbcclinnbaaAc
namespace Go.Proofs.Ytlfkgbcclinnbaa
set_option linter.all false
open Go Go.RowKit

mutual
/-- A value, its memories by other names. -/
def D.ren (ρ : Nat → Nat) : D → D
  | .v x => .v x
  | .agg cs => .agg (D.rens ρ cs)
  | .tup ds => .tup (D.rens ρ ds)
  | .ptr id off => .ptr (ρ id) off
  | .view id ver off len => .view (ρ id) ver off len
  | .vptr id ver i j => .vptr (ρ id) ver i j
  | .ref cs => .ref cs
  | .fn f a b => .fn f (D.rens ρ a) (D.rens ρ b)
  | .cond b d => .cond b (D.ren ρ d)
  | .any => .any
def D.rens (ρ : Nat → Nat) : List D → List D
  | [] => []
  | d :: ds => D.ren ρ d :: D.rens ρ ds
end
theorem D.rens_map (ρ : Nat → Nat) : ∀ ds : List D, D.rens ρ ds = ds.map (D.ren ρ)
  | [] => rfl
  | d :: ds => by simp [D.rens, D.rens_map ρ ds]
theorem D.rens_v (ρ : Nat → Nat) (xs : List V) : D.rens ρ (xs.map .v) = xs.map .v := by
  rw [D.rens_map, List.map_map]; rfl
def Ob.ren (ρ : Nat → Nat) : Ob → Ob
  | .box cs => .box (D.rens ρ cs)
  | .row ver n e c => .row ver n e c
def AH.ren (ρ : Nat → Nat) : AH → AH
  | [] => []
  | (id, o) :: r => (ρ id, o.ren ρ) :: AH.ren ρ r
/-- The same ghost by the new names. -/
def Gh.back (G : Gh) (ρ : Nat → Nat) : Gh := ⟨fun i => G.μ (ρ i), fun i => G.cap (ρ i), G.S⟩
section
variable {G : Gh} {w : World} {m n : Mem} {ρ : Nat → Nat}
theorem rens_get {ds : List D} {i : Nat} {d : D} (h : ds[i]? = some d) : (D.rens ρ ds)[i]? = some (d.ren ρ) := by rw [D.rens_map, List.getElem?_map, h]; rfl
/-- Out of the new names into the old ones. -/
theorem RepD.into {H : Gh} (hμ : ∀ i, H.μ i = G.μ (ρ i)) (hc : ∀ i, H.cap i = G.cap (ρ i)) (hS : H.S = G.S) : ∀ {d : D} {e : D} {u : Value}, RepD G w m e u → e = d.ren ρ → ∀ k : Nat → Bool, (∀ i, k i = true → ∃ o, n i = some o ∧ m (ρ i) = some (o.ren ρ)) → d.live k = true → RepD H w n d u := by
  intro d e u h
  induction h generalizing d with
  | v x u h =>
    intro he k hk hl
    cases d <;> simp [D.ren] at he
    subst he; exact .v _ _ (by rw [hS]; exact h)
  | agg cs us hl' h1 h ih =>
    intro he k hk hl
    cases d <;> simp [D.ren] at he
    rename_i cs0
    subst he
    refine .agg cs0 us (by rw [hl', D.rens_map]; simp) h1 fun i d u hd hu => ?_
    exact ih i _ u (rens_get hd) hu rfl k hk (D.lives_get (by simpa [D.live] using hl) hd)
  | tup ds us hl' h ih =>
    intro he k hk hl
    cases d <;> simp [D.ren] at he
    rename_i cs0
    subst he
    refine .tup cs0 us (by rw [hl', D.rens_map]; simp) fun i d u hd hu => ?_
    exact ih i _ u (rens_get hd) hu rfl k hk (D.lives_get (by simpa [D.live] using hl) hd)
  | ptr id off g cs h hg =>
    intro he k hk hl
    cases d <;> simp [D.ren] at he
    rename_i id0 off0
    obtain ⟨rfl, rfl⟩ := he
    obtain ⟨o, h1, h2⟩ := hk id0 (by simpa [D.live] using hl)
    rw [h] at h2
    cases o with
    | box cs0 => exact .ptr id0 _ g cs0 h1 (by rw [hμ]; exact hg)
    | row _ _ _ _ => simp [Ob.ren] at h2
  | view id ver off len u ver' nn e c h hv h1 h2 =>
    intro he k hk hl
    cases d <;> simp [D.ren] at he
    rename_i id0 ver0 off0 len0
    obtain ⟨rfl, rfl, rfl, rfl⟩ := he
    obtain ⟨o, h3, h4⟩ := hk id0 (by simpa [D.live] using hl)
    rw [h] at h4
    cases o with
    | box cs0 => simp [Ob.ren] at h4
    | row a b c' d' =>
      simp only [Ob.ren, Option.some.injEq, Ob.row.injEq] at h4
      obtain ⟨rfl, rfl, rfl, rfl⟩ := h4
      refine .view id0 _ _ _ u _ _ _ _ h3 hv h1 fun he => ?_
      obtain ⟨a1, A, cap, a2, a3, a4, a5⟩ := h2 he
      exact ⟨a1, A, cap, a2, by rw [hc]; exact a3, a4, by rw [hμ]; exact a5⟩
  | vptr id ver i j u ver' nn e c h hv h1 h2 =>
    intro he k hk hl
    cases d <;> simp [D.ren] at he
    rename_i id0 ver0 i0 j0
    obtain ⟨rfl, rfl, rfl, rfl⟩ := he
    obtain ⟨o, h3, h4⟩ := hk id0 (by simpa [D.live] using hl)
    rw [h] at h4
    cases o with
    | box cs0 => simp [Ob.ren] at h4
    | row a b c' d' =>
      simp only [Ob.ren, Option.some.injEq, Ob.row.injEq] at h4
      obtain ⟨rfl, rfl, rfl, rfl⟩ := h4
      refine .vptr id0 _ _ _ u _ _ _ _ h3 hv h1 fun he => ?_
      obtain ⟨a1, g, a2, a3⟩ := h2 he
      exact ⟨a1, g, by rw [hμ]; exact a2, a3⟩
  | ref cs g o us hz hc' hr =>
    intro he k hk hl
    cases d <;> simp [D.ren] at he
    subst he
    exact .ref _ g o us (by rw [hS]; exact hz) hc' (by rw [hS]; exact hr)
  | fn f first caps us vs hl1 hl2 h h' ih ih' =>
    intro he k hk hl
    cases d <;> simp [D.ren] at he
    rename_i f0 a0 b0
    obtain ⟨rfl, rfl, rfl⟩ := he
    simp only [D.live, Bool.and_eq_true] at hl
    refine .fn _ a0 b0 us vs (by rw [hl1, D.rens_map]; simp) (by rw [hl2, D.rens_map]; simp) (fun i d u hd hu => ?_) (fun i d u hd hu => ?_)
    · exact ih i _ u (rens_get hd) hu rfl k hk (D.lives_get hl.1 hd)
    · exact ih' i _ u (rens_get hd) hu rfl k hk (D.lives_get hl.2 hd)
  | cond b e u h h0 ih =>
    intro he k hk hl
    cases d <;> simp [D.ren] at he
    rename_i b0 d0
    obtain ⟨rfl, rfl⟩ := he
    exact .cond _ d0 u (fun hb => ih hb rfl k hk (by simpa [D.live] using hl)) h0
  | any u =>
    intro he k hk hl
    cases d <;> simp [D.ren] at he
    exact .any u
/-- Out of the old names into the new ones. -/
theorem RepD.outof {H : Gh} {d : D} {u : Value} (h : RepD H w n d u) (hμ : ∀ i, n i ≠ none → G.μ (ρ i) = H.μ i) (hc : ∀ i, n i ≠ none → G.cap (ρ i) = H.cap i) (hS : G.S = H.S) (hm : ∀ i o, n i = some o → m (ρ i) = some (o.ren ρ)) : RepD G w m (d.ren ρ) u := by
  induction h with
  | v x u h => exact .v _ _ (by rw [hS]; exact h)
  | agg cs us hl' h1 h ih =>
    refine .agg _ us (by rw [hl', D.rens_map]; simp) h1 fun i d u hd hu => ?_
    rw [D.rens_map, List.getElem?_map] at hd
    cases hcs : cs[i]? with
    | none => rw [hcs] at hd; cases hd
    | some d0 => rw [hcs] at hd; injection hd with hd; subst hd; exact ih i d0 u hcs hu
  | tup cs us hl' h ih =>
    refine .tup _ us (by rw [hl', D.rens_map]; simp) fun i d u hd hu => ?_
    rw [D.rens_map, List.getElem?_map] at hd
    cases hcs : cs[i]? with
    | none => rw [hcs] at hd; cases hd
    | some d0 => rw [hcs] at hd; injection hd with hd; subst hd; exact ih i d0 u hcs hu
  | ptr id off g cs h hg => exact .ptr (ρ id) off g _ (hm id _ h) ((hμ id (by rw [h]; simp)).trans hg)
  | view id ver off len u ver' nn e c h hv h1 h2 =>
    refine .view (ρ id) ver off len u ver' nn e c (hm id _ h) hv h1 fun he => ?_
    obtain ⟨a1, A, cap, a2, a3, a4, a5⟩ := h2 he
    exact ⟨a1, A, cap, a2, by rw [hc id (by rw [h]; simp)]; exact a3, a4, by rw [hμ id (by rw [h]; simp)]; exact a5⟩
  | vptr id ver i j u ver' nn e c h hv h1 h2 =>
    refine .vptr (ρ id) ver i j u ver' nn e c (hm id _ h) hv h1 fun he => ?_
    obtain ⟨a1, g, a2, a3⟩ := h2 he
    exact ⟨a1, g, by rw [hμ id (by rw [h]; simp)]; exact a2, a3⟩
  | ref cs g o us hz hc' hr => exact .ref _ g o us (by rw [hS]; exact hz) hc' (by rw [hS]; exact hr)
  | fn f first caps us vs hl1 hl2 h h' ih ih' =>
    refine .fn _ _ _ us vs (by rw [hl1, D.rens_map]; simp) (by rw [hl2, D.rens_map]; simp) (fun i d u hd hu => ?_) (fun i d u hd hu => ?_)
    · rw [D.rens_map, List.getElem?_map] at hd
      cases hcs : first[i]? with
      | none => rw [hcs] at hd; cases hd
      | some d0 => rw [hcs] at hd; injection hd with hd; subst hd; exact ih i d0 u hcs hu
    · rw [D.rens_map, List.getElem?_map] at hd
      cases hcs : caps[i]? with
      | none => rw [hcs] at hd; cases hd
      | some d0 => rw [hcs] at hd; injection hd with hd; subst hd; exact ih' i d0 u hcs hu
  | cond b e u h h0 ih => exact .cond _ _ u (fun hb => ih hb) h0
  | any u => exact .any u
end
/-- What a call may make of a memory that it was given. -/
def Ob.goes : Ob → Ob → Bool
  | .box _, .box _ => true
  | .row v n e _, .row v' n' e' _ => Nat.blt v v' && Nat.beq n n' && Nat.beq e e'
  | _, _ => false
def keys (ah : AH) : List Nat := ah.map (·.1)
/-- The side conditions of a call by names: all are given names, told apart. -/
def callB (ρ : List Nat) (pre post : AH) (np Xnp : Nat) : Bool :=
  (keys pre).all (fun i => Nat.blt i np) && pre.all (fun p => match look pre p.1, look post p.1 with | some o, some o' => o.goes o' | _, _ => false) &&
  (keys post).all (fun i => Nat.blt i ρ.length) && (keys post).all (fun i => Nat.blt i np || Nat.ble Xnp (ρ.getD i 0)) && (keys post).all (fun i => Nat.ble np i || dom pre i)
theorem look_ren {ρ : Nat → Nat} (hi : ∀ i j, ρ i = ρ j → i = j) : ∀ (ah : AH) (i : Nat), look (AH.ren ρ ah) (ρ i) = (look ah i).map (Ob.ren ρ)
  | [], i => rfl
  | (k, o) :: r, i => by
    unfold AH.ren
    by_cases h : k = i
    · subst h; rw [look_cons_self, look_cons_self]; rfl
    · rw [look_cons_ne _ _ h, look_cons_ne _ _ (fun e => h (hi _ _ e)), look_ren hi r i]
theorem look_ren_none {ρ : Nat → Nat} : ∀ (ah : AH) (j : Nat), (∀ i, dom ah i = true → ρ i ≠ j) → look (AH.ren ρ ah) j = none
  | [], j, _ => rfl
  | (k, o) :: r, j, h => by
    unfold AH.ren
    rw [look_cons_ne _ _ (h k (by unfold dom; rw [look_cons_self]; rfl))]
    refine look_ren_none r j fun i hi => h i ?_
    unfold dom at hi ⊢
    by_cases hk : k = i
    · subst hk; rw [look_cons_self]; rfl
    · rw [look_cons_ne _ _ hk]; exact hi
/-- Names by a list; behind its end others. -/
def rho (l : List Nat) (i : Nat) : Nat := (l[i]?).getD (l.foldl Nat.max 0 + 1 + i)
theorem foldl_max_le : ∀ (l : List Nat) (k x : Nat), x ∈ l ∨ x ≤ k → x ≤ l.foldl Nat.max k
  | [], k, x, h => by simpa using h
  | y :: l, k, x, h => by
    refine foldl_max_le l (Nat.max k y) x ?_
    have e : Nat.max k y = max k y := rfl
    rcases h with h | h
    · rcases List.mem_cons.1 h with rfl | h
      · exact .inr (by omega)
      · exact .inl h
    · exact .inr (by omega)
def nodupB : List Nat → Bool
  | [] => true
  | x :: l => l.all (fun y => !(Nat.beq x y)) && nodupB l
theorem nodupB_at : ∀ {l : List Nat}, nodupB l = true → ∀ (i j x : Nat), l[i]? = some x → l[j]? = some x → i = j
  | [], _, i, j, x, h, _ => by simp at h
  | y :: l, hb, i, j, x, hi, hj => by
    simp only [nodupB, Bool.and_eq_true, List.all_eq_true, Bool.not_eq_true'] at hb
    have hne : ∀ z ∈ l, y ≠ z := fun z hz e => by
      have := hb.1 z hz
      rw [e, Nat.beq_refl] at this; cases this
    cases i with
    | zero =>
      cases j with
      | zero => rfl
      | succ j => simp at hi hj; subst hi; exact absurd rfl (hne _ (List.mem_of_getElem? hj))
    | succ i =>
      cases j with
      | zero => simp at hi hj; subst hj; exact absurd rfl (hne _ (List.mem_of_getElem? hi))
      | succ j => simp at hi hj; rw [nodupB_at hb.2 i j x hi hj]
theorem rho_inj {l : List Nat} (h : nodupB l = true) (i j : Nat) (e : rho l i = rho l j) : i = j := by
  unfold rho at e
  have big : ∀ x, x ∈ l → x ≤ l.foldl Nat.max 0 := fun x hx => foldl_max_le l 0 x (.inl hx)
  cases hi : l[i]? with
  | none =>
    cases hj : l[j]? with
    | none => rw [hi, hj] at e; simp at e; exact e
    | some y => rw [hi, hj] at e; simp at e; have := big y (List.mem_of_getElem? hj); omega
  | some x =>
    cases hj : l[j]? with
    | none => rw [hi, hj] at e; simp at e; have := big x (List.mem_of_getElem? hi); omega
    | some y => rw [hi, hj] at e; simp at e; subst e; exact nodupB_at h i j x hi hj
def preLive (pre : AH) : Prop := ∀ i cs, look pre i = some (.box cs) → D.lives (dom pre) cs = true
def Out.ren (ρ : Nat → Nat) : Out → Out
  | .ret d => .ret (d.ren ρ)
  | .pan d => .pan (d.ren ρ)
theorem mem_keys {ah : AH} {i : Nat} (h : dom ah i = true) : i ∈ keys ah := by
  induction ah with
  | nil => cases h
  | cons p r ih =>
    obtain ⟨k, o⟩ := p
    by_cases hk : k = i
    · subst hk; simp [keys]
    · unfold dom at h
      rw [look_cons_ne _ _ hk] at h
      exact List.mem_cons_of_mem _ (ih h)
theorem mem_of_look {ah : AH} {i : Nat} {o : Ob} (h : look ah i = some o) : (i, o) ∈ ah := by
  induction ah with
  | nil => cases h
  | cons p r ih =>
    obtain ⟨k, o'⟩ := p
    by_cases hk : k = i
    · subst hk; rw [look_cons_self] at h; injection h with h; subst h; exact List.mem_cons_self
    · rw [look_cons_ne _ _ hk] at h; exact List.mem_cons_of_mem _ (ih h)
theorem dom_mem : ∀ {ah : AH} {p : Nat × Ob}, p ∈ ah → dom ah p.1 = true
  | [], p, h => by cases h
  | (k, o) :: r, p, h => by
    unfold dom
    by_cases hk : k = p.1
    · rw [← hk, look_cons_self]; rfl
    · rw [look_cons_ne _ _ hk]
      rcases List.mem_cons.1 h with rfl | h
      · exact absurd rfl hk
      · exact dom_mem h
theorem dom_of {ah : AH} {i : Nat} {o : Ob} (h : look ah i = some o) : dom ah i = true := by unfold dom; rw [h]; rfl
theorem of_dom {ah : AH} {i : Nat} (h : dom ah i = true) : ∃ o, look ah i = some o := by
  unfold dom at h
  cases ho : look ah i with
  | none => rw [ho] at h; cases h
  | some o => exact ⟨o, rfl⟩
theorem call_main {X : Cx} {G : Gh} {w : World} {m : Mem} {f : FuncId} {args : List D} {pre post : AH} {np : Nat} {out : Out} (hc : Con X.P f args pre np out post) (l : List Nat) (hnd : nodupB l = true) (hB : callB l pre post np X.np = true)
    (hO : Ok X G w m) (hpre : ∀ i o, look pre i = some o → m (rho l i) = some (o.ren (rho l))) (hnew : ∀ i, dom post i = true → dom pre i = false → m (rho l i) = none) (hpl : preLive pre) (hal : D.lives (dom pre) args = true)
    (us : List Value) (hA : RepDs G w m (D.rens (rho l) args) us) :
    Calls X.P f us.toArray w fun e w' => ∃ G', Ok X G' w' (over (AH.ren (rho l) post) m) ∧ Ext G w m G' w' (over (AH.ren (rho l) post) m) ∧ OutAt G' w' (over (AH.ren (rho l) post) m) (out.ren (rho l)) e := by
  have hinj := rho_inj hnd
  simp only [callB, Bool.and_eq_true, List.all_eq_true] at hB
  obtain ⟨⟨⟨⟨hB1, hB2⟩, hB3⟩, hB4⟩, hB5⟩ := hB
  have hkk : ∀ i, dom pre i = true → ∃ o, look pre i = some o ∧ m (rho l i) = some (o.ren (rho l)) := fun i hi => by
    obtain ⟨o, ho⟩ := of_dom hi; exact ⟨o, ho, hpre i o ho⟩
  have hgo : ∀ i o, look pre i = some o → ∃ o', look post i = some o' ∧ o.goes o' = true := fun i o ho => by
    have := hB2 (i, o) (mem_of_look ho)
    simp only [ho] at this
    cases hp : look post i with
    | none => rw [hp] at this; cases this
    | some o' => rw [hp] at this; exact ⟨o', rfl, this⟩
  let H : Gh := G.back (rho l)
  let Kf : Nat → Prop := fun g => g < w.heap.size ∧ ∀ i, dom pre i = true → G.μ (rho l i) ≠ some g
  have hSK : ∀ g, H.S g → Kf g := fun g hg => ⟨hO.low g hg, fun i hi he => by
    obtain ⟨o, _, h2⟩ := hkk i hi
    exact (hO.apart _ g (by rw [h2]; simp) he).1 hg⟩
  have hlt : ∀ i g, dom pre i = true → G.μ (rho l i) = some g → g < w.heap.size := fun i g hi hg => by
    obtain ⟨o, _, h2⟩ := hkk i hi
    exact (hO.ob _ _ h2).lt hg
  have hOf : Ok ⟨X.P, 0, w, Kf, H.S, np, H.μ⟩ H w (look pre) := by
    refine ⟨fun i o ho => ?_, fun i j g hi hj hgi hgj => ?_, fun i g hi hg => ?_, hO.low, fun g hg => ⟨hg.1, rfl⟩, rfl, rfl, rfl, Nat.le_refl _, fun g hg => hg, fun g hg _ => hg, fun _ _ _ _ => rfl⟩
    · have h1 := hO.ob _ _ (hpre i o ho)
      cases o with
      | box cs =>
        obtain ⟨g, us, t, h2, h3, h4, h5⟩ := h1
        refine ⟨g, us, t, h2, h3, h4, by rw [h5.1, D.rens_map]; simp, fun j d u hd hu => ?_⟩
        exact (h5.2 j _ u (rens_get hd) hu).into (G := G) (ρ := rho l) (n := look pre) (H := H) (fun _ => rfl) (fun _ => rfl) rfl rfl (dom pre) hkk (D.lives_get (hpl i cs ho) hd)
      | row ver n e c => exact h1
    · have a1 : dom pre i = true := by unfold dom; cases h : look pre i with | none => exact absurd h hi | some _ => rfl
      have a2 : dom pre j = true := by unfold dom; cases h : look pre j with | none => exact absurd h hj | some _ => rfl
      obtain ⟨o1, _, h1⟩ := hkk i a1
      obtain ⟨o2, _, h2⟩ := hkk j a2
      exact hinj _ _ (hO.inj _ _ g (by rw [h1]; simp) (by rw [h2]; simp) hgi hgj)
    · have a1 : dom pre i = true := by unfold dom; cases h : look pre i with | none => exact absurd h hi | some _ => rfl
      obtain ⟨o1, _, h1⟩ := hkk i a1
      exact ⟨(hO.apart _ g (by rw [h1]; simp) hg).1, fun hk => hk.2 i a1 hg⟩
  have hAf : RepDs H w (look pre) args us := ⟨by rw [hA.1, D.rens_map]; simp, fun j d u hd hu => (hA.2 j _ u (rens_get hd) hu).into (G := G) (ρ := rho l) (n := look pre) (H := H) (fun _ => rfl) (fun _ => rfl) rfl rfl (dom pre) hkk (D.lives_get hal hd)⟩
  refine (hc Kf H w us hSK hOf hAf).mono fun e w' ⟨G1, hO1, hout⟩ => ?_
  -- the caller's ghost behind the call
  let inv : Nat → Option Nat := fun j => (keys post).find? fun i => Nat.beq (rho l i) j
  have inv_at : ∀ i, dom post i = true → inv (rho l i) = some i := fun i hi => by
    have hm := mem_keys hi
    cases hf : inv (rho l i) with
    | none =>
      have := List.find?_eq_none.1 hf i hm
      exact absurd (Nat.beq_refl _) this
    | some i' =>
      have h0 : Nat.beq (rho l i') (rho l i) = true := List.find?_some (p := fun k => Nat.beq (rho l k) (rho l i)) hf
      have e := Nat.eq_of_beq_eq_true h0
      rw [hinj _ _ e]
  have inv_no : ∀ j, (∀ i, dom post i = true → rho l i ≠ j) → inv j = none := fun j hj => by
    cases hf : inv j with
    | none => rfl
    | some i =>
      have h0 : Nat.beq (rho l i) j = true := List.find?_some (p := fun i => Nat.beq (rho l i) j) hf
      have h1 := Nat.eq_of_beq_eq_true h0
      have h2 : i ∈ keys post := List.mem_of_find?_eq_some hf
      have h3 : dom post i = true := by
        unfold keys at h2
        obtain ⟨p, hp, rfl⟩ := List.mem_map.1 h2
        exact dom_mem hp
      exact absurd h1 (hj i h3)
  let G' : Gh := ⟨fun j => match inv j with | some i => G1.μ i | none => G.μ j, fun j => match inv j with | some i => G1.cap i | none => G.cap j, G1.S⟩
  have mu_in : ∀ i, dom post i = true → G'.μ (rho l i) = G1.μ i := fun i hi => by show (match inv (rho l i) with | some i => G1.μ i | none => G.μ (rho l i)) = _; rw [inv_at i hi]
  have cap_in : ∀ i, dom post i = true → G'.cap (rho l i) = G1.cap i := fun i hi => by show (match inv (rho l i) with | some i => G1.cap i | none => G.cap (rho l i)) = _; rw [inv_at i hi]
  have mu_out : ∀ j, (∀ i, dom post i = true → rho l i ≠ j) → G'.μ j = G.μ j ∧ G'.cap j = G.cap j := fun j hj => by
    constructor
    · show (match inv j with | some i => G1.μ i | none => G.μ j) = _; rw [inv_no j hj]
    · show (match inv j with | some i => G1.cap i | none => G.cap j) = _; rw [inv_no j hj]
  have ov_in : ∀ i o, look post i = some o → over (AH.ren (rho l) post) m (rho l i) = some (o.ren (rho l)) := fun i o ho => by
    unfold over; rw [look_ren hinj, ho]; rfl
  have ov_out : ∀ j, (∀ i, dom post i = true → rho l i ≠ j) → over (AH.ren (rho l) post) m j = m j := fun j hj => by
    unfold over; rw [look_ren_none post j hj]
  have pre_post : ∀ i, dom pre i = true → dom post i = true := fun i hi => by
    obtain ⟨o, ho⟩ := of_dom hi
    obtain ⟨o', ho', _⟩ := hgo i o ho
    exact dom_of ho'
  have kept : ∀ j g, (∀ i, dom post i = true → rho l i ≠ j) → m j ≠ none → G.μ j = some g → Kf g := fun j g hj hm hg => by
    refine ⟨?_, fun i hi he => ?_⟩
    · cases ho : m j with
      | none => exact absurd ho hm
      | some o => exact (hO.ob j o ho).lt hg
    · obtain ⟨o, _, h2⟩ := hkk i hi
      exact hj i (pre_post i hi) (hO.inj _ _ g (by rw [h2]; simp) hm he hg)
  have XK : ∀ g, X.K g → Kf g := fun g hg => ⟨by have := (hO.keep g hg).1; have := hO.size; omega, fun i hi he => by
    obtain ⟨o, _, h2⟩ := hkk i hi
    exact (hO.apart _ g (by rw [h2]; simp) he).2 hg⟩
  have hout' : ∀ d u, RepD G1 w' (look post) d u → RepD G' w' (over (AH.ren (rho l) post) m) (d.ren (rho l)) u := fun d u h =>
    h.outof (fun i hi => mu_in i (by unfold dom; cases h : look post i with | none => exact absurd h hi | some _ => rfl)) (fun i hi => cap_in i (by unfold dom; cases h : look post i with | none => exact absurd h hi | some _ => rfl)) rfl ov_in
  have hext : Ext G w m G' w' (over (AH.ren (rho l) post) m) := by
    refine ⟨fun g hg => ⟨hO1.s0 g hg, (hO1.keep g (hSK g hg)).2⟩, fun j cs hj => ?_, fun j ver n e c hj => ?_⟩
    · by_cases hin : ∃ i, dom post i = true ∧ rho l i = j
      · obtain ⟨i, hi, rfl⟩ := hin
        cases hpi : dom pre i with
        | false => rw [hnew i hi hpi] at hj; cases hj
        | true =>
          obtain ⟨o, ho, hm⟩ := hkk i hpi
          rw [hm] at hj
          obtain ⟨o', ho', hg⟩ := hgo i o ho
          cases o with
          | row _ _ _ _ => simp [Ob.ren] at hj
          | box cs0 =>
            cases o' with
            | row _ _ _ _ => simp [Ob.goes] at hg
            | box cs1 =>
              refine ⟨_, ov_in i _ ho', ?_⟩
              rw [mu_in i hi]
              exact hO1.pin i cs1 (by have := hB1 i (mem_keys hpi); simpa using this) ho'
      · have hno : ∀ i, dom post i = true → rho l i ≠ j := fun i hi he => hin ⟨i, hi, he⟩
        exact ⟨cs, by rw [ov_out j hno]; exact hj, (mu_out j hno).1⟩
    · by_cases hin : ∃ i, dom post i = true ∧ rho l i = j
      · obtain ⟨i, hi, rfl⟩ := hin
        cases hpi : dom pre i with
        | false => rw [hnew i hi hpi] at hj; cases hj
        | true =>
          obtain ⟨o, ho, hm⟩ := hkk i hpi
          rw [hm] at hj
          obtain ⟨o', ho', hg⟩ := hgo i o ho
          cases o with
          | box _ => simp [Ob.ren] at hj
          | row v0 n0 e0 c0 =>
            simp only [Ob.ren, Option.some.injEq, Ob.row.injEq] at hj
            obtain ⟨rfl, rfl, rfl, rfl⟩ := hj
            cases o' with
            | box _ => simp [Ob.goes] at hg
            | row v1 n1 e1 c1 =>
              simp only [Ob.goes, Bool.and_eq_true] at hg
              obtain ⟨⟨hg1, hg2⟩, hg3⟩ := hg
              have hg1 : v0 < v1 := by simpa using hg1
              obtain rfl := Nat.eq_of_beq_eq_true hg2
              obtain rfl := Nat.eq_of_beq_eq_true hg3
              exact ⟨v1, c1, ov_in i _ ho', by omega, fun he => by omega⟩
      · have hno : ∀ i, dom post i = true → rho l i ≠ j := fun i hi he => hin ⟨i, hi, he⟩
        exact ⟨ver, c, by rw [ov_out j hno]; exact hj, Nat.le_refl _, fun _ => ⟨Nat.le_refl _, (mu_out j hno).1, (mu_out j hno).2⟩⟩
  refine ⟨G', ⟨fun j o hj => ?_, fun i j g hi hj hgi hgj => ?_, fun j g hj hg => ?_, hO1.low, fun g hg => ⟨(hO.keep g hg).1, ((hO1.keep g (XK g hg)).2).trans (hO.keep g hg).2⟩, hO1.os.trans hO.os, hO1.tape.trans hO.tape, hO1.output.trans hO.output, Nat.le_trans hO.size hO1.size, fun g hg => hO1.s0 g (hO.s0 g hg), fun g hg hk => hO.sk g (hO1.sk g hg (XK g hk)) hk, fun j cs hj hm => ?_⟩, hext, ?_⟩
  · by_cases hin : ∃ i, dom post i = true ∧ rho l i = j
    · obtain ⟨i, hi, rfl⟩ := hin
      obtain ⟨o', ho'⟩ := of_dom hi
      rw [ov_in i o' ho'] at hj
      injection hj with hj
      subst hj
      have h1 := hO1.ob i o' ho'
      cases o' with
      | box cs =>
        obtain ⟨g, vs, t, h2, h3, h4, h5⟩ := h1
        refine ⟨g, vs, t, (mu_in i hi).trans h2, h3, h4, by rw [h5.1, D.rens_map]; simp, fun k d u hd hu => ?_⟩
        rw [D.rens_map, List.getElem?_map] at hd
        cases hcs : cs[k]? with
        | none => rw [hcs] at hd; cases hd
        | some d0 => rw [hcs] at hd; injection hd with hd; subst hd; exact hout' d0 u (h5.2 k d0 u hcs hu)
      | row ver n e c =>
        obtain ⟨h2, h3, h4, h5, h6⟩ := h1
        refine ⟨h2, h3, by rw [cap_in i hi]; exact h4, by rw [cap_in i hi]; exact h5, ?_⟩
        rcases h6 with ⟨h7, h8⟩ | ⟨g, cur, us, h7, h8, h9, h11, h12⟩
        · exact .inl ⟨(mu_in i hi).trans h7, (cap_in i hi).trans h8⟩
        · exact .inr ⟨g, cur, us, (mu_in i hi).trans h7, h8, by rw [cap_in i hi]; exact h9, h11, h12⟩
    · have hno : ∀ i, dom post i = true → rho l i ≠ j := fun i hi he => hin ⟨i, hi, he⟩
      rw [ov_out j hno] at hj
      exact (hO.ob j o hj).ext hext (mu_out j hno).1 (mu_out j hno).2 fun g hg => (hO1.keep g (kept j g hno (by rw [hj]; simp) hg)).2
  · by_cases hini : ∃ k, dom post k = true ∧ rho l k = i
    · obtain ⟨k1, hk1, rfl⟩ := hini
      rw [mu_in k1 hk1] at hgi
      have hn1 : look post k1 ≠ none := by obtain ⟨o, ho⟩ := of_dom hk1; rw [ho]; simp
      by_cases hinj' : ∃ k, dom post k = true ∧ rho l k = j
      · obtain ⟨k2, hk2, rfl⟩ := hinj'
        rw [mu_in k2 hk2] at hgj
        have hn2 : look post k2 ≠ none := by obtain ⟨o, ho⟩ := of_dom hk2; rw [ho]; simp
        rw [hO1.inj k1 k2 g hn1 hn2 hgi hgj]
      · have hno : ∀ i, dom post i = true → rho l i ≠ j := fun i hi he => hinj' ⟨i, hi, he⟩
        rw [ov_out j hno] at hj
        rw [(mu_out j hno).1] at hgj
        exact absurd (kept j g hno hj hgj) (hO1.apart k1 g hn1 hgi).2
    · have hnoi : ∀ k, dom post k = true → rho l k ≠ i := fun k hk he => hini ⟨k, hk, he⟩
      rw [ov_out i hnoi] at hi
      rw [(mu_out i hnoi).1] at hgi
      by_cases hinj' : ∃ k, dom post k = true ∧ rho l k = j
      · obtain ⟨k2, hk2, rfl⟩ := hinj'
        rw [mu_in k2 hk2] at hgj
        have hn2 : look post k2 ≠ none := by obtain ⟨o, ho⟩ := of_dom hk2; rw [ho]; simp
        exact absurd (kept i g hnoi hi hgi) (hO1.apart k2 g hn2 hgj).2
      · have hno : ∀ i, dom post i = true → rho l i ≠ j := fun i hi he => hinj' ⟨i, hi, he⟩
        rw [ov_out j hno] at hj
        rw [(mu_out j hno).1] at hgj
        exact hO.inj i j g hi hj hgi hgj
  · by_cases hin : ∃ i, dom post i = true ∧ rho l i = j
    · obtain ⟨i, hi, rfl⟩ := hin
      rw [mu_in i hi] at hg
      have hn1 : look post i ≠ none := by obtain ⟨o, ho⟩ := of_dom hi; rw [ho]; simp
      obtain ⟨a1, a2⟩ := hO1.apart i g hn1 hg
      exact ⟨a1, fun hk => a2 (XK g hk)⟩
    · have hno : ∀ i, dom post i = true → rho l i ≠ j := fun i hi he => hin ⟨i, hi, he⟩
      rw [ov_out j hno] at hj
      rw [(mu_out j hno).1] at hg
      obtain ⟨a1, a2⟩ := hO.apart j g hj hg
      exact ⟨fun hs => a1 (hO1.sk g hs (kept j g hno hj hg)), a2⟩
  · by_cases hin : ∃ i, dom post i = true ∧ rho l i = j
    · obtain ⟨i, hi, rfl⟩ := hin
      obtain ⟨o', ho'⟩ := of_dom hi
      rw [ov_in i o' ho'] at hm
      have hinp : i < np := by
        have h1 := hB3 i (mem_keys hi)
        have h2 := hB4 i (mem_keys hi)
        have h1 : i < l.length := by simpa using h1
        simp only [Bool.or_eq_true] at h2
        rcases h2 with h2 | h2
        · simpa using h2
        · have h3 : X.np ≤ l.getD i 0 := by simpa using h2
          have h4 : rho l i = l.getD i 0 := by unfold rho; simp [h1]
          omega
      have hpi : dom pre i = true := by
        have := hB5 i (mem_keys hi)
        simp only [Bool.or_eq_true] at this
        rcases this with h | h
        · have : np ≤ i := by simpa using h
          omega
        · exact h
      obtain ⟨o, ho, hm0⟩ := hkk i hpi
      obtain ⟨o2, ho2, hg⟩ := hgo i o ho
      rw [ho'] at ho2
      injection ho2 with ho2
      subst ho2
      rw [mu_in i hi]
      cases o' with
      | row _ _ _ _ => simp [Ob.ren] at hm
      | box cs1 =>
        cases o with
        | row _ _ _ _ => simp [Ob.goes] at hg
        | box cs0 =>
          rw [hO1.pin i cs1 hinp ho']
          exact hO.pin (rho l i) _ hj hm0
    · have hno : ∀ i, dom post i = true → rho l i ≠ j := fun i hi he => hin ⟨i, hi, he⟩
      rw [ov_out j hno] at hm
      rw [(mu_out j hno).1]
      exact hO.pin j cs hj hm
  · cases out with
    | ret d => cases e with
      | returned v => exact hout' d v hout
      | panicked c => exact hout.elim
      | outgrown => exact hout.elim
    | pan d => cases e with
      | returned v => exact hout.elim
      | panicked c => obtain ⟨v, h1, h2⟩ := hout; exact ⟨v, h1, hout' d v h2⟩
      | outgrown => exact hout.elim
end Go.Proofs.Ytlfkgbcclinnbaa
