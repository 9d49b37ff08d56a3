/- Abstract states, part 2 of three (several texts in one). No program, no condition. -/
import Derived.Test.YthflfnehdlpmdaaDoorA1
import Derived.Laws.Concat
import Derived.Laws.BytesArg
import Derived.Laws.BytesString
import Derived.Laws.IdiomStrings
import Derived.Laws.Small
import Derived.Lib.AppendStr
/- Abstract states: calls. No program, no condition. -/
namespace Go.Proofs.YthflfnehdlpmdaaDoor
set_option linter.all false
open Go Go.RowKit

mutual
/-- A value, its memories by other names. -/
def D.ren (ρ : Nat → Nat) : D → D
  | .v x => .v x
  | .agg cs => .agg (D.rens ρ cs)
  | .tup ds => .tup (D.rens ρ ds)
  | .ptr id off => .ptr (ρ id) off
  | .view id ver off len => .view (ρ id) ver off len
  | .vptr id ver i j => .vptr (ρ id) ver i j
  | .ref cs => .ref cs
  | .fn f a b => .fn f (D.rens ρ a) (D.rens ρ b)
  | .mref id => .mref (ρ id)
  | .cond b d => .cond b (D.ren ρ d)
  | .any => .any
def D.rens (ρ : Nat → Nat) : List D → List D
  | [] => []
  | d :: ds => D.ren ρ d :: D.rens ρ ds
end
theorem D.rens_map (ρ : Nat → Nat) : ∀ ds : List D, D.rens ρ ds = ds.map (D.ren ρ)
  | [] => rfl
  | d :: ds => by simp [D.rens, D.rens_map ρ ds]
def Ob.ren (ρ : Nat → Nat) : Ob → Ob
  | .box cs => .box (D.rens ρ cs)
  | .row ver n e c => .row ver n e c
  | .mp a l => .mp a l
def AH.ren (ρ : Nat → Nat) : AH → AH
  | [] => []
  | (id, o) :: r => (ρ id, o.ren ρ) :: AH.ren ρ r
/-- The same ghost by the new names. -/
def Gh.back (G : Gh) (ρ : Nat → Nat) : Gh := ⟨fun i => G.μ (ρ i), fun i => G.cap (ρ i), G.S⟩
section
variable {G : Gh} {w : World} {m n : Mem} {ρ : Nat → Nat}
theorem rens_get {ds : List D} {i : Nat} {d : D} (h : ds[i]? = some d) : (D.rens ρ ds)[i]? = some (d.ren ρ) := by rw [D.rens_map, List.getElem?_map, h]; rfl
/-- Out of the new names into the old ones. -/
theorem RepD.into {H : Gh} (hμ : ∀ i, H.μ i = G.μ (ρ i)) (hc : ∀ i, H.cap i = G.cap (ρ i)) (hS : H.S = G.S) : ∀ {d : D} {e : D} {u : Value}, RepD G w m e u → e = d.ren ρ → ∀ k : Nat → Bool, (∀ i, k i = true → ∃ o, n i = some o ∧ m (ρ i) = some (o.ren ρ)) → d.live k = true → RepD H w n d u := by
  intro d e u h
  induction h generalizing d with
  | v x u h =>
    intro he k hk hl
    cases d <;> simp [D.ren] at he
    subst he; exact .v _ _ (by rw [hS]; exact h)
  | agg cs us hl' h1 h ih =>
    intro he k hk hl
    cases d <;> simp [D.ren] at he
    rename_i cs0
    subst he
    refine .agg cs0 us (by rw [hl', D.rens_map]; simp) h1 fun i d u hd hu => ?_
    exact ih i _ u (rens_get hd) hu rfl k hk (D.lives_get (by simpa [D.live] using hl) hd)
  | tup ds us hl' h ih =>
    intro he k hk hl
    cases d <;> simp [D.ren] at he
    rename_i cs0
    subst he
    refine .tup cs0 us (by rw [hl', D.rens_map]; simp) fun i d u hd hu => ?_
    exact ih i _ u (rens_get hd) hu rfl k hk (D.lives_get (by simpa [D.live] using hl) hd)
  | ptr id off g cs h hg =>
    intro he k hk hl
    cases d <;> simp [D.ren] at he
    rename_i id0 off0
    obtain ⟨rfl, rfl⟩ := he
    obtain ⟨o, h1, h2⟩ := hk id0 (by simpa [D.live] using hl)
    rw [h] at h2
    cases o with
    | box cs0 => exact .ptr id0 _ g cs0 h1 (by rw [hμ]; exact hg)
    | row _ _ _ _ => simp [Ob.ren] at h2
    | mp _ _ => simp [Ob.ren] at h2
  | mref id g agg l h hg =>
    intro he k hk hl
    cases d <;> simp [D.ren] at he
    rename_i id0
    subst he
    obtain ⟨o, h1, h2⟩ := hk id0 (by simpa [D.live] using hl)
    rw [h] at h2
    cases o with
    | box _ => simp [Ob.ren] at h2
    | row _ _ _ _ => simp [Ob.ren] at h2
    | mp a0 l0 => exact .mref id0 g a0 l0 h1 (by rw [hμ]; exact hg)
  | view id ver off len u ver' nn e c h hv h1 h2 =>
    intro he k hk hl
    cases d <;> simp [D.ren] at he
    rename_i id0 ver0 off0 len0
    obtain ⟨rfl, rfl, rfl, rfl⟩ := he
    obtain ⟨o, h3, h4⟩ := hk id0 (by simpa [D.live] using hl)
    rw [h] at h4
    cases o with
    | box cs0 => simp [Ob.ren] at h4
    | mp _ _ => simp [Ob.ren] at h4
    | row a b c' d' =>
      simp only [Ob.ren, Option.some.injEq, Ob.row.injEq] at h4
      obtain ⟨rfl, rfl, rfl, rfl⟩ := h4
      refine .view id0 _ _ _ u _ _ _ _ h3 hv h1 fun he => ?_
      obtain ⟨a1, A, cap, a2, a3, a4, a5⟩ := h2 he
      exact ⟨a1, A, cap, a2, by rw [hc]; exact a3, a4, by rw [hμ]; exact a5⟩
  | vptr id ver i j u ver' nn e c h hv h1 h2 =>
    intro he k hk hl
    cases d <;> simp [D.ren] at he
    rename_i id0 ver0 i0 j0
    obtain ⟨rfl, rfl, rfl, rfl⟩ := he
    obtain ⟨o, h3, h4⟩ := hk id0 (by simpa [D.live] using hl)
    rw [h] at h4
    cases o with
    | box cs0 => simp [Ob.ren] at h4
    | mp _ _ => simp [Ob.ren] at h4
    | row a b c' d' =>
      simp only [Ob.ren, Option.some.injEq, Ob.row.injEq] at h4
      obtain ⟨rfl, rfl, rfl, rfl⟩ := h4
      refine .vptr id0 _ _ _ u _ _ _ _ h3 hv h1 fun he => ?_
      obtain ⟨a1, g, a2, a3⟩ := h2 he
      exact ⟨a1, g, by rw [hμ]; exact a2, a3⟩
  | ref cs g o us hz hc' hr =>
    intro he k hk hl
    cases d <;> simp [D.ren] at he
    subst he
    exact .ref _ g o us (by rw [hS]; exact hz) hc' (by rw [hS]; exact hr)
  | fn f first caps us vs hl1 hl2 h h' ih ih' =>
    intro he k hk hl
    cases d <;> simp [D.ren] at he
    rename_i f0 a0 b0
    obtain ⟨rfl, rfl, rfl⟩ := he
    simp only [D.live, Bool.and_eq_true] at hl
    refine .fn _ a0 b0 us vs (by rw [hl1, D.rens_map]; simp) (by rw [hl2, D.rens_map]; simp) (fun i d u hd hu => ?_) (fun i d u hd hu => ?_)
    · exact ih i _ u (rens_get hd) hu rfl k hk (D.lives_get hl.1 hd)
    · exact ih' i _ u (rens_get hd) hu rfl k hk (D.lives_get hl.2 hd)
  | cond b e u h h0 ih =>
    intro he k hk hl
    cases d <;> simp [D.ren] at he
    rename_i b0 d0
    obtain ⟨rfl, rfl⟩ := he
    exact .cond _ d0 u (fun hb => ih hb rfl k hk (by simpa [D.live] using hl)) h0
  | any u =>
    intro he k hk hl
    cases d <;> simp [D.ren] at he
    exact .any u
/-- Out of the old names into the new ones. -/
theorem RepD.outof {H : Gh} {d : D} {u : Value} (h : RepD H w n d u) (hμ : ∀ i, n i ≠ none → G.μ (ρ i) = H.μ i) (hc : ∀ i, n i ≠ none → G.cap (ρ i) = H.cap i) (hS : G.S = H.S) (hm : ∀ i o, n i = some o → m (ρ i) = some (o.ren ρ)) : RepD G w m (d.ren ρ) u := by
  induction h with
  | v x u h => exact .v _ _ (by rw [hS]; exact h)
  | agg cs us hl' h1 h ih =>
    refine .agg _ us (by rw [hl', D.rens_map]; simp) h1 fun i d u hd hu => ?_
    rw [D.rens_map, List.getElem?_map] at hd
    cases hcs : cs[i]? with
    | none => rw [hcs] at hd; cases hd
    | some d0 => rw [hcs] at hd; injection hd with hd; subst hd; exact ih i d0 u hcs hu
  | tup cs us hl' h ih =>
    refine .tup _ us (by rw [hl', D.rens_map]; simp) fun i d u hd hu => ?_
    rw [D.rens_map, List.getElem?_map] at hd
    cases hcs : cs[i]? with
    | none => rw [hcs] at hd; cases hd
    | some d0 => rw [hcs] at hd; injection hd with hd; subst hd; exact ih i d0 u hcs hu
  | ptr id off g cs h hg => exact .ptr (ρ id) off g _ (hm id _ h) ((hμ id (by rw [h]; simp)).trans hg)
  | mref id g agg l h hg => exact .mref (ρ id) g _ _ (hm id _ h) ((hμ id (by rw [h]; simp)).trans hg)
  | view id ver off len u ver' nn e c h hv h1 h2 =>
    refine .view (ρ id) ver off len u ver' nn e c (hm id _ h) hv h1 fun he => ?_
    obtain ⟨a1, A, cap, a2, a3, a4, a5⟩ := h2 he
    exact ⟨a1, A, cap, a2, by rw [hc id (by rw [h]; simp)]; exact a3, a4, by rw [hμ id (by rw [h]; simp)]; exact a5⟩
  | vptr id ver i j u ver' nn e c h hv h1 h2 =>
    refine .vptr (ρ id) ver i j u ver' nn e c (hm id _ h) hv h1 fun he => ?_
    obtain ⟨a1, g, a2, a3⟩ := h2 he
    exact ⟨a1, g, by rw [hμ id (by rw [h]; simp)]; exact a2, a3⟩
  | ref cs g o us hz hc' hr => exact .ref _ g o us (by rw [hS]; exact hz) hc' (by rw [hS]; exact hr)
  | fn f first caps us vs hl1 hl2 h h' ih ih' =>
    refine .fn _ _ _ us vs (by rw [hl1, D.rens_map]; simp) (by rw [hl2, D.rens_map]; simp) (fun i d u hd hu => ?_) (fun i d u hd hu => ?_)
    · rw [D.rens_map, List.getElem?_map] at hd
      cases hcs : first[i]? with
      | none => rw [hcs] at hd; cases hd
      | some d0 => rw [hcs] at hd; injection hd with hd; subst hd; exact ih i d0 u hcs hu
    · rw [D.rens_map, List.getElem?_map] at hd
      cases hcs : caps[i]? with
      | none => rw [hcs] at hd; cases hd
      | some d0 => rw [hcs] at hd; injection hd with hd; subst hd; exact ih' i d0 u hcs hu
  | cond b e u h h0 ih => exact .cond _ _ u (fun hb => ih hb) h0
  | any u => exact .any u
end
/-- What a call may make of a memory that it was given. -/
def Ob.goes : Ob → Ob → Bool
  | .box _, .box _ => true
  | .row v n e _, .row v' n' e' _ => Nat.blt v v' && Nat.beq n n' && Nat.beq e e'
  | .mp _ _, .mp _ _ => true
  | _, _ => false
def keys (ah : AH) : List Nat := ah.map (·.1)
/-- The side conditions of a call by names: all are given names, told apart. -/
def callB (ρ : List Nat) (pre post : AH) (np Xnp : Nat) : Bool :=
  (keys pre).all (fun i => Nat.blt i np) && pre.all (fun p => match look pre p.1, look post p.1 with | some o, some o' => o.goes o' | _, _ => false) &&
  (keys post).all (fun i => Nat.blt i ρ.length) && (keys post).all (fun i => Nat.blt i np || Nat.ble Xnp (ρ.getD i 0)) && (keys post).all (fun i => Nat.ble np i || dom pre i)
theorem look_ren {ρ : Nat → Nat} (hi : ∀ i j, ρ i = ρ j → i = j) : ∀ (ah : AH) (i : Nat), look (AH.ren ρ ah) (ρ i) = (look ah i).map (Ob.ren ρ)
  | [], i => rfl
  | (k, o) :: r, i => by
    unfold AH.ren
    by_cases h : k = i
    · subst h; rw [look_cons_self, look_cons_self]; rfl
    · rw [look_cons_ne _ _ h, look_cons_ne _ _ (fun e => h (hi _ _ e)), look_ren hi r i]
theorem look_ren_none {ρ : Nat → Nat} : ∀ (ah : AH) (j : Nat), (∀ i, dom ah i = true → ρ i ≠ j) → look (AH.ren ρ ah) j = none
  | [], j, _ => rfl
  | (k, o) :: r, j, h => by
    unfold AH.ren
    rw [look_cons_ne _ _ (h k (by unfold dom; rw [look_cons_self]; rfl))]
    refine look_ren_none r j fun i hi => h i ?_
    unfold dom at hi ⊢
    by_cases hk : k = i
    · subst hk; rw [look_cons_self]; rfl
    · rw [look_cons_ne _ _ hk]; exact hi
/-- Names by a list; behind its end others. -/
def rho (l : List Nat) (i : Nat) : Nat := (l[i]?).getD (l.foldl Nat.max 0 + 1 + i)
theorem foldl_max_le : ∀ (l : List Nat) (k x : Nat), x ∈ l ∨ x ≤ k → x ≤ l.foldl Nat.max k
  | [], k, x, h => by simpa using h
  | y :: l, k, x, h => by
    refine foldl_max_le l (Nat.max k y) x ?_
    have e : Nat.max k y = max k y := rfl
    rcases h with h | h
    · rcases List.mem_cons.1 h with rfl | h
      · exact .inr (by omega)
      · exact .inl h
    · exact .inr (by omega)
def nodupB : List Nat → Bool
  | [] => true
  | x :: l => l.all (fun y => !(Nat.beq x y)) && nodupB l
theorem nodupB_at : ∀ {l : List Nat}, nodupB l = true → ∀ (i j x : Nat), l[i]? = some x → l[j]? = some x → i = j
  | [], _, i, j, x, h, _ => by simp at h
  | y :: l, hb, i, j, x, hi, hj => by
    simp only [nodupB, Bool.and_eq_true, List.all_eq_true, Bool.not_eq_true'] at hb
    have hne : ∀ z ∈ l, y ≠ z := fun z hz e => by
      have := hb.1 z hz
      rw [e, Nat.beq_refl] at this; cases this
    cases i with
    | zero =>
      cases j with
      | zero => rfl
      | succ j => simp at hi hj; subst hi; exact absurd rfl (hne _ (List.mem_of_getElem? hj))
    | succ i =>
      cases j with
      | zero => simp at hi hj; subst hj; exact absurd rfl (hne _ (List.mem_of_getElem? hi))
      | succ j => simp at hi hj; rw [nodupB_at hb.2 i j x hi hj]
theorem rho_inj {l : List Nat} (h : nodupB l = true) (i j : Nat) (e : rho l i = rho l j) : i = j := by
  unfold rho at e
  have big : ∀ x, x ∈ l → x ≤ l.foldl Nat.max 0 := fun x hx => foldl_max_le l 0 x (.inl hx)
  cases hi : l[i]? with
  | none =>
    cases hj : l[j]? with
    | none => rw [hi, hj] at e; simp at e; exact e
    | some y => rw [hi, hj] at e; simp at e; have := big y (List.mem_of_getElem? hj); omega
  | some x =>
    cases hj : l[j]? with
    | none => rw [hi, hj] at e; simp at e; have := big x (List.mem_of_getElem? hi); omega
    | some y => rw [hi, hj] at e; simp at e; subst e; exact nodupB_at h i j x hi hj
def preLive (pre : AH) : Prop := ∀ i cs, look pre i = some (.box cs) → D.lives (dom pre) cs = true
def Out.ren (ρ : Nat → Nat) : Out → Out
  | .ret d => .ret (d.ren ρ)
  | .pan d => .pan (d.ren ρ)
theorem mem_keys {ah : AH} {i : Nat} (h : dom ah i = true) : i ∈ keys ah := by
  induction ah with
  | nil => cases h
  | cons p r ih =>
    obtain ⟨k, o⟩ := p
    by_cases hk : k = i
    · subst hk; simp [keys]
    · unfold dom at h
      rw [look_cons_ne _ _ hk] at h
      exact List.mem_cons_of_mem _ (ih h)
theorem mem_of_look {ah : AH} {i : Nat} {o : Ob} (h : look ah i = some o) : (i, o) ∈ ah := by
  induction ah with
  | nil => cases h
  | cons p r ih =>
    obtain ⟨k, o'⟩ := p
    by_cases hk : k = i
    · subst hk; rw [look_cons_self] at h; injection h with h; subst h; exact List.mem_cons_self
    · rw [look_cons_ne _ _ hk] at h; exact List.mem_cons_of_mem _ (ih h)
theorem dom_mem : ∀ {ah : AH} {p : Nat × Ob}, p ∈ ah → dom ah p.1 = true
  | [], p, h => by cases h
  | (k, o) :: r, p, h => by
    unfold dom
    by_cases hk : k = p.1
    · rw [← hk, look_cons_self]; rfl
    · rw [look_cons_ne _ _ hk]
      rcases List.mem_cons.1 h with rfl | h
      · exact absurd rfl hk
      · exact dom_mem h
theorem dom_of {ah : AH} {i : Nat} {o : Ob} (h : look ah i = some o) : dom ah i = true := by unfold dom; rw [h]; rfl
theorem of_dom {ah : AH} {i : Nat} (h : dom ah i = true) : ∃ o, look ah i = some o := by
  unfold dom at h
  cases ho : look ah i with
  | none => rw [ho] at h; cases h
  | some o => exact ⟨o, rfl⟩
/-- What a callee does, in the caller's state, whatever it is that runs. -/
theorem call_mainR {X : Cx} {G : Gh} {w : World} {m : Mem} {args : List D} {pre post : AH} {np : Nat} {out : Out} {us : List Value} {Run : (Ending → World → Prop) → Prop} (mono : ∀ R R' : Ending → World → Prop, (∀ e w', R e w' → R' e w') → Run R → Run R') (l : List Nat)
    (hc : ∀ (K : Nat → Prop) (H : Gh), (∀ g, X.K g → K g) → (∀ g, H.S g → K g) → H.S = G.S → (∀ i, H.μ i = G.μ (rho l i)) → (∀ g, g < w.heap.size → (∀ i, dom pre i = true → G.μ (rho l i) ≠ some g) → K g) → Ok ⟨X.P, 0, w, K, H.S, np, H.μ, []⟩ H w (look pre) → RepDs H w (look pre) args us → Run (fun e w' => ∃ G', Ok ⟨X.P, 0, w, K, H.S, np, H.μ, []⟩ G' w' (look post) ∧ OutAt G' w' (look post) out e))
    (hnd : nodupB l = true) (hB : callB l pre post np X.np = true)
    (hO : Ok X G w m) (hpre : ∀ i o, look pre i = some o → m (rho l i) = some (o.ren (rho l))) (hnew : ∀ i, dom post i = true → dom pre i = false → m (rho l i) = none) (hpl : preLive pre) (hal : D.lives (dom pre) args = true)
    (hA : RepDs G w m (D.rens (rho l) args) us) :
    Run fun e w' => ∃ G', Ok X G' w' (over (AH.ren (rho l) post) m) ∧ Ext G w m G' w' (over (AH.ren (rho l) post) m) ∧ OutAt G' w' (over (AH.ren (rho l) post) m) (out.ren (rho l)) e := by
  have hinj := rho_inj hnd
  simp only [callB, Bool.and_eq_true, List.all_eq_true] at hB
  obtain ⟨⟨⟨⟨hB1, hB2⟩, hB3⟩, hB4⟩, hB5⟩ := hB
  have hkk : ∀ i, dom pre i = true → ∃ o, look pre i = some o ∧ m (rho l i) = some (o.ren (rho l)) := fun i hi => by
    obtain ⟨o, ho⟩ := of_dom hi; exact ⟨o, ho, hpre i o ho⟩
  have hgo : ∀ i o, look pre i = some o → ∃ o', look post i = some o' ∧ o.goes o' = true := fun i o ho => by
    have := hB2 (i, o) (mem_of_look ho)
    simp only [ho] at this
    cases hp : look post i with
    | none => rw [hp] at this; cases this
    | some o' => rw [hp] at this; exact ⟨o', rfl, this⟩
  let H : Gh := G.back (rho l)
  let Kf : Nat → Prop := fun g => g < w.heap.size ∧ ∀ i, dom pre i = true → G.μ (rho l i) ≠ some g
  have hSK : ∀ g, H.S g → Kf g := fun g hg => ⟨hO.low g hg, fun i hi he => by
    obtain ⟨o, _, h2⟩ := hkk i hi
    exact (hO.apart _ g (by rw [h2]; simp) he).1 hg⟩
  have hlt : ∀ i g, dom pre i = true → G.μ (rho l i) = some g → g < w.heap.size := fun i g hi hg => by
    obtain ⟨o, _, h2⟩ := hkk i hi
    exact (hO.ob _ _ h2).lt hg
  have hOf : Ok ⟨X.P, 0, w, Kf, H.S, np, H.μ, []⟩ H w (look pre) := by
    refine ⟨fun i o ho => ?_, fun i j g hi hj hgi hgj => ?_, fun i g hi hg => ?_, hO.low, fun g hg => ⟨hg.1, rfl⟩, rfl, rfl, rfl, Nat.le_refl _, fun g hg => hg, fun g hg _ => hg, fun _ _ _ _ _ => rfl, hO.shpw.mono (K' := Kf) fun g hg => ⟨by have := (hO.keep g hg).1; have := hO.size; omega, fun i hi he => by obtain ⟨o, _, h2⟩ := hkk i hi; exact (hO.apart _ g (by rw [h2]; simp) he).2 hg⟩⟩
    · have h1 := hO.ob _ _ (hpre i o ho)
      cases o with
      | box cs =>
        obtain ⟨g, us, t, h2, h3, h4, h5⟩ := h1
        refine ⟨g, us, t, h2, h3, h4, by rw [h5.1, D.rens_map]; simp, fun j d u hd hu => ?_⟩
        exact (h5.2 j _ u (rens_get hd) hu).into (G := G) (ρ := rho l) (n := look pre) (H := H) (fun _ => rfl) (fun _ => rfl) rfl rfl (dom pre) hkk (D.lives_get (hpl i cs ho) hd)
      | row ver n e c => exact h1
      | mp agg l => exact h1
    · have a1 : dom pre i = true := by unfold dom; cases h : look pre i with | none => exact absurd h hi | some _ => rfl
      have a2 : dom pre j = true := by unfold dom; cases h : look pre j with | none => exact absurd h hj | some _ => rfl
      obtain ⟨o1, _, h1⟩ := hkk i a1
      obtain ⟨o2, _, h2⟩ := hkk j a2
      exact hinj _ _ (hO.inj _ _ g (by rw [h1]; simp) (by rw [h2]; simp) hgi hgj)
    · have a1 : dom pre i = true := by unfold dom; cases h : look pre i with | none => exact absurd h hi | some _ => rfl
      obtain ⟨o1, _, h1⟩ := hkk i a1
      exact ⟨(hO.apart _ g (by rw [h1]; simp) hg).1, fun hk => hk.2 i a1 hg⟩
  have hAf : RepDs H w (look pre) args us := ⟨by rw [hA.1, D.rens_map]; simp, fun j d u hd hu => (hA.2 j _ u (rens_get hd) hu).into (G := G) (ρ := rho l) (n := look pre) (H := H) (fun _ => rfl) (fun _ => rfl) rfl rfl (dom pre) hkk (D.lives_get hal hd)⟩
  have XK0 : ∀ g, X.K g → Kf g := fun g hg => ⟨by have := (hO.keep g hg).1; have := hO.size; omega, fun i hi he => by
    obtain ⟨o, _, h2⟩ := hkk i hi
    exact (hO.apart _ g (by rw [h2]; simp) he).2 hg⟩
  refine mono _ _ (fun e w' ⟨G1, hO1, hout⟩ => ?_) (hc Kf H XK0 hSK rfl (fun _ => rfl) (fun g h1 h2 => ⟨h1, h2⟩) hOf hAf)
  -- the caller's ghost behind the call
  let inv : Nat → Option Nat := fun j => (keys post).find? fun i => Nat.beq (rho l i) j
  have inv_at : ∀ i, dom post i = true → inv (rho l i) = some i := fun i hi => by
    have hm := mem_keys hi
    cases hf : inv (rho l i) with
    | none =>
      have := List.find?_eq_none.1 hf i hm
      exact absurd (Nat.beq_refl _) this
    | some i' =>
      have h0 : Nat.beq (rho l i') (rho l i) = true := List.find?_some (p := fun k => Nat.beq (rho l k) (rho l i)) hf
      have e := Nat.eq_of_beq_eq_true h0
      rw [hinj _ _ e]
  have inv_no : ∀ j, (∀ i, dom post i = true → rho l i ≠ j) → inv j = none := fun j hj => by
    cases hf : inv j with
    | none => rfl
    | some i =>
      have h0 : Nat.beq (rho l i) j = true := List.find?_some (p := fun i => Nat.beq (rho l i) j) hf
      have h1 := Nat.eq_of_beq_eq_true h0
      have h2 : i ∈ keys post := List.mem_of_find?_eq_some hf
      have h3 : dom post i = true := by
        unfold keys at h2
        obtain ⟨p, hp, rfl⟩ := List.mem_map.1 h2
        exact dom_mem hp
      exact absurd h1 (hj i h3)
  let G' : Gh := ⟨fun j => match inv j with | some i => G1.μ i | none => G.μ j, fun j => match inv j with | some i => G1.cap i | none => G.cap j, G1.S⟩
  have mu_in : ∀ i, dom post i = true → G'.μ (rho l i) = G1.μ i := fun i hi => by show (match inv (rho l i) with | some i => G1.μ i | none => G.μ (rho l i)) = _; rw [inv_at i hi]
  have cap_in : ∀ i, dom post i = true → G'.cap (rho l i) = G1.cap i := fun i hi => by show (match inv (rho l i) with | some i => G1.cap i | none => G.cap (rho l i)) = _; rw [inv_at i hi]
  have mu_out : ∀ j, (∀ i, dom post i = true → rho l i ≠ j) → G'.μ j = G.μ j ∧ G'.cap j = G.cap j := fun j hj => by
    constructor
    · show (match inv j with | some i => G1.μ i | none => G.μ j) = _; rw [inv_no j hj]
    · show (match inv j with | some i => G1.cap i | none => G.cap j) = _; rw [inv_no j hj]
  have ov_in : ∀ i o, look post i = some o → over (AH.ren (rho l) post) m (rho l i) = some (o.ren (rho l)) := fun i o ho => by
    unfold over; rw [look_ren hinj, ho]; rfl
  have ov_out : ∀ j, (∀ i, dom post i = true → rho l i ≠ j) → over (AH.ren (rho l) post) m j = m j := fun j hj => by
    unfold over; rw [look_ren_none post j hj]
  have pre_post : ∀ i, dom pre i = true → dom post i = true := fun i hi => by
    obtain ⟨o, ho⟩ := of_dom hi
    obtain ⟨o', ho', _⟩ := hgo i o ho
    exact dom_of ho'
  have kept : ∀ j g, (∀ i, dom post i = true → rho l i ≠ j) → m j ≠ none → G.μ j = some g → Kf g := fun j g hj hm hg => by
    refine ⟨?_, fun i hi he => ?_⟩
    · cases ho : m j with
      | none => exact absurd ho hm
      | some o => exact (hO.ob j o ho).lt hg
    · obtain ⟨o, _, h2⟩ := hkk i hi
      exact hj i (pre_post i hi) (hO.inj _ _ g (by rw [h2]; simp) hm he hg)
  have XK : ∀ g, X.K g → Kf g := fun g hg => ⟨by have := (hO.keep g hg).1; have := hO.size; omega, fun i hi he => by
    obtain ⟨o, _, h2⟩ := hkk i hi
    exact (hO.apart _ g (by rw [h2]; simp) he).2 hg⟩
  have hout' : ∀ d u, RepD G1 w' (look post) d u → RepD G' w' (over (AH.ren (rho l) post) m) (d.ren (rho l)) u := fun d u h =>
    h.outof (fun i hi => mu_in i (by unfold dom; cases h : look post i with | none => exact absurd h hi | some _ => rfl)) (fun i hi => cap_in i (by unfold dom; cases h : look post i with | none => exact absurd h hi | some _ => rfl)) rfl ov_in
  have hext : Ext G w m G' w' (over (AH.ren (rho l) post) m) := by
    refine ⟨fun g hg => ⟨hO1.s0 g hg, (hO1.keep g (hSK g hg)).2⟩, fun j cs hj => ?_, fun j ver n e c hj => ?_, fun j a0 l0 hj => ?_⟩
    · by_cases hin : ∃ i, dom post i = true ∧ rho l i = j
      · obtain ⟨i, hi, rfl⟩ := hin
        cases hpi : dom pre i with
        | false => rw [hnew i hi hpi] at hj; cases hj
        | true =>
          obtain ⟨o, ho, hm⟩ := hkk i hpi
          rw [hm] at hj
          obtain ⟨o', ho', hg⟩ := hgo i o ho
          cases o with
          | row _ _ _ _ => simp [Ob.ren] at hj
          | mp _ _ => simp [Ob.ren] at hj
          | box cs0 =>
            cases o' with
            | row _ _ _ _ => simp [Ob.goes] at hg
            | mp _ _ => simp [Ob.goes] at hg
            | box cs1 =>
              refine ⟨_, ov_in i _ ho', ?_⟩
              rw [mu_in i hi]
              exact hO1.pin i _ (by have := hB1 i (mem_keys hpi); simpa using this) ho' rfl
      · have hno : ∀ i, dom post i = true → rho l i ≠ j := fun i hi he => hin ⟨i, hi, he⟩
        exact ⟨cs, by rw [ov_out j hno]; exact hj, (mu_out j hno).1⟩
    · by_cases hin : ∃ i, dom post i = true ∧ rho l i = j
      · obtain ⟨i, hi, rfl⟩ := hin
        cases hpi : dom pre i with
        | false => rw [hnew i hi hpi] at hj; cases hj
        | true =>
          obtain ⟨o, ho, hm⟩ := hkk i hpi
          rw [hm] at hj
          obtain ⟨o', ho', hg⟩ := hgo i o ho
          cases o with
          | box _ => simp [Ob.ren] at hj
          | mp _ _ => simp [Ob.ren] at hj
          | row v0 n0 e0 c0 =>
            simp only [Ob.ren, Option.some.injEq, Ob.row.injEq] at hj
            obtain ⟨rfl, rfl, rfl, rfl⟩ := hj
            cases o' with
            | box _ => simp [Ob.goes] at hg
            | mp _ _ => simp [Ob.goes] at hg
            | row v1 n1 e1 c1 =>
              simp only [Ob.goes, Bool.and_eq_true] at hg
              obtain ⟨⟨hg1, hg2⟩, hg3⟩ := hg
              have hg1 : v0 < v1 := by simpa using hg1
              obtain rfl := Nat.eq_of_beq_eq_true hg2
              obtain rfl := Nat.eq_of_beq_eq_true hg3
              exact ⟨v1, c1, ov_in i _ ho', by omega, fun he => by omega⟩
      · have hno : ∀ i, dom post i = true → rho l i ≠ j := fun i hi he => hin ⟨i, hi, he⟩
        exact ⟨ver, c, by rw [ov_out j hno]; exact hj, Nat.le_refl _, fun _ => ⟨Nat.le_refl _, (mu_out j hno).1, (mu_out j hno).2⟩⟩
    · by_cases hin : ∃ i, dom post i = true ∧ rho l i = j
      · obtain ⟨i, hi, rfl⟩ := hin
        cases hpi : dom pre i with
        | false => rw [hnew i hi hpi] at hj; cases hj
        | true =>
          obtain ⟨o, ho, hm⟩ := hkk i hpi
          rw [hm] at hj
          obtain ⟨o', ho', hg⟩ := hgo i o ho
          cases o with
          | row _ _ _ _ => simp [Ob.ren] at hj
          | box _ => simp [Ob.ren] at hj
          | mp q1 q2 =>
            cases o' with
            | row _ _ _ _ => simp [Ob.goes] at hg
            | box _ => simp [Ob.goes] at hg
            | mp q3 q4 =>
              refine ⟨q3, q4, ov_in i _ ho', ?_⟩
              rw [mu_in i hi]
              exact hO1.pin i _ (by have := hB1 i (mem_keys hpi); simpa using this) ho' rfl
      · have hno : ∀ i, dom post i = true → rho l i ≠ j := fun i hi he => hin ⟨i, hi, he⟩
        exact ⟨a0, l0, by rw [ov_out j hno]; exact hj, (mu_out j hno).1⟩
  refine ⟨G', ⟨fun j o hj => ?_, fun i j g hi hj hgi hgj => ?_, fun j g hj hg => ?_, hO1.low, fun g hg => ⟨(hO.keep g hg).1, ((hO1.keep g (XK g hg)).2).trans (hO.keep g hg).2⟩, hO1.os.trans hO.os, hO1.tape.trans hO.tape, hO1.output.trans hO.output, Nat.le_trans hO.size hO1.size, fun g hg => hO1.s0 g (hO.s0 g hg), fun g hg hk => hO.sk g (hO1.sk g hg (XK g hk)) hk, fun j oo hj hm hf => ?_, hO.shp⟩, hext, ?_⟩
  · by_cases hin : ∃ i, dom post i = true ∧ rho l i = j
    · obtain ⟨i, hi, rfl⟩ := hin
      obtain ⟨o', ho'⟩ := of_dom hi
      rw [ov_in i o' ho'] at hj
      injection hj with hj
      subst hj
      have h1 := hO1.ob i o' ho'
      cases o' with
      | box cs =>
        obtain ⟨g, vs, t, h2, h3, h4, h5⟩ := h1
        refine ⟨g, vs, t, (mu_in i hi).trans h2, h3, h4, by rw [h5.1, D.rens_map]; simp, fun k d u hd hu => ?_⟩
        rw [D.rens_map, List.getElem?_map] at hd
        cases hcs : cs[k]? with
        | none => rw [hcs] at hd; cases hd
        | some d0 => rw [hcs] at hd; injection hd with hd; subst hd; exact hout' d0 u (h5.2 k d0 u hcs hu)
      | row ver n e c =>
        obtain ⟨h2, h3, h4, h5, h6⟩ := h1
        refine ⟨h2, h3, by rw [cap_in i hi]; exact h4, by rw [cap_in i hi]; exact h5, ?_⟩
        rcases h6 with ⟨h7, h8⟩ | ⟨g, cur, us, fz, e0', hz, h7, h8, h9, h11, h12⟩
        · exact .inl ⟨(mu_in i hi).trans h7, (cap_in i hi).trans h8⟩
        · exact .inr ⟨g, cur, us, fz, e0', hz, (mu_in i hi).trans h7, h8, by rw [cap_in i hi]; exact h9, h11, h12⟩
      | mp agg q =>
        obtain ⟨g, es, clk, h2, h3, h4, h5⟩ := h1
        exact ⟨g, es, clk, (mu_in i hi).trans h2, h3, h4, h5⟩
    · have hno : ∀ i, dom post i = true → rho l i ≠ j := fun i hi he => hin ⟨i, hi, he⟩
      rw [ov_out j hno] at hj
      exact (hO.ob j o hj).ext hext (mu_out j hno).1 (mu_out j hno).2 fun g hg => (hO1.keep g (kept j g hno (by rw [hj]; simp) hg)).2
  · by_cases hini : ∃ k, dom post k = true ∧ rho l k = i
    · obtain ⟨k1, hk1, rfl⟩ := hini
      rw [mu_in k1 hk1] at hgi
      have hn1 : look post k1 ≠ none := by obtain ⟨o, ho⟩ := of_dom hk1; rw [ho]; simp
      by_cases hinj' : ∃ k, dom post k = true ∧ rho l k = j
      · obtain ⟨k2, hk2, rfl⟩ := hinj'
        rw [mu_in k2 hk2] at hgj
        have hn2 : look post k2 ≠ none := by obtain ⟨o, ho⟩ := of_dom hk2; rw [ho]; simp
        rw [hO1.inj k1 k2 g hn1 hn2 hgi hgj]
      · have hno : ∀ i, dom post i = true → rho l i ≠ j := fun i hi he => hinj' ⟨i, hi, he⟩
        rw [ov_out j hno] at hj
        rw [(mu_out j hno).1] at hgj
        exact absurd (kept j g hno hj hgj) (hO1.apart k1 g hn1 hgi).2
    · have hnoi : ∀ k, dom post k = true → rho l k ≠ i := fun k hk he => hini ⟨k, hk, he⟩
      rw [ov_out i hnoi] at hi
      rw [(mu_out i hnoi).1] at hgi
      by_cases hinj' : ∃ k, dom post k = true ∧ rho l k = j
      · obtain ⟨k2, hk2, rfl⟩ := hinj'
        rw [mu_in k2 hk2] at hgj
        have hn2 : look post k2 ≠ none := by obtain ⟨o, ho⟩ := of_dom hk2; rw [ho]; simp
        exact absurd (kept i g hnoi hi hgi) (hO1.apart k2 g hn2 hgj).2
      · have hno : ∀ i, dom post i = true → rho l i ≠ j := fun i hi he => hinj' ⟨i, hi, he⟩
        rw [ov_out j hno] at hj
        rw [(mu_out j hno).1] at hgj
        exact hO.inj i j g hi hj hgi hgj
  · by_cases hin : ∃ i, dom post i = true ∧ rho l i = j
    · obtain ⟨i, hi, rfl⟩ := hin
      rw [mu_in i hi] at hg
      have hn1 : look post i ≠ none := by obtain ⟨o, ho⟩ := of_dom hi; rw [ho]; simp
      obtain ⟨a1, a2⟩ := hO1.apart i g hn1 hg
      exact ⟨a1, fun hk => a2 (XK g hk)⟩
    · have hno : ∀ i, dom post i = true → rho l i ≠ j := fun i hi he => hin ⟨i, hi, he⟩
      rw [ov_out j hno] at hj
      rw [(mu_out j hno).1] at hg
      obtain ⟨a1, a2⟩ := hO.apart j g hj hg
      exact ⟨fun hs => a1 (hO1.sk g hs (kept j g hno hj hg)), a2⟩
  · by_cases hin : ∃ i, dom post i = true ∧ rho l i = j
    · obtain ⟨i, hi, rfl⟩ := hin
      obtain ⟨o', ho'⟩ := of_dom hi
      rw [ov_in i o' ho'] at hm
      have hinp : i < np := by
        have h1 := hB3 i (mem_keys hi)
        have h2 := hB4 i (mem_keys hi)
        have h1 : i < l.length := by simpa using h1
        simp only [Bool.or_eq_true] at h2
        rcases h2 with h2 | h2
        · simpa using h2
        · have h3 : X.np ≤ l.getD i 0 := by simpa using h2
          have h4 : rho l i = l.getD i 0 := by unfold rho; simp [h1]
          omega
      have hpi : dom pre i = true := by
        have := hB5 i (mem_keys hi)
        simp only [Bool.or_eq_true] at this
        rcases this with h | h
        · have : np ≤ i := by simpa using h
          omega
        · exact h
      obtain ⟨o, ho, hm0⟩ := hkk i hpi
      obtain ⟨o2, ho2, hg⟩ := hgo i o ho
      rw [ho'] at ho2
      injection ho2 with ho2
      subst ho2
      rw [mu_in i hi]
      injection hm with hm
      subst hm
      have hf' : o'.fixed = true := by cases o' <;> first | rfl | (simp [Ob.ren, Ob.fixed] at hf; done)
      have hf0 : (o.ren (rho l)).fixed = true := by cases o <;> cases o' <;> first | rfl | (simp [Ob.goes] at hg; done) | cases hf'
      rw [hO1.pin i o' hinp ho' hf']
      exact hO.pin (rho l i) _ hj hm0 hf0
    · have hno : ∀ i, dom post i = true → rho l i ≠ j := fun i hi he => hin ⟨i, hi, he⟩
      rw [ov_out j hno] at hm
      rw [(mu_out j hno).1]
      exact hO.pin j _ hj hm hf
  · cases out with
    | ret d => cases e with
      | returned v => exact hout' d v hout
      | panicked c => exact hout.elim
      | outgrown => exact hout.elim
    | pan d => cases e with
      | returned v => exact hout.elim
      | panicked c => obtain ⟨v, h1, h2⟩ := hout; exact ⟨v, h1, hout' d v h2⟩
      | outgrown => exact hout.elim
end Go.Proofs.YthflfnehdlpmdaaDoor
/- Abstract states: calls as operations; texts and slices. No program, no condition. -/
namespace Go.Proofs.YthflfnehdlpmdaaDoor
set_option linter.all false
open Go Go.RowKit

theorem call_main {X : Cx} {G : Gh} {w : World} {m : Mem} {f : FuncId} {args : List D} {pre post : AH} {np : Nat} {out : Out} (hc : Con X.P f args pre np out post) (l : List Nat) (hnd : nodupB l = true) (hB : callB l pre post np X.np = true)
    (hO : Ok X G w m) (hpre : ∀ i o, look pre i = some o → m (rho l i) = some (o.ren (rho l))) (hnew : ∀ i, dom post i = true → dom pre i = false → m (rho l i) = none) (hpl : preLive pre) (hal : D.lives (dom pre) args = true)
    (us : List Value) (hA : RepDs G w m (D.rens (rho l) args) us) :
    Calls X.P f us.toArray w fun e w' => ∃ G', Ok X G' w' (over (AH.ren (rho l) post) m) ∧ Ext G w m G' w' (over (AH.ren (rho l) post) m) ∧ OutAt G' w' (over (AH.ren (rho l) post) m) (out.ren (rho l)) e :=
  call_mainR (Run := fun R => Calls X.P f us.toArray w R) (fun _ _ h hc => hc.mono h) l (fun K H _ h1 _ _ _ h2 h3 => hc K H w us h1 h2 h3) hnd hB hO hpre hnew hpl hal hA
/-- A function with a body is entered. -/
def entersB (P : Program) (f : FuncId) : Bool := match P.funcs[f]? with | some fn => !(fn.name == "runtime.NumGoroutine") && !fn.body.isNone | none => false
theorem run_enters {P : Program} {f : FuncId} (h : entersB P f = true) (args : Array Value) (w : World) : (callFunc f args).run P w = .ok (.enter f args) w := by
  unfold entersB at h
  cases hf : P.funcs[f]? with
  | none => rw [hf] at h; cases h
  | some fn =>
    rw [hf] at h
    simp only [Bool.and_eq_true, Bool.not_eq_true'] at h
    have h1 : ¬ fn.name = "runtime.NumGoroutine" := by simpa using h.1
    have h2 : ¬ fn.body = none := by intro e; rw [e] at h; simp at h
    simp [callFunc, hf, h1, h2]
inductive EvL (f : Nat → D) : List Operand → List D → Prop
  | nil : EvL f [] []
  | cons {x : Operand} {d : D} {xs : List Operand} {ds : List D} (h : Ev f x d) (r : EvL f xs ds) : EvL f (x :: xs) (d :: ds)
theorem EvL.rep {f f' : Nat → D} {G : Gh} {w : World} {m : Mem} {a : Act} (hF : FrOk G w m f' a) : ∀ {xs : List Operand} {ds : List D}, EvL f xs ds → (∀ x ∈ xs, ∀ t, x = .tmp t → f' t = f t) → RepDs G w m ds (xs.map a.eval) := by
  intro xs ds h
  induction h with
  | nil => intro _; exact .nil
  | @cons x d xs ds h r ih => exact fun hf => .cons (h f' (fun t ht => hf x List.mem_cons_self t ht) G w m a hF) (ih fun y hy => hf y (List.mem_cons_of_mem _ hy))
mutual
theorem D.ren_dead (ρ : Nat → Nat) : ∀ d : D, d.live (fun _ => false) = true → d.ren ρ = d
  | .v x, _ => rfl
  | .agg cs, h => by simp only [D.ren]; rw [D.rens_dead ρ cs (by simpa [D.live] using h)]
  | .tup cs, h => by simp only [D.ren]; rw [D.rens_dead ρ cs (by simpa [D.live] using h)]
  | .ptr id off, h => by simp [D.live] at h
  | .view id _ _ _, h => by simp [D.live] at h
  | .vptr id _ _ _, h => by simp [D.live] at h
  | .mref id, h => by simp [D.live] at h
  | .ref cs, _ => rfl
  | .fn f a b, h => by
    simp only [D.live, Bool.and_eq_true] at h
    simp only [D.ren]
    rw [D.rens_dead ρ a h.1, D.rens_dead ρ b h.2]
  | .cond b d, h => by simp only [D.ren]; rw [D.ren_dead ρ d (by simpa [D.live] using h)]
  | .any, _ => rfl
theorem D.rens_dead (ρ : Nat → Nat) : ∀ ds : List D, D.lives (fun _ => false) ds = true → D.rens ρ ds = ds
  | [], _ => rfl
  | d :: ds, h => by
    simp only [D.lives, Bool.and_eq_true] at h
    simp only [D.rens]
    rw [D.ren_dead ρ d h.1, D.rens_dead ρ ds h.2]
end
inductive PreAt (m : Mem) (ρ : Nat → Nat) : AH → Prop
  | nil : PreAt m ρ []
  | cons {i : Nat} {o : Ob} {r : AH} (h : m (ρ i) = some (o.ren ρ)) (hr : PreAt m ρ r) : PreAt m ρ ((i, o) :: r)
theorem PreAt.at {m : Mem} {ρ : Nat → Nat} {pre : AH} (h : PreAt m ρ pre) : ∀ i o, look pre i = some o → m (ρ i) = some (o.ren ρ) := by
  induction h with
  | nil => intro i o h; cases h
  | @cons k o r h hr ih =>
    intro i o' ho
    by_cases hk : k = i
    · subst hk; rw [look_cons_self] at ho; injection ho with ho; subst ho; exact h
    · rw [look_cons_ne _ _ hk] at ho; exact ih i o' ho
section
variable {X : Cx} {o : Oper} {f : Nat → D} {m : Mem} {d : D} {T : List Nat}
theorem run_call_func {P : Program} {w : World} {a : Act} {g : FuncId} {xs : Array Operand} {tys : Array TypeId} (ho : o.op = .call { callee := .value (.func g), args := xs, argTypes := tys }) (he : entersB P g = true) :
    (execOp a.eval o).run P w = .ok (.enter g (xs.map a.eval)) w := by
  have h1 : (execOp a.eval o).run P w = (callFunc g (xs.map a.eval)).run P w := by
    simp [execOp, ho, resolve, Act.eval, Deferred.ofValue, invoke]
  rw [h1, run_enters he]
theorem stepU_call {g : FuncId} {xs : Array Operand} {tys : Array TypeId} {args : List D} {pre post : AH} {np : Nat} {r : D} {upd : AH} (l : List Nat) (ho : o.op = .call { callee := .value (.func g), args := xs, argTypes := tys }) (he : entersB X.P g = true)
    (hc : Con X.P g args pre np (.ret r) post) (hx : EvL f xs.toList (D.rens (rho l) args)) (hpre : PreAt m (rho l) pre) (hnd : nodupB l = true) (hB : callB l pre post np X.np = true) (hpl : preLive pre) (hal : D.lives (dom pre) args = true)
    (hu : AH.ren (rho l) post = upd) (hd : r.ren (rho l) = d) : StepU X o f m d upd ((keys pre).map (rho l)) := by
  subst hu hd
  intro f' m' hf hT hn G w a hO hF K Q hK
  have hA := hx.rep hF (fun x hx t ht => hf t (by subst ht; rw [ho]; simp only [Op.operands, Call.operands]; exact Array.mem_append.2 (.inr (by simpa using hx))))
  have hinj := rho_inj hnd
  have hpre' : ∀ i o, look pre i = some o → m' (rho l i) = some (o.ren (rho l)) := fun i o h => by
    rw [hT (rho l i) (List.mem_map.2 ⟨i, mem_keys (dom_of h), rfl⟩)]; exact hpre.at i o h
  have hnew : ∀ i, dom post i = true → dom pre i = false → m' (rho l i) = none := fun i h1 h2 => by
    obtain ⟨o', ho'⟩ := of_dom h1
    have hin : (rho l i, o'.ren (rho l)) ∈ AH.ren (rho l) post := by
      have := mem_of_look (ah := AH.ren (rho l) post) (i := rho l i) (o := o'.ren (rho l)) (by rw [look_ren hinj, ho']; rfl)
      exact this
    refine hn _ hin fun hmem => ?_
    obtain ⟨j, hj, he⟩ := List.mem_map.1 hmem
    have := hinj _ _ he
    subst this
    unfold keys at hj
    obtain ⟨p, hp, rfl⟩ := List.mem_map.1 hj
    rw [dom_mem hp] at h2; cases h2
  unfold Oper.wp
  rw [run_call_func ho he, Oper.upon_enter]
  have hus : (xs.toList.map a.eval).toArray = xs.map a.eval := by rw [← Array.toList_map]
  rw [← hus]
  refine (call_main hc l hnd hB hO hpre' hnew hpl hal _ hA).mono fun e w' ⟨G', h1, h2, h3⟩ => ?_
  cases e with
  | returned v => exact hK G' w' v h1 h2 h3
  | panicked c => exact h3.elim
  | outgrown => exact h3.elim
/-- A call that touches no memory of one's own. -/
theorem stepU_call0 {g : FuncId} {xs : Array Operand} {tys : Array TypeId} {args : List D} {np : Nat} (ho : o.op = .call { callee := .value (.func g), args := xs, argTypes := tys }) (he : entersB X.P g = true)
    (hc : Con X.P g args [] np (.ret d) []) (hx : EvL f xs.toList args) (ha : D.lives (fun _ => false) args = true) (hd : d.live (fun _ => false) = true) : StepU X o f m d [] [] :=
  stepU_call [] ho he hc (by rw [D.rens_dead _ _ ha]; exact hx) .nil rfl rfl (fun i cs h => by cases h) ha rfl (D.ren_dead _ _ hd)
theorem rep_sl {G : Gh} {w : World} {m : Mem} {c : List (List V)} {u : Value} (h : RepD G w m (.v (.sl c)) u) : RepV G.S w (.sl c) u := by cases h with | v _ _ h => exact h
theorem repV_len {Z : Nat → Prop} {w : World} {c : List (List V)} {u : Value} (h : RepV Z w (.sl c) u) : ∃ A cap, u = .slice A c.length cap ∧ c.length ≤ cap ∧ cap ≤ maxLen := by
  cases h with
  | nil A cap hm => exact ⟨A, cap, rfl, Nat.zero_le _, hm⟩
  | sl _ g o n cap us hne hz hn hs hcap hm hc hr => exact ⟨_, cap, rfl, hcap, hm⟩
/-- len(x) -/
theorem stepU_len {x : Operand} {t e : TypeId} {c : List (List V)} (ho : o.op = .call { callee := .builtin .len, args := #[x], argTypes := #[t] }) (ht : X.P.underlying t = some (.slice e)) (hx : Ev f x (.v (.sl c))) : StepU X o f m (.v (.int .i64 (c.length : Int))) [] [] :=
  stepU_pure fun f' m' hf _ G w a _ hF => by
    obtain ⟨A, cap, h, _⟩ := repV_len (rep_sl (ev_at hx (by simp [ho, Op.operands, Call.operands]) hf hF))
    exact ⟨_, by simp [execOp, ho, resolve, invoke, builtin, Builtin.len_, run_underlying ht, h, goInt], mk_int _ _⟩
theorem stepU_lenS {x : Operand} {t : TypeId} {l : List UInt8} (ho : o.op = .call { callee := .builtin .len, args := #[x], argTypes := #[t] }) (ht : X.P.underlying t = some .string) (hx : Ev f x (.v (.str l))) : StepU X o f m (.v (.int .i64 (l.length : Int))) [] [] :=
  stepU_pure fun f' m' hf _ G w a _ hF => by
    have h := rep_str (ev_at hx (by simp [ho, Op.operands, Call.operands]) hf hF)
    exact ⟨_, by simp [execOp, ho, resolve, invoke, builtin, Builtin.len_, run_underlying ht, h, goInt], mk_int _ _⟩
theorem stepU_lenV {x : Operand} {t e : TypeId} {id ver off len n : Nat} {e' : TypeId} {c : List (List V)} (ho : o.op = .call { callee := .builtin .len, args := #[x], argTypes := #[t] }) (ht : X.P.underlying t = some (.slice e)) (hx : Ev f x (.view id ver off len)) (hm : m id = some (.row ver n e' c)) : StepU X o f m (.v (.int .i64 (len : Int))) [] [id] :=
  stepU_pure fun f' m' hf hT G w a _ hF => by
    have h := ev_at hx (by simp [ho, Op.operands, Call.operands]) hf hF
    have hm' := (hT id (by simp)).trans hm
    generalize hu : a.eval x = u at h
    cases h with
    | view _ _ _ _ _ ver' n' e'' c' h hv h1 h2 =>
      rw [hm'] at h
      injection h with h
      injection h with h3 h4 h5 h6
      subst h3
      obtain ⟨_, A, cap, rfl, _⟩ := h2 rfl
      exact ⟨_, by simp [execOp, ho, resolve, invoke, builtin, Builtin.len_, run_underlying ht, hu, goInt], mk_int _ _⟩
/-- x[i] of a text. -/
theorem stepU_indexS {x y : Operand} {t : TypeId} {l : List UInt8} {i : Nat} {k : IntKind} {p : Int} {b : UInt8} (ho : o.op = .index t x y) (ht : X.P.underlying t = some .string) (hx : Ev f x (.v (.str l))) (hy : Ev f y (.v (.int k p))) (hp : p = (i : Int)) (hb : l[i]? = some b) : StepU X o f m (.v (.int .u8 (b.toNat : Int))) [] [] :=
  stepU_pure fun f' m' hf _ G w a _ hF => by
    have h1 := rep_str (ev_at hx (by simp [ho, Op.operands]) hf hF)
    have h2 := rep_int (ev_at hy (by simp [ho, Op.operands]) hf hF)
    subst hp
    refine ⟨.int .u8 (b.toNat : Int), ?_, mk_int _ _⟩
    have hs : (S l)[i]? = some b := by
      have hlt : i < l.length := (List.getElem?_eq_some_iff.1 hb).1
      have h3 : (S l)[i]? = (S l).toList[i]? := by rw [getElem?_pos (S l) i (by rw [S_size]; exact hlt), getElem?_pos (S l).toList i (by simpa using hlt), toget]
      rw [h3, S_toList, hb]
    simp [execOp, ho, h1, h2, Instr.index, asIntOf, run_underlying ht, hs]
/-- &x[i] of a slice that will not change. -/
theorem stepU_indexAddr {x y : Operand} {t e : TypeId} {c : List (List V)} {i : Nat} {k : IntKind} {p : Int} {cs : List V} {n : Nat} {b : Bool} (ho : o.op = .indexAddr t x y) (ht : X.P.underlying t = some (.slice e)) (hs : sizeB X.P e = some (b, n)) (hx : Ev f x (.v (.sl c))) (hy : Ev f y (.v (.int k p))) (hp : p = (i : Int)) (hb : c[i]? = some cs) (hn : cs.length = n) :
    StepU X o f m (.ref cs) [] [] :=
  stepU_pure fun f' m' hf _ G w a _ hF => by
    have h1 := rep_sl (ev_at hx (by simp [ho, Op.operands]) hf hF)
    have h2 := rep_int (ev_at hy (by simp [ho, Op.operands]) hf hF)
    have hlt : i < c.length := (List.getElem?_eq_some_iff.1 hb).1
    subst hp
    generalize hu : a.eval x = u at h1
    cases h1 with
    | nil A cap hm => simp at hlt
    | sl _ g q n' cap us hne hz hn' hs' hcap hm hc hr =>
      have hnn : n' = n := by rw [← hn]; exact (hs' cs (List.mem_of_getElem? hb)).symm
      subst hnn
      have hel : ∀ j x, cs[j]? = some x → elem? c i j = some x := fun j x hx => by unfold elem?; rw [hb]; exact hx
      refine ⟨.pointer (some ⟨g, q + i * n', none⟩), ?_, .ref cs g (q + i * n') (us i) hz (fun j x hx => by rw [Nat.add_assoc]; exact hc i j x (hel j x hx)) (fun j x hx => hr i j x (hel j x hx))⟩
      simp [execOp, ho, hu, h2, Instr.indexAt, asIntOf, run_underlying ht, (run_sizeB hs w).1, hlt, addr_add]
/-- x[lo:hi] of a slice that will not change. -/
def cut (lo hi : Nat) (c : List (List V)) : List (List V) := (c.drop lo).take (hi - lo)
theorem repV_cut {Z : Nat → Prop} {w : World} {c : List (List V)} {u : Value} (h : RepV Z w (.sl c) u) (lo hi n : Nat) (hlo : lo ≤ hi) (hhi : hi ≤ c.length) (hsz : ∀ e ∈ c, e.length = n) : ∃ A cap, u = .slice A c.length cap ∧ c.length ≤ cap ∧
    RepV Z w (.sl (cut lo hi c)) (.slice (if cap = lo then A else A.map (·.add (lo * n))) (hi - lo) (cap - lo)) := by
  have elem_cut : ∀ i j x, elem? (cut lo hi c) i j = some x → elem? c (lo + i) j = some x := fun i j x hx => by
    unfold elem? cut at hx
    unfold elem?
    rw [List.getElem?_take] at hx
    split at hx
    · rw [List.getElem?_drop] at hx; exact hx
    · cases hx
  cases h with
  | nil A cap hm =>
    have : cut lo hi [] = [] := by simp [cut]
    rw [this]
    have h0 : hi - lo = 0 := by simp at hhi; omega
    rw [h0]
    exact ⟨A, cap, rfl, Nat.zero_le _, .nil _ _ (by omega)⟩
  | sl _ g o n' cap us hne hz hn hs hcap hm hc hr =>
    have hnn : n' = n := by rw [← hs c[0] (List.getElem_mem hne)]; exact hsz _ (List.getElem_mem hne)
    subst hnn
    refine ⟨_, cap, rfl, hcap, ?_⟩
    have hl : (cut lo hi c).length = hi - lo := by simp [cut]; omega
    by_cases hlh : lo = hi
    · subst hlh
      have : cut lo lo c = [] := by simp [cut]
      rw [this, Nat.sub_self]
      exact .nil _ _ (by omega)
    · rw [if_neg (by omega)]
      have h := RepV.sl (Z := Z) (w := w) (cut lo hi c) g (o + lo * n') n' (cap - lo) (fun i j => us (lo + i) j) (by omega) hz hn (fun e he => hs e (List.mem_of_mem_drop (List.mem_of_mem_take he))) (by omega) (by omega)
        (fun i j x hx => by
          have := hc (lo + i) j x (elem_cut i j x hx)
          rw [show o + lo * n' + (i * n' + j) = o + ((lo + i) * n' + j) from by rw [Nat.add_mul]; omega]
          exact this)
        (fun i j x hx => hr (lo + i) j x (elem_cut i j x hx))
      rw [hl] at h
      have e : (Option.some (⟨g, o, none⟩ : Addr)).map (·.add (lo * n')) = some ⟨g, o + lo * n', none⟩ := by simp [addr_add]
      rw [e]
      exact h
/-- A bound of a slice expression. -/
inductive EvO (f : Nat → D) : Option Operand → Option Nat → Prop
  | no : EvO f none none
  | yes {x : Operand} {k : IntKind} {p : Int} {i : Nat} (h : Ev f x (.v (.int k p))) (hp : p = (i : Int)) : EvO f (some x) (some i)
theorem EvO.at {f f' : Nat → D} {G : Gh} {w : World} {m : Mem} {a : Act} (hF : FrOk G w m f' a) {x : Option Operand} {i : Option Nat} (h : EvO f x i) (hf : ∀ t, x = some (.tmp t) → f' t = f t) : ∃ k : IntKind, x.map a.eval = i.map fun i => Value.int k (i : Int) := by
  cases h with
  | no => exact ⟨.i64, rfl⟩
  | @yes x k p i h hp =>
    subst hp
    have := rep_int (h f' (fun t ht => hf t (by rw [ht])) G w m a hF)
    exact ⟨k, by simp [this]⟩
theorem run_bounds {P : Program} {w : World} (b : Bool) (len cap : Nat) (lo hi : Option Nat) (k k' : IntKind) (h1 : lo.getD 0 ≤ hi.getD len) (h2 : hi.getD len ≤ cap) : (Instr.sliceBounds b len cap (lo.map fun i => Value.int k (i : Int)) (hi.map fun i => Value.int k' (i : Int)) none).run P w = .ok (lo.getD 0, hi.getD len, cap) w := by
  unfold Instr.sliceBounds
  have bd : ∀ (k : IntKind) (i y : Nat) (code : BoundsCode), i ≤ y → (Instr.sliceBound (.int k (i : Int)) y code).run P w = .ok i w := fun k i y code h => by
    unfold Instr.sliceBound
    simp only [asIntOf, Sem.run_bind, Sem.run_pure, Result.andThen_ok]
    rw [if_pos (by omega)]; simp
  cases lo with
  | none =>
    cases hi with
    | none => simp
    | some j => simp at h1 h2; simp [bd k' j cap _ h2]
  | some i =>
    cases hi with
    | none => simp at h1 h2; simp [bd k i len _ h1]
    | some j => simp at h1 h2; simp [bd k' j cap _ h2, bd k i j _ h1]
theorem stepU_slice {x : Operand} {lo hi : Option Operand} {t e : TypeId} {c : List (List V)} {i j : Option Nat} {b : Bool} {n : Nat} (ho : o.op = .slice t x lo hi none) (ht : X.P.underlying t = some (.slice e)) (hs : sizeB X.P e = some (b, n)) (hsz : ∀ e ∈ c, e.length = n) (hx : Ev f x (.v (.sl c))) (hlo : EvO f lo i) (hhi : EvO f hi j)
    (h1 : i.getD 0 ≤ j.getD c.length) (h2 : j.getD c.length ≤ c.length) {c' : List (List V)} (hc : cut (i.getD 0) (j.getD c.length) c = c') : StepU X o f m (.v (.sl c')) [] [] :=
  stepU_pure fun f' m' hf _ G w a _ hF => by
    subst hc
    have hr := rep_sl (ev_at hx (by simp [ho, Op.operands]) hf hF)
    obtain ⟨k1, e1⟩ := hlo.at hF (fun t ht => hf t (by subst ht; simp [ho, Op.operands]))
    obtain ⟨k2, e2⟩ := hhi.at hF (fun t ht => hf t (by subst ht; simp [ho, Op.operands]))
    obtain ⟨A, cap, hu, hcap, hr'⟩ := repV_cut hr (i.getD 0) (j.getD c.length) n h1 h2 hsz
    refine ⟨_, ?_, .v _ _ hr'⟩
    have hb := run_bounds (P := X.P) (w := w) true c.length cap i j k1 k2 h1 (by omega)
    simp only [execOp, ho, hu, e1, e2, Instr.sliceAt, Sem.run_bind, run_underlying ht, Result.andThen_ok, Instr.slice, Option.map_none, hb, (run_sizeB hs w).1, Sem.run_pure]
end
end Go.Proofs.YthflfnehdlpmdaaDoor
/- Abstract states: a region that draws its order. No program, no condition. -/
namespace Go.Proofs.YthflfnehdlpmdaaDoor
set_option linter.all false
open Go Go.RowKit

def uniA (s : List Nat) (x : Nat) : List Nat := bif s.contains x then s else x :: s
/-- Of each operation those that come ahead of it in every order. -/
def ancGoA : List Oper → List (List Nat) → List (List Nat)
  | [], acc => acc
  | o :: os, acc => ancGoA os (acc ++ [(o.after.toList.flatMap fun e => bif Region.binds .any e then e.on :: acc.getD e.on [] else []).foldl uniA []])
def ancs (l : List Oper) : List (List Nat) := ancGoA l []
def backA : Nat → List Oper → Bool
  | _, [] => true
  | k, o :: os => (o.after.toList.all fun e => bif Region.binds .any e then Nat.blt e.on k else true) && backA (k + 1) os
theorem uniA_mem : ∀ (r s : List Nat) (x : Nat), x ∈ r.foldl uniA s → x ∈ s ∨ x ∈ r
  | [], s, x, h => .inl h
  | y :: r, s, x, h => by
    rcases uniA_mem r (uniA s y) x h with h1 | h1
    · unfold uniA at h1
      cases hc : s.contains y with
      | true => rw [hc] at h1; exact .inl h1
      | false =>
        rw [hc] at h1
        rcases List.mem_cons.1 h1 with rfl | h2
        · exact .inr List.mem_cons_self
        · exact .inl h2
    · exact .inr (List.mem_cons_of_mem _ h1)
theorem ancGoA_ok (L : Nat → Bool) : ∀ (os : List Oper) (acc : List (List Nat)), (∀ (j : Nat) (o : Oper), os[j]? = some o → L (acc.length + j) = true → ∀ e ∈ o.after.toList, Region.binds .any e = true → L e.on = true) →
    (∀ k, L k = true → ∀ i ∈ acc.getD k [], L i = true) → ∀ k, L k = true → ∀ i ∈ (ancGoA os acc).getD k [], L i = true
  | [], acc, _, h => h
  | o :: os, acc, hd, h => by
    refine ancGoA_ok L os _ (fun j x hj hL => ?_) (fun k hk i hi => ?_)
    · rw [List.length_append, List.length_singleton, show acc.length + 1 + j = acc.length + (j + 1) from by omega] at hL
      exact hd (j + 1) x (by simpa using hj) hL
    · rcases Nat.lt_trichotomy k acc.length with h1 | h1 | h1
      · refine h k hk i ?_
        rw [List.getD_eq_getElem?_getD, List.getElem?_append_left h1] at hi
        rwa [List.getD_eq_getElem?_getD]
      · subst h1
        rw [List.getD_eq_getElem?_getD, List.getElem?_append_right (Nat.le_refl _)] at hi
        simp only [Nat.sub_self, List.getElem?_cons_zero, Option.getD_some] at hi
        rcases uniA_mem _ _ _ hi with h2 | h2
        · cases h2
        · obtain ⟨e, he, h3⟩ := List.mem_flatMap.1 h2
          cases hb : Region.binds .any e with
          | true =>
            rw [hb] at h3
            have hL := hd 0 o rfl hk e he hb
            rcases List.mem_cons.1 h3 with rfl | h4
            · exact hL
            · exact h e.on hL i h4
          | false => rw [hb] at h3; cases h3
      · rw [List.getD_eq_getElem?_getD, List.getElem?_eq_none (by simp; omega)] at hi
        cases hi
theorem ancA_ok {l : List Oper} (L : Nat → Bool) (hd : ∀ (j : Nat) (o : Oper), l[j]? = some o → L j = true → ∀ e ∈ o.after.toList, Region.binds .any e = true → L e.on = true) (k : Nat) (hk : L k = true) (i : Nat) (hi : i ∈ (ancs l).getD k []) : L i = true :=
  ancGoA_ok L l [] (fun j o hj hL => hd j o hj (by simpa using hL)) (fun k _ i hi => by simp at hi) k hk i hi
/-- What an operation did in the text's order. -/
structure Efc where
  d : D
  upd : AH
  T : List Nat
def Efc.keys (e : Efc) : List Nat := e.upd.map (·.1)
def meets (a b : List Nat) : Bool := a.any fun x => b.contains x
/-- Two operations that may not change places. -/
def clash (ops : Array Oper) (x y : Oper × Efc) : Bool :=
  (match x.1.dst with | some t => (y.1.looksAt ops).contains t || y.1.dst == some t | none => false) || (match y.1.dst with | some t => (x.1.looksAt ops).contains t | none => false) ||
  meets x.2.keys (y.2.T ++ y.2.keys) || meets y.2.keys x.2.T
/-- Whatever clashes is ordered. -/
def calmGo (ops : Array Oper) (an : List (List Nat)) (xs : List (Oper × Efc)) : Nat → List (Oper × Efc) → Bool
  | _, [] => true
  | j, y :: ys => (xs.take j).zipIdx.all (fun (x, i) => !(clash ops x y) || (an.getD j []).contains i) && calmGo ops an xs (j + 1) ys
theorem calmGo_at {ops : Array Oper} {an : List (List Nat)} {xs : List (Oper × Efc)} : ∀ (ys : List (Oper × Efc)) (k : Nat), calmGo ops an xs k ys = true → ∀ (j : Nat) y, ys[j]? = some y → ∀ (i : Nat) x, i < k + j → xs[i]? = some x → clash ops x y = true → i ∈ an.getD (k + j) []
  | [], k, _, j, y, h => by simp at h
  | z :: ys, k, h, j, y, hy => by
    simp only [calmGo, Bool.and_eq_true, List.all_eq_true] at h
    intro i x hi hx hc
    cases j with
    | zero =>
      simp at hy
      subst hy
      have := h.1 (x, i) (by
        rw [List.mem_zipIdx_iff_getElem?, List.getElem?_take_of_lt (by omega)]
        exact hx)
      simp only [hc, Bool.not_true, Bool.false_or, List.contains_iff_mem] at this
      exact this
    | succ j =>
      have := calmGo_at ys (k + 1) h.2 j y (by simpa using hy) i x (by omega) hx hc
      rwa [show k + 1 + j = k + (j + 1) from by omega] at this
/-- The state once the operations of L are done. -/
def frF (L : Nat → Bool) : Nat → List (Oper × Efc) → (Nat → D) → (Nat → D)
  | _, [], f => f
  | k, x :: r, f => frF L (k + 1) r (bif L k then fput f x.1.dst x.2.d else f)
def ahF (L : Nat → Bool) : Nat → List (Oper × Efc) → Mem → Mem
  | _, [], m => m
  | k, x :: r, m => ahF L (k + 1) r (bif L k then over x.2.upd m else m)
theorem fput_ne {f : Nat → D} {dst : Option Tmp} {d : D} {t : Nat} (h : dst ≠ some t) : fput f dst d t = f t := by
  cases dst with
  | none => rfl
  | some s => unfold fput; by_cases hs : t = s <;> simp_all
theorem over_ne {upd : AH} {m : Mem} {id : Nat} (h : id ∉ upd.map (·.1)) : over upd m id = m id := by
  unfold over
  have : look upd id = none := by
    induction upd with
    | nil => rfl
    | cons p r ih =>
      obtain ⟨k, o⟩ := p
      simp only [List.map_cons, List.mem_cons, not_or] at h
      rw [look_cons_ne _ _ (Ne.symm h.1)]
      exact ih h.2
  rw [this]
theorem over_in {upd : AH} {m m' : Mem} {id : Nat} (h : id ∈ upd.map (·.1)) : over upd m id = over upd m' id := by
  unfold over
  cases hl : look upd id with
  | some o => rfl
  | none =>
    exfalso
    induction upd with
    | nil => cases h
    | cons p r ih =>
      obtain ⟨k, o⟩ := p
      by_cases hk : k = id
      · subst hk; rw [look_cons_self] at hl; cases hl
      · rw [look_cons_ne _ _ hk] at hl
        simp only [List.map_cons, List.mem_cons] at h
        rcases h with h | h
        · exact absurd h.symm hk
        · exact ih h hl
/-- What two sets of operations agree on. -/
theorem frF_same {L L' : Nat → Bool} {t : Nat} : ∀ (r : List (Oper × Efc)) (k : Nat) (f f' : Nat → D), (∀ (i : Nat) x, r[i]? = some x → x.1.dst = some t → L (k + i) = L' (k + i)) → f t = f' t → frF L k r f t = frF L' k r f' t
  | [], k, f, f', _, h => h
  | x :: r, k, f, f', h, hf => by
    unfold frF
    refine frF_same r (k + 1) _ _ (fun i y hy hd => ?_) ?_
    · have := h (i + 1) y (by simpa using hy) hd
      rwa [show k + (i + 1) = k + 1 + i from by omega] at this
    · by_cases hd : x.1.dst = some t
      · have := h 0 x rfl hd
        rw [Nat.add_zero] at this
        rw [this]
        cases L' k with
        | true => simp [fput, hd]
        | false => exact hf
      · cases L k <;> cases L' k <;> simp only [cond_true, cond_false, fput_ne hd] <;> exact hf
theorem ahF_same {L L' : Nat → Bool} {id : Nat} : ∀ (r : List (Oper × Efc)) (k : Nat) (m m' : Mem), (∀ (i : Nat) x, r[i]? = some x → id ∈ x.2.keys → L (k + i) = L' (k + i)) → m id = m' id → ahF L k r m id = ahF L' k r m' id
  | [], k, m, m', _, h => h
  | x :: r, k, m, m', h, hf => by
    unfold ahF
    refine ahF_same r (k + 1) _ _ (fun i y hy hd => ?_) ?_
    · have := h (i + 1) y (by simpa using hy) hd
      rwa [show k + (i + 1) = k + 1 + i from by omega] at this
    · by_cases hd : id ∈ x.2.keys
      · have := h 0 x rfl hd
        rw [Nat.add_zero] at this
        rw [this]
        cases L' k with
        | true => exact over_in hd
        | false => exact hf
      · cases L k <;> cases L' k <;> simp only [cond_true, cond_false, over_ne hd] <;> exact hf
/-- One operation more, behind which none is done that writes what it writes. -/
theorem frF_put {L : Nat → Bool} {j : Nat} {y : Oper × Efc} : ∀ (r : List (Oper × Efc)) (k : Nat) (f : Nat → D), r[j]? = some y → L (k + j) = false → (∀ (i : Nat) x, j < i → r[i]? = some x → L (k + i) = true → ∀ t, y.1.dst = some t → x.1.dst ≠ some t) →
    frF (fun i => L i || Nat.beq i (k + j)) k r f = fput (frF L k r f) y.1.dst y.2.d := by
  intro r k f hj hL hd
  funext t
  by_cases ht : y.1.dst = some t
  · -- the slot that it writes
    have last : ∀ (r : List (Oper × Efc)) (k : Nat) (f : Nat → D) (j : Nat), r[j]? = some y → L (k + j) = false → (∀ (i : Nat) x, j < i → r[i]? = some x → L (k + i) = true → x.1.dst ≠ some t) → frF (fun i => L i || Nat.beq i (k + j)) k r f t = y.2.d := by
      intro r
      induction r with
      | nil => intro k f j h; simp at h
      | cons x r ih =>
        intro k f j h h0 hd2
        unfold frF
        cases j with
        | zero =>
          simp at h
          subst h
          rw [Nat.add_zero, Nat.beq_refl, Bool.or_true]
          have none_after : ∀ (r : List (Oper × Efc)) (k0 : Nat) (g : Nat → D) (M : Nat → Bool), (∀ (i : Nat) z, r[i]? = some z → M (k0 + i) = true → z.1.dst ≠ some t) → frF M k0 r g t = g t := by
            intro r
            induction r with
            | nil => intro _ _ _ _; rfl
            | cons z r ihr =>
              intro k0 g M hM
              unfold frF
              rw [ihr (k0 + 1) _ M (fun i y hy hm => hM (i + 1) y (by simpa using hy) (by rwa [show k0 + (i + 1) = k0 + 1 + i from by omega]))]
              cases hz : M k0 with
              | true => exact fput_ne (hM 0 z rfl (by rwa [Nat.add_zero]))
              | false => rfl
          rw [none_after r (k + 1) _ _ (fun i z hz hm => hd2 (i + 1) z (by omega) (by simpa using hz) (by
            simp only [Bool.or_eq_true] at hm
            rcases hm with hm | hm
            · rwa [show k + (i + 1) = k + 1 + i from by omega]
            · have := Nat.eq_of_beq_eq_true hm; omega))]
          show fput f x.1.dst x.2.d t = x.2.d
          unfold fput; rw [ht]; simp
        | succ j =>
          rw [show k + (j + 1) = k + 1 + j from by omega]
          exact ih (k + 1) _ j (by simpa using h) (by rwa [show k + 1 + j = k + (j + 1) from by omega]) (fun i z hi hz hm => hd2 (i + 1) z (by omega) (by simpa using hz) (by rwa [show k + (i + 1) = k + 1 + i from by omega]))
    rw [last r k f j hj hL (fun i x hi hx hm => hd i x hi hx hm t ht)]
    simp [fput, ht]
  · rw [fput_ne ht]
    refine frF_same r k f f (fun i x hx hdx => ?_) rfl
    by_cases hi : i = j
    · subst hi; rw [hx] at hj; injection hj with hj; subst hj; exact absurd hdx ht
    · have : Nat.beq (k + i) (k + j) = false := by
        cases h : Nat.beq (k + i) (k + j) with
        | false => rfl
        | true => have := Nat.eq_of_beq_eq_true h; omega
      simp [this]
theorem ahF_put {L : Nat → Bool} {j : Nat} {y : Oper × Efc} (r : List (Oper × Efc)) (k : Nat) (m : Mem) (hj : r[j]? = some y) (hL : L (k + j) = false) (hd : ∀ (i : Nat) x, j < i → r[i]? = some x → L (k + i) = true → ∀ id ∈ y.2.keys, id ∉ x.2.keys) :
    ahF (fun i => L i || Nat.beq i (k + j)) k r m = over y.2.upd (ahF L k r m) := by
  funext id
  by_cases ht : id ∈ y.2.keys
  · have last : ∀ (r : List (Oper × Efc)) (k : Nat) (m m' : Mem) (j : Nat), r[j]? = some y → L (k + j) = false → (∀ (i : Nat) x, j < i → r[i]? = some x → L (k + i) = true → id ∉ x.2.keys) → ahF (fun i => L i || Nat.beq i (k + j)) k r m id = over y.2.upd m' id := by
      intro r
      induction r with
      | nil => intro k m m' j h; simp at h
      | cons x r ih =>
        intro k m m' j h h0 hd2
        unfold ahF
        cases j with
        | zero =>
          simp at h
          subst h
          rw [Nat.add_zero, Nat.beq_refl, Bool.or_true]
          have none_after : ∀ (r : List (Oper × Efc)) (k0 : Nat) (g : Mem) (M : Nat → Bool), (∀ (i : Nat) z, r[i]? = some z → M (k0 + i) = true → id ∉ z.2.keys) → ahF M k0 r g id = g id := by
            intro r
            induction r with
            | nil => intro _ _ _ _; rfl
            | cons z r ihr =>
              intro k0 g M hM
              unfold ahF
              rw [ihr (k0 + 1) _ M (fun i y hy hm => hM (i + 1) y (by simpa using hy) (by rwa [show k0 + (i + 1) = k0 + 1 + i from by omega]))]
              cases hz : M k0 with
              | true => exact over_ne (hM 0 z rfl (by rwa [Nat.add_zero]))
              | false => rfl
          rw [none_after r (k + 1) _ _ (fun i z hz hm => hd2 (i + 1) z (by omega) (by simpa using hz) (by
            simp only [Bool.or_eq_true] at hm
            rcases hm with hm | hm
            · rwa [show k + (i + 1) = k + 1 + i from by omega]
            · have := Nat.eq_of_beq_eq_true hm; omega))]
          exact over_in ht
        | succ j =>
          rw [show k + (j + 1) = k + 1 + j from by omega]
          exact ih (k + 1) _ m' j (by simpa using h) (by rwa [show k + 1 + j = k + (j + 1) from by omega]) (fun i z hi hz hm => hd2 (i + 1) z (by omega) (by simpa using hz) (by rwa [show k + (i + 1) = k + 1 + i from by omega]))
    exact last r k m _ j hj hL (fun i x hi hx hm => hd i x hi hx hm id ht)
  · rw [over_ne ht]
    refine ahF_same r k m m (fun i x hx hdx => ?_) rfl
    by_cases hi : i = j
    · subst hi; rw [hx] at hj; injection hj with hj; subst hj; exact absurd hdx ht
    · have : Nat.beq (k + i) (k + j) = false := by
        cases h : Nat.beq (k + i) (k + j) with
        | false => rfl
        | true => have := Nat.eq_of_beq_eq_true h; omega
      simp [this]
theorem clash_l {ops : Array Oper} {x y : Oper × Efc} {t : Nat} (hx : x.1.dst = some t) (hy : t ∈ y.1.looksAt ops) : clash ops x y = true := by simp [clash, hx, hy]
theorem clash_r {ops : Array Oper} {x y : Oper × Efc} {t : Nat} (hy : y.1.dst = some t) (hx : t ∈ x.1.looksAt ops) : clash ops x y = true := by simp [clash, hy, hx]
theorem clash_d {ops : Array Oper} {x y : Oper × Efc} {t : Nat} (hx : x.1.dst = some t) (hy : y.1.dst = some t) : clash ops x y = true := by simp [clash, hx, hy]
theorem meets_of {a b : List Nat} {i : Nat} (ha : i ∈ a) (hb : i ∈ b) : meets a b = true := by
  unfold meets; rw [List.any_eq_true]; exact ⟨i, ha, by simpa using hb⟩
theorem clash_m {ops : Array Oper} {x y : Oper × Efc} {i : Nat} (hx : i ∈ x.2.keys) (hy : i ∈ y.2.T ∨ i ∈ y.2.keys) : clash ops x y = true := by
  have : meets x.2.keys (y.2.T ++ y.2.keys) = true := meets_of hx (List.mem_append.2 hy)
  simp [clash, this]
theorem clash_n {ops : Array Oper} {x y : Oper × Efc} {i : Nat} (hy : i ∈ y.2.keys) (hx : i ∈ x.2.T) : clash ops x y = true := by
  have : meets y.2.keys x.2.T = true := meets_of hy hx
  simp [clash, this]
theorem Ok.draw {X : Cx} {G : Gh} {w : World} {m : Mem} (h : Ok X G w m) (n : Nat) : Ok X G { w with drawn := n } m ∧ Ext G w m G { w with drawn := n } m := by
  have e : Ext G w m G { w with drawn := n } m := ⟨fun g hg => ⟨hg, rfl⟩, fun _ cs h => ⟨cs, h, rfl⟩, fun _ ver _ _ c h => ⟨ver, c, h, Nat.le_refl _, fun _ => ⟨Nat.le_refl _, rfl, rfl⟩⟩, fun _ a l h => ⟨a, l, h, rfl⟩⟩
  exact ⟨⟨fun id o ho => (h.ob id o ho).ext e rfl rfl fun g _ => rfl, h.inj, h.apart, h.low, h.keep, h.os, h.tape, h.output, h.size, h.s0, h.sk, h.pin, h.shp⟩, e⟩
theorem filter_less {p q : Nat → Bool} {j : Nat} : ∀ {l : List Nat}, l.Nodup → j ∈ l → p j = true → q j = false → (∀ k, q k = true → p k = true) → (l.filter q).length < (l.filter p).length
  | [], _, h, _, _, _ => by cases h
  | x :: l, hn, h, hp, hq, himp => by
    have le : ∀ l : List Nat, (l.filter q).length ≤ (l.filter p).length := fun l => by
      induction l with
      | nil => simp
      | cons y l ih =>
        by_cases hy : q y = true
        · rw [List.filter_cons_of_pos hy, List.filter_cons_of_pos (himp y hy)]; simp [ih]
        · rw [List.filter_cons_of_neg hy]
          by_cases hy' : p y = true
          · rw [List.filter_cons_of_pos hy']; simp; omega
          · rw [List.filter_cons_of_neg hy']; exact ih
    rcases List.mem_cons.1 h with rfl | h'
    · rw [List.filter_cons_of_pos hp, List.filter_cons_of_neg (by simp [hq])]
      have := le l
      simp; omega
    · have ih := filter_less (List.nodup_cons.1 hn).2 h' hp hq himp
      by_cases hy : q x = true
      · rw [List.filter_cons_of_pos hy, List.filter_cons_of_pos (himp x hy)]; simp; exact ih
      · rw [List.filter_cons_of_neg hy]
        by_cases hy' : p x = true
        · rw [List.filter_cons_of_pos hy']; simp; omega
        · rw [List.filter_cons_of_neg hy']; exact ih
theorem wp_drawn {X : Cx} {l : List Oper} {xs : List (Oper × Efc)} {f0 : Nat → D} {m0 : Mem} {Q : Exit → Act → World → Prop} (hxs : xs.map (·.1) = l) (hb : backA 0 l = true) (hc : calmGo l.toArray (ancs l) xs 0 xs = true)
    (hstep : ∀ (i : Nat) x, xs[i]? = some x → Step X l.toArray x.1 (frF (fun k => Nat.blt k i) 0 xs f0) (ahF (fun k => Nat.blt k i) 0 xs m0) x.2.d x.2.upd x.2.T ∧ (∀ t, x.1.dst = some t → t < X.nt) ∧ ∀ p ∈ x.2.upd, p.1 ∉ x.2.T → ahF (fun k => Nat.blt k i) 0 xs m0 p.1 = none)
    (fin : ∀ G w a, Ok X G w (ahF (fun _ => true) 0 xs m0) → FrOk G w (ahF (fun _ => true) 0 xs m0) (frF (fun _ => true) 0 xs f0) a → a.tmps.size = X.nt → DfOk X G w a.defers → Q .normal a w) :
    ∀ (fuel : Nat) (listed : Array Bool) (G : Gh) (w : World) (a : Act), listed.size = l.length → (∀ (j : Nat) (o : Oper), l[j]? = some o → listed.getD j false = true → ∀ e ∈ o.after.toList, Region.binds .any e = true → listed.getD e.on false = true) →
      Ok X G w (ahF (fun k => listed.getD k false) 0 xs m0) → FrOk G w (ahF (fun k => listed.getD k false) 0 xs m0) (frF (fun k => listed.getD k false) 0 xs f0) a → a.tmps.size = X.nt → DfOk X G w a.defers →
      ((List.range l.length).filter fun i => !listed.getD i false).length ≤ fuel → wpAny X.P .any l.toArray Q fuel listed a w := by
  have hlen : xs.length = l.length := by rw [← hxs]; simp
  have ats : ∀ (i : Nat) o, l[i]? = some o → ∃ e, xs[i]? = some (o, e) := fun i o ho => by
    have hi : i < xs.length := by rw [hlen]; exact (List.getElem?_eq_some_iff.1 ho).1
    refine ⟨xs[i].2, ?_⟩
    rw [List.getElem?_eq_getElem hi]
    have : (xs.map (·.1))[i]? = some o := by rw [hxs]; exact ho
    rw [List.getElem?_map, List.getElem?_eq_getElem hi] at this
    simp at this
    rw [← this]
  have inl : ∀ (i : Nat) x, xs[i]? = some x → i < l.length := fun i x hx => by rw [← hlen]; exact (List.getElem?_eq_some_iff.1 hx).1
  have over_all : ∀ (listed : Array Bool), listed.size = l.length → Region.ready .any l.toArray listed = [] → ∀ i, i < l.length → listed.getD i false = true := by
    intro listed hsz hr i
    induction i using Nat.strongRecOn with
    | ind i ih =>
      intro hi
      cases hcc : listed.getD i false with
      | true => rfl
      | false =>
        exfalso
        have hmem : i ∈ Region.ready .any l.toArray listed := by
          rw [mem_ready]
          refine ⟨by simpa [Array.getD, hsz, hi] using hcc, l[i], by simp [hi], fun e he hbd => ?_⟩
          have bk : ∀ (os : List Oper) (k j : Nat) (o : Oper), backA k os = true → os[j]? = some o → ∀ e ∈ o.after.toList, Region.binds .any e = true → e.on < k + j := by
            intro os
            induction os with
            | nil => intro k j o _ h; simp at h
            | cons x os ihx =>
              intro k j o hbk h e he hbd
              simp only [backA, Bool.and_eq_true, List.all_eq_true] at hbk
              cases j with
              | zero => simp at h; subst h; have := hbk.1 e he; rw [hbd] at this; simpa using this
              | succ j => have := ihx (k + 1) j o hbk.2 (by simpa using h) e he hbd; omega
          have hlt := bk l 0 i l[i] hb (by simp [hi]) e (by simpa using he) hbd
          exact ih e.on (by omega) (by omega)
        rw [hr] at hmem
        cases hmem
  have done : ∀ (listed : Array Bool) G w a, listed.size = l.length → Ok X G w (ahF (fun k => listed.getD k false) 0 xs m0) → FrOk G w (ahF (fun k => listed.getD k false) 0 xs m0) (frF (fun k => listed.getD k false) 0 xs f0) a → a.tmps.size = X.nt → DfOk X G w a.defers → Region.ready .any l.toArray listed = [] → Q .normal a w := by
    intro listed G w a hsz hO hF hn hdf hr
    have e1 : ahF (fun k => listed.getD k false) 0 xs m0 = ahF (fun _ => true) 0 xs m0 := funext fun id => ahF_same xs 0 m0 m0 (fun i x hx _ => by rw [Nat.zero_add]; exact over_all listed hsz hr i (inl i x hx)) rfl
    have e2 : frF (fun k => listed.getD k false) 0 xs f0 = frF (fun _ => true) 0 xs f0 := funext fun id => frF_same xs 0 f0 f0 (fun i x hx _ => by rw [Nat.zero_add]; exact over_all listed hsz hr i (inl i x hx)) rfl
    rw [e1] at hO hF
    rw [e2] at hF
    exact fin G w a hO hF hn hdf
  intro fuel
  induction fuel with
  | zero =>
    intro listed G w a hsz hcl hO hF hn hdf hf
    have hr : Region.ready .any l.toArray listed = [] := by
      cases hr : Region.ready .any l.toArray listed with
      | nil => rfl
      | cons i r =>
        exfalso
        have hi : i ∈ Region.ready .any l.toArray listed := by rw [hr]; exact List.mem_cons_self
        obtain ⟨h1, o, ho, _⟩ := mem_ready.1 hi
        have hlt : i < l.length := by
          rcases Nat.lt_or_ge i l.length with h2 | h2
          · exact h2
          · simp [List.getElem?_eq_none h2] at ho
        have : i ∈ (List.range l.length).filter fun i => !listed.getD i false := by
          rw [List.mem_filter]
          exact ⟨List.mem_range.2 hlt, by simp [Array.getD, hsz, hlt] at h1 ⊢; exact h1⟩
        rw [List.eq_nil_of_length_eq_zero (Nat.le_zero.1 hf)] at this
        cases this
    exact ⟨hr, done listed G w a hsz hO hF hn hdf hr⟩
  | succ fuel ih =>
    intro listed G w a hsz hcl hO hF hn hdf hf
    refine ⟨fun hr => done listed G w a hsz hO hF hn hdf hr, fun j hj => ?_⟩
    obtain ⟨hun, o, ho, hdep⟩ := mem_ready.1 hj
    have ho' : l[j]? = some o := by simpa using ho
    obtain ⟨e, hx⟩ := ats j o ho'
    have hlt : j < l.length := inl j _ hx
    have hjU : listed.getD j false = false := by simp [Array.getD, hsz, hlt] at hun ⊢; exact hun
    obtain ⟨hst, hdst, hfr⟩ := hstep j (o, e) hx
    have hcl' : ∀ (k : Nat) (ok : Oper), l[k]? = some ok → (listed.setIfInBounds j true).getD k false = true → ∀ ee ∈ ok.after.toList, Region.binds .any ee = true → (listed.setIfInBounds j true).getD ee.on false = true := by
      intro k ok hok hk ee he hbd
      refine getD_set_true ?_
      by_cases hkj : k = j
      · subst hkj
        rw [ho'] at hok; cases hok
        exact hdep ee (by simpa using he) hbd
      · rw [getD_set_ne false (Ne.symm hkj)] at hk
        exact hcl k ok hok hk ee he hbd
    have anc_in : ∀ i, i ∈ (ancs l).getD j [] → i ≠ j → listed.getD i false = true := fun i hi hne => by
      have := ancA_ok (fun q => (listed.setIfInBounds j true).getD q false) hcl' j (by simp [Array.getD, hsz, hlt]) i hi
      simp only [getD_set_ne false (Ne.symm hne)] at this
      exact this
    have anc_no : ∀ i, j ∈ (ancs l).getD i [] → listed.getD i false = false := fun i hi => by
      cases hcc : listed.getD i false with
      | false => rfl
      | true =>
        have := ancA_ok (fun q => listed.getD q false) hcl i hcc j hi
        simp only [hjU] at this; cases this
    have side : ∀ (i : Nat) x, xs[i]? = some x → (i < j → clash l.toArray x (o, e) = true) → (j < i → clash l.toArray (o, e) x = true) → listed.getD i false = Nat.blt i j := fun i x hxi h1 h2 => by
      rcases Nat.lt_trichotomy i j with h | h | h
      · have := calmGo_at xs 0 hc j (o, e) hx i x (by omega) hxi (h1 h)
        rw [Nat.zero_add] at this
        rw [anc_in i this (by omega)]
        exact (by simpa using h : Nat.blt i j = true).symm
      · subst h
        rw [hjU]
        cases hq : Nat.blt i i with
        | false => rfl
        | true => have : i < i := by simpa using hq
                  omega
      · have := calmGo_at xs 0 hc i x hxi j (o, e) (by omega) hx (h2 h)
        rw [Nat.zero_add] at this
        rw [anc_no i this]
        cases hq : Nat.blt i j with
        | false => rfl
        | true => have : i < j := by simpa using hq
                  omega
    have agF : ∀ t ∈ o.looksAt l.toArray, frF (fun k => listed.getD k false) 0 xs f0 t = frF (fun k => Nat.blt k j) 0 xs f0 t := fun t ht =>
      frF_same xs 0 f0 f0 (fun i x hxi hd => by rw [Nat.zero_add]; exact side i x hxi (fun _ => clash_l hd ht) (fun _ => clash_r hd ht)) rfl
    have agM : ∀ id, id ∈ e.T ∨ id ∈ e.keys → ahF (fun k => listed.getD k false) 0 xs m0 id = ahF (fun k => Nat.blt k j) 0 xs m0 id := fun id hid =>
      ahF_same xs 0 m0 m0 (fun i x hxi hd => by
        rw [Nat.zero_add]
        refine side i x hxi (fun _ => clash_m hd hid) (fun _ => ?_)
        rcases hid with h | h
        · exact clash_n hd h
        · exact clash_m h (.inr hd)) rfl
    have key := hst (frF (fun k => listed.getD k false) 0 xs f0) (ahF (fun k => listed.getD k false) 0 xs m0) agF (fun id hid => agM id (.inl hid))
      (fun p hp hT => by rw [agM p.1 (.inr (List.mem_map.2 ⟨p, hp, rfl⟩))]; exact hfr p hp hT) G w a hO hF
      (fun a' w' => wpAny X.P .any l.toArray Q fuel (listed.setIfInBounds j true) a' w') Q (fun G' w' u h1 h2 h3 => by
        have eL : (fun k => (listed.setIfInBounds j true).getD k false) = fun k => listed.getD k false || Nat.beq k (0 + j) := funext fun k => by
          by_cases hk : k = j
          · subst hk; rw [Nat.zero_add, Nat.beq_refl, Bool.or_true]; simp [Array.getD, hsz, hlt]
          · rw [getD_set_ne false (Ne.symm hk)]
            have : Nat.beq k (0 + j) = false := by
              cases h : Nat.beq k (0 + j) with
              | false => rfl
              | true => have := Nat.eq_of_beq_eq_true h; omega
            simp only [this, Bool.or_false]
        have eA := ahF_put (L := fun k => listed.getD k false) xs 0 m0 hx (by rw [Nat.zero_add]; exact hjU) (fun i x hij hxi hL id hid hid' => by
          rw [Nat.zero_add] at hL
          have := calmGo_at xs 0 hc i x hxi j (o, e) (by omega) hx (clash_m hid (.inr hid'))
          rw [Nat.zero_add] at this
          rw [anc_no i this] at hL; cases hL)
        have eF := frF_put (L := fun k => listed.getD k false) xs 0 f0 hx (by rw [Nat.zero_add]; exact hjU) (fun i x hij hxi hL t ht ht' => by
          rw [Nat.zero_add] at hL
          have := calmGo_at xs 0 hc i x hxi j (o, e) (by omega) hx (clash_d ht ht')
          rw [Nat.zero_add] at this
          rw [anc_no i this] at hL; cases hL)
        have hs : ∀ (dst : Option Tmp), (a.put dst u).tmps.size = a.tmps.size := fun dst => by cases dst <;> simp [Act.put]
        have hd : ∀ (dst : Option Tmp), (a.put dst u).defers = a.defers := fun dst => by cases dst <;> rfl
        refine ih (listed.setIfInBounds j true) G' w' (a.put o.dst u) (by simpa using hsz) hcl' (by rw [eL, eA]; exact h1) (by rw [eL, eA, eF]; exact (hF.ext h2).put h3 fun t ht => by rw [hn]; exact hdst t ht) (by rw [hs]; exact hn) (by rw [hd]; exact hdf.ext h2) ?_
        -- one is left less
        have sub : ((List.range l.length).filter fun i => !(listed.setIfInBounds j true).getD i false).length < ((List.range l.length).filter fun i => !listed.getD i false).length :=
          filter_less (List.nodup_range) (List.mem_range.2 hlt) (by simp [hjU]) (by simp [Array.getD, hsz, hlt]) (fun k hk => by
            by_cases hkj : k = j
            · subst hkj; simp [Array.getD, hsz, hlt] at hk
            · rw [getD_set_ne false (Ne.symm hkj)] at hk; exact hk)
        omega)
    unfold wpOp
    simp only [ho]
    by_cases hw : Region.wanted o (yielded l.toArray a.tmps) = true
    · rw [if_pos hw] at key ⊢; exact .inl key
    · rw [if_neg hw] at key ⊢; exact key
theorem frF_append {L : Nat → Bool} : ∀ (xs ys : List (Oper × Efc)) (k : Nat) (f : Nat → D), frF L k (xs ++ ys) f = frF L (k + xs.length) ys (frF L k xs f)
  | [], ys, k, f => by simp [frF]
  | x :: xs, ys, k, f => by
    simp only [List.cons_append, frF, List.length_cons]
    rw [frF_append xs ys (k + 1), show k + 1 + xs.length = k + (xs.length + 1) from by omega]
theorem ahF_append {L : Nat → Bool} : ∀ (xs ys : List (Oper × Efc)) (k : Nat) (f : Mem), ahF L k (xs ++ ys) f = ahF L (k + xs.length) ys (ahF L k xs f)
  | [], ys, k, f => by simp [ahF]
  | x :: xs, ys, k, f => by
    simp only [List.cons_append, ahF, List.length_cons]
    rw [ahF_append xs ys (k + 1), show k + 1 + xs.length = k + (xs.length + 1) from by omega]
theorem frF_none {L : Nat → Bool} : ∀ (xs : List (Oper × Efc)) (k : Nat) (f : Nat → D), (∀ i, k ≤ i → L i = false) → frF L k xs f = f
  | [], _, _, _ => rfl
  | x :: xs, k, f, h => by simp only [frF, h k (Nat.le_refl _), cond_false]; exact frF_none xs (k + 1) f fun i hi => h i (by omega)
theorem ahF_none {L : Nat → Bool} : ∀ (xs : List (Oper × Efc)) (k : Nat) (f : Mem), (∀ i, k ≤ i → L i = false) → ahF L k xs f = f
  | [], _, _, _ => rfl
  | x :: xs, k, f, h => by simp only [ahF, h k (Nat.le_refl _), cond_false]; exact ahF_none xs (k + 1) f fun i hi => h i (by omega)
theorem frF_all {L : Nat → Bool} : ∀ (xs : List (Oper × Efc)) (k : Nat) (f : Nat → D), (∀ i, i < k + xs.length → L i = true) → frF L k xs f = frF (fun _ => true) k xs f
  | [], _, _, _ => rfl
  | x :: xs, k, f, h => by simp only [frF, h k (by simp), cond_true]; exact frF_all xs (k + 1) _ fun i hi => h i (by simp; omega)
theorem ahF_all {L : Nat → Bool} : ∀ (xs : List (Oper × Efc)) (k : Nat) (f : Mem), (∀ i, i < k + xs.length → L i = true) → ahF L k xs f = ahF (fun _ => true) k xs f
  | [], _, _, _ => rfl
  | x :: xs, k, f, h => by simp only [ahF, h k (by simp), cond_true]; exact ahF_all xs (k + 1) _ fun i hi => h i (by simp; omega)
theorem blt_f {i n : Nat} (h : n ≤ i) : Nat.blt i n = false := by
  cases hq : Nat.blt i n with
  | false => rfl
  | true => have : i < n := by simpa using hq
            omega
theorem frF_pre (xs ys : List (Oper × Efc)) (f : Nat → D) : frF (fun k => Nat.blt k xs.length) 0 (xs ++ ys) f = frF (fun _ => true) 0 xs f := by
  rw [frF_append, frF_none ys _ _ (fun i hi => blt_f (by omega)), frF_all xs 0 f (fun i hi => by simp; omega)]
theorem ahF_pre (xs ys : List (Oper × Efc)) (f : Mem) : ahF (fun k => Nat.blt k xs.length) 0 (xs ++ ys) f = ahF (fun _ => true) 0 xs f := by
  rw [ahF_append, ahF_none ys _ _ (fun i hi => blt_f (by omega)), ahF_all xs 0 f (fun i hi => by simp; omega)]
/-- Operations in the text's order, whose clashes are ordered: they may be drawn. -/
def awd (X : Cx) (l : List Oper) (K : Fm → AH → Prop) : List (Oper × Efc) → List Oper → Fm → AH → Prop
  | xs, [], fr, ah => calmGo l.toArray (ancs l) xs 0 xs = true ∧ K fr ah
  | xs, o :: os, fr, ah => ∃ d upd T, Step X l.toArray o fr.at (look ah) d upd T ∧ dstB X.nt o.dst = true ∧ freshB upd T ah = true ∧ awd X l K (xs ++ [(o, ⟨d, upd, T⟩)]) os (pushF fr o.dst d) (upd ++ ah)
section
variable {X : Cx} {l : List Oper} {K : Fm → AH → Prop} {xs : List (Oper × Efc)} {fr : Fm} {ah : AH}
theorem awd_nil (h : calmGo l.toArray (ancs l) xs 0 xs = true) (k : K fr ah) : awd X l K xs [] fr ah := ⟨h, k⟩
theorem awd_step {o : Oper} {os : List Oper} {d : D} {upd : AH} {T : List Nat} (h : Step X l.toArray o fr.at (look ah) d upd T) (hd : dstB X.nt o.dst = true) (hn : freshB upd T ah = true) (k : awd X l K (xs ++ [(o, ⟨d, upd, T⟩)]) os (pushF fr o.dst d) (upd ++ ah)) : awd X l K xs (o :: os) fr ah :=
  ⟨d, upd, T, h, hd, hn, k⟩
theorem awd_all {f0 : Nat → D} {m0 : Mem} : ∀ (os : List Oper) (xs : List (Oper × Efc)) (fr : Fm) (ah : AH), awd X l K xs os fr ah → fr.at = frF (fun _ => true) 0 xs f0 → look ah = ahF (fun _ => true) 0 xs m0 →
    ∃ rest : List (Oper × Efc), rest.map (·.1) = os ∧ calmGo l.toArray (ancs l) (xs ++ rest) 0 (xs ++ rest) = true ∧ (∃ fr' ah', K fr' ah' ∧ fr'.at = frF (fun _ => true) 0 (xs ++ rest) f0 ∧ look ah' = ahF (fun _ => true) 0 (xs ++ rest) m0) ∧
      ∀ (i : Nat) x, rest[i]? = some x → Step X l.toArray x.1 (frF (fun k => Nat.blt k (xs.length + i)) 0 (xs ++ rest) f0) (ahF (fun k => Nat.blt k (xs.length + i)) 0 (xs ++ rest) m0) x.2.d x.2.upd x.2.T ∧ (∀ t, x.1.dst = some t → t < X.nt) ∧
        ∀ p ∈ x.2.upd, p.1 ∉ x.2.T → ahF (fun k => Nat.blt k (xs.length + i)) 0 (xs ++ rest) m0 p.1 = none
  | [], xs, fr, ah, h, hf, hm => ⟨[], rfl, by rw [List.append_nil]; exact h.1, ⟨fr, ah, h.2, by rw [List.append_nil]; exact hf, by rw [List.append_nil]; exact hm⟩, fun i x hx => by simp at hx⟩
  | o :: os, xs, fr, ah, ⟨d, upd, T, h1, h2, h3, h4⟩, hf, hm => by
    obtain ⟨rest, r1, r2, r3, r4⟩ := awd_all os (xs ++ [(o, ⟨d, upd, T⟩)]) _ _ h4 (by
      rw [pushF_at, frF_append, ← hf]; rfl) (by
      rw [← over_look, ahF_append, ← hm]; rfl)
    have e : xs ++ [(o, (⟨d, upd, T⟩ : Efc))] ++ rest = xs ++ (o, ⟨d, upd, T⟩) :: rest := by simp
    rw [e] at r2 r3
    refine ⟨(o, ⟨d, upd, T⟩) :: rest, by simp [r1], r2, r3, fun i x hx => ?_⟩
    cases i with
    | zero =>
      simp at hx
      subst hx
      rw [Nat.add_zero, frF_pre, ahF_pre, ← hf, ← hm]
      refine ⟨h1, fun t ht => by rw [ht] at h2; simpa [dstB] using h2, fun p hp hT => ?_⟩
      unfold freshB at h3
      rw [List.all_eq_true] at h3
      have := h3 p hp
      simp only [Bool.or_eq_true, List.contains_iff_mem, Option.isNone_iff_eq_none] at this
      rcases this with h | h
      · exact absurd h hT
      · exact h
    | succ i =>
      have := r4 i x (by simpa using hx)
      rw [e] at this
      simp only [List.length_append, List.length_singleton] at this
      rwa [show xs.length + 1 + i = xs.length + (i + 1) from by omega] at this
theorem awd_wp {Q : Exit → Act → World → Prop} (hm : X.P.follows .mixedOrders = true) (hb : backA 0 l = true) (h : awd X l K [] l fr ah) {G : Gh} {w : World} {a : Act} (hS : St X G w a fr ah) (hK : ∀ a w, Kont X K a w → Q .normal a w) (id : Nat) : (Code.region id l.toArray true).wp X.P Q a w := by
  obtain ⟨xs, r1, r2, ⟨fr', ah', k1, k2, k3⟩, r4⟩ := awd_all (f0 := fr.at) (m0 := look ah) l [] fr ah h rfl rfl
  simp only [List.nil_append, List.length_nil, Nat.zero_add] at r2 k2 k3 r4
  obtain ⟨hO, hE⟩ := hS.ok.draw (w.drawn + 1)
  refine wp_region_any hm ?_
  have e1 : frF (fun k => (Array.replicate l.length false).getD k false) 0 xs fr.at = fr.at := frF_none xs 0 _ fun i _ => by simp [Array.getD]
  have e2 : ahF (fun k => (Array.replicate l.length false).getD k false) 0 xs (look ah) = look ah := ahF_none xs 0 _ fun i _ => by simp [Array.getD]
  have key := wp_drawn (Q := Q) r1 hb r2 r4 (fun G w a h1 h2 h3 h4 => by
    refine hK a w ⟨G, fr', ah', ⟨by rw [k3]; exact h1, by rw [k2, k3]; exact h2, h3, h4⟩, k1⟩) l.length (Array.replicate l.length false) G { w with drawn := w.drawn + 1 } a (by simp) (fun j o _ hj => by simp [Array.getD] at hj)
    (by rw [e2]; exact hO) (by rw [e1, e2]; exact hS.fr.ext hE) hS.nt (hS.df.ext hE) (by have := List.length_filter_le (fun i => !(Array.replicate l.length false).getD i false) (List.range l.length); simpa using this)
  simpa using key
theorem aw_regionD {Q : AX → Fm → AH → Prop} {id : Nat} {rest : Code} (hm : X.P.follows .mixedOrders = true) (hb : backA 0 l = true) (h : ∀ K : Fm → AH → Prop, (∀ fr ah, aw X rest Q fr ah → K fr ah) → awd X l K [] l fr ah) : aw X (.seq (.region id l.toArray true) rest) Q fr ah := fun G w a hS =>
  wp_seq (awd_wp hm hb (h (fun fr ah => aw X rest Q fr ah) (fun _ _ h => h)) hS (fun a w hk => by
    obtain ⟨G, fr, ah, h1, h2⟩ := hk
    exact h2 G w a h1) id)
theorem aw_regionD_last {Q : AX → Fm → AH → Prop} {id : Nat} (hm : X.P.follows .mixedOrders = true) (hb : backA 0 l = true) (h : awd X l (Q .normal) [] l fr ah) : aw X (.region id l.toArray true) Q fr ah := fun G w a hS =>
  awd_wp hm hb h hS (fun a w hk => hk) id
end
end Go.Proofs.YthflfnehdlpmdaaDoor
/- Abstract states: more operations. No program, no condition. -/
namespace Go.Proofs.YthflfnehdlpmdaaDoor
set_option linter.all false
open Go Go.RowKit
theorem i64_wrap {n : Int} (h : -9223372036854775808 ≤ n) (k : n ≤ 9223372036854775807) : IntKind.i64.wrap n = n := IntWalk.i64_in n ⟨h, k⟩
theorem u8_wrap {n : Int} (h : 0 ≤ n) (k : n ≤ 255) : IntKind.u8.wrap n = n := IntWalk.u8_in n ⟨h, k⟩
theorem u16_wrap {n : Int} (h : 0 ≤ n) (k : n ≤ 65535) : IntKind.u16.wrap n = n := IntWalk.u16_in n ⟨h, k⟩
theorem u32_wrap {n : Int} (h : 0 ≤ n) (k : n ≤ 4294967295) : IntKind.u32.wrap n = n := IntWalk.u32_in n ⟨h, k⟩
theorem wrap_byte (b : UInt8) : IntKind.i64.wrap (b.toNat : Int) = (b.toNat : Int) := by
  have := b.toNat_lt
  exact i64_wrap (by omega) (by omega)
/-- Bytes as a slice's elements. -/
def bs (l : List UInt8) : List (List V) := l.map fun b => [V.int .u8 (b.toNat : Int)]
@[simp] theorem bs_length (l : List UInt8) : (bs l).length = l.length := by simp [bs]
theorem bs_one (l : List UInt8) : ∀ e ∈ bs l, e.length = 1 := by intro e he; obtain ⟨b, _, rfl⟩ := List.mem_map.1 he; rfl
theorem bs_cut (lo hi : Nat) (l : List UInt8) : cut lo hi (bs l) = bs ((l.drop lo).take (hi - lo)) := by simp [cut, bs, List.map_take, List.map_drop]
theorem bs_append (a b : List UInt8) : bs a ++ bs b = bs (a ++ b) := by simp [bs]
section
variable {f : Nat → D} {x : Operand}
theorem ev_condT {b : Bool} {d : D} (h : Ev f x (.cond (b == true) d)) (hb : b = true) : Ev f x d := ev_cond h (by rw [hb]; rfl)
theorem ev_condF {b : Bool} {d : D} (h : Ev f x (.cond (b == false) d)) (hb : b = false) : Ev f x d := ev_cond h (by rw [hb]; rfl)
end
section
variable {X : Cx} {o : Oper} {f : Nat → D} {m : Mem} {d : D} {T : List Nat}
theorem stepU_not {t : TypeId} {x : Operand} {b : Bool} (ho : o.op = .unOp .not t x) (hx : Ev f x (.v (.bool b))) : StepU X o f m (.v (.bool (!b))) [] [] :=
  stepU_pure fun f' m' hf _ G w a _ hF => by
    have h := rep_bool (ev_at hx (by simp [ho, Op.operands]) hf hF)
    exact ⟨_, by simp [execOp, ho, h, Op.unary], mk_bool _⟩
theorem stepU_extract {x : Operand} {i : Nat} {ds : List D} (ho : o.op = .extract x i) (hx : Ev f x (.tup ds)) (hd : ds[i]? = some d) : StepU X o f m d [] [] :=
  stepU_pure fun f' m' hf _ G w a _ hF => by
    have h := ev_at hx (by simp [ho, Op.operands]) hf hF
    generalize hu : a.eval x = u at h
    cases h with
    | tup _ us hl h =>
      have hi : i < us.length := by rw [hl]; exact (List.getElem?_eq_some_iff.1 hd).1
      exact ⟨us[i], by simp [execOp, ho, hu, Instr.extract, hi], h i d _ hd (List.getElem?_eq_getElem hi)⟩
theorem stepU_conv {s t : TypeId} {x : Operand} {k k' : IntKind} {p r : Int} (ho : o.op = .convert s t x) (ht : X.P.underlying t = some (.int k')) (hs : ∃ ds, X.P.underlying s = some ds) (hx : Ev f x (.v (.int k p))) (hr : k'.wrap p = r) : StepU X o f m (.v (.int k' r)) [] [] :=
  stepU_pure fun f' m' hf _ G w a _ hF => by
    have h := rep_int (ev_at hx (by simp [ho, Op.operands]) hf hF)
    obtain ⟨ds, hs⟩ := hs
    refine ⟨.int k' r, ?_, mk_int _ _⟩
    simp only [execOp, ho, h, convert, Sem.run_bind, run_underlying hs, run_underlying ht, Result.andThen_ok, Conv.intToInt, Sem.run_pure, hr]
/-- string(b) -/
theorem stepU_convS {s t e : TypeId} {x : Operand} {l : List UInt8} (ho : o.op = .convert s t x) (hs : X.P.underlying s = some (.slice e)) (he : X.P.underlying e = some (.int .u8)) (ht : X.P.underlying t = some .string) (hx : Ev f x (.v (.sl (bs l)))) : StepU X o f m (.v (.str l)) [] [] :=
  stepU_pure fun f' m' hf _ G w a _ hF => by
    have h := rep_sl (ev_at hx (by simp [ho, Op.operands]) hf hF)
    generalize hu : a.eval x = u at h
    refine ⟨.string (S l), ?_, mk_str l⟩
    have key : (convert s t u).run X.P w = .ok (.string (S l)) w := by
      generalize hc : bs l = c at h
      cases h with
      | nil A cap hm =>
        have : l = [] := by cases l <;> simp [bs] at hc ⊢
        subst this
        rcases A with _ | A
        · exact run_convert_bytes_nil w s e hs he 0 cap t ht
        · rw [run_convert_bytes_string w s t e _ _ cap hs he ht]
          exact run_bytesToString w A 0 cap [] (by simpa using run_loadCells_list (P := X.P) w A [] (fun j v hj => by simp at hj))
      | sl _ g q n cap us hne hz hn hss hcap hm hcc hr =>
        subst hc
        have hn1 : n = 1 := by rw [← hss _ (List.getElem_mem hne)]; exact bs_one l _ (List.getElem_mem hne)
        subst hn1
        have hcell : ∀ i, i < l.length → w.cell? ⟨g, q + i, none⟩ = some (.int .u8 ((l.map fun b => (b.toNat : Int)).getD i 0)) := fun i hi => by
          have he0 : elem? (bs l) i 0 = some (.int .u8 (l[i].toNat : Int)) := by simp [elem?, bs, hi]
          have h1 := hcc i 0 _ he0
          have h2 := hr i 0 _ he0
          generalize us i 0 = v at h1 h2
          cases h2
          rw [Nat.mul_one, Nat.add_zero] at h1
          rw [h1]; simp [hi]
        have := run_convert_bytes_arg w s e hs he g q l.length cap (l.map fun b => (b.toNat : Int)) (by simp) hcell t ht
        rw [bs_length, this]
        simp [strOfNums, S, Function.comp_def]
    simp only [execOp, ho, hu, Sem.run_bind, key, Result.andThen_ok, Sem.run_pure]
/-- a + b of texts -/
theorem stepU_addS {t t' : TypeId} {x y : Operand} {l r : List UInt8} (ho : o.op = .binOp .add t x y t') (hx : Ev f x (.v (.str l))) (hy : Ev f y (.v (.str r))) (hn : l.length + r.length ≤ 9223372036854775807) : StepU X o f m (.v (.str (l ++ r))) [] [] :=
  stepU_pure fun f' m' hf _ G w a _ hF => by
    have h1 := rep_str (ev_at hx (by simp [ho, Op.operands]) hf hF)
    have h2 := rep_str (ev_at hy (by simp [ho, Op.operands]) hf hF)
    refine ⟨.string (S (l ++ r)), ?_, mk_str _⟩
    have h3 : S l ++ S r = S (l ++ r) := by apply ba_ext; simp [ByteArray.toList_eq, S]
    simp only [execOp, ho, h1, h2, Sem.run_bind, eqGuard_str, Result.andThen_ok, binOp, run_string_add_sum w (S l) (S r) (by rw [S_size, S_size]; exact hn), h3, Sem.run_pure]
theorem stepU_eqlS {t t' : TypeId} {x y : Operand} {l r : List UInt8} (ho : o.op = .binOp .eql t x y t') (hx : Ev f x (.v (.str l))) (hy : Ev f y (.v (.str r))) : StepU X o f m (.v (.bool (l == r))) [] [] :=
  stepU_pure fun f' m' hf _ G w a _ hF => by
    have h1 := rep_str (ev_at hx (by simp [ho, Op.operands]) hf hF)
    have h2 := rep_str (ev_at hy (by simp [ho, Op.operands]) hf hF)
    refine ⟨_, ?_, mk_bool _⟩
    simp only [execOp, ho, h1, h2, Sem.run_bind, eqGuard_str, Result.andThen_ok, binOp, Op.stringOp, S_toList, Sem.run_pure]
theorem stepU_neqS {t t' : TypeId} {x y : Operand} {l r : List UInt8} (ho : o.op = .binOp .neq t x y t') (hx : Ev f x (.v (.str l))) (hy : Ev f y (.v (.str r))) : StepU X o f m (.v (.bool (!(l == r)))) [] [] :=
  stepU_pure fun f' m' hf _ G w a _ hF => by
    have h1 := rep_str (ev_at hx (by simp [ho, Op.operands]) hf hF)
    have h2 := rep_str (ev_at hy (by simp [ho, Op.operands]) hf hF)
    refine ⟨_, ?_, mk_bool _⟩
    simp only [execOp, ho, h1, h2, Sem.run_bind, eqGuard_str, Result.andThen_ok, binOp, Op.stringOp, S_toList, Sem.run_pure]
/-- s[lo:hi] of a text -/
theorem stepU_sliceS {x : Operand} {lo hi : Option Operand} {t : TypeId} {l : List UInt8} {i j : Option Nat} (ho : o.op = .slice t x lo hi none) (ht : X.P.underlying t = some .string) (hx : Ev f x (.v (.str l))) (hlo : EvO f lo i) (hhi : EvO f hi j)
    (h1 : i.getD 0 ≤ j.getD l.length) (h2 : j.getD l.length ≤ l.length) {l' : List UInt8} (hc : (l.drop (i.getD 0)).take (j.getD l.length - i.getD 0) = l') : StepU X o f m (.v (.str l')) [] [] :=
  stepU_pure fun f' m' hf _ G w a _ hF => by
    subst hc
    have hr := rep_str (ev_at hx (by simp [ho, Op.operands]) hf hF)
    obtain ⟨k1, e1⟩ := hlo.at hF (fun t ht => hf t (by subst ht; simp [ho, Op.operands]))
    obtain ⟨k2, e2⟩ := hhi.at hF (fun t ht => hf t (by subst ht; simp [ho, Op.operands]))
    refine ⟨_, ?_, mk_str _⟩
    have hb := run_bounds (P := X.P) (w := w) false (S l).size (S l).size i j k1 k2 (by rw [S_size]; exact h1) (by rw [S_size]; exact h2)
    have hx : (S l).extract (i.getD 0) (j.getD (S l).size) = S ((l.drop (i.getD 0)).take (j.getD l.length - i.getD 0)) := by
      apply ba_ext
      rw [S_size, S_toList, ByteArray.toList_eq]
      simp [S, List.extract_eq_drop_take]
    simp only [execOp, ho, hr, e1, e2, Instr.sliceAt, Sem.run_bind, run_underlying ht, Result.andThen_ok, Instr.slice, Option.map_none, Option.isSome_none, Bool.false_eq_true, if_false, hb, hx, Sem.run_pure]
end
end Go.Proofs.YthflfnehdlpmdaaDoor
/- Abstract states: values are put together, rows are made and grow. No program, no condition. -/
namespace Go.Proofs.YthflfnehdlpmdaaDoor
set_option linter.all false
open Go Go.RowKit
/-- Where the parts of a struct, or of an array, lie. -/
def placesB (P : Program) (t : TypeId) : Option (List (Nat × Nat)) :=
  match P.underlying t with
  | some (.struct fs) => fs.toList.mapM (fun f => (P.info? f.type).map fun i => (f.offset, i.size))
  | some (.array n e) => (P.info? e).map fun i => (List.range n).map fun k => (k * i.size, i.size)
  | _ => none
theorem fold_set (off : Nat) : ∀ (vs : List Value) (k : Nat) (us : List Value), off + k + vs.length ≤ us.length →
    ((vs.zipIdx k).foldl (fun cs (c, j) => cs.setIfInBounds (off + j) c) us.toArray).toList = us.take (off + k) ++ vs ++ us.drop (off + k + vs.length)
  | [], k, us, h => by simp
  | v :: vs, k, us, h => by
    simp only [List.zipIdx_cons, List.foldl_cons]
    simp only [List.length_cons] at h
    have e : us.toArray.setIfInBounds (off + k) v = (us.set (off + k) v).toArray := by simp
    rw [e, fold_set off vs (k + 1) (us.set (off + k) v) (by simp; omega)]
    rw [show off + (k + 1) = off + k + 1 from by omega, List.drop_set_of_lt (by omega)]
    simp only [List.length_cons]
    rw [show off + k + (vs.length + 1) = off + k + 1 + vs.length from by omega]
    congr 1
    rw [List.take_succ_eq_append_getElem (by simp; omega), List.take_set]
    rw [List.set_eq_of_length_le (by simp; omega)]; simp
/-- The parts of a composite literal: where each lies, and what is known of it. -/
inductive PartsAt (f : Nat → D) (pl : List (Nat × Nat)) (n : Nat) : List (Nat × Operand) → List (Nat × D) → Prop
  | nil : PartsAt f pl n [] []
  | cons {i : Nat} {x : Operand} {off sz : Nat} {d : D} {ps : List (Nat × Operand)} {ds : List (Nat × D)} (hp : pl[i]? = some (off, sz)) (hx : Ev f x d) (hd : d.plain = true) (hs : d.cells.length = sz ∧ off + sz ≤ n) (r : PartsAt f pl n ps ds) : PartsAt f pl n ((i, x) :: ps) ((off, d) :: ds)
def fillD : List D → List (Nat × D) → List D
  | cs, [] => cs
  | cs, (off, d) :: r => fillD (splice cs off d.cells) r
theorem rep_splice {G : Gh} {w : World} {m : Mem} {cs ds : List D} {us vs : List Value} (h : RepDs G w m cs us) (k : RepDs G w m ds vs) (off : Nat) (hl : off + ds.length ≤ cs.length) : RepDs G w m (splice cs off ds) (us.take off ++ vs ++ us.drop (off + vs.length)) := by
  have h1 := h.1
  have h2 := k.1
  unfold splice
  refine ⟨by simp only [List.length_append, List.length_take, List.length_drop]; omega, fun i d u hd hu => ?_⟩
  by_cases hi : i < off
  · rw [List.append_assoc, List.getElem?_append_left (by simp; omega), List.getElem?_take_of_lt hi] at hd hu
    exact h.2 i d u hd hu
  · rw [List.append_assoc, List.getElem?_append_right (by simp; omega)] at hd hu
    rw [List.length_take, Nat.min_eq_left (by omega)] at hd hu
    by_cases hi2 : i - off < ds.length
    · rw [List.getElem?_append_left (by omega)] at hd hu
      exact k.2 _ d u hd hu
    · rw [List.getElem?_append_right (by omega)] at hd hu
      rw [h2] at hu
      rw [List.getElem?_drop] at hd hu
      exact h.2 _ d u hd hu
theorem fill_rep {G : Gh} {w : World} {m : Mem} {f : Nat → D} {a : Act} (hF : FrOk G w m f a) {pl : List (Nat × Nat)} {n : Nat} {place : Nat → Option (Nat × Nat)} (hpl : ∀ i p, pl[i]? = some p → place i = some p) : ∀ {ps : List (Nat × Operand)} {ds : List (Nat × D)}, PartsAt f pl n ps ds → ∀ (cs : List D) (us : List Value), cs.length = n → RepDs G w m cs us → (∀ u ∈ us, u.oneCell' = true) →
    ∃ vs : List Value, Instr.fill place us.toArray (ps.map fun (i, x) => (i, a.eval x)) = some vs.toArray ∧ RepDs G w m (fillD cs ds) vs ∧ ∀ u ∈ vs, u.oneCell' = true := by
  intro ps ds h
  induction h with
  | nil => exact fun cs us _ h h1 => ⟨us, by simp [Instr.fill], h, h1⟩
  | @cons i x off sz d ps ds hp hx hd hs r ih =>
    intro cs us hn h h1
    obtain ⟨k1, k2⟩ := rep_cells (hx f (fun _ _ => rfl) G w m a hF) hd
    have hl : (a.eval x).cells.toList.length = sz := by rw [k1.1]; exact hs.1
    have hl' : (a.eval x).cells.size = sz := by simpa using hl
    have hul := h.1
    obtain ⟨vs, e1, e2, e3⟩ := ih (splice cs off d.cells) (us.take off ++ (a.eval x).cells.toList ++ us.drop (off + (a.eval x).cells.toList.length)) (by unfold splice; simp only [List.length_append, List.length_take, List.length_drop]; omega) (rep_splice h k1 off (by omega)) (fun u hu => by
        rcases List.mem_append.1 hu with hu | hu
        · rcases List.mem_append.1 hu with hu | hu
          · exact h1 u (List.mem_of_mem_take hu)
          · exact k2 u hu
        · exact h1 u (List.mem_of_mem_drop hu))
    refine ⟨vs, ?_, e2, e3⟩
    rw [List.map_cons]
    simp only [Instr.fill, hpl i _ hp]
    rw [if_neg (by simp; omega), ← e1]
    congr 1
    have := fold_set off (a.eval x).cells.toList 0 us (by omega)
    simp only [Nat.add_zero] at this
    apply Array.ext'
    rw [← this, ← Array.foldl_toList, Array.toList_zipIdx]
section
variable {X : Cx} {o : Oper} {f : Nat → D} {m : Mem} {d : D} {T : List Nat}
theorem PartsAt.mono {f' : Nat → D} {pl : List (Nat × Nat)} {n : Nat} {ps : List (Nat × Operand)} {ds : List (Nat × D)} (h : PartsAt f pl n ps ds) (hf : ∀ p ∈ ps, ∀ t, p.2 = .tmp t → f' t = f t) : PartsAt f' pl n ps ds := by
  induction h with
  | nil => exact .nil
  | cons hp hx hd hs r ih => exact .cons hp (fun f'' hf'' => hx f'' fun t ht => (hf'' t ht).trans (hf _ List.mem_cons_self t ht)) hd hs (ih fun p hp' => hf p (List.mem_cons_of_mem _ hp'))
theorem stepU_build {t : TypeId} {parts : Array (Nat × Operand)} {pl : List (Nat × Nat)} {us : List Value} {zs cs : List D} {ds : List (Nat × D)} {n : Nat} (ho : o.op = .build t parts) (hpl : placesB X.P t = some pl) (hz : zeroCs X.P t = some us) (hl : Lits us zs) (hn : zs.length = n) (hp : PartsAt f pl n parts.toList ds) (hc : fillD zs ds = cs) :
    StepU X o f m (.agg cs) [] [] :=
  stepU_pure fun f' m' hf _ G w a _ hF => by
    subst hc
    have hp' := hp.mono (f' := f') (fun p hp t ht => hf t (by
      simp only [ho, Op.operands]
      rw [Array.mem_def]
      simp only [List.mem_map]
      exact ⟨p, hp, ht⟩))
    unfold zeroCs at hz
    cases hi : X.P.info? t with
    | none => simp [hi] at hz
    | some i =>
      cases hzz : i.zero with
      | none => simp [hi, hzz] at hz
      | some z =>
        simp [hi, hzz] at hz
        have hz' : z.cells = us.toArray := by rw [← hz]
        have L := Lits.rep (G := G) (w := w) (m := m') hl
        have hpt : (parts.map fun (i, x) => (i, a.eval x)).toList = parts.toList.map fun (i, x) => (i, a.eval x) := by simp
        unfold placesB at hpl
        cases hu : X.P.underlying t with
        | none => simp [hu] at hpl
        | some dd =>
          cases dd <;> simp only [hu] at hpl <;> first | (cases hpl; done) | skip
          · rename_i k e
            cases hie : X.P.info? e with
            | none => simp [hie] at hpl
            | some ie =>
              simp [hie] at hpl
              subst hpl
              obtain ⟨vs, e1, e2, e3⟩ := fill_rep hF (place := fun i => some (i * ie.size, ie.size)) (fun i p hp => by
                rw [List.getElem?_map] at hp
                cases hr : (List.range k)[i]? with
                | none => rw [hr] at hp; cases hp
                | some j =>
                  rw [hr] at hp
                  have : j = i := by obtain ⟨h1, h2⟩ := List.getElem?_eq_some_iff.1 hr; simp at h2; exact h2.symm
                  subst this
                  simpa using hp) hp' zs us hn L.1 L.2
              refine ⟨.agg vs.toArray, ?_, .agg _ vs e2.1 e3 e2.2⟩
              have := run_build (P := X.P) w t (parts.map fun (i, x) => (i, a.eval x)) vs.toArray (by
                unfold Program.built
                simp only [hi, hu, hzz, hie, hz', hpt]
                exact e1)
              simp only [execOp, ho, Sem.run_bind, this, Result.andThen_ok, Sem.run_pure]
          · rename_i fs
            obtain ⟨vs, e1, e2, e3⟩ := fill_rep hF (place := fun i => pl.toArray[i]?) (fun i p hp => by simpa using hp) hp' zs us hn L.1 L.2
            refine ⟨.agg vs.toArray, ?_, .agg _ vs e2.1 e3 e2.2⟩
            have := run_build (P := X.P) w t (parts.map fun (i, x) => (i, a.eval x)) vs.toArray (by
              unfold Program.built
              simp only [hi, hu, hzz, hpl, hz', hpt]
              exact e1)
            simp only [execOp, ho, Sem.run_bind, this, Result.andThen_ok, Sem.run_pure]
/-- New memory that will not change. -/
theorem Ok.newS {G : Gh} {w : World} (h : Ok X G w m) (ob : Obj) : Ok X { G with S := fun g => G.S g ∨ g = w.heap.size } (w.alloc ob) m ∧ Ext G w m { G with S := fun g => G.S g ∨ g = w.heap.size } (w.alloc ob) m := by
  have hk : ∀ g, g < w.heap.size → (w.alloc ob).heap[g]? = w.heap[g]? := fun g hg => Below.heap_alloc w ob g hg
  have e : Ext G w m { G with S := fun g => G.S g ∨ g = w.heap.size } (w.alloc ob) m := ⟨fun g hg => ⟨.inl hg, hk g (h.low g hg)⟩, fun _ cs h => ⟨cs, h, rfl⟩, fun _ ver _ _ c h => ⟨ver, c, h, Nat.le_refl _, fun _ => ⟨Nat.le_refl _, rfl, rfl⟩⟩, fun _ a l h => ⟨a, l, h, rfl⟩⟩
  have hsz : (w.alloc ob).heap.size = w.heap.size + 1 := World.size_alloc w ob
  refine ⟨⟨fun id o ho => (h.ob id o ho).ext e rfl rfl fun g hg => hk g ((h.ob id o ho).lt hg), h.inj, fun i g hi hg => ⟨fun hs => ?_, (h.apart i g hi hg).2⟩, fun g hg => ?_, fun g hg => ⟨(h.keep g hg).1, (hk g (by have := (h.keep g hg).1; have := h.size; omega)).trans (h.keep g hg).2⟩, h.os, h.tape, h.output, by rw [hsz]; have := h.size; omega, fun g hg => .inl (h.s0 g hg), fun g hg hk' => ?_, h.pin, h.shp⟩, e⟩
  · rcases hs with hs | hs
    · exact (h.apart i g hi hg).1 hs
    · cases ho : m i with
      | none => exact hi ho
      | some o => have := (h.ob i o ho).lt hg; omega
  · rw [hsz]
    rcases hg with hg | hg
    · have := h.low g hg; omega
    · omega
  · rcases hg with hg | hg
    · exact h.sk g hg hk'
    · have := (h.keep g hk').1; have := h.size; omega
theorem flat_get {n : Nat} : ∀ {c : List (List V)}, (∀ e ∈ c, e.length = n) → ∀ (i j : Nat) x, elem? c i j = some x → c.flatten[i * n + j]? = some x
  | [], _, i, j, x, h => by simp [elem?] at h
  | e :: c, hs, 0, j, x, h => by
    have hj : e[j]? = some x := by simpa [elem?] using h
    have hlt : j < e.length := (List.getElem?_eq_some_iff.1 hj).1
    simp only [List.flatten_cons, Nat.zero_mul, Nat.zero_add]
    rw [List.getElem?_append_left hlt]; exact hj
  | e :: c, hs, i + 1, j, x, h => by
    have he := hs e List.mem_cons_self
    have ih := flat_get (fun e' he' => hs e' (List.mem_cons_of_mem _ he')) i j x (by simpa [elem?] using h)
    simp only [List.flatten_cons]
    rw [List.getElem?_append_right (by rw [he, Nat.add_mul]; omega), he, show (i + 1) * n + j - n = i * n + j from by rw [Nat.add_mul]; omega]
    exact ih
theorem flat_len {n : Nat} : ∀ {c : List (List V)}, (∀ e ∈ c, e.length = n) → c.flatten.length = c.length * n
  | [], _ => by simp
  | e :: c, hs => by
    simp only [List.flatten_cons, List.length_append, List.length_cons]
    rw [hs e List.mem_cons_self, flat_len (fun e' he' => hs e' (List.mem_cons_of_mem _ he')), Nat.add_mul]; omega
/-- A slice of a block whose cells are known. -/
theorem repV_block {Z : Nat → Prop} {w : World} {g n cap : Nat} {us : Array Value} {ty : TypeId} {fz : Nat × Nat} {c : List (List V)} (hg : w.heap[g]? = some (.cells us ty fz)) (hz : Z g) (hn : 0 < n) (hs : ∀ e ∈ c, e.length = n) (hcap : c.length ≤ cap) (hm : cap ≤ maxLen)
    (hr : ∀ (k : Nat) x, c.flatten[k]? = some x → ∃ u, us[k]? = some u ∧ RepV Z w x u) : RepV Z w (.sl c) (.slice (some ⟨g, 0, none⟩) c.length cap) := by
  rcases Nat.eq_zero_or_pos c.length with h0 | h0
  · obtain rfl := List.eq_nil_of_length_eq_zero h0
    exact .nil _ _ hm
  · refine .sl c g 0 n cap (fun i j => us.getD (i * n + j) undef) h0 hz hn hs hcap hm (fun i j x hx => ?_) (fun i j x hx => ?_)
    · obtain ⟨u, h1, _⟩ := hr _ _ (flat_get hs i j x hx)
      simp [World.cell?, hg, h1]
    · obtain ⟨u, h1, h2⟩ := hr _ _ (flat_get hs i j x hx)
      simp only [Array.getD_eq_getD_getElem?, h1, Option.getD_some]; exact h2
theorem bs_flat : ∀ l : List UInt8, (bs l).flatten = l.map fun b => V.int .u8 (b.toNat : Int)
  | [] => rfl
  | b :: l => by
    have ih := bs_flat l
    simp only [bs, List.map_cons, List.flatten_cons] at ih ⊢
    rw [ih]; rfl
/-- []byte(s), for good. -/
theorem stepU_convB {s t e : TypeId} {x : Operand} {l : List UInt8} (ho : o.op = .convert s t x) (hs : X.P.underlying s = some .string) (ht : X.P.underlying t = some (.slice e)) (he : X.P.underlying e = some (.int .u8)) (hx : Ev f x (.v (.str l))) (hl : l.length ≤ 9223372036854775807) : StepU X o f m (.v (.sl (bs l))) [] [] :=
  fun f' m' hf _ _ G w a hO hF K Q hK => by
    have h := rep_str (ev_at hx (by simp [ho, Op.operands]) hf hF)
    have hr := run_bytes_of_string (P := X.P) w s t e (S l) hs ht he
    have hge : (S l).size ≤ grownCap w (S l).size 0 e := grownCap_ge w (S l).size 0 e
    have hm : grownCap w (S l).size 0 e ≤ maxLen := grownCap_le_maxLen w (S l).size 0 e (by rw [S_size]; simpa [maxLen] using hl)
    generalize grownCap w (S l).size 0 e = c at hr hge hm
    rw [S_size] at hr hge
    have hrun : (execOp a.eval o).run X.P w = .ok (.value (.slice (some ⟨w.heap.size, 0, none⟩) l.length c)) (w.drew.alloc (.cells (bytesRow (S l) c) e ((bytesRow (S l) c).size, (bytesRow (S l) c).size + 1))) := by
      simp only [execOp, ho, h, Sem.run_bind, hr, Result.andThen_ok, Sem.run_pure]
    unfold Oper.wp
    rw [hrun]
    obtain ⟨h1, h2⟩ := hO.draw (w.drawn + 1)
    obtain ⟨h3, h4⟩ := h1.newS (.cells (bytesRow (S l) c) e ((bytesRow (S l) c).size, (bytesRow (S l) c).size + 1))
    refine hK _ _ _ h3 (h2.trans h4) (.v _ _ ?_)
    have := repV_block (Z := fun g => G.S g ∨ g = w.heap.size) (w := w.drew.alloc (.cells (bytesRow (S l) c) e ((bytesRow (S l) c).size, (bytesRow (S l) c).size + 1))) (c := bs l) (n := 1) (cap := c) (heap_alloc_new w.drew _) (.inr rfl) (by decide) (bs_one l) (by simpa using hge) hm (fun k x hx => by
      rw [bs_flat, List.getElem?_map] at hx
      cases hk : l[k]? with
      | none => rw [hk] at hx; cases hx
      | some b =>
        rw [hk] at hx
        simp at hx
        subst hx
        have hlt := (List.getElem?_eq_some_iff.1 hk).1
        refine ⟨.int .u8 (b.toNat : Int), ?_, .int _ _⟩
        have hsz : (S l).data.size = l.length := by simp [S]
        unfold bytesRow
        rw [Array.getElem?_append_left (by simp [hsz]; exact hlt)]
        simp [S, hk])
    rw [bs_length] at this
    exact this
theorem run_buildSlice {P : Program} {G : Gh} {w : World} {f : Nat → D} {a : Act} {t e : TypeId} {b : Bool} {n len : Nat} {parts : Array (Nat × Operand)} {zus : List Value} {zs : List D} {ds : List (Nat × D)} (hF : FrOk G w m f a) (ht : P.underlying t = some (.slice e)) (hs : sizeB P e = some (b, n)) (hz : zeroCs P e = some zus) (hl : Lits zus zs) (hzn : zs.length = n) (h24 : len * n ≤ 16777216)
    (hp : PartsAt f ((List.range len).map fun k => (k * n, n)) (len * n) parts.toList ds) :
    ∃ vs : List Value, (Instr.buildSlice t len (parts.map fun (i, x) => (i, a.eval x))).run P w = .ok (.slice (some ⟨w.heap.size, 0, none⟩) len len) (w.alloc (.cells vs.toArray e)) ∧ RepDs G w m (fillD (List.replicate (len * n) .any) ds) vs ∧ (∀ u ∈ vs, u.oneCell' = true) ∧ vs.length = len * n := by
  unfold zeroCs at hz
  cases hi : P.info? e with
  | none => simp [hi] at hz
  | some i =>
    cases hzz : i.zero with
    | none => simp [hi, hzz] at hz
    | some z =>
      simp [hi, hzz] at hz
      have L := Lits.rep (G := G) (w := w) (m := m) hl
      have hzl : zus.length = n := by rw [L.1.1]; exact hzn
      have hpt : (parts.map fun (i, x) => (i, a.eval x)).toList = parts.toList.map fun (i, x) => (i, a.eval x) := by simp
      let zero : Array Value := if len * n = 0 then #[] else z.cells
      let base : List Value := ((Array.range (len * n)).map fun k => zero[k % zero.size]!).toList
      have hb1 : base.length = len * n := by simp [base]
      have hb2 : ∀ u ∈ base, u.oneCell' = true := fun u hu => by
        simp only [base, Array.toList_map, List.mem_map] at hu
        obtain ⟨k, hk, rfl⟩ := hu
        have hk' : k < len * n := by simpa using hk
        have h0 : ¬ len * n = 0 := by omega
        have hne : 0 < n := by rcases Nat.eq_zero_or_pos n with h | h; subst h; simp at h0; exact h
        simp only [zero, if_neg h0]
        have hzs : z.cells.size = n := by rw [← hzl, ← hz]; simp
        have hlt : k % z.cells.size < z.cells.size := Nat.mod_lt _ (by omega)
        rw [getElem!_pos z.cells _ hlt]
        exact L.2 _ (by rw [← hz]; simp)
      obtain ⟨vs, e1, e2, e3⟩ := fill_rep hF (place := fun i => some (i * n, n)) (fun i p hp => by
        rw [List.getElem?_map] at hp
        cases hr : (List.range len)[i]? with
        | none => rw [hr] at hp; cases hp
        | some j =>
          rw [hr] at hp
          have : j = i := by obtain ⟨h1, h2⟩ := List.getElem?_eq_some_iff.1 hr; simp at h2; exact h2.symm
          subst this
          simpa using hp) hp (List.replicate (len * n) .any) base (by simp) ⟨by simp [hb1], fun i d u hd hu => by
            rw [List.getElem?_replicate] at hd
            split at hd <;> simp at hd
            subst hd; exact .any _⟩ hb2
      have hfl : ∀ (ds : List (Nat × D)) (cs : List D), (∃ pl ps, PartsAt f pl cs.length ps ds) → (fillD cs ds).length = cs.length := by
        intro ds
        induction ds with
        | nil => intro cs _; rfl
        | cons p ds ih =>
          intro cs ⟨pl, ps, hpp⟩
          obtain ⟨off, d⟩ := p
          cases hpp with
          | @cons i x _ sz _ ps' _ h1 h2 h3 h4 r =>
            have hspl : (splice cs off d.cells).length = cs.length := by unfold splice; simp only [List.length_append, List.length_take, List.length_drop]; omega
            simp only [fillD]
            rw [ih _ ⟨pl, ps', by rw [hspl]; exact r⟩, hspl]
      have hvl : vs.length = len * n := by
        rw [e2.1, hfl ds _ ⟨_, _, by simpa using hp⟩]; simp
      refine ⟨vs, ?_, e2, e3, hvl⟩
      unfold Instr.buildSlice
      simp only [Sem.run_bind, run_underlying ht, Result.andThen_ok, (run_sizeB hs w).1]
      rw [if_neg (by omega)]
      by_cases h0 : len * n = 0
      · rw [if_pos h0]
        have e1' : Instr.fill (fun i => some (i * n, n)) ((Array.range (len * n)).map fun k => (#[] : Array Value)[k % (#[] : Array Value).size]!) (parts.map fun (i, x) => (i, a.eval x)).toList = some vs.toArray := by
          rw [hpt, ← e1]; congr 1; simp only [base, zero, if_pos h0]
        simp only [Sem.run_pure, Result.andThen_ok, pure_bind]
        rw [e1']
        rfl
      · rw [if_neg h0]
        simp only [Sem.run_bind, zeroValue, typeInfo, run_program, Result.andThen_ok, hi, hzz, Sem.run_pure]
        have e1' : Instr.fill (fun i => some (i * n, n)) ((Array.range (len * n)).map fun k => z.cells[k % z.cells.size]!) (parts.map fun (i, x) => (i, a.eval x)).toList = some vs.toArray := by
          rw [hpt, ← e1]; congr 1; simp only [base, zero, if_neg h0]
        rw [e1']
        rfl
/-- A slice's literal, for good. -/
theorem stepU_lits {t e : TypeId} {b : Bool} {n len : Nat} {parts : Array (Nat × Operand)} {zus : List Value} {zs : List D} {ds : List (Nat × D)} {c : List (List V)} (ho : o.op = .buildSlice t len parts) (ht : X.P.underlying t = some (.slice e)) (hs : sizeB X.P e = some (b, n)) (hz : zeroCs X.P e = some zus) (hl : Lits zus zs) (hzn : zs.length = n ∧ 0 < n ∧ len * n ≤ 16777216)
    (hp : PartsAt f ((List.range len).map fun k => (k * n, n)) (len * n) parts.toList ds) (hc : fillD (List.replicate (len * n) .any) ds = c.flatten.map .v) (hcn : c.length = len ∧ ∀ e ∈ c, e.length = n) : StepU X o f m (.v (.sl c)) [] [] :=
  fun f' m' hf _ _ G w a hO hF K Q hK => by
    have hp' := hp.mono (f' := f') (fun p hp t ht => hf t (by
      simp only [ho, Op.operands]
      rw [Array.mem_def]
      simp only [List.mem_map]
      exact ⟨p, hp, ht⟩))
    obtain ⟨vs, r1, r2, r3, r4⟩ := run_buildSlice hF ht hs hz hl hzn.1 hzn.2.2 hp'
    have hrun : (execOp a.eval o).run X.P w = .ok (.value (.slice (some ⟨w.heap.size, 0, none⟩) len len)) (w.alloc (.cells vs.toArray e)) := by
      simp only [execOp, ho, Sem.run_bind, r1, Result.andThen_ok, Sem.run_pure]
    unfold Oper.wp
    rw [hrun]
    obtain ⟨h3, h4⟩ := hO.newS (.cells vs.toArray e)
    refine hK _ _ _ h3 h4 (.v _ _ ?_)
    have hlm : len ≤ maxLen := by have := hzn.2.2; have := hzn.2.1; simp [maxLen]; have : len * 1 ≤ len * n := Nat.mul_le_mul_left _ (by omega); omega
    have := repV_block (Z := fun g => G.S g ∨ g = w.heap.size) (w := w.alloc (.cells vs.toArray e)) (c := c) (n := n) (cap := len) (heap_alloc_new w _) (.inr rfl) hzn.2.1 hcn.2 (by omega) hlm (fun k x hx => by
      rw [hc] at r2
      have hlt : k < vs.length := by rw [r4, ← hcn.1, ← flat_len hcn.2]; exact (List.getElem?_eq_some_iff.1 hx).1
      have := r2.2 k (.v x) vs[k] (by rw [List.getElem?_map, hx]; rfl) (List.getElem?_eq_getElem hlt)
      refine ⟨vs[k], by simp [hlt], ?_⟩
      cases this with | v _ _ h => exact h.ext h4)
    rw [hcn.1] at this
    exact this
end
end Go.Proofs.YthflfnehdlpmdaaDoor
