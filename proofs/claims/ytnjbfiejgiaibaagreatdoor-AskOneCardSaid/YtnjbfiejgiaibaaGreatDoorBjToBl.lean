/- Abstract states: bytes of a slice that is known exactly, in a block that is kept (and may be written again by the caller, later). No program, no condition. -/
import Derived.Test.YtnjbfiejgiaibaaGreatDoorBeToSkA
import Derived.Lib.SlBytesConst
namespace Go.Proofs.YtnjbfiejgiaibaaGreatDoor
set_option linter.all false
open Go Go.RowKit
/-- Bytes at the head of a block that is kept. -/
def KB (X : Cx) (A : Option Addr) (l : List UInt8) (cap : Nat) : Prop :=
  l.length ≤ cap ∧ cap ≤ maxLen ∧ ((l = [] ∧ (A = none ∨ ∃ g, A = some ⟨g, 0, none⟩)) ∨ ∃ g, A = some ⟨g, 0, none⟩ ∧ X.K g ∧ ∀ i b, l[i]? = some b → X.w0.cell? ⟨g, i, none⟩ = some (.int .u8 (b.toNat : Int)))
/-- The slice behind its first i places. -/
def skv (A : Option Addr) (i n cap : Nat) : Value := .slice (if i = cap then A.map (·.add (i - 1)) else A.map (·.add i)) (n - i) (cap - i)
section
variable {X : Cx} {o : Oper} {f : Nat → D} {m : Mem} {A : Option Addr} {l : List UInt8} {cap i : Nat}
theorem KB.cell (h : KB X A l cap) {G : Gh} {w : World} {m : Mem} (hO : Ok X G w m) {b : UInt8} (hb : l[i]? = some b) : ∃ g, A = some ⟨g, 0, none⟩ ∧ w.cell? ⟨g, i, none⟩ = some (.int .u8 (b.toNat : Int)) := by
  rcases h.2.2 with ⟨h, _⟩ | ⟨g, h1, h2, h3⟩
  · subst h; cases hb
  · refine ⟨g, h1, ?_⟩
    have h4 := h3 i b hb
    have h5 := (hO.keep g h2).2
    simp only [World.cell?] at h4 ⊢
    rw [h5]; exact h4
theorem KB.to (h : KB X A l cap) {Y : Cx} (hK : ∀ g, X.K g → Y.K g) {G : Gh} {m : Mem} (hO : Ok X G Y.w0 m) : KB Y A l cap := by
  refine ⟨h.1, h.2.1, ?_⟩
  rcases h.2.2 with h' | ⟨g, h1, h2, h3⟩
  · exact .inl h'
  · refine .inr ⟨g, h1, hK g h2, fun i b hb => ?_⟩
    obtain ⟨g', e1, e2⟩ := h.cell hO hb
    rw [h1] at e1; injection e1 with e1; injection e1 with e1; subst e1
    exact e2
/-- The rest, as bytes. -/
theorem KB.rep (h : KB X A l cap) {G : Gh} {w : World} {m : Mem} (hO : Ok X G w m) (hi : i ≤ l.length) : RepV (fun _ => True) w (.sl (bs (l.drop i))) (skv A i l.length cap) := by
  have hl := h.1
  have hc := h.2.1
  by_cases he : i = l.length
  · have e1 : l.drop i = [] := by rw [he, List.drop_length]
    rw [e1]
    unfold skv
    rw [he, Nat.sub_self]
    exact .nil _ _ (by omega)
  · obtain ⟨b, hb⟩ : ∃ b, l[i]? = some b := ⟨_, List.getElem?_eq_getElem (by omega)⟩
    obtain ⟨g, e1, _⟩ := h.cell hO hb
    subst e1
    unfold skv
    rw [if_neg (by omega), Option.map_some, addr_add, Nat.zero_add]
    have e2 : l.length - i = (bs (l.drop i)).length := by simp
    rw [e2]
    refine .sl _ g i 1 _ (fun q _ => .int .u8 ((l[i + q]?.getD 0).toNat : Int)) (by simp; omega) trivial (Nat.le_refl _) (bs_one _) (by simp; omega) (by omega) (fun q j x hx => ?_) (fun q j x hx => ?_)
    all_goals
      unfold elem? bs at hx
      rw [List.getElem?_map, List.getElem?_drop] at hx
      cases hq : l[i + q]? with
      | none => rw [hq] at hx; cases hx
      | some b =>
        rw [hq] at hx
        cases j with
        | succ j => simp at hx
        | zero =>
          simp at hx; subst hx
          first
            | exact .int _ _
            | (obtain ⟨g', e3, e4⟩ := h.cell hO hq
               injection e3 with e3; injection e3 with e3; subst e3
               rw [Nat.mul_one, Nat.add_zero]
               exact e4)
theorem hnew_of {f : Nat → D} {l : List Nat} {pre post : AH} {m' : Mem} {T : List Nat} (hnd : nodupB l = true) (hT : ∀ x ∈ T, x ∈ (keys pre).map (rho l) ∨ ∀ i, dom post i = true → rho l i ≠ x) (hn : ∀ p ∈ AH.ren (rho l) post, p.1 ∉ T → m' p.1 = none) : ∀ i, dom post i = true → dom pre i = false → m' (rho l i) = none := fun i h1 h2 => by
  have hinj := rho_inj hnd
  obtain ⟨o', ho'⟩ := of_dom h1
  have hin : (rho l i, o'.ren (rho l)) ∈ AH.ren (rho l) post := by
    have := mem_of_look (ah := AH.ren (rho l) post) (i := rho l i) (o := o'.ren (rho l)) (by rw [look_ren hinj, ho']; rfl)
    exact this
  refine hn _ hin fun hmem => ?_
  rcases hT _ hmem with hmem | hne
  · obtain ⟨j, hj, he⟩ := List.mem_map.1 hmem
    have := hinj _ _ he
    subst this
    unfold keys at hj
    obtain ⟨p, hp, rfl⟩ := List.mem_map.1 hj
    rw [dom_mem hp] at h2; cases h2
  · exact hne i h1 rfl
end
end Go.Proofs.YtnjbfiejgiaibaaGreatDoor

/- Abstract states: a part of a body that only reads, and what follows it, in one. No program, no condition. -/
namespace Go.Proofs.YtnjbfiejgiaibaaGreatDoor
set_option linter.all false
open Go Go.RowKit
end Go.Proofs.YtnjbfiejgiaibaaGreatDoor

/- Abstract states: bytes written out as a text's ([]byte("..")): a row of one's own that the model marks. A guard that is known. No program, no condition. -/
namespace Go.Proofs.YtnjbfiejgiaibaaGreatDoor
set_option linter.all false
open Go Go.RowKit
section
variable {X : Cx} {G : Gh} {w w' : World} {m : Mem}
end
section
variable {X : Cx} {G : Gh} {w w' : World} {m : Mem}
theorem Ok.newMark0 (h : Ok X G w m) {id : Nat} (hid : m id = none) (hnp : X.np ≤ id) (e : TypeId) (he : e < MK) (l : List UInt8) (cur : Array Value) (hl : l.length ≤ cur.size) (hm : cur.size ≤ maxLen) (hc : ∀ i, (hi : i < l.length) → cur[i]? = some (.int .u8 (l[i].toNat : Int))) :
    let G' := G.at_ id (some w.heap.size) cur.size
    let w' := w.alloc (.cells cur e)
    Ok X G' w' (over [(id, .row 0 1 (e + MK) (bs l))] m) ∧ Ext G w m G' w' (over [(id, .row 0 1 (e + MK) (bs l))] m) ∧ RepD G' w' (over [(id, .row 0 1 (e + MK) (bs l))] m) (.view id 0 0 l.length) (.slice (some ⟨w.heap.size, 0, none⟩) l.length cur.size) := by
  intro G' w'
  have hel : ∀ i j x, elem? (bs l) i j = some x → ∃ v, cur[i * 1 + j]? = some v ∧ RepV G.S w x v := fun i j x hx => by
    unfold elem? bs at hx
    rw [List.getElem?_map] at hx
    cases hk : l[i]? with
    | none => rw [hk] at hx; cases hx
    | some b =>
      rw [hk] at hx
      obtain ⟨hlt, he⟩ := List.getElem?_eq_some_iff.1 hk
      cases j with
      | zero =>
        simp at hx
        subst hx
        exact ⟨_, by rw [Nat.mul_one, Nat.add_zero, hc i hlt], by rw [he]; exact .int _ _⟩
      | succ j => simp at hx
  obtain ⟨a, b⟩ := h.step (G' := G') (w' := w') id (.row 0 1 (e + MK) (bs l)) rfl (fun i hi => Gh.at_ne G _ _ hi) (fun g hg => by
      rw [Gh.at_μ] at hg; injection hg with hg; exact .inl (by omega)) (fun g hg _ => Below.heap_alloc w _ g hg) (by show w.heap.size ≤ (w.alloc _).heap.size; rw [World.size_alloc]; omega) rfl rfl rfl
      (fun o' ho' => by rw [hid] at ho'; cases ho') (fun k => ⟨bs_one l, by decide, by rw [Gh.at_cap, bs_length]; exact hl, by rw [Gh.at_cap]; exact hm, .inr ⟨w.heap.size, cur, fun i j => cur.getD (i * 1 + j) undef, _, e, .inr ⟨rfl, he, .inl rfl⟩, Gh.at_μ _ _ _ _, heap_alloc_new w _, by rw [Gh.at_cap, Nat.mul_one], fun i j x hx => by
          obtain ⟨v, h1, h2⟩ := hel i j x hx
          show cur[i * 1 + j]? = some (cur.getD (i * 1 + j) undef)
          rw [Array.getD_eq_getD_getElem?, h1]; rfl, fun i j x hx => by
          obtain ⟨v, h1, h2⟩ := hel i j x hx
          simp only [Array.getD_eq_getD_getElem?, h1, Option.getD_some]; exact h2.ext k⟩⟩) (fun cs _ he => by cases he)
  exact ⟨a, b, .view id 0 0 _ _ 0 1 (e + MK) _ over_at (Nat.le_refl _) rfl fun _ => ⟨by rw [bs_length]; omega, some ⟨w.heap.size, 0, none⟩, cur.size, rfl, by rw [Gh.at_cap]; omega, hl, .inl (by rw [Gh.at_μ]; simp)⟩⟩
end
section
variable {X : Cx} {o : Oper} {f : Nat → D} {m : Mem}
/-- Bytes written out, a row whose type is told as a marked one's. -/
theorem stepU_rowM {t e : TypeId} {b : Bool} {len : Nat} {parts : Array (Nat × Operand)} {zus : List Value} {zs : List D} {ds : List (Nat × D)} {l : List UInt8} (id : Nat) (hnp : X.np ≤ id) (ho : o.op = .buildSlice t len parts) (ht : X.P.underlying t = some (.slice e)) (hs : sizeB X.P e = some (b, 1)) (hz : zeroCs X.P e = some zus) (hl : Lits zus zs) (hzn : zs.length = 1 ∧ 0 < 1 ∧ len * 1 ≤ 16777216)
    (hp : PartsAt f ((List.range len).map fun k => (k * 1, 1)) (len * 1) parts.toList ds) (hc : fillD (List.replicate (len * 1) .any) ds = (bs l).flatten.map .v) (hcn : l.length = len) (hk : e < MK) : StepU X o f m (.view id 0 0 len) [(id, .row 0 1 (e + MK) (bs l))] [] :=
  fun f' m' hf _ hnew G w a hO hF K Q hK => by
    have hp' := hp.mono (f' := f') (fun p hp t ht => hf t (by
      simp only [ho, Op.operands]
      rw [Array.mem_def]
      simp only [List.mem_map]
      exact ⟨p, hp, ht⟩))
    obtain ⟨vs, r1, r2, r3, r4⟩ := run_buildSlice hF ht hs hz hl hzn.1 hzn.2.2 hp'
    have hrun : (execOp a.eval o).run X.P w = .ok (.value (.slice (some ⟨w.heap.size, 0, none⟩) len len)) (w.alloc (.cells vs.toArray e)) := by
      simp only [execOp, ho, Sem.run_bind, r1, Result.andThen_ok, Sem.run_pure]
    unfold Oper.wp
    rw [hrun]
    have hid : m' id = none := hnew (id, Ob.row 0 1 (e + MK) (bs l)) (List.mem_singleton.2 rfl) List.not_mem_nil
    subst hcn
    rw [Nat.mul_one] at r4
    have hsz : vs.toArray.size = l.length := by simpa using r4
    obtain ⟨k1, k2, k3⟩ := hO.newMark0 hid hnp e hk l vs.toArray (by omega) (by have := hzn.2.2; simp [maxLen]; omega) (fun i hi => by
      rw [hc] at r2
      have hlt : i < vs.length := by omega
      have hf2 : (bs l).flatten[i]? = some (V.int .u8 (l[i].toNat : Int)) := by rw [bs_flat]; simp [hi]
      have h1 := r2.2 i (.v (V.int .u8 (l[i].toNat : Int))) vs[i] (by rw [List.getElem?_map, hf2]; rfl) (List.getElem?_eq_getElem hlt)
      rw [List.getElem?_toArray, List.getElem?_eq_getElem hlt]
      rw [rep_int h1])
    rw [show Value.slice (some ⟨w.heap.size, 0, none⟩) l.length vs.toArray.size = Value.slice (some ⟨w.heap.size, 0, none⟩) l.length l.length by rw [hsz]] at k3
    exact hK _ _ _ k1 k2 k3
theorem freeze_at (w : World) (g : Nat) (cur : Array Value) (e : TypeId) (fz : Nat × Nat) (hg : w.heap[g]? = some (.cells cur e fz)) :
    ∃ fz', (w.freeze ⟨g, cur.size, none⟩ 1).heap[g]? = some (.cells cur e fz') ∧ (fz = (0, 0) ∨ cur.size ≤ fz.1 → cur.size ≤ fz'.1) ∧ (∀ k, k ≠ g → (w.freeze ⟨g, cur.size, none⟩ 1).heap[k]? = w.heap[k]?) ∧ (w.freeze ⟨g, cur.size, none⟩ 1).heap.size = w.heap.size ∧
      (w.freeze ⟨g, cur.size, none⟩ 1).os = w.os ∧ (w.freeze ⟨g, cur.size, none⟩ 1).tape = w.tape ∧ (w.freeze ⟨g, cur.size, none⟩ 1).output = w.output := by
  obtain ⟨lo, hi⟩ := fz
  have e0 : w.freeze ⟨g, cur.size, none⟩ 1 = { w with heap := w.heap.modify g fun
      | .cells c elem (lo, hi) => .cells c elem (if lo == hi then (cur.size, cur.size + 1) else (min lo cur.size, max hi (cur.size + 1)))
      | o => o } := by
    unfold World.freeze
    rw [if_neg (by decide)]
    rfl
  rw [e0]
  refine ⟨if lo == hi then (cur.size, cur.size + 1) else (min lo cur.size, max hi (cur.size + 1)), ?_, fun h => ?_, fun k hk => ?_, by simp, rfl, rfl, rfl⟩
  · show (w.heap.modify g _)[g]? = _
    rw [Array.getElem?_modify, if_pos rfl, hg]; rfl
  · rcases h with h | h
    · injection h with h1 h2; subst h1 h2; exact Nat.le_refl _
    · split
      · exact Nat.le_refl _
      · show cur.size ≤ min lo cur.size
        have : cur.size ≤ lo := h
        omega
  · show (w.heap.modify g _)[k]? = _
    rw [Array.getElem?_modify, if_neg (Ne.symm hk)]
/-- A row to its own type: it is marked behind its last place. -/
theorem stepU_convOwn {t e : TypeId} {x : Operand} {c : List (List V)} {id ver len : Nat} (ho : o.op = .convert t t x) (ht : X.P.underlying t = some (.slice e)) (he : X.P.underlying e = some (.int .u8)) (hk : e < MK) (hx : Ev f x (.view id ver 0 len)) (hm : m id = some (.row ver 1 (e + MK) c)) (hlen : 0 < len) : StepU X o f m (.view id ver 0 len) [(id, .row ver 1 (e + MK) c)] [id] :=
  fun f' m' hf hT _ G w a hO hF K Q hK => by
    have hm' := (hT id (by simp)).trans hm
    obtain ⟨v1, A, cap, hu, a2, a3, a4⟩ := rep_view (ev_at hx (by simp [ho, Op.operands]) hf hF) hm'
    have hrow := hO.ob id _ hm'
    obtain ⟨r1, r2, r3, r4, r5⟩ := hrow
    rcases r5 with ⟨r6, r7⟩ | ⟨g, cur, us, fz, e0', hfz, r6, r7, r8, r10, r11⟩
    · omega
    · have hA : A = some ⟨g, 0, none⟩ := by
        rcases a4 with a4 | ⟨_, a4⟩
        · rw [a4, r6]; simp
        · exact absurd rfl a4
      subst hA
      obtain ⟨fz', f1, f2, f3, f4, f5, f6, f7⟩ := freeze_at w g cur e0' fz r7
      have hsh : w.shape? g = some (e0', cur.size) := by unfold World.shape?; rw [r7]
      have hrun : (execOp a.eval o).run X.P w = .ok (.value (.slice (some ⟨g, 0, none⟩) len cap)) (w.freeze ⟨g, cur.size, none⟩ 1) := by
        simp [execOp, ho, hu, convert, run_underlying ht, run_underlying he, markStringish, hsh]
      unfold Oper.wp
      rw [hrun]
      have hfz' : FzOk (e + MK) e0' fz' cur.size := by
        rcases hfz with ⟨q1, q2 | q2⟩ | ⟨q1, q2, q3⟩
        · exact .inl ⟨q1, .inr ⟨by omega, f2 (.inl q2)⟩⟩
        · exact .inl ⟨q1, .inr ⟨by omega, f2 (.inr q2.2)⟩⟩
        · exact .inr ⟨q1, q2, .inr (f2 q3)⟩
      obtain ⟨k1, k2⟩ := hO.step (G' := G) (w' := w.freeze ⟨g, cur.size, none⟩ 1) id (.row ver 1 (e + MK) c) rfl (fun i _ => ⟨rfl, rfl⟩) (fun q hq => .inr ⟨by rw [hm']; simp, hq⟩)
        (fun q hq hne => f3 q fun e => hne (by rw [hm']; simp) (by rw [e]; exact r6)) (by rw [f4]; exact Nat.le_refl _) f5 f6 f7
        (fun o' ho' => by rw [hm'] at ho'; injection ho' with ho'; subst ho'; exact ⟨(fun cs h => by cases h), fun ver' n' e'' c' h => by injection h with h1 h2 h3 h4; subst h1 h2 h3 h4; exact ⟨ver, c, rfl, Nat.le_refl _, fun _ => ⟨Nat.le_refl _, rfl, rfl⟩⟩⟩)
        (fun kx => ⟨r1, r2, r3, r4, .inr ⟨g, cur, us, fz', e0', hfz', r6, f1, r8, r10, fun i j x hx => (r11 i j x hx).ext kx⟩⟩) (fun cs _ h => by cases h)
      exact hK _ _ _ k1 k2 (.view id ver 0 len _ ver 1 (e + MK) c over_at (Nat.le_refl _) rfl fun _ => ⟨v1, _, _, rfl, a2, a3, a4⟩)
theorem z_rowM {dst : Option Tmp} {ty : TypeId} {ps : String} {af : Array Edge} {gd : Option (Nat × Bool)} {t e : TypeId} {b : Bool} {len : Nat} {parts : Array (Nat × Operand)} {zus : List Value} {zs : List D} {ds : List (Nat × D)} (id : Nat) (l : List UInt8) (hp : PartsAt f ((List.range len).map fun k => (k * 1, 1)) (len * 1) parts.toList ds) (ht : X.P.underlying t = some (.slice e)) (hs : sizeB X.P e = some (b, 1)) (hz : zeroCs X.P e = some zus) (hl : Lits zus zs) (hc : fillD (List.replicate (len * 1) .any) ds = (bs l).flatten.map .v := by exact rfl) (hcn : l.length = len := by exact rfl) (hnp : X.np ≤ id := by exact Nat.le_of_ble_eq_true rfl) (hzn : zs.length = 1 ∧ 0 < 1 ∧ len * 1 ≤ 16777216 := by exact ⟨rfl, Nat.le_of_ble_eq_true rfl, Nat.le_of_ble_eq_true rfl⟩) (hk : e < MK := by exact Nat.le_of_ble_eq_true rfl) :
    StepU X ⟨dst, .buildSlice t len parts, ty, ps, af, gd⟩ f m (.view id 0 0 len) [(id, .row 0 1 (e + MK) (bs l))] [] := stepU_rowM id hnp rfl ht hs hz hl hzn hp hc hcn hk
theorem z_convOwn {dst : Option Tmp} {ty : TypeId} {ps : String} {af : Array Edge} {gd : Option (Nat × Bool)} {t e : TypeId} {x : Operand} {c : List (List V)} {id ver len : Nat} (ht : X.P.underlying t = some (.slice e)) (he : X.P.underlying e = some (.int .u8)) (hx : Ev f x (.view id ver 0 len) := by exact ev_tmp rfl) (hm : m id = some (.row ver 1 (e + MK) c) := by exact rfl) (hlen : 0 < len := by exact Nat.le_of_ble_eq_true rfl) (hk : e < MK := by exact Nat.le_of_ble_eq_true rfl) :
    StepU X ⟨dst, .convert t t x, ty, ps, af, gd⟩ f m (.view id ver 0 len) [(id, .row ver 1 (e + MK) c)] [id] := stepU_convOwn rfl ht he hk hx hm hlen
end
section
variable {X : Cx} {Q : AX → Fm → AH → Prop}
end
end Go.Proofs.YtnjbfiejgiaibaaGreatDoor
