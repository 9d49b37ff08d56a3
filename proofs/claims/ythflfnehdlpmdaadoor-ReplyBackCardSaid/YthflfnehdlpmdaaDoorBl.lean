/- Abstract states: bytes written out as a text's ([]byte("..")): a row of one's own that the model marks. A guard that is known. No program, no condition. -/
import Derived.Test.YthflfnehdlpmdaaDoorBhToBk
import Derived.Lib.SlBytesConst
namespace Go.Proofs.YthflfnehdlpmdaaDoor
set_option linter.all false
open Go Go.RowKit
section
variable {X : Cx} {G : Gh} {w w' : World} {m : Mem}
end
section
variable {X : Cx} {G : Gh} {w w' : World} {m : Mem}
theorem Ok.newMark0 (h : Ok X G w m) {id : Nat} (hid : m id = none) (hnp : X.np ≤ id) (e : TypeId) (he : e < MK) (l : List UInt8) (cur : Array Value) (hl : l.length ≤ cur.size) (hm : cur.size ≤ maxLen) (hc : ∀ i, (hi : i < l.length) → cur[i]? = some (.int .u8 (l[i].toNat : Int))) :
    let G' := G.at_ id (some w.heap.size) cur.size
    let w' := w.alloc (.cells cur e)
    Ok X G' w' (over [(id, .row 0 1 (e + MK) (bs l))] m) ∧ Ext G w m G' w' (over [(id, .row 0 1 (e + MK) (bs l))] m) ∧ RepD G' w' (over [(id, .row 0 1 (e + MK) (bs l))] m) (.view id 0 0 l.length) (.slice (some ⟨w.heap.size, 0, none⟩) l.length cur.size) := by
  intro G' w'
  have hel : ∀ i j x, elem? (bs l) i j = some x → ∃ v, cur[i * 1 + j]? = some v ∧ RepV G.S w x v := fun i j x hx => by
    unfold elem? bs at hx
    rw [List.getElem?_map] at hx
    cases hk : l[i]? with
    | none => rw [hk] at hx; cases hx
    | some b =>
      rw [hk] at hx
      obtain ⟨hlt, he⟩ := List.getElem?_eq_some_iff.1 hk
      cases j with
      | zero =>
        simp at hx
        subst hx
        exact ⟨_, by rw [Nat.mul_one, Nat.add_zero, hc i hlt], by rw [he]; exact .int _ _⟩
      | succ j => simp at hx
  obtain ⟨a, b⟩ := h.step (G' := G') (w' := w') id (.row 0 1 (e + MK) (bs l)) rfl (fun i hi => Gh.at_ne G _ _ hi) (fun g hg => by
      rw [Gh.at_μ] at hg; injection hg with hg; exact .inl (by omega)) (fun g hg _ => Below.heap_alloc w _ g hg) (by show w.heap.size ≤ (w.alloc _).heap.size; rw [World.size_alloc]; omega) rfl rfl rfl
      (fun o' ho' => by rw [hid] at ho'; cases ho') (fun k => ⟨bs_one l, by decide, by rw [Gh.at_cap, bs_length]; exact hl, by rw [Gh.at_cap]; exact hm, .inr ⟨w.heap.size, cur, fun i j => cur.getD (i * 1 + j) undef, _, e, .inr ⟨rfl, he, .inl rfl⟩, Gh.at_μ _ _ _ _, heap_alloc_new w _, by rw [Gh.at_cap, Nat.mul_one], fun i j x hx => by
          obtain ⟨v, h1, h2⟩ := hel i j x hx
          show cur[i * 1 + j]? = some (cur.getD (i * 1 + j) undef)
          rw [Array.getD_eq_getD_getElem?, h1]; rfl, fun i j x hx => by
          obtain ⟨v, h1, h2⟩ := hel i j x hx
          simp only [Array.getD_eq_getD_getElem?, h1, Option.getD_some]; exact h2.ext k⟩⟩) (fun cs _ he => by cases he)
  exact ⟨a, b, .view id 0 0 _ _ 0 1 (e + MK) _ over_at (Nat.le_refl _) rfl fun _ => ⟨by rw [bs_length]; omega, some ⟨w.heap.size, 0, none⟩, cur.size, rfl, by rw [Gh.at_cap]; omega, hl, .inl (by rw [Gh.at_μ]; simp)⟩⟩
end
section
variable {X : Cx} {o : Oper} {f : Nat → D} {m : Mem}
/-- Bytes written out, a row whose type is told as a marked one's. -/
theorem stepU_rowM {t e : TypeId} {b : Bool} {len : Nat} {parts : Array (Nat × Operand)} {zus : List Value} {zs : List D} {ds : List (Nat × D)} {l : List UInt8} (id : Nat) (hnp : X.np ≤ id) (ho : o.op = .buildSlice t len parts) (ht : X.P.underlying t = some (.slice e)) (hs : sizeB X.P e = some (b, 1)) (hz : zeroCs X.P e = some zus) (hl : Lits zus zs) (hzn : zs.length = 1 ∧ 0 < 1 ∧ len * 1 ≤ 16777216)
    (hp : PartsAt f ((List.range len).map fun k => (k * 1, 1)) (len * 1) parts.toList ds) (hc : fillD (List.replicate (len * 1) .any) ds = (bs l).flatten.map .v) (hcn : l.length = len) (hk : e < MK) : StepU X o f m (.view id 0 0 len) [(id, .row 0 1 (e + MK) (bs l))] [] :=
  fun f' m' hf _ hnew G w a hO hF K Q hK => by
    have hp' := hp.mono (f' := f') (fun p hp t ht => hf t (by
      simp only [ho, Op.operands]
      rw [Array.mem_def]
      simp only [List.mem_map]
      exact ⟨p, hp, ht⟩))
    obtain ⟨vs, r1, r2, r3, r4⟩ := run_buildSlice hF ht hs hz hl hzn.1 hzn.2.2 hp'
    have hrun : (execOp a.eval o).run X.P w = .ok (.value (.slice (some ⟨w.heap.size, 0, none⟩) len len)) (w.alloc (.cells vs.toArray e)) := by
      simp only [execOp, ho, Sem.run_bind, r1, Result.andThen_ok, Sem.run_pure]
    unfold Oper.wp
    rw [hrun]
    have hid : m' id = none := hnew (id, Ob.row 0 1 (e + MK) (bs l)) (List.mem_singleton.2 rfl) List.not_mem_nil
    subst hcn
    rw [Nat.mul_one] at r4
    have hsz : vs.toArray.size = l.length := by simpa using r4
    obtain ⟨k1, k2, k3⟩ := hO.newMark0 hid hnp e hk l vs.toArray (by omega) (by have := hzn.2.2; simp [maxLen]; omega) (fun i hi => by
      rw [hc] at r2
      have hlt : i < vs.length := by omega
      have hf2 : (bs l).flatten[i]? = some (V.int .u8 (l[i].toNat : Int)) := by rw [bs_flat]; simp [hi]
      have h1 := r2.2 i (.v (V.int .u8 (l[i].toNat : Int))) vs[i] (by rw [List.getElem?_map, hf2]; rfl) (List.getElem?_eq_getElem hlt)
      rw [List.getElem?_toArray, List.getElem?_eq_getElem hlt]
      rw [rep_int h1])
    rw [show Value.slice (some ⟨w.heap.size, 0, none⟩) l.length vs.toArray.size = Value.slice (some ⟨w.heap.size, 0, none⟩) l.length l.length by rw [hsz]] at k3
    exact hK _ _ _ k1 k2 k3
theorem freeze_at (w : World) (g : Nat) (cur : Array Value) (e : TypeId) (fz : Nat × Nat) (hg : w.heap[g]? = some (.cells cur e fz)) :
    ∃ fz', (w.freeze ⟨g, cur.size, none⟩ 1).heap[g]? = some (.cells cur e fz') ∧ (fz = (0, 0) ∨ cur.size ≤ fz.1 → cur.size ≤ fz'.1) ∧ (∀ k, k ≠ g → (w.freeze ⟨g, cur.size, none⟩ 1).heap[k]? = w.heap[k]?) ∧ (w.freeze ⟨g, cur.size, none⟩ 1).heap.size = w.heap.size ∧
      (w.freeze ⟨g, cur.size, none⟩ 1).os = w.os ∧ (w.freeze ⟨g, cur.size, none⟩ 1).tape = w.tape ∧ (w.freeze ⟨g, cur.size, none⟩ 1).output = w.output := by
  obtain ⟨lo, hi⟩ := fz
  have e0 : w.freeze ⟨g, cur.size, none⟩ 1 = { w with heap := w.heap.modify g fun
      | .cells c elem (lo, hi) => .cells c elem (if lo == hi then (cur.size, cur.size + 1) else (min lo cur.size, max hi (cur.size + 1)))
      | o => o } := by
    unfold World.freeze
    rw [if_neg (by decide)]
    rfl
  rw [e0]
  refine ⟨if lo == hi then (cur.size, cur.size + 1) else (min lo cur.size, max hi (cur.size + 1)), ?_, fun h => ?_, fun k hk => ?_, by simp, rfl, rfl, rfl⟩
  · show (w.heap.modify g _)[g]? = _
    rw [Array.getElem?_modify, if_pos rfl, hg]; rfl
  · rcases h with h | h
    · injection h with h1 h2; subst h1 h2; exact Nat.le_refl _
    · split
      · exact Nat.le_refl _
      · show cur.size ≤ min lo cur.size
        have : cur.size ≤ lo := h
        omega
  · show (w.heap.modify g _)[k]? = _
    rw [Array.getElem?_modify, if_neg (Ne.symm hk)]
/-- A row to its own type: it is marked behind its last place. -/
theorem stepU_convOwn {t e : TypeId} {x : Operand} {c : List (List V)} {id ver len : Nat} (ho : o.op = .convert t t x) (ht : X.P.underlying t = some (.slice e)) (he : X.P.underlying e = some (.int .u8)) (hk : e < MK) (hx : Ev f x (.view id ver 0 len)) (hm : m id = some (.row ver 1 (e + MK) c)) (hlen : 0 < len) : StepU X o f m (.view id ver 0 len) [(id, .row ver 1 (e + MK) c)] [id] :=
  fun f' m' hf hT _ G w a hO hF K Q hK => by
    have hm' := (hT id (by simp)).trans hm
    obtain ⟨v1, A, cap, hu, a2, a3, a4⟩ := rep_view (ev_at hx (by simp [ho, Op.operands]) hf hF) hm'
    have hrow := hO.ob id _ hm'
    obtain ⟨r1, r2, r3, r4, r5⟩ := hrow
    rcases r5 with ⟨r6, r7⟩ | ⟨g, cur, us, fz, e0', hfz, r6, r7, r8, r10, r11⟩
    · omega
    · have hA : A = some ⟨g, 0, none⟩ := by
        rcases a4 with a4 | ⟨_, a4⟩
        · rw [a4, r6]; simp
        · exact absurd rfl a4
      subst hA
      obtain ⟨fz', f1, f2, f3, f4, f5, f6, f7⟩ := freeze_at w g cur e0' fz r7
      have hsh : w.shape? g = some (e0', cur.size) := by unfold World.shape?; rw [r7]
      have hrun : (execOp a.eval o).run X.P w = .ok (.value (.slice (some ⟨g, 0, none⟩) len cap)) (w.freeze ⟨g, cur.size, none⟩ 1) := by
        simp [execOp, ho, hu, convert, run_underlying ht, run_underlying he, markStringish, hsh]
      unfold Oper.wp
      rw [hrun]
      have hfz' : FzOk (e + MK) e0' fz' cur.size := by
        rcases hfz with ⟨q1, q2 | q2⟩ | ⟨q1, q2, q3⟩
        · exact .inl ⟨q1, .inr ⟨by omega, f2 (.inl q2)⟩⟩
        · exact .inl ⟨q1, .inr ⟨by omega, f2 (.inr q2.2)⟩⟩
        · exact .inr ⟨q1, q2, .inr (f2 q3)⟩
      obtain ⟨k1, k2⟩ := hO.step (G' := G) (w' := w.freeze ⟨g, cur.size, none⟩ 1) id (.row ver 1 (e + MK) c) rfl (fun i _ => ⟨rfl, rfl⟩) (fun q hq => .inr ⟨by rw [hm']; simp, hq⟩)
        (fun q hq hne => f3 q fun e => hne (by rw [hm']; simp) (by rw [e]; exact r6)) (by rw [f4]; exact Nat.le_refl _) f5 f6 f7
        (fun o' ho' => by rw [hm'] at ho'; injection ho' with ho'; subst ho'; exact ⟨(fun cs h => by cases h), fun ver' n' e'' c' h => by injection h with h1 h2 h3 h4; subst h1 h2 h3 h4; exact ⟨ver, c, rfl, Nat.le_refl _, fun _ => ⟨Nat.le_refl _, rfl, rfl⟩⟩⟩)
        (fun kx => ⟨r1, r2, r3, r4, .inr ⟨g, cur, us, fz', e0', hfz', r6, f1, r8, r10, fun i j x hx => (r11 i j x hx).ext kx⟩⟩) (fun cs _ h => by cases h)
      exact hK _ _ _ k1 k2 (.view id ver 0 len _ ver 1 (e + MK) c over_at (Nat.le_refl _) rfl fun _ => ⟨v1, _, _, rfl, a2, a3, a4⟩)
theorem z_rowM {dst : Option Tmp} {ty : TypeId} {ps : String} {af : Array Edge} {gd : Option (Nat × Bool)} {t e : TypeId} {b : Bool} {len : Nat} {parts : Array (Nat × Operand)} {zus : List Value} {zs : List D} {ds : List (Nat × D)} (id : Nat) (l : List UInt8) (hp : PartsAt f ((List.range len).map fun k => (k * 1, 1)) (len * 1) parts.toList ds) (ht : X.P.underlying t = some (.slice e)) (hs : sizeB X.P e = some (b, 1)) (hz : zeroCs X.P e = some zus) (hl : Lits zus zs) (hc : fillD (List.replicate (len * 1) .any) ds = (bs l).flatten.map .v := by exact rfl) (hcn : l.length = len := by exact rfl) (hnp : X.np ≤ id := by exact Nat.le_of_ble_eq_true rfl) (hzn : zs.length = 1 ∧ 0 < 1 ∧ len * 1 ≤ 16777216 := by exact ⟨rfl, Nat.le_of_ble_eq_true rfl, Nat.le_of_ble_eq_true rfl⟩) (hk : e < MK := by exact Nat.le_of_ble_eq_true rfl) :
    StepU X ⟨dst, .buildSlice t len parts, ty, ps, af, gd⟩ f m (.view id 0 0 len) [(id, .row 0 1 (e + MK) (bs l))] [] := stepU_rowM id hnp rfl ht hs hz hl hzn hp hc hcn hk
theorem z_convOwn {dst : Option Tmp} {ty : TypeId} {ps : String} {af : Array Edge} {gd : Option (Nat × Bool)} {t e : TypeId} {x : Operand} {c : List (List V)} {id ver len : Nat} (ht : X.P.underlying t = some (.slice e)) (he : X.P.underlying e = some (.int .u8)) (hx : Ev f x (.view id ver 0 len) := by exact ev_tmp rfl) (hm : m id = some (.row ver 1 (e + MK) c) := by exact rfl) (hlen : 0 < len := by exact Nat.le_of_ble_eq_true rfl) (hk : e < MK := by exact Nat.le_of_ble_eq_true rfl) :
    StepU X ⟨dst, .convert t t x, ty, ps, af, gd⟩ f m (.view id ver 0 len) [(id, .row ver 1 (e + MK) c)] [id] := stepU_convOwn rfl ht he hk hx hm hlen
end
section
variable {X : Cx} {Q : AX → Fm → AH → Prop}
end
theorem yL {X : Cx} {Q : AX → Fm → AH → Prop} {ops : Array Oper} {K : Fm → AH → Prop} {fr : Fm} {ah : AH} {o : Oper} {os : List Oper} {d : D} {upd : AH} {T : List Nat} {j t : Nat} {b B : Bool} (hg : o.guard = some (j, b)) (hj : (ops[j]?).bind (·.dst) = some t) (ht : Ev fr.at (.tmp t) (.v (.bool B))) (hB : B = b) (h : StepU X o fr.at (look ah) d upd T) (k : awl X ops K Q os (pushF fr o.dst d) (upd ++ ah)) (hd : dstB X.nt o.dst = true := by exact rfl) (hn : freshB upd T ah = true := by exact rfl) : awl X ops K Q (o :: os) fr ah := awl_step (step_yes hg hj (by rw [hB] at ht; exact ht) h) hd hn k
end Go.Proofs.YthflfnehdlpmdaaDoor
