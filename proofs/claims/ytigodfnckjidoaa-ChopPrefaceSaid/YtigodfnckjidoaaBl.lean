/- Abstract states: bytes written out as a text's ([]byte("..")): a row of one's own that the model marks. A guard that is known. No program, no condition. -/
import Derived.Test.YtigodfnckjidoaaBk
import Derived.Lib.SlBytesConst
namespace Go.Proofs.Ytigodfnckjidoaa
set_option linter.all false
open Go Go.RowKit
section
variable {X : Cx} {G : Gh} {w w' : World} {m : Mem}
theorem Ok.newMark (h : Ok X G w m) {id : Nat} (hid : m id = none) (hnp : X.np ≤ id) (e : TypeId) (he : e < MK) (l : List UInt8) (cur : Array Value) (hl : l.length ≤ cur.size) (hm : cur.size ≤ maxLen) (hc : ∀ i, (hi : i < l.length) → cur[i]? = some (.int .u8 (l[i].toNat : Int))) :
    let G' := G.at_ id (some w.heap.size) cur.size
    let w' := w.alloc (.cells cur e (cur.size, cur.size + 1))
    Ok X G' w' (over [(id, .row 0 1 (e + MK) (bs l))] m) ∧ Ext G w m G' w' (over [(id, .row 0 1 (e + MK) (bs l))] m) ∧ RepD G' w' (over [(id, .row 0 1 (e + MK) (bs l))] m) (.view id 0 0 l.length) (.slice (some ⟨w.heap.size, 0, none⟩) l.length cur.size) := by
  intro G' w'
  have hel : ∀ i j x, elem? (bs l) i j = some x → ∃ v, cur[i * 1 + j]? = some v ∧ RepV G.S w x v := fun i j x hx => by
    unfold elem? bs at hx
    rw [List.getElem?_map] at hx
    cases hk : l[i]? with
    | none => rw [hk] at hx; cases hx
    | some b =>
      rw [hk] at hx
      obtain ⟨hlt, he⟩ := List.getElem?_eq_some_iff.1 hk
      cases j with
      | zero =>
        simp at hx
        subst hx
        exact ⟨_, by rw [Nat.mul_one, Nat.add_zero, hc i hlt], by rw [he]; exact .int _ _⟩
      | succ j => simp at hx
  obtain ⟨a, b⟩ := h.step (G' := G') (w' := w') id (.row 0 1 (e + MK) (bs l)) rfl (fun i hi => Gh.at_ne G _ _ hi) (fun g hg => by
      rw [Gh.at_μ] at hg; injection hg with hg; exact .inl (by omega)) (fun g hg _ => Below.heap_alloc w _ g hg) (by show w.heap.size ≤ (w.alloc _).heap.size; rw [World.size_alloc]; omega) rfl rfl rfl
      (fun o' ho' => by rw [hid] at ho'; cases ho') (fun k => ⟨bs_one l, by decide, by rw [Gh.at_cap, bs_length]; exact hl, by rw [Gh.at_cap]; exact hm, .inr ⟨w.heap.size, cur, fun i j => cur.getD (i * 1 + j) undef, _, e, .inr ⟨rfl, he, .inr (Nat.le_refl _)⟩, Gh.at_μ _ _ _ _, heap_alloc_new w _, by rw [Gh.at_cap, Nat.mul_one], fun i j x hx => by
          obtain ⟨v, h1, h2⟩ := hel i j x hx
          show cur[i * 1 + j]? = some (cur.getD (i * 1 + j) undef)
          rw [Array.getD_eq_getD_getElem?, h1]; rfl, fun i j x hx => by
          obtain ⟨v, h1, h2⟩ := hel i j x hx
          simp only [Array.getD_eq_getD_getElem?, h1, Option.getD_some]; exact h2.ext k⟩⟩) (fun cs _ he => by cases he)
  exact ⟨a, b, .view id 0 0 _ _ 0 1 (e + MK) _ over_at (Nat.le_refl _) rfl fun _ => ⟨by rw [bs_length]; omega, some ⟨w.heap.size, 0, none⟩, cur.size, rfl, by rw [Gh.at_cap]; omega, hl, .inl (by rw [Gh.at_μ]; simp)⟩⟩
end
section
variable {X : Cx} {Q : AX → Fm → AH → Prop}
/-- Bytes written out, to their own type ([]byte("..")). -/
theorem awl_litM {ops : Array Oper} {K : Fm → AH → Prop} {fr : Fm} {ah : AH} {os : List Oper} {t1 t2 : Tmp} {ty ty2 : TypeId} {ps ps2 : String} {af af2 : Array Edge} {t e : TypeId} {b : Bool} {len : Nat} {parts : Array (Nat × Operand)} {zus : List Value} {zs : List D} {ds : List (Nat × D)} {l : List UInt8} (id : Nat)
    (hp : PartsAt fr.at ((List.range len).map fun k => (k * 1, 1)) (len * 1) parts.toList ds) (ht : X.P.underlying t = some (.slice e)) (hee : X.P.underlying e = some (.int .u8)) (hs : sizeB X.P e = some (b, 1)) (hz : zeroCs X.P e = some zus) (hl : Lits zus zs) (hc : fillD (List.replicate (len * 1) .any) ds = (bs l).flatten.map .v) (hcn : l.length = len) (hnp : X.np ≤ id) (hzn : zs.length = 1 ∧ 0 < 1 ∧ len * 1 ≤ 16777216) (hk : e < MK) (hd1 : t1 < X.nt) (hd2 : t2 < X.nt) (hid : look ah id = none)
    (k : awl X ops K Q os ((t2, .view id 0 0 len) :: (t1, .view id 0 0 len) :: fr) ((id, .row 0 1 (e + MK) (bs l)) :: ah)) :
    awl X ops K Q (⟨some t1, .buildSlice t len parts, ty, ps, af, none⟩ :: ⟨some t2, .convert t t (.tmp t1), ty2, ps2, af2, none⟩ :: os) fr ah := fun G w a hS R hR hP => by
  obtain ⟨vs, r1, r2, r3, r4⟩ := run_buildSlice hS.fr ht hs hz hl hzn.1 hzn.2.2 hp
  have hrun : (execOp a.eval ⟨some t1, .buildSlice t len parts, ty, ps, af, none⟩).run X.P w = .ok (.value (.slice (some ⟨w.heap.size, 0, none⟩) len len)) (w.alloc (.cells vs.toArray e)) := by
    simp only [execOp, Sem.run_bind, r1, Result.andThen_ok, Sem.run_pure]
  subst hcn
  rw [Nat.mul_one] at r4
  have hsz : vs.toArray.size = l.length := by simpa using r4
  obtain ⟨k1, k2, k3⟩ := hS.ok.newMark hid hnp e hk l vs.toArray (by omega) (by have := hzn.2.2; simp [maxLen]; omega) (fun i hi => by
    rw [hc] at r2
    have hlt : i < vs.length := by omega
    have hf2 : (bs l).flatten[i]? = some (V.int .u8 (l[i].toNat : Int)) := by rw [bs_flat]; simp [hi]
    have h1 := r2.2 i (.v (V.int .u8 (l[i].toNat : Int))) vs[i] (by rw [List.getElem?_map, hf2]; rfl) (List.getElem?_eq_getElem hlt)
    rw [List.getElem?_toArray, List.getElem?_eq_getElem hlt]
    rw [rep_int h1])
  rw [show Value.slice (some ⟨w.heap.size, 0, none⟩) l.length vs.toArray.size = Value.slice (some ⟨w.heap.size, 0, none⟩) l.length l.length by rw [hsz]] at k3
  let u : Value := .slice (some ⟨w.heap.size, 0, none⟩) l.length l.length
  have hu : (a.put (some t1) u).eval (.tmp t1) = u := by
    show (a.tmps.setIfInBounds t1 u).getD t1 undef = u
    have := hS.nt
    simp [Array.getD_eq_getD_getElem?, Array.getElem?_setIfInBounds, this, hd1]
  have hrun2 : (execOp (a.put (some t1) u).eval ⟨some t2, .convert t t (.tmp t1), ty2, ps2, af2, none⟩).run X.P (w.alloc (.cells vs.toArray e)) = .ok (.value u) (w.alloc (.cells vs.toArray e (vs.toArray.size, vs.toArray.size + 1))) := by
    have h := Lib.run_convert_bytes_const (P := X.P) w t e vs.toArray l.length l.length ht hee
    simp only [execOp, hu, Sem.run_bind, h, u, Result.andThen_ok, Sem.run_pure]
  have fin : wpList X.P ops R os ((a.put (some t1) u).put (some t2) u) (w.alloc (.cells vs.toArray e (vs.toArray.size, vs.toArray.size + 1))) := by
    refine k _ _ _ ⟨by rw [over_look] at k1; exact k1, ?_, ?_, ?_⟩ R hR hP
    · have f1 := (hS.fr.ext k2).put (dst := some t1) k3 fun t ht => by injection ht with ht; subst ht; rw [hS.nt]; exact hd1
      have f2 := f1.put (dst := some t2) k3 fun t ht => by
        injection ht with ht; subst ht
        show t2 < (a.tmps.setIfInBounds t1 u).size
        rw [Array.size_setIfInBounds, hS.nt]; exact hd2
      rw [over_look] at f2
      have e1 : (pushF (pushF fr (some t1) (.view id 0 0 l.length)) (some t2) (.view id 0 0 l.length)).at = fput (fput fr.at (some t1) (.view id 0 0 l.length)) (some t2) (.view id 0 0 l.length) := by rw [pushF_at, pushF_at]
      rw [← e1] at f2
      exact f2
    · show ((a.tmps.setIfInBounds t1 u).setIfInBounds t2 u).size = X.nt
      rw [Array.size_setIfInBounds, Array.size_setIfInBounds]; exact hS.nt
    · exact hS.df.ext k2
  have w1 : Region.wanted (⟨some t1, .buildSlice t l.length parts, ty, ps, af, none⟩ : Oper) (yielded ops a.tmps) = true := rfl
  unfold wpList
  rw [if_pos w1]
  refine .inl ?_
  unfold Oper.wp
  rw [hrun]
  show wpList X.P ops R (_ :: os) (a.put (some t1) u) (w.alloc (.cells vs.toArray e))
  have w2 : Region.wanted (⟨some t2, .convert t t (.tmp t1), ty2, ps2, af2, none⟩ : Oper) (yielded ops (a.put (some t1) u).tmps) = true := rfl
  unfold wpList
  rw [if_pos w2]
  refine .inl ?_
  unfold Oper.wp
  rw [hrun2]
  exact fin
end
/-- A guarded operation, its guard known to hold. -/
theorem yD {X : Cx} {l : List Oper} {K : Fm → AH → Prop} {xs : List (Oper × Efc)} {fr : Fm} {ah : AH} {o : Oper} {os : List Oper} {d : D} {upd : AH} {T : List Nat} {j t : Nat} {b B : Bool} (hg : o.guard = some (j, b)) (hj : (l.toArray[j]?).bind (·.dst) = some t) (ht : Ev fr.at (.tmp t) (.v (.bool B))) (hB : B = b) (h : StepU X o fr.at (look ah) d upd T) (k : awd X l K (xs ++ [(o, ⟨d, upd, T⟩)]) os (pushF fr o.dst d) (upd ++ ah)) (hd : dstB X.nt o.dst = true := by exact rfl) (hn : freshB upd T ah = true := by exact rfl) : awd X l K xs (o :: os) fr ah := awd_step (step_yes hg hj (by rw [hB] at ht; exact ht) h) hd hn k
theorem yL {X : Cx} {Q : AX → Fm → AH → Prop} {ops : Array Oper} {K : Fm → AH → Prop} {fr : Fm} {ah : AH} {o : Oper} {os : List Oper} {d : D} {upd : AH} {T : List Nat} {j t : Nat} {b B : Bool} (hg : o.guard = some (j, b)) (hj : (ops[j]?).bind (·.dst) = some t) (ht : Ev fr.at (.tmp t) (.v (.bool B))) (hB : B = b) (h : StepU X o fr.at (look ah) d upd T) (k : awl X ops K Q os (pushF fr o.dst d) (upd ++ ah)) (hd : dstB X.nt o.dst = true := by exact rfl) (hn : freshB upd T ah = true := by exact rfl) : awl X ops K Q (o :: os) fr ah := awl_step (step_yes hg hj (by rw [hB] at ht; exact ht) h) hd hn k
end Go.Proofs.Ytigodfnckjidoaa
