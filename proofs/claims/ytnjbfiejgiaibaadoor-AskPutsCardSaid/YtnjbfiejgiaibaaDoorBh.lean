/- Abstract states: a text's bytes as a row of one's own, marked behind its last place. No program, no condition. -/
import Derived.Test.YtnjbfiejgiaibaaDoorBe
namespace Go.Proofs.YtnjbfiejgiaibaaDoor
set_option linter.all false
open Go Go.RowKit
section
variable {X : Cx} {G : Gh} {w w' : World} {m : Mem}
theorem Ok.newMark (h : Ok X G w m) {id : Nat} (hid : m id = none) (hnp : X.np ≤ id) (e : TypeId) (he : e < MK) (l : List UInt8) (cur : Array Value) (hl : l.length ≤ cur.size) (hm : cur.size ≤ maxLen) (hc : ∀ i, (hi : i < l.length) → cur[i]? = some (.int .u8 (l[i].toNat : Int))) :
    let G' := G.at_ id (some w.heap.size) cur.size
    let w' := w.alloc (.cells cur e (cur.size, cur.size + 1))
    Ok X G' w' (over [(id, .row 0 1 (e + MK) (bs l))] m) ∧ Ext G w m G' w' (over [(id, .row 0 1 (e + MK) (bs l))] m) ∧ RepD G' w' (over [(id, .row 0 1 (e + MK) (bs l))] m) (.view id 0 0 l.length) (.slice (some ⟨w.heap.size, 0, none⟩) l.length cur.size) := by
  intro G' w'
  have hel : ∀ i j x, elem? (bs l) i j = some x → ∃ v, cur[i * 1 + j]? = some v ∧ RepV G.S w x v := fun i j x hx => by
    unfold elem? bs at hx
    rw [List.getElem?_map] at hx
    cases hk : l[i]? with
    | none => rw [hk] at hx; cases hx
    | some b =>
      rw [hk] at hx
      obtain ⟨hlt, he⟩ := List.getElem?_eq_some_iff.1 hk
      cases j with
      | zero =>
        simp at hx
        subst hx
        exact ⟨_, by rw [Nat.mul_one, Nat.add_zero, hc i hlt], by rw [he]; exact .int _ _⟩
      | succ j => simp at hx
  obtain ⟨a, b⟩ := h.step (G' := G') (w' := w') id (.row 0 1 (e + MK) (bs l)) rfl (fun i hi => Gh.at_ne G _ _ hi) (fun g hg => by
      rw [Gh.at_μ] at hg; injection hg with hg; exact .inl (by omega)) (fun g hg _ => Below.heap_alloc w _ g hg) (by show w.heap.size ≤ (w.alloc _).heap.size; rw [World.size_alloc]; omega) rfl rfl rfl
      (fun o' ho' => by rw [hid] at ho'; cases ho') (fun k => ⟨bs_one l, by decide, by rw [Gh.at_cap, bs_length]; exact hl, by rw [Gh.at_cap]; exact hm, .inr ⟨w.heap.size, cur, fun i j => cur.getD (i * 1 + j) undef, _, e, .inr ⟨rfl, he, .inr (Nat.le_refl _)⟩, Gh.at_μ _ _ _ _, heap_alloc_new w _, by rw [Gh.at_cap, Nat.mul_one], fun i j x hx => by
          obtain ⟨v, h1, h2⟩ := hel i j x hx
          show cur[i * 1 + j]? = some (cur.getD (i * 1 + j) undef)
          rw [Array.getD_eq_getD_getElem?, h1]; rfl, fun i j x hx => by
          obtain ⟨v, h1, h2⟩ := hel i j x hx
          simp only [Array.getD_eq_getD_getElem?, h1, Option.getD_some]; exact h2.ext k⟩⟩) (fun cs _ he => by cases he)
  exact ⟨a, b, .view id 0 0 _ _ 0 1 (e + MK) _ over_at (Nat.le_refl _) rfl fun _ => ⟨by rw [bs_length]; omega, some ⟨w.heap.size, 0, none⟩, cur.size, rfl, by rw [Gh.at_cap]; omega, hl, .inl (by rw [Gh.at_μ]; simp)⟩⟩
end
section
variable {X : Cx} {o : Oper} {f : Nat → D} {m : Mem}
/-- []byte(s), a row of one's own. -/
theorem stepU_convM {s t e : TypeId} {x : Operand} {l : List UInt8} (id : Nat) (hnp : X.np ≤ id) (ho : o.op = .convert s t x) (hs : X.P.underlying s = some .string) (ht : X.P.underlying t = some (.slice e)) (he : X.P.underlying e = some (.int .u8)) (hx : Ev f x (.v (.str l))) (hl : l.length ≤ 9223372036854775807) (hk : e < MK) : StepU X o f m (.view id 0 0 l.length) [(id, .row 0 1 (e + MK) (bs l))] [] :=
  fun f' m' hf _ hnew G w a hO hF K Q hK => by
    have h := rep_str (ev_at hx (by simp [ho, Op.operands]) hf hF)
    have hr := run_bytes_of_string (P := X.P) w s t e (S l) hs ht he
    have hge : (S l).size ≤ grownCap w (S l).size 0 e := grownCap_ge w (S l).size 0 e
    have hm : grownCap w (S l).size 0 e ≤ maxLen := grownCap_le_maxLen w (S l).size 0 e (by rw [S_size]; simpa [maxLen] using hl)
    generalize grownCap w (S l).size 0 e = c at hr hge hm
    rw [S_size] at hr hge
    have hsz : (bytesRow (S l) c).size = c := by simp [bytesRow]; have : (S l).data.size = l.length := by simp [S]
                                                 omega
    have hrun : (execOp a.eval o).run X.P w = .ok (.value (.slice (some ⟨w.heap.size, 0, none⟩) l.length c)) (w.drew.alloc (.cells (bytesRow (S l) c) e ((bytesRow (S l) c).size, (bytesRow (S l) c).size + 1))) := by
      simp only [execOp, ho, h, Sem.run_bind, hr, Result.andThen_ok, Sem.run_pure]
    have hid : m' id = none := hnew (id, Ob.row 0 1 (e + MK) (bs l)) (List.mem_singleton.2 rfl) List.not_mem_nil
    unfold Oper.wp
    rw [hrun]
    obtain ⟨h1, h2⟩ := hO.draw (w.drawn + 1)
    obtain ⟨k1, k2, k3⟩ := h1.newMark hid hnp e hk l (bytesRow (S l) c) (by rw [hsz]; exact hge) (by rw [hsz]; exact hm) (fun i hi => by
      have hsz : (S l).data.size = l.length := by simp [S]
      unfold bytesRow
      rw [Array.getElem?_append_left (by simp [hsz]; exact hi)]
      simp [S, hi])
    have e1 : (Value.slice (some ⟨w.heap.size, 0, none⟩) l.length c) = .slice (some ⟨w.heap.size, 0, none⟩) l.length (bytesRow (S l) c).size := by rw [hsz]
    rw [e1]
    exact hK _ _ _ k1 (h2.trans k2) k3
theorem z_convM {dst : Option Tmp} {ty : TypeId} {ps : String} {af : Array Edge} {gd : Option (Nat × Bool)} {s t e : TypeId} {x : Operand} {l : List UInt8} (id : Nat) (hs : X.P.underlying s = some .string) (ht : X.P.underlying t = some (.slice e)) (he : X.P.underlying e = some (.int .u8)) (hx : Ev f x (.v (.str l)) := by first | exact ev_tmp rfl | exact ev_str rfl | exact ev_cond (ev_tmp rfl) (by assumption) | (refine ev_cond (ev_tmp rfl) ?_; simp_all; done)) (hl : l.length ≤ 9223372036854775807 := by first | decide | omega | (simp; done) | (simp; omega)) (hk : e < MK := by decide) (hnp : X.np ≤ id := by exact Nat.le_of_ble_eq_true rfl) :
    StepU X ⟨dst, .convert s t x, ty, ps, af, gd⟩ f m (.view id 0 0 l.length) [(id, .row 0 1 (e + MK) (bs l))] [] := stepU_convM (id := id) (hnp := hnp) (ho := rfl) (hs := hs) (ht := ht) (he := he) (hx := hx) (hl := hl) (hk := hk)
end
end Go.Proofs.YtnjbfiejgiaibaaDoor
