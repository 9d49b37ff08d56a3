/- Arguments that come in, with a bound on their texts and slices. No program, no condition. -/
import Derived.Test.YthflfnehdlpmdaaDoorLo
import Derived.SizedLaws
namespace Go.Proofs.YthflfnehdlpmdaaDoor
set_option linter.all false
open Go Go.RowKit
def FitZ (P : Program) (R : Nat) : Nat → TypeId → List V → Prop
  | 0, _, _ => False
  | d + 1, t, cs => match P.underlying t with
    | some .bool => ∃ b, cs = [.bool b]
    | some (.int k) => ∃ n, cs = [.int k n] ∧ (Lit.int k n).wf = true
    | some .string => ∃ l, cs = [.str l] ∧ l.length ≤ R
    | some (.slice e) => ∃ c, cs = [.sl c] ∧ c.length * P.bytesOf e ≤ R ∧ ∀ x ∈ c, FitZ P R d e x
    | some (.struct fs) => FitAll (FitZ P R d) fs.toList cs
    | _ => False
theorem fitz_int {P : Program} {R d : Nat} {t : TypeId} {k : IntKind} {a : List V} (ht : P.underlying t = some (.int k)) (h : FitZ P R (d + 1) t a) : ∃ n, a = [.int k n] ∧ (Lit.int k n).wf = true := by
  unfold FitZ at h; rw [ht] at h; exact h
theorem fitz_str {P : Program} {R d : Nat} {t : TypeId} {a : List V} (ht : P.underlying t = some .string) (h : FitZ P R (d + 1) t a) : ∃ l, a = [.str l] ∧ l.length ≤ R := by
  unfold FitZ at h; rw [ht] at h; exact h
theorem fitz_sl {P : Program} {R d : Nat} {t e : TypeId} {a : List V} (ht : P.underlying t = some (.slice e)) (h : FitZ P R (d + 1) t a) : ∃ c, a = [.sl c] ∧ c.length * P.bytesOf e ≤ R ∧ ∀ x ∈ c, FitZ P R d e x := by
  unfold FitZ at h; rw [ht] at h; exact h
theorem fitz_struct {P : Program} {R d : Nat} {t : TypeId} {fs : Array Field} {a : List V} (ht : P.underlying t = some (.struct fs)) (h : FitZ P R (d + 1) t a) : FitAll (FitZ P R d) fs.toList a := by
  unfold FitZ at h; rw [ht] at h; exact h
theorem weightsAll_mem {H : Type} {P : Program} {e : TypeId} {d : DataW H} {n : Nat} : ∀ {ds : List (DataW H)}, d ∈ ds → n ∈ d.weights P e → n ∈ DataW.weightsAll P e ds
  | x :: ds, hd, hn => by
    simp only [DataW.weightsAll, List.mem_append]
    rcases List.mem_cons.1 hd with rfl | hd
    · exact .inl hn
    · exact .inr (weightsAll_mem hd hn)
section
variable {H : Type} {enc : TypeId × Value → H} {P : Program} {W : World} {spare : Nat → Bool} {held : Bool} {base : Nat}
theorem open_flushZ {R d n : Nat} (ih : ∀ (t : TypeId) (fuel : Nat) (cs : List Value) x, fitB P d t = true → DataW.trod enc P W base spare held fuel t cs = some x → (∀ n ∈ x.1.weights P t, n ≤ R) → ∃ xs, FitZ P R d t xs ∧ CellsAre W xs cs ∧ cs.length = P.cellsOf t) (cs : List Value) :
    ∀ (fs : List Field) (k m : Nat), flushB P (fitB P d) k fs = some m → m ≤ cs.length → k ≤ cs.length → (∀ f ∈ fs, ∃ y, DataW.trod enc P W base spare held n f.type ((cs.drop f.offset).take (P.cellsOf f.type)) = some y ∧ ∀ n ∈ y.1.weights P f.type, n ≤ R) →
    ∃ xs, FitAll (FitZ P R d) fs xs ∧ CellsAre W xs ((cs.drop k).take (m - k)) ∧ k ≤ m
  | [], k, m, h, _, _, _ => by
    simp only [flushB] at h; injection h with h; subst h
    exact ⟨[], rfl, by rw [Nat.sub_self, List.take_zero]; exact ⟨rfl, fun i x u hx => by simp at hx⟩, Nat.le_refl _⟩
  | f :: fs, k, m, h, hm, hk, hf => by
    simp only [flushB] at h
    split at h
    · rename_i hc
      simp only [Bool.and_eq_true] at hc
      have ho : f.offset = k := Nat.eq_of_beq_eq_true hc.1
      obtain ⟨y, hy, hyr⟩ := hf f List.mem_cons_self
      obtain ⟨xa, a1, a2, a3⟩ := ih f.type n _ y hc.2 hy hyr
      rw [ho] at a2 a3
      have hlen : k + P.cellsOf f.type ≤ cs.length ∨ P.cellsOf f.type = 0 := by
        rw [List.length_take, List.length_drop] at a3; omega
      have hk2 : k + P.cellsOf f.type ≤ cs.length := by rcases hlen with h | h <;> omega
      obtain ⟨bs, b1, b2, b3⟩ := open_flushZ ih cs fs (k + P.cellsOf f.type) m h hm hk2 (fun g hg => hf g (List.mem_cons_of_mem _ hg))
      refine ⟨xa ++ bs, ⟨xa, bs, rfl, a1, b1⟩, ?_, by omega⟩
      have e : (cs.drop k).take (m - k) = (cs.drop k).take (P.cellsOf f.type) ++ (cs.drop (k + P.cellsOf f.type)).take (m - (k + P.cellsOf f.type)) := by
        rw [← List.drop_drop, show m - k = P.cellsOf f.type + (m - (k + P.cellsOf f.type)) from by omega, List.take_add]
      rw [e]
      exact a2.app b2
    · cases h
theorem open_anyZ {R : Nat} : ∀ (d : Nat) (t : TypeId) (fuel : Nat) (cs : List Value) (x : DataW H × List MemPlace), fitB P d t = true → DataW.trod enc P W base spare held fuel t cs = some x → (∀ n ∈ x.1.weights P t, n ≤ R) → ∃ xs, FitZ P R d t xs ∧ CellsAre W xs cs ∧ cs.length = P.cellsOf t
  | 0, t, fuel, cs, x, h, _, _ => by simp [fitB] at h
  | d + 1, t, fuel, cs, x, h, hx, hR => by
    unfold fitB at h
    unfold FitZ
    cases hu : P.underlying t with
    | none => rw [hu] at h; cases h
    | some ty =>
      rw [hu] at h
      cases ty <;> simp only at h <;> try (cases h; done)
      case bool =>
        obtain ⟨b, rfl, _⟩ := DataW.trod_bool hu hx
        exact ⟨_, ⟨b, rfl⟩, one_cell (.bool b), (Nat.eq_of_beq_eq_true h).symm⟩
      case int k =>
        obtain ⟨n, rfl, _, hw⟩ := DataW.trod_int hu hx
        exact ⟨_, ⟨n, rfl, hw⟩, one_cell (.int k n), (Nat.eq_of_beq_eq_true h).symm⟩
      case string =>
        obtain ⟨s, rfl, hxe, hs⟩ := DataW.trod_string hu hx
        refine ⟨_, ⟨s.data.toList, rfl, hR _ (by rw [hxe]; simp [DataW.weights])⟩, one_cell ?_, (Nat.eq_of_beq_eq_true h).symm⟩
        have e : s = S s.data.toList := by obtain ⟨⟨l⟩⟩ := s; rfl
        have := RepV.str (Z := low W) (w := W) s.data.toList
        rwa [← e] at this
      case slice e =>
        simp only [Bool.and_eq_true] at h
        have hpos : 0 < P.cellsOf e := Nat.lt_of_lt_of_le Nat.zero_lt_one (Nat.le_of_ble_eq_true h.1.2)
        have h1 := (Nat.eq_of_beq_eq_true h.1.1).symm
        rcases DataW.trod_slice hu hx with ⟨rfl, _⟩ | ⟨a, len, cap, elems, rest, n, _, rfl, hxe, hb, hl, hm, hlen, hel, _, _⟩
        · exact ⟨_, ⟨[], rfl, by simp, by simp⟩, one_cell (.nil none 0 (by simp [maxLen])), h1⟩
        · have hrl : len * P.bytesOf e ≤ R := by
            have h3 := hR ((elems.length + rest.length) * P.bytesOf e) (by rw [hxe]; simp [DataW.weights, hu])
            exact Nat.le_trans (Nat.mul_le_mul_right _ (by omega)) h3
          have each : ∀ i, i < len → ∃ (xs : List V) (us : List Value), FitZ P R d e xs ∧ CellsAre W xs us ∧ us.length = P.cellsOf e ∧ W.cells? base (a.add (i * P.cellsOf e)) (P.cellsOf e) = some us := fun i hi => by
            have hme : elems[i]'(by omega) ∈ elems := List.getElem_mem _
            have hri : ∀ n ∈ (elems[i]'(by omega)).1.weights P e, n ≤ R := fun n hn => hR n (by rw [hxe]; simp only [DataW.weights, hu, List.mem_cons, List.mem_append]; exact .inr (.inl (weightsAll_mem (List.mem_map.2 ⟨_, hme, rfl⟩) hn)))
            have := hel i hi
            rw [List.getElem?_eq_getElem (by omega), Option.bind_eq_some_iff] at this
            obtain ⟨us, q1, q2⟩ := this
            obtain ⟨xs, f1, f2, f3⟩ := open_anyZ d e n us _ h.2 q2 hri
            exact ⟨xs, us, f1, f2, f3, q1⟩
          rcases Nat.eq_zero_or_pos len with h0 | h0
          · subst h0
            exact ⟨_, ⟨[], rfl, by simp, by simp⟩, one_cell (.nil (some a) cap hm), h1⟩
          · let X : Nat → List V := fun i => if h : i < len then Classical.choose (each i h) else []
            let U : Nat → List Value := fun i => if h : i < len then Classical.choose (Classical.choose_spec (each i h)) else []
            have hX : ∀ i, i < len → FitZ P R d e (X i) ∧ CellsAre W (X i) (U i) ∧ (U i).length = P.cellsOf e ∧ W.cells? base (a.add (i * P.cellsOf e)) (P.cellsOf e) = some (U i) := fun i hi => by
              simp only [X, U, dif_pos hi]
              exact Classical.choose_spec (Classical.choose_spec (each i hi))
            have hcl : ((List.range len).map X).length = len := by simp
            obtain ⟨_, _, _, q4⟩ := hX 0 h0
            have hblk := World.cells?_block q4 hpos
            have hsp : a.spot = none := by
              have h2 := (World.cells?_some q4).2.2 0 hpos
              have h3 : (U 0)[0]? = some ((U 0)[0]'(by have := (hX 0 h0).2.2.1; omega)) := List.getElem?_eq_getElem _
              rw [h3] at h2
              have h4 := World.cell?_spot h2
              simpa [Addr.add] using h4
            obtain ⟨g, o, sp⟩ := a
            simp only at hsp
            subst hsp
            have hb2 : g < W.heap.size := by simpa [Addr.add] using hblk
            have hU : ∀ i j x, elem? ((List.range len).map X) i j = some x → W.cell? ⟨g, o + (i * P.cellsOf e + j), none⟩ = some ((U i).getD j undef) ∧ RepV (low W) W x ((U i).getD j undef) := fun i j x hx => by
              unfold elem? at hx
              rw [List.getElem?_map] at hx
              cases hr : (List.range len)[i]? with
              | none => rw [hr] at hx; cases hx
              | some i' =>
                rw [hr] at hx
                have hi : i < len := by have := (List.getElem?_eq_some_iff.1 hr).1; simpa using this
                have hii : i' = i := by rw [List.getElem?_eq_getElem (by simpa using hi)] at hr; simpa using hr.symm
                subst hii
                have hx' : (X i')[j]? = some x := hx
                obtain ⟨_, q2, q3, q4⟩ := hX i' hi
                have hj : j < (U i').length := by rw [← q2.1]; exact (List.getElem?_eq_some_iff.1 hx').1
                have hu2 : (U i')[j]? = some ((U i').getD j undef) := by rw [List.getD_eq_getElem?_getD, List.getElem?_eq_getElem hj]; rfl
                have hc := (World.cells?_some q4).2.2 j (by omega)
                rw [hu2] at hc
                refine ⟨?_, q2.2 j x _ hx' hu2⟩
                rw [← hc]
                congr 1
                rw [add_flat, add_flat, Nat.add_assoc]
            refine ⟨_, ⟨(List.range len).map X, rfl, by rw [hcl]; exact hrl, fun x hx => ?_⟩, one_cell ?_, h1⟩
            · obtain ⟨i, hi, rfl⟩ := List.mem_map.1 hx
              exact (hX i (by simpa using hi)).1
            · have := RepV.sl (Z := low W) (w := W) ((List.range len).map X) g o (P.cellsOf e) cap (fun i j => (U i).getD j undef) (by rw [hcl]; exact h0) hb2 hpos (fun x hx => by
                  obtain ⟨i, hi, rfl⟩ := List.mem_map.1 hx
                  obtain ⟨_, q2, q3, _⟩ := hX i (by simpa using hi)
                  rw [q2.1, q3]) (by rw [hcl]; exact hl) hm (fun i j x hx => ?_) (fun i j x hx => ?_)
              · rw [hcl] at this; exact this
              · exact (hU i j x hx).1
              · exact (hU i j x hx).2
      case struct fs =>
        cases hg : flushB P (fitB P d) 0 fs.toList with
        | none => rw [hg] at h; cases h
        | some m =>
          rw [hg] at h
          have hm := Nat.eq_of_beq_eq_true h
          obtain ⟨xs, n, _, hxe, hl, hlen, hf⟩ := DataW.trod_struct hu hx
          obtain ⟨ys, y1, y2, _⟩ := open_flushZ (n := n) (open_anyZ d) cs fs.toList 0 m hg (by omega) (Nat.zero_le _) (fun f hf' => by
            obtain ⟨i, hi⟩ := List.getElem?_of_mem hf'
            have := hf i f (by simpa using hi)
            have hlt := (List.getElem?_eq_some_iff.1 hi).1
            rw [List.getElem?_eq_getElem (by rw [hlen]; simpa using hlt)] at this
            refine ⟨_, this, fun n hn => hR n ?_⟩
            rw [hxe]
            simp only [DataW.weights, hu]
            refine DataW.weights_mem_each (j := i) (t := f.type) (d := (xs[i]'(by rw [hlen]; simpa using hlt)).1) ?_ ?_ n hn
            · rw [List.getElem?_map, hi]; rfl
            · rw [List.getElem?_map, List.getElem?_eq_getElem (by rw [hlen]; simpa using hlt)]; rfl)
          refine ⟨ys, y1, ?_, hl⟩
          rw [List.drop_zero, Nat.sub_zero, List.take_of_length_le (by omega)] at y2
          exact y2
end
end Go.Proofs.YthflfnehdlpmdaaDoor
