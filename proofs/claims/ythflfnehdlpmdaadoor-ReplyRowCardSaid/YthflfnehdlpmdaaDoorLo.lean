/- Arguments that come in: of ints, texts, booleans, structs and slices, as abstract values. No program, no condition. -/
import Derived.Test.YthflfnehdlpmdaaDoorA3
import Derived.ChangeArms
import Derived.ChangeOld
import Derived.DataReads
namespace Go.Proofs.YthflfnehdlpmdaaDoor
set_option linter.all false
open Go Go.RowKit
/-- Cells one behind the other. -/
def FitAll (F : TypeId → List V → Prop) : List Field → List V → Prop
  | [], cs => cs = []
  | f :: fs, cs => ∃ a b, cs = a ++ b ∧ F f.type a ∧ FitAll F fs b
/-- The cells of a value of a type. -/
def Fit (P : Program) : Nat → TypeId → List V → Prop
  | 0, _, _ => False
  | d + 1, t, cs => match P.underlying t with
    | some .bool => ∃ b, cs = [.bool b]
    | some (.int k) => ∃ n, cs = [.int k n] ∧ (Lit.int k n).wf = true
    | some .string => ∃ l, cs = [.str l] ∧ l.length ≤ maxLen
    | some (.slice e) => ∃ c, cs = [.sl c] ∧ c.length ≤ maxLen ∧ ∀ x ∈ c, Fit P d e x
    | some (.struct fs) => FitAll (Fit P d) fs.toList cs
    | _ => False
theorem fit_bool {P : Program} {d : Nat} {t : TypeId} {a : List V} (ht : P.underlying t = some .bool) (h : Fit P (d + 1) t a) : ∃ b, a = [.bool b] := by
  unfold Fit at h; rw [ht] at h; exact h
theorem fit_str {P : Program} {d : Nat} {t : TypeId} {a : List V} (ht : P.underlying t = some .string) (h : Fit P (d + 1) t a) : ∃ l, a = [.str l] ∧ l.length ≤ maxLen := by
  unfold Fit at h; rw [ht] at h; exact h
theorem fit_sl {P : Program} {d : Nat} {t e : TypeId} {a : List V} (ht : P.underlying t = some (.slice e)) (h : Fit P (d + 1) t a) : ∃ c, a = [.sl c] ∧ c.length ≤ maxLen ∧ ∀ x ∈ c, Fit P d e x := by
  unfold Fit at h; rw [ht] at h; exact h
def flushB (P : Program) (ok : TypeId → Bool) : Nat → List Field → Option Nat
  | k, [] => some k
  | k, f :: fs => if Nat.beq f.offset k && ok f.type then flushB P ok (k + P.cellsOf f.type) fs else none
/-- Is a type of that kind? -/
def fitB (P : Program) : Nat → TypeId → Bool
  | 0, _ => false
  | d + 1, t => match P.underlying t with
    | some .bool => Nat.beq (P.cellsOf t) 1
    | some (.int _) => Nat.beq (P.cellsOf t) 1
    | some .string => Nat.beq (P.cellsOf t) 1
    | some (.slice e) => Nat.beq (P.cellsOf t) 1 && Nat.blt 0 (P.cellsOf e) && fitB P d e
    | some (.struct fs) => match flushB P (fitB P d) 0 fs.toList with | some n => Nat.beq n (P.cellsOf t) | none => false
    | _ => false
section
variable {H : Type} {enc : TypeId × Value → H} {P : Program} {W : World} {spare : Nat → Bool} {held : Bool} {base : Nat}
abbrev low (W : World) : Nat → Prop := fun g => g < W.heap.size
def CellsAre (W : World) (xs : List V) (cs : List Value) : Prop := xs.length = cs.length ∧ ∀ (i : Nat) x u, xs[i]? = some x → cs[i]? = some u → RepV (low W) W x u
theorem CellsAre.app {xs ys : List V} {ws bs : List Value} (h : CellsAre W xs ws) (k : CellsAre W ys bs) : CellsAre W (xs ++ ys) (ws ++ bs) := by
  refine ⟨by rw [List.length_append, List.length_append, h.1, k.1], fun i x u hx hu => ?_⟩
  by_cases hi : i < xs.length
  · rw [List.getElem?_append_left hi] at hx
    rw [List.getElem?_append_left (by rw [← h.1]; exact hi)] at hu
    exact h.2 i x u hx hu
  · rw [List.getElem?_append_right (by omega)] at hx
    rw [List.getElem?_append_right (by rw [← h.1]; omega), ← h.1] at hu
    exact k.2 _ x u hx hu
theorem add_flat (g o n : Nat) : (⟨g, o, none⟩ : Addr).add n = ⟨g, o + n, none⟩ := by unfold Addr.add; split <;> simp_all
theorem one_cell {x : V} {u : Value} (h : RepV (low W) W x u) : CellsAre W [x] [u] := ⟨rfl, fun i y v hy hv => by
  cases i with
  | zero => simp at hy hv; subst hy hv; exact h
  | succ i => simp at hy⟩
theorem open_flush {d n : Nat} (ih : ∀ (t : TypeId) (fuel : Nat) (cs : List Value) x, fitB P d t = true → DataW.trod enc P W base spare held fuel t cs = some x → ∃ xs, Fit P d t xs ∧ CellsAre W xs cs ∧ cs.length = P.cellsOf t) (cs : List Value) :
    ∀ (fs : List Field) (k m : Nat), flushB P (fitB P d) k fs = some m → m ≤ cs.length → k ≤ cs.length → (∀ f ∈ fs, ∃ y, DataW.trod enc P W base spare held n f.type ((cs.drop f.offset).take (P.cellsOf f.type)) = some y) →
    ∃ xs, FitAll (Fit P d) fs xs ∧ CellsAre W xs ((cs.drop k).take (m - k)) ∧ k ≤ m
  | [], k, m, h, _, _, _ => by
    simp only [flushB] at h; injection h with h; subst h
    exact ⟨[], rfl, by rw [Nat.sub_self, List.take_zero]; exact ⟨rfl, fun i x u hx => by simp at hx⟩, Nat.le_refl _⟩
  | f :: fs, k, m, h, hm, hk, hf => by
    simp only [flushB] at h
    split at h
    · rename_i hc
      simp only [Bool.and_eq_true] at hc
      have ho : f.offset = k := Nat.eq_of_beq_eq_true hc.1
      obtain ⟨y, hy⟩ := hf f List.mem_cons_self
      obtain ⟨ws, a1, a2, a3⟩ := ih f.type n _ y hc.2 hy
      rw [ho] at a2 a3
      have hlen : k + P.cellsOf f.type ≤ cs.length ∨ P.cellsOf f.type = 0 := by
        rw [List.length_take, List.length_drop] at a3; omega
      have hk2 : k + P.cellsOf f.type ≤ cs.length := by rcases hlen with h | h <;> omega
      obtain ⟨bs, b1, b2, b3⟩ := open_flush ih cs fs (k + P.cellsOf f.type) m h hm hk2 (fun g hg => hf g (List.mem_cons_of_mem _ hg))
      refine ⟨ws ++ bs, ⟨ws, bs, rfl, a1, b1⟩, ?_, by omega⟩
      have e : (cs.drop k).take (m - k) = (cs.drop k).take (P.cellsOf f.type) ++ (cs.drop (k + P.cellsOf f.type)).take (m - (k + P.cellsOf f.type)) := by
        rw [← List.drop_drop, show m - k = P.cellsOf f.type + (m - (k + P.cellsOf f.type)) from by omega, List.take_add]
      rw [e]
      exact a2.app b2
    · cases h
theorem open_any : ∀ (d : Nat) (t : TypeId) (fuel : Nat) (cs : List Value) (x : DataW H × List MemPlace), fitB P d t = true → DataW.trod enc P W base spare held fuel t cs = some x → ∃ xs, Fit P d t xs ∧ CellsAre W xs cs ∧ cs.length = P.cellsOf t
  | 0, t, fuel, cs, x, h, _ => by simp [fitB] at h
  | d + 1, t, fuel, cs, x, h, hx => by
    unfold fitB at h
    unfold Fit
    cases hu : P.underlying t with
    | none => rw [hu] at h; cases h
    | some ty =>
      rw [hu] at h
      cases ty <;> simp only at h <;> try (cases h; done)
      case bool =>
        obtain ⟨b, rfl, _⟩ := DataW.trod_bool hu hx
        exact ⟨_, ⟨b, rfl⟩, one_cell (.bool b), (Nat.eq_of_beq_eq_true h).symm⟩
      case int k =>
        obtain ⟨n, rfl, _, hw⟩ := DataW.trod_int hu hx
        exact ⟨_, ⟨n, rfl, hw⟩, one_cell (.int k n), (Nat.eq_of_beq_eq_true h).symm⟩
      case string =>
        obtain ⟨s, rfl, _, hs⟩ := DataW.trod_string hu hx
        refine ⟨_, ⟨s.data.toList, rfl, by simpa using hs⟩, one_cell ?_, (Nat.eq_of_beq_eq_true h).symm⟩
        have e : s = S s.data.toList := by obtain ⟨⟨l⟩⟩ := s; rfl
        have := RepV.str (Z := low W) (w := W) s.data.toList
        rwa [← e] at this
      case slice e =>
        simp only [Bool.and_eq_true] at h
        have hpos : 0 < P.cellsOf e := Nat.lt_of_lt_of_le Nat.zero_lt_one (Nat.le_of_ble_eq_true h.1.2)
        have h1 := (Nat.eq_of_beq_eq_true h.1.1).symm
        rcases DataW.trod_slice hu hx with ⟨rfl, _⟩ | ⟨a, len, cap, elems, rest, n, _, rfl, _, hb, hl, hm, hlen, hel, _, _⟩
        · exact ⟨_, ⟨[], rfl, by simp [maxLen], by simp⟩, one_cell (.nil none 0 (by simp [maxLen])), h1⟩
        · have each : ∀ i, i < len → ∃ (xs : List V) (us : List Value), Fit P d e xs ∧ CellsAre W xs us ∧ us.length = P.cellsOf e ∧ W.cells? base (a.add (i * P.cellsOf e)) (P.cellsOf e) = some us := fun i hi => by
            have := hel i hi
            rw [List.getElem?_eq_getElem (by omega), Option.bind_eq_some_iff] at this
            obtain ⟨us, q1, q2⟩ := this
            obtain ⟨xs, f1, f2, f3⟩ := open_any d e n us _ h.2 q2
            exact ⟨xs, us, f1, f2, f3, q1⟩
          rcases Nat.eq_zero_or_pos len with h0 | h0
          · subst h0
            exact ⟨_, ⟨[], rfl, by simp [maxLen], by simp⟩, one_cell (.nil (some a) cap hm), h1⟩
          · let X : Nat → List V := fun i => if h : i < len then Classical.choose (each i h) else []
            let U : Nat → List Value := fun i => if h : i < len then Classical.choose (Classical.choose_spec (each i h)) else []
            have hX : ∀ i, i < len → Fit P d e (X i) ∧ CellsAre W (X i) (U i) ∧ (U i).length = P.cellsOf e ∧ W.cells? base (a.add (i * P.cellsOf e)) (P.cellsOf e) = some (U i) := fun i hi => by
              simp only [X, U, dif_pos hi]
              exact Classical.choose_spec (Classical.choose_spec (each i hi))
            have hcl : ((List.range len).map X).length = len := by simp
            obtain ⟨_, _, _, q4⟩ := hX 0 h0
            have hblk := World.cells?_block q4 hpos
            have hsp : a.spot = none := by
              have h2 := (World.cells?_some q4).2.2 0 hpos
              have h3 : (U 0)[0]? = some ((U 0)[0]'(by have := (hX 0 h0).2.2.1; omega)) := List.getElem?_eq_getElem _
              rw [h3] at h2
              have h4 := World.cell?_spot h2
              simpa [Addr.add] using h4
            obtain ⟨g, o, sp⟩ := a
            simp only at hsp
            subst hsp
            have hb2 : g < W.heap.size := by simpa [Addr.add] using hblk
            have hU : ∀ i j x, elem? ((List.range len).map X) i j = some x → W.cell? ⟨g, o + (i * P.cellsOf e + j), none⟩ = some ((U i).getD j undef) ∧ RepV (low W) W x ((U i).getD j undef) := fun i j x hx => by
              unfold elem? at hx
              rw [List.getElem?_map] at hx
              cases hr : (List.range len)[i]? with
              | none => rw [hr] at hx; cases hx
              | some i' =>
                rw [hr] at hx
                have hi : i < len := by have := (List.getElem?_eq_some_iff.1 hr).1; simpa using this
                have hii : i' = i := by rw [List.getElem?_eq_getElem (by simpa using hi)] at hr; simpa using hr.symm
                subst hii
                have hx' : (X i')[j]? = some x := hx
                obtain ⟨_, q2, q3, q4⟩ := hX i' hi
                have hj : j < (U i').length := by rw [← q2.1]; exact (List.getElem?_eq_some_iff.1 hx').1
                have hu2 : (U i')[j]? = some ((U i').getD j undef) := by rw [List.getD_eq_getElem?_getD, List.getElem?_eq_getElem hj]; rfl
                have hc := (World.cells?_some q4).2.2 j (by omega)
                rw [hu2] at hc
                refine ⟨?_, q2.2 j x _ hx' hu2⟩
                rw [← hc]
                congr 1
                rw [add_flat, add_flat, Nat.add_assoc]
            refine ⟨_, ⟨(List.range len).map X, rfl, by rw [hcl]; omega, fun x hx => ?_⟩, one_cell ?_, h1⟩
            · obtain ⟨i, hi, rfl⟩ := List.mem_map.1 hx
              exact (hX i (by simpa using hi)).1
            · have := RepV.sl (Z := low W) (w := W) ((List.range len).map X) g o (P.cellsOf e) cap (fun i j => (U i).getD j undef) (by rw [hcl]; exact h0) hb2 hpos (fun x hx => by
                  obtain ⟨i, hi, rfl⟩ := List.mem_map.1 hx
                  obtain ⟨_, q2, q3, _⟩ := hX i (by simpa using hi)
                  rw [q2.1, q3]) (by rw [hcl]; exact hl) hm (fun i j x hx => ?_) (fun i j x hx => ?_)
              · rw [hcl] at this; exact this
              · exact (hU i j x hx).1
              · exact (hU i j x hx).2
      case struct fs =>
        cases hg : flushB P (fitB P d) 0 fs.toList with
        | none => rw [hg] at h; cases h
        | some m =>
          rw [hg] at h
          have hm := Nat.eq_of_beq_eq_true h
          obtain ⟨xs, n, _, _, hl, hlen, hf⟩ := DataW.trod_struct hu hx
          obtain ⟨ys, y1, y2, _⟩ := open_flush (n := n) (open_any d) cs fs.toList 0 m hg (by omega) (Nat.zero_le _) (fun f hf' => by
            obtain ⟨i, hi⟩ := List.getElem?_of_mem hf'
            have := hf i f (by simpa using hi)
            have hlt := (List.getElem?_eq_some_iff.1 hi).1
            rw [List.getElem?_eq_getElem (by rw [hlen]; simpa using hlt)] at this
            exact ⟨_, this⟩)
          refine ⟨ys, y1, ?_, hl⟩
          rw [List.drop_zero, Nat.sub_zero, List.take_of_length_le (by omega)] at y2
          exact y2
end
end Go.Proofs.YthflfnehdlpmdaaDoor
