/- Arguments that come in, with a bound on their texts and slices. No program, no condition. -/
import Derived.Test.YtnjbfiejgiaibaaGreatDoorLawKitToLo
import Derived.SizedLaws
import Derived.Test.YtnjbfiejgiaibaaGreatDoorHdM
import Derived.Test.YtnjbfiejgiaibaaGreatDoorAkA
import Derived.Test.YtnjbfiejgiaibaaGreatDoorBaseToGl
import Derived.Test.YtnjbfiejgiaibaaGreatDoorRows
import Derived.Lib.LaidU8T
import Derived.PinnedBridge
import Derived.Shelf.Vars
import Derived.Test.YtnjbfiejgiaibaaGreatDoorShelf
namespace Go.Proofs.YtnjbfiejgiaibaaGreatDoor
set_option linter.all false
open Go Go.RowKit
def FitZ (P : Program) (R : Nat) : Nat → TypeId → List V → Prop
  | 0, _, _ => False
  | d + 1, t, cs => match P.underlying t with
    | some .bool => ∃ b, cs = [.bool b]
    | some (.int k) => ∃ n, cs = [.int k n] ∧ (Lit.int k n).wf = true
    | some .string => ∃ l, cs = [.str l] ∧ l.length ≤ R
    | some (.slice e) => ∃ c, cs = [.sl c] ∧ c.length * P.bytesOf e ≤ R ∧ ∀ x ∈ c, FitZ P R d e x
    | some (.struct fs) => FitAll (FitZ P R d) fs.toList cs
    | _ => False
theorem fitz_int {P : Program} {R d : Nat} {t : TypeId} {k : IntKind} {a : List V} (ht : P.underlying t = some (.int k)) (h : FitZ P R (d + 1) t a) : ∃ n, a = [.int k n] ∧ (Lit.int k n).wf = true := by
  unfold FitZ at h; rw [ht] at h; exact h
theorem fitz_bool {P : Program} {R d : Nat} {t : TypeId} {a : List V} (ht : P.underlying t = some .bool) (h : FitZ P R (d + 1) t a) : ∃ b, a = [.bool b] := by
  unfold FitZ at h; rw [ht] at h; exact h
theorem fitz_str {P : Program} {R d : Nat} {t : TypeId} {a : List V} (ht : P.underlying t = some .string) (h : FitZ P R (d + 1) t a) : ∃ l, a = [.str l] ∧ l.length ≤ R := by
  unfold FitZ at h; rw [ht] at h; exact h
theorem fitz_sl {P : Program} {R d : Nat} {t e : TypeId} {a : List V} (ht : P.underlying t = some (.slice e)) (h : FitZ P R (d + 1) t a) : ∃ c, a = [.sl c] ∧ c.length * P.bytesOf e ≤ R ∧ ∀ x ∈ c, FitZ P R d e x := by
  unfold FitZ at h; rw [ht] at h; exact h
theorem fitz_struct {P : Program} {R d : Nat} {t : TypeId} {fs : Array Field} {a : List V} (ht : P.underlying t = some (.struct fs)) (h : FitZ P R (d + 1) t a) : FitAll (FitZ P R d) fs.toList a := by
  unfold FitZ at h; rw [ht] at h; exact h
theorem weightsAll_mem {H : Type} {P : Program} {e : TypeId} {d : DataW H} {n : Nat} : ∀ {ds : List (DataW H)}, d ∈ ds → n ∈ d.weights P e → n ∈ DataW.weightsAll P e ds
  | x :: ds, hd, hn => by
    simp only [DataW.weightsAll, List.mem_append]
    rcases List.mem_cons.1 hd with rfl | hd
    · exact .inl hn
    · exact .inr (weightsAll_mem hd hn)
section
variable {H : Type} {enc : TypeId × Value → H} {P : Program} {W : World} {spare : Nat → Bool} {held : Bool} {base : Nat}
theorem open_flushZ {R d n : Nat} (ih : ∀ (t : TypeId) (fuel : Nat) (cs : List Value) x, fitB P d t = true → DataW.trod enc P W base spare held fuel t cs = some x → (∀ n ∈ x.1.weights P t, n ≤ R) → ∃ xs, FitZ P R d t xs ∧ CellsAre W xs cs ∧ cs.length = P.cellsOf t) (cs : List Value) :
    ∀ (fs : List Field) (k m : Nat), flushB P (fitB P d) k fs = some m → m ≤ cs.length → k ≤ cs.length → (∀ f ∈ fs, ∃ y, DataW.trod enc P W base spare held n f.type ((cs.drop f.offset).take (P.cellsOf f.type)) = some y ∧ ∀ n ∈ y.1.weights P f.type, n ≤ R) →
    ∃ xs, FitAll (FitZ P R d) fs xs ∧ CellsAre W xs ((cs.drop k).take (m - k)) ∧ k ≤ m
  | [], k, m, h, _, _, _ => by
    simp only [flushB] at h; injection h with h; subst h
    exact ⟨[], rfl, by rw [Nat.sub_self, List.take_zero]; exact ⟨rfl, fun i x u hx => by simp at hx⟩, Nat.le_refl _⟩
  | f :: fs, k, m, h, hm, hk, hf => by
    simp only [flushB] at h
    split at h
    · rename_i hc
      simp only [Bool.and_eq_true] at hc
      have ho : f.offset = k := Nat.eq_of_beq_eq_true hc.1
      obtain ⟨y, hy, hyr⟩ := hf f List.mem_cons_self
      obtain ⟨xa, a1, a2, a3⟩ := ih f.type n _ y hc.2 hy hyr
      rw [ho] at a2 a3
      have hlen : k + P.cellsOf f.type ≤ cs.length ∨ P.cellsOf f.type = 0 := by
        rw [List.length_take, List.length_drop] at a3; omega
      have hk2 : k + P.cellsOf f.type ≤ cs.length := by rcases hlen with h | h <;> omega
      obtain ⟨bs, b1, b2, b3⟩ := open_flushZ ih cs fs (k + P.cellsOf f.type) m h hm hk2 (fun g hg => hf g (List.mem_cons_of_mem _ hg))
      refine ⟨xa ++ bs, ⟨xa, bs, rfl, a1, b1⟩, ?_, by omega⟩
      have e : (cs.drop k).take (m - k) = (cs.drop k).take (P.cellsOf f.type) ++ (cs.drop (k + P.cellsOf f.type)).take (m - (k + P.cellsOf f.type)) := by
        rw [← List.drop_drop, show m - k = P.cellsOf f.type + (m - (k + P.cellsOf f.type)) from by omega, List.take_add]
      rw [e]
      exact a2.app b2
    · cases h
theorem open_anyZ {R : Nat} : ∀ (d : Nat) (t : TypeId) (fuel : Nat) (cs : List Value) (x : DataW H × List MemPlace), fitB P d t = true → DataW.trod enc P W base spare held fuel t cs = some x → (∀ n ∈ x.1.weights P t, n ≤ R) → ∃ xs, FitZ P R d t xs ∧ CellsAre W xs cs ∧ cs.length = P.cellsOf t
  | 0, t, fuel, cs, x, h, _, _ => by simp [fitB] at h
  | d + 1, t, fuel, cs, x, h, hx, hR => by
    unfold fitB at h
    unfold FitZ
    cases hu : P.underlying t with
    | none => rw [hu] at h; cases h
    | some ty =>
      rw [hu] at h
      cases ty <;> simp only at h <;> try (cases h; done)
      case bool =>
        obtain ⟨b, rfl, _⟩ := DataW.trod_bool hu hx
        exact ⟨_, ⟨b, rfl⟩, one_cell (.bool b), (Nat.eq_of_beq_eq_true h).symm⟩
      case int k =>
        obtain ⟨n, rfl, _, hw⟩ := DataW.trod_int hu hx
        exact ⟨_, ⟨n, rfl, hw⟩, one_cell (.int k n), (Nat.eq_of_beq_eq_true h).symm⟩
      case string =>
        obtain ⟨s, rfl, hxe, hs⟩ := DataW.trod_string hu hx
        refine ⟨_, ⟨s.data.toList, rfl, hR _ (by rw [hxe]; simp [DataW.weights])⟩, one_cell ?_, (Nat.eq_of_beq_eq_true h).symm⟩
        have e : s = S s.data.toList := by obtain ⟨⟨l⟩⟩ := s; rfl
        have := RepV.str (Z := low W) (w := W) s.data.toList
        rwa [← e] at this
      case slice e =>
        simp only [Bool.and_eq_true] at h
        have hpos : 0 < P.cellsOf e := Nat.lt_of_lt_of_le Nat.zero_lt_one (Nat.le_of_ble_eq_true h.1.2)
        have h1 := (Nat.eq_of_beq_eq_true h.1.1).symm
        rcases DataW.trod_slice hu hx with ⟨rfl, _⟩ | ⟨a, len, cap, elems, rest, n, _, rfl, hxe, hb, hl, hm, hlen, hel, _, _⟩
        · exact ⟨_, ⟨[], rfl, by simp, by simp⟩, one_cell (.nil none 0 (by simp [maxLen])), h1⟩
        · have hrl : len * P.bytesOf e ≤ R := by
            have h3 := hR ((elems.length + rest.length) * P.bytesOf e) (by rw [hxe]; simp [DataW.weights, hu])
            exact Nat.le_trans (Nat.mul_le_mul_right _ (by omega)) h3
          have each : ∀ i, i < len → ∃ (xs : List V) (us : List Value), FitZ P R d e xs ∧ CellsAre W xs us ∧ us.length = P.cellsOf e ∧ W.cells? base (a.add (i * P.cellsOf e)) (P.cellsOf e) = some us := fun i hi => by
            have hme : elems[i]'(by omega) ∈ elems := List.getElem_mem _
            have hri : ∀ n ∈ (elems[i]'(by omega)).1.weights P e, n ≤ R := fun n hn => hR n (by rw [hxe]; simp only [DataW.weights, hu, List.mem_cons, List.mem_append]; exact .inr (.inl (weightsAll_mem (List.mem_map.2 ⟨_, hme, rfl⟩) hn)))
            have := hel i hi
            rw [List.getElem?_eq_getElem (by omega), Option.bind_eq_some_iff] at this
            obtain ⟨us, q1, q2⟩ := this
            obtain ⟨xs, f1, f2, f3⟩ := open_anyZ d e n us _ h.2 q2 hri
            exact ⟨xs, us, f1, f2, f3, q1⟩
          rcases Nat.eq_zero_or_pos len with h0 | h0
          · subst h0
            exact ⟨_, ⟨[], rfl, by simp, by simp⟩, one_cell (.nil (some a) cap hm), h1⟩
          · let X : Nat → List V := fun i => if h : i < len then Classical.choose (each i h) else []
            let U : Nat → List Value := fun i => if h : i < len then Classical.choose (Classical.choose_spec (each i h)) else []
            have hX : ∀ i, i < len → FitZ P R d e (X i) ∧ CellsAre W (X i) (U i) ∧ (U i).length = P.cellsOf e ∧ W.cells? base (a.add (i * P.cellsOf e)) (P.cellsOf e) = some (U i) := fun i hi => by
              simp only [X, U, dif_pos hi]
              exact Classical.choose_spec (Classical.choose_spec (each i hi))
            have hcl : ((List.range len).map X).length = len := by simp
            obtain ⟨_, _, _, q4⟩ := hX 0 h0
            have hblk := World.cells?_block q4 hpos
            have hsp : a.spot = none := by
              have h2 := (World.cells?_some q4).2.2 0 hpos
              have h3 : (U 0)[0]? = some ((U 0)[0]'(by have := (hX 0 h0).2.2.1; omega)) := List.getElem?_eq_getElem _
              rw [h3] at h2
              have h4 := World.cell?_spot h2
              simpa [Addr.add] using h4
            obtain ⟨g, o, sp⟩ := a
            simp only at hsp
            subst hsp
            have hb2 : g < W.heap.size := by simpa [Addr.add] using hblk
            have hU : ∀ i j x, elem? ((List.range len).map X) i j = some x → W.cell? ⟨g, o + (i * P.cellsOf e + j), none⟩ = some ((U i).getD j undef) ∧ RepV (low W) W x ((U i).getD j undef) := fun i j x hx => by
              unfold elem? at hx
              rw [List.getElem?_map] at hx
              cases hr : (List.range len)[i]? with
              | none => rw [hr] at hx; cases hx
              | some i' =>
                rw [hr] at hx
                have hi : i < len := by have := (List.getElem?_eq_some_iff.1 hr).1; simpa using this
                have hii : i' = i := by rw [List.getElem?_eq_getElem (by simpa using hi)] at hr; simpa using hr.symm
                subst hii
                have hx' : (X i')[j]? = some x := hx
                obtain ⟨_, q2, q3, q4⟩ := hX i' hi
                have hj : j < (U i').length := by rw [← q2.1]; exact (List.getElem?_eq_some_iff.1 hx').1
                have hu2 : (U i')[j]? = some ((U i').getD j undef) := by rw [List.getD_eq_getElem?_getD, List.getElem?_eq_getElem hj]; rfl
                have hc := (World.cells?_some q4).2.2 j (by omega)
                rw [hu2] at hc
                refine ⟨?_, q2.2 j x _ hx' hu2⟩
                rw [← hc]
                congr 1
                rw [add_flat, add_flat, Nat.add_assoc]
            refine ⟨_, ⟨(List.range len).map X, rfl, by rw [hcl]; exact hrl, fun x hx => ?_⟩, one_cell ?_, h1⟩
            · obtain ⟨i, hi, rfl⟩ := List.mem_map.1 hx
              exact (hX i (by simpa using hi)).1
            · have := RepV.sl (Z := low W) (w := W) ((List.range len).map X) g o (P.cellsOf e) cap (fun i j => (U i).getD j undef) (by rw [hcl]; exact h0) hb2 hpos (fun x hx => by
                  obtain ⟨i, hi, rfl⟩ := List.mem_map.1 hx
                  obtain ⟨_, q2, q3, _⟩ := hX i (by simpa using hi)
                  rw [q2.1, q3]) (by rw [hcl]; exact hl) hm (fun i j x hx => ?_) (fun i j x hx => ?_)
              · rw [hcl] at this; exact this
              · exact (hU i j x hx).1
              · exact (hU i j x hx).2
      case struct fs =>
        cases hg : flushB P (fitB P d) 0 fs.toList with
        | none => rw [hg] at h; cases h
        | some m =>
          rw [hg] at h
          have hm := Nat.eq_of_beq_eq_true h
          obtain ⟨xs, n, _, hxe, hl, hlen, hf⟩ := DataW.trod_struct hu hx
          obtain ⟨ys, y1, y2, _⟩ := open_flushZ (n := n) (open_anyZ d) cs fs.toList 0 m hg (by omega) (Nat.zero_le _) (fun f hf' => by
            obtain ⟨i, hi⟩ := List.getElem?_of_mem hf'
            have := hf i f (by simpa using hi)
            have hlt := (List.getElem?_eq_some_iff.1 hi).1
            rw [List.getElem?_eq_getElem (by rw [hlen]; simpa using hlt)] at this
            refine ⟨_, this, fun n hn => hR n ?_⟩
            rw [hxe]
            simp only [DataW.weights, hu]
            refine DataW.weights_mem_each (j := i) (t := f.type) (d := (xs[i]'(by rw [hlen]; simpa using hlt)).1) ?_ ?_ n hn
            · rw [List.getElem?_map, hi]; rfl
            · rw [List.getElem?_map, List.getElem?_eq_getElem (by rw [hlen]; simpa using hlt)]; rfl)
          refine ⟨ys, y1, ?_, hl⟩
          rw [List.drop_zero, Nat.sub_zero, List.take_of_length_le (by omega)] at y2
          exact y2
end
end Go.Proofs.YtnjbfiejgiaibaaGreatDoor

/- Chapter 14: a request that comes in. No condition. -/
namespace Go.Proofs.YtnjbfiejgiaibaaGreatDoor
set_option linter.all false
open Go Go.RowKit
set_option maxRecDepth 10000
set_option maxHeartbeats 4000000
abbrev g0 (W : World) : Gh := ⟨fun _ => none, fun _ => 0, fun g => g < W.heap.size⟩
theorem okWide_struct {P : Program} {W : World} {r : Reach} {b0 : Nat} {t : TypeId} {v : Value} {fs : Array Field} (ht : P.underlying t = some (.struct fs)) (h : Value.okWide P W r b0 t v) : ∃ cs, v = .agg cs := by
  simp only [Value.okWide, ht] at h
  obtain ⟨cs, h1, _⟩ := h
  exact ⟨cs, h1⟩
theorem rep_cellsL {W : World} {xs : List V} {us : Array Value} (h : CellsAre W xs us.toList) : RepD (g0 W) W (look []) (.agg (xs.map .v)) (.agg us) := by
  obtain ⟨us⟩ := us
  refine .agg _ us (by rw [List.length_map]; exact h.1.symm) (fun u hu => ?_) fun i d u hd hu => ?_
  · obtain ⟨i, hi⟩ := List.getElem?_of_mem hu
    have hlt := (List.getElem?_eq_some_iff.1 hi).1
    exact (h.2 i _ u (List.getElem?_eq_getElem (by rw [h.1]; exact hlt)) hi).one
  · rw [List.getElem?_map] at hd
    cases hx : xs[i]? with
    | none => rw [hx] at hd; cases hd
    | some x => rw [hx] at hd; injection hd with hd; subst hd; exact .v x u (h.2 i x u hx hu)
theorem fit_field {xs : List V} (h : FitZ Tryz.prog reachBytes 2 46 xs) : ∃ f : Fd, xs = f.vs ∧ f.n.length ≤ 140737488351232 ∧ f.v.length ≤ 140737488351232 := by
  have h1 := fitz_struct Tryz.underlying46 h
  simp only [FitAll] at h1
  obtain ⟨a0, r0, rfl, k0, a1, r1, rfl, k1, a2, r2, rfl, k2, rfl⟩ := h1
  obtain ⟨n0, rfl, w0⟩ := fitz_str Tryz.underlying9 k0
  obtain ⟨n1, rfl, w1⟩ := fitz_str Tryz.underlying9 k1
  obtain ⟨n2, rfl⟩ := fitz_bool Tryz.underlying4 k2
  exact ⟨⟨n0, n1, n2⟩, rfl, w0, w1⟩
theorem fields_of : ∀ c : List (List V), (∀ x ∈ c, FitZ Tryz.prog reachBytes 2 46 x) → ∃ l, c = fdV l ∧ ∀ f ∈ l, f.n.length ≤ 140737488351232 ∧ f.v.length ≤ 140737488351232
  | [], _ => ⟨[], rfl, by simp⟩
  | x :: c, h => by
    obtain ⟨f, rfl, h1, h2⟩ := fit_field (h x List.mem_cons_self)
    obtain ⟨l, rfl, h3⟩ := fields_of c fun y hy => h y (List.mem_cons_of_mem _ hy)
    refine ⟨f :: l, rfl, fun g hg => ?_⟩
    rcases List.mem_cons.1 hg with rfl | hg
    · exact ⟨h1, h2⟩
    · exact h3 g hg
theorem field_bytes : Tryz.prog.bytesOf 46 = 40 := by kernel_rfl
/-- What is known of a list that comes in. -/
def InL (l : List Fd) : Prop := l.length ≤ 4398046511104 ∧ ∀ f ∈ l, f.n.length ≤ 140737488351232 ∧ f.v.length ≤ 140737488351232
/-- What is known of a request that comes in. -/
def InQ (r : Rq) : Prop := InL r.f ∧ r.m.length ≤ 140737488351232 ∧ r.s.length ≤ 140737488351232 ∧ r.a.length ≤ 140737488351232 ∧ r.p.length ≤ 140737488351232
theorem fit_req {xs : List V} (h : FitZ Tryz.prog reachBytes 4 39 xs) : ∃ r : Rq, xs.map D.v = r.cs ∧ InQ r := by
  have h1 := fitz_struct Tryz.underlying39 h
  simp only [FitAll] at h1
  obtain ⟨a0, r0, rfl, k0, a1, r1, rfl, k1, a2, r2, rfl, k2, a3, r3, rfl, k3, a4, r4, rfl, k4, rfl⟩ := h1
  obtain ⟨n0, rfl, w0⟩ := fitz_str Tryz.underlying9 k0
  obtain ⟨n1, rfl, w1⟩ := fitz_str Tryz.underlying9 k1
  obtain ⟨n2, rfl, w2⟩ := fitz_str Tryz.underlying9 k2
  obtain ⟨n3, rfl, w3⟩ := fitz_str Tryz.underlying9 k3
  obtain ⟨c, rfl, hc, hall⟩ := fitz_sl Tryz.underlying24 k4
  obtain ⟨l, rfl, hl⟩ := fields_of c hall
  rw [field_bytes, fdV_len, show reachBytes = 140737488351232 from rfl] at hc
  exact ⟨⟨n0, n1, n2, n3, l⟩, rfl, ⟨by show l.length ≤ _; omega, hl⟩, w0, w1, w2, w3⟩
open Go.WideShapes Go.ChangeShapes in
theorem open_req {H : Type} {enc : TypeId × Value → H} {W : World} {base b0 : Nat} {spare : Nat → Bool} {held : Bool} {r : Reach} {v : Value} {d : DataW H} {p : List MemPlace} {fs : Array Field} (ht : Tryz.prog.underlying 39 = some (.struct fs)) (hv : Value.okWide Tryz.prog W r b0 39 v) (h : DataW.Trod enc Tryz.prog W base spare held 39 v d p) (hw : ∀ n ∈ DataW.weights Tryz.prog 39 d, n ≤ reachBytes) :
    ∃ (q : Rq) (us : Array Value), v = .agg us ∧ (RepD (g0 W) W (look []) (.agg q.cs) (.agg us) ∧ InQ q) := by
  obtain ⟨cs, rfl⟩ := okWide_struct ht hv
  obtain ⟨fuel, hf⟩ := h
  obtain ⟨xs, h1, h2, _⟩ := open_anyZ (R := reachBytes) 4 39 fuel _ _ (by kernel_rfl) hf hw
  obtain ⟨q, hc, hq⟩ := fit_req h1
  have h3 := rep_cellsL (us := cs) (by simpa [Value.cells] using h2)
  rw [hc] at h3
  exact ⟨q, _, rfl, h3, hq⟩
end Go.Proofs.YtnjbfiejgiaibaaGreatDoor

/- Chapter 14: a request of an origin that comes in. No condition. -/
namespace Go.Proofs.YtnjbfiejgiaibaaGreatDoor
set_option linter.all false
open Go Go.RowKit
set_option maxRecDepth 10000
set_option maxHeartbeats 4000000
theorem fit_ask {xs : List V} (h : FitZ Tryz.prog reachBytes 4 26 xs) : ∃ a : Ak, xs.map D.v = a.cs ∧ a.fits := by
  have h1 := fitz_struct Tryz.underlying26 h
  simp only [FitAll] at h1
  obtain ⟨a0, r0, rfl, k0, a1, r1, rfl, k1, a2, r2, rfl, k2, a3, r3, rfl, k3, rfl⟩ := h1
  obtain ⟨n0, rfl, w0⟩ := fitz_str Tryz.underlying9 k0
  obtain ⟨n1, rfl, w1⟩ := fitz_str Tryz.underlying9 k1
  obtain ⟨c, rfl, hc, hall⟩ := fitz_sl Tryz.underlying24 k2
  obtain ⟨n3, rfl, w3⟩ := fitz_str Tryz.underlying9 k3
  obtain ⟨l, rfl, hl⟩ := fields_of c hall
  rw [field_bytes, fdV_len, show reachBytes = 140737488351232 from rfl] at hc
  exact ⟨⟨n0, n1, l, n3⟩, rfl, w0, w1, w3, by show l.length ≤ _; omega, hl⟩
open Go.WideShapes Go.ChangeShapes in
theorem open_ask {H : Type} {enc : TypeId × Value → H} {W : World} {base b0 : Nat} {spare : Nat → Bool} {held : Bool} {r : Reach} {v : Value} {d : DataW H} {p : List MemPlace} {fs : Array Field} (ht : Tryz.prog.underlying 26 = some (.struct fs)) (hv : Value.okWide Tryz.prog W r b0 26 v) (h : DataW.Trod enc Tryz.prog W base spare held 26 v d p) (hw : ∀ n ∈ DataW.weights Tryz.prog 26 d, n ≤ reachBytes) :
    ∃ (q : Ak) (us : Array Value), v = .agg us ∧ (RepD (g0 W) W (look []) (.agg q.cs) (.agg us) ∧ q.fits) := by
  obtain ⟨cs, rfl⟩ := okWide_struct ht hv
  obtain ⟨fuel, hf⟩ := h
  obtain ⟨xs, h1, h2, _⟩ := open_anyZ (R := reachBytes) 4 26 fuel _ _ (by kernel_rfl) hf hw
  obtain ⟨q, hc, hq⟩ := fit_ask h1
  have h3 := rep_cellsL (us := cs) (by simpa [Value.cells] using h2)
  rw [hc] at h3
  exact ⟨q, _, rfl, h3, hq⟩
end Go.Proofs.YtnjbfiejgiaibaaGreatDoor

/- Chapter 14: what the library's variables hold when a row's call begins. No condition but the row's own. -/
namespace Go.Proofs.YtnjbfiejgiaibaaGreatDoor
set_option linter.all false
set_option maxRecDepth 100000
open Go Go.RowKit
theorem shp_of {W : World} (hL : laidMetH Tryz.prog [("unicode/utf8.acceptRanges", Rows.laid_unicode_utf8_acceptRanges), ("bytes.ErrTooLarge", Rows.laid_bytes_ErrTooLarge), ("unicode/utf8.first", Rows.laid_unicode_utf8_first)] W) (hS : W.ShapedOpen Tryz.prog) : Shp Tryz.prog (fun g => g < W.heap.size) W := by
  have hL' : laidMet Tryz.prog [("unicode/utf8.acceptRanges", Rows.laid_unicode_utf8_acceptRanges), ("bytes.ErrTooLarge", Rows.laid_bytes_ErrTooLarge), ("unicode/utf8.first", Rows.laid_unicode_utf8_first)] W := hL
  have hU : Lib.Utf8Tabs 2 3 W :=
    utf8Tabs_of_readsT (ρ := Tryz.lays160_ren) { Tryz.lays160 with } ⟨by kernel_rfl, by kernel_rfl, by kernel_rfl, by kernel_rfl, by kernel_rfl, by kernel_rfl, by kernel_rfl⟩
      (Pinned.utf8First_eq ▸ Lib.laidMet.reads hL' (n := "unicode/utf8.first") (d := Rows.laid_unicode_utf8_first) (by simp))
      ((show Rows.laid_unicode_utf8_acceptRanges = Lib.acceptData by kernel_rfl) ▸ Lib.laidMet.reads hL' (n := "unicode/utf8.acceptRanges") (d := Rows.laid_unicode_utf8_acceptRanges) (by simp))
  obtain ⟨m, hm⟩ : ∃ m, W.cell? ⟨0, 0, none⟩ = some (.int .i64 m) :=
    cell_of_shapedOpen_int (t := 3) (zero := #[.int .i64 0]) hS (of_decide_eq_true (by kernel_rfl)) (by kernel_rfl) rfl (by kernel_rfl) (by kernel_rfl) (by kernel_rfl)
  have hlt : ∀ g v, W.cell? ⟨g, 0, none⟩ = some v → g < W.heap.size := fun g v h => by
    rcases Nat.lt_or_ge g W.heap.size with k | k
    · exact k
    · exfalso
      simp [World.cell?, Array.getElem?_eq_none k] at h
  refine ⟨fun g hg => ?_, ⟨m, hm⟩, hU⟩
  rcases hg with rfl | rfl | rfl
  · exact hlt _ _ hm
  · exact hlt _ _ (hU.1 0 (by decide))
  · exact hlt _ _ (hU.2 0 (by decide)).1
end Go.Proofs.YtnjbfiejgiaibaaGreatDoor
