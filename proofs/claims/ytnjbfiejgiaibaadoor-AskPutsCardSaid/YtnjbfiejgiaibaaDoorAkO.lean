/- Chapter 14: a request that comes in. No condition. -/
import Derived.Test.YtnjbfiejgiaibaaDoorLawKit
import Derived.Test.YtnjbfiejgiaibaaDoorLz
import Derived.Test.YtnjbfiejgiaibaaDoorHdM
namespace Go.Proofs.YtnjbfiejgiaibaaDoor
set_option linter.all false
open Go Go.RowKit
set_option maxRecDepth 10000
set_option maxHeartbeats 4000000
abbrev g0 (W : World) : Gh := ⟨fun _ => none, fun _ => 0, fun g => g < W.heap.size⟩
theorem okWide_struct {P : Program} {W : World} {r : Reach} {b0 : Nat} {t : TypeId} {v : Value} {fs : Array Field} (ht : P.underlying t = some (.struct fs)) (h : Value.okWide P W r b0 t v) : ∃ cs, v = .agg cs := by
  simp only [Value.okWide, ht] at h
  obtain ⟨cs, h1, _⟩ := h
  exact ⟨cs, h1⟩
theorem rep_cellsL {W : World} {xs : List V} {us : Array Value} (h : CellsAre W xs us.toList) : RepD (g0 W) W (look []) (.agg (xs.map .v)) (.agg us) := by
  obtain ⟨us⟩ := us
  refine .agg _ us (by rw [List.length_map]; exact h.1.symm) (fun u hu => ?_) fun i d u hd hu => ?_
  · obtain ⟨i, hi⟩ := List.getElem?_of_mem hu
    have hlt := (List.getElem?_eq_some_iff.1 hi).1
    exact (h.2 i _ u (List.getElem?_eq_getElem (by rw [h.1]; exact hlt)) hi).one
  · rw [List.getElem?_map] at hd
    cases hx : xs[i]? with
    | none => rw [hx] at hd; cases hd
    | some x => rw [hx] at hd; injection hd with hd; subst hd; exact .v x u (h.2 i x u hx hu)
theorem fit_field {xs : List V} (h : FitZ Tryd.prog reachBytes 2 47 xs) : ∃ f : Fd, xs = f.vs ∧ f.n.length ≤ 140737488351232 ∧ f.v.length ≤ 140737488351232 := by
  have h1 := fitz_struct Tryd.underlying47 h
  simp only [FitAll] at h1
  obtain ⟨a0, r0, rfl, k0, a1, r1, rfl, k1, a2, r2, rfl, k2, rfl⟩ := h1
  obtain ⟨n0, rfl, w0⟩ := fitz_str Tryd.underlying9 k0
  obtain ⟨n1, rfl, w1⟩ := fitz_str Tryd.underlying9 k1
  obtain ⟨n2, rfl⟩ := fitz_bool Tryd.underlying4 k2
  exact ⟨⟨n0, n1, n2⟩, rfl, w0, w1⟩
theorem fields_of : ∀ c : List (List V), (∀ x ∈ c, FitZ Tryd.prog reachBytes 2 47 x) → ∃ l, c = fdV l ∧ ∀ f ∈ l, f.n.length ≤ 140737488351232 ∧ f.v.length ≤ 140737488351232
  | [], _ => ⟨[], rfl, by simp⟩
  | x :: c, h => by
    obtain ⟨f, rfl, h1, h2⟩ := fit_field (h x List.mem_cons_self)
    obtain ⟨l, rfl, h3⟩ := fields_of c fun y hy => h y (List.mem_cons_of_mem _ hy)
    refine ⟨f :: l, rfl, fun g hg => ?_⟩
    rcases List.mem_cons.1 hg with rfl | hg
    · exact ⟨h1, h2⟩
    · exact h3 g hg
theorem field_bytes : Tryd.prog.bytesOf 47 = 40 := by kernel_rfl
/-- What is known of a list that comes in. -/
def InL (l : List Fd) : Prop := l.length ≤ 4398046511104 ∧ ∀ f ∈ l, f.n.length ≤ 140737488351232 ∧ f.v.length ≤ 140737488351232
/-- What is known of a request that comes in. -/
def InQ (r : Rq) : Prop := InL r.f ∧ r.m.length ≤ 140737488351232 ∧ r.s.length ≤ 140737488351232 ∧ r.a.length ≤ 140737488351232 ∧ r.p.length ≤ 140737488351232
theorem fit_req {xs : List V} (h : FitZ Tryd.prog reachBytes 4 33 xs) : ∃ r : Rq, xs.map D.v = r.cs ∧ InQ r := by
  have h1 := fitz_struct Tryd.underlying33 h
  simp only [FitAll] at h1
  obtain ⟨a0, r0, rfl, k0, a1, r1, rfl, k1, a2, r2, rfl, k2, a3, r3, rfl, k3, a4, r4, rfl, k4, rfl⟩ := h1
  obtain ⟨n0, rfl, w0⟩ := fitz_str Tryd.underlying9 k0
  obtain ⟨n1, rfl, w1⟩ := fitz_str Tryd.underlying9 k1
  obtain ⟨n2, rfl, w2⟩ := fitz_str Tryd.underlying9 k2
  obtain ⟨n3, rfl, w3⟩ := fitz_str Tryd.underlying9 k3
  obtain ⟨c, rfl, hc, hall⟩ := fitz_sl Tryd.underlying22 k4
  obtain ⟨l, rfl, hl⟩ := fields_of c hall
  rw [field_bytes, fdV_len, show reachBytes = 140737488351232 from rfl] at hc
  exact ⟨⟨n0, n1, n2, n3, l⟩, rfl, ⟨by show l.length ≤ _; omega, hl⟩, w0, w1, w2, w3⟩
open Go.WideShapes Go.ChangeShapes in
theorem open_req {H : Type} {enc : TypeId × Value → H} {W : World} {base b0 : Nat} {spare : Nat → Bool} {held : Bool} {r : Reach} {v : Value} {d : DataW H} {p : List MemPlace} {fs : Array Field} (ht : Tryd.prog.underlying 33 = some (.struct fs)) (hv : Value.okWide Tryd.prog W r b0 33 v) (h : DataW.Trod enc Tryd.prog W base spare held 33 v d p) (hw : ∀ n ∈ DataW.weights Tryd.prog 33 d, n ≤ reachBytes) :
    ∃ (q : Rq) (us : Array Value), v = .agg us ∧ (RepD (g0 W) W (look []) (.agg q.cs) (.agg us) ∧ InQ q) := by
  obtain ⟨cs, rfl⟩ := okWide_struct ht hv
  obtain ⟨fuel, hf⟩ := h
  obtain ⟨xs, h1, h2, _⟩ := open_anyZ (R := reachBytes) 4 33 fuel _ _ (by kernel_rfl) hf hw
  obtain ⟨q, hc, hq⟩ := fit_req h1
  have h3 := rep_cellsL (us := cs) (by simpa [Value.cells] using h2)
  rw [hc] at h3
  exact ⟨q, _, rfl, h3, hq⟩
end Go.Proofs.YtnjbfiejgiaibaaDoor
