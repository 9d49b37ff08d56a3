/- Chapter 15: an answer to be written that comes in. No condition. -/
import Derived.Test.YthflfnehdlpmdaaDoorMemToGl
import Derived.Test.YthflfnehdlpmdaaDoorLz
import Derived.Test.YthflfnehdlpmdaaDoorRpBk
import Derived.Test.YthflfnehdlpmdaaDoorRows
import Derived.Shelf.Vars
import Derived.Test.YthflfnehdlpmdaaDoorShelf
namespace Go.Proofs.YthflfnehdlpmdaaDoor
set_option linter.all false
set_option maxRecDepth 100000
open Go Go.RowKit
abbrev g0 (W : World) : Gh := ⟨fun _ => none, fun _ => 0, fun g => g < W.heap.size⟩
theorem byte_of_fit {y : List V} (h : FitZ Tryd.prog reachBytes 1 5 y) : ∃ b : UInt8, y = [.int .u8 (b.toNat : Int)] := by
  obtain ⟨n, rfl, hw⟩ := fitz_int Tryd.underlying5 h
  have h1 : (decide ((0 : Int) ≤ n) && decide (n ≤ 255)) = true := hw
  rw [Bool.and_eq_true, decide_eq_true_eq, decide_eq_true_eq] at h1
  have h0 : 0 ≤ n ∧ n ≤ 255 := h1
  refine ⟨UInt8.ofNat n.toNat, ?_⟩
  have : (UInt8.ofNat n.toNat).toNat = n.toNat := by simp; omega
  rw [this, Int.toNat_of_nonneg h0.1]
theorem bytes_of : ∀ c : List (List V), (∀ x ∈ c, FitZ Tryd.prog reachBytes 1 5 x) → ∃ l, c = bs l
  | [], _ => ⟨[], rfl⟩
  | x :: c, h => by
    obtain ⟨b, rfl⟩ := byte_of_fit (h x List.mem_cons_self)
    obtain ⟨l, rfl⟩ := bytes_of c fun y hy => h y (List.mem_cons_of_mem _ hy)
    exact ⟨b :: l, rfl⟩
theorem u8_bytes : Tryd.prog.bytesOf 5 = 1 := by kernel_rfl
theorem rep_cellsL {W : World} {xs : List V} {us : Array Value} (h : CellsAre W xs us.toList) : RepD (g0 W) W (look []) (.agg (xs.map .v)) (.agg us) := by
  obtain ⟨us⟩ := us
  refine .agg _ us (by rw [List.length_map]; exact h.1.symm) (fun u hu => ?_) fun i d u hd hu => ?_
  · obtain ⟨i, hi⟩ := List.getElem?_of_mem hu
    have hlt := (List.getElem?_eq_some_iff.1 hi).1
    exact (h.2 i _ u (List.getElem?_eq_getElem (by rw [h.1]; exact hlt)) hi).one
  · rw [List.getElem?_map] at hd
    cases hx : xs[i]? with
    | none => rw [hx] at hd; cases hd
    | some x => rw [hx] at hd; injection hd with hd; subst hd; exact .v x u (h.2 i x u hx hu)
/-- An answer to be written. -/
structure Md where
  st : Int
  body : List UInt8
  cuts : List UInt8
abbrev Md.cs (m : Md) : List D := [.v (.int .i64 m.st), .v (.str m.body), .v (.sl (bs m.cuts))]
def Md.fits (m : Md) : Prop := m.body.length ≤ 140737488351232 ∧ m.cuts.length ≤ 140737488351232
theorem fit_made {xs : List V} (h : FitZ Tryd.prog reachBytes 3 45 xs) : ∃ a : Md, xs.map D.v = a.cs ∧ a.fits := by
  have h1 := fitz_struct Tryd.underlying45 h
  simp only [FitAll] at h1
  obtain ⟨a0, r0, rfl, k0, a1, r1, rfl, k1, a2, r2, rfl, k2, rfl⟩ := h1
  obtain ⟨n0, rfl, w0⟩ := fitz_int Tryd.underlying3 k0
  obtain ⟨n1, rfl, w1⟩ := fitz_str Tryd.underlying9 k1
  obtain ⟨c, rfl, hc, hall⟩ := fitz_sl Tryd.underlying32 k2
  obtain ⟨l, rfl⟩ := bytes_of c hall
  rw [u8_bytes, bs_length, show reachBytes = 140737488351232 from rfl] at hc
  exact ⟨⟨n0, n1, l⟩, rfl, w1, by show l.length ≤ _; omega⟩
open Go.WideShapes Go.ChangeShapes in
theorem open_made {H : Type} {enc : TypeId × Value → H} {W : World} {base b0 : Nat} {spare : Nat → Bool} {held : Bool} {r : Reach} {v : Value} {d : DataW H} {p : List MemPlace} {fs : Array Field} (ht : Tryd.prog.underlying 45 = some (.struct fs)) (hv : Value.okWide Tryd.prog W r b0 45 v) (h : DataW.Trod enc Tryd.prog W base spare held 45 v d p) (hw : ∀ n ∈ DataW.weights Tryd.prog 45 d, n ≤ reachBytes) :
    ∃ (q : Md) (us : Array Value), v = .agg us ∧ (RepD (g0 W) W (look []) (.agg q.cs) (.agg us) ∧ q.fits) := by
  obtain ⟨cs, rfl, -⟩ := okWide_struct ht hv
  obtain ⟨fuel, hf⟩ := h
  obtain ⟨xs, h1, h2, _⟩ := open_anyZ (R := reachBytes) 3 45 fuel _ _ (by kernel_rfl) hf hw
  obtain ⟨q, hc, hq⟩ := fit_made h1
  have h3 := rep_cellsL (us := cs) (by simpa [Value.cells] using h2)
  rw [hc] at h3
  exact ⟨q, _, rfl, h3, hq⟩
end Go.Proofs.YthflfnehdlpmdaaDoor

/- Chapter 15: what the library's variables hold when a row's call begins. No condition but the row's own. -/
namespace Go.Proofs.YthflfnehdlpmdaaDoor
set_option linter.all false
set_option maxRecDepth 100000
open Go Go.RowKit
theorem shp_of {L : Prop} {W : World} (_ : L) (hS : W.ShapedOpen Tryd.prog) : Shp Tryd.prog (fun g => g < W.heap.size) W := by
  obtain ⟨m, hm⟩ : ∃ m, W.cell? ⟨0, 0, none⟩ = some (.int .i64 m) :=
    cell_of_shapedOpen_int (t := 3) (zero := #[.int .i64 0]) hS (of_decide_eq_true (by kernel_rfl)) (by kernel_rfl) rfl (by kernel_rfl) (by kernel_rfl) (by kernel_rfl)
  have hlt : ∀ g v, W.cell? ⟨g, 0, none⟩ = some v → g < W.heap.size := fun g v h => by
    rcases Nat.lt_or_ge g W.heap.size with k | k
    · exact k
    · exfalso
      simp [World.cell?, Array.getElem?_eq_none k] at h
  refine ⟨fun g hg => ?_, ⟨m, hm⟩, trivial⟩
  subst hg
  exact hlt _ _ hm
end Go.Proofs.YthflfnehdlpmdaaDoor
