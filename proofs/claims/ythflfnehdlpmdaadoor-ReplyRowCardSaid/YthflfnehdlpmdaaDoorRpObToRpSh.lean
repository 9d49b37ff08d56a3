/- Chapter 15: lists of texts, of booleans, of pieces that come in. No condition. -/
import Derived.Test.YthflfnehdlpmdaaDoorMemToGl
import Derived.Test.YthflfnehdlpmdaaDoorLo
import Derived.Test.YthflfnehdlpmdaaDoorRpRw
import Derived.Test.YthflfnehdlpmdaaDoorRows
import Derived.Shelf.Vars
import Derived.Test.YthflfnehdlpmdaaDoorShelf
namespace Go.Proofs.YthflfnehdlpmdaaDoor
set_option linter.all false
set_option maxRecDepth 100000
open Go Go.RowKit
abbrev g0 (W : World) : Gh := ⟨fun _ => none, fun _ => 0, fun g => g < W.heap.size⟩
theorem strs_of : ∀ c : List (List V), (∀ x ∈ c, Fit Tryd.prog 1 9 x) → ∃ l, c = stV l
  | [], _ => ⟨[], rfl⟩
  | x :: c, h => by
    obtain ⟨s, rfl, -⟩ := fit_str Tryd.underlying9 (h x List.mem_cons_self)
    obtain ⟨l, rfl⟩ := strs_of c fun y hy => h y (List.mem_cons_of_mem _ hy)
    exact ⟨s :: l, rfl⟩
theorem bools_of : ∀ c : List (List V), (∀ x ∈ c, Fit Tryd.prog 1 4 x) → ∃ l, c = blV l
  | [], _ => ⟨[], rfl⟩
  | x :: c, h => by
    obtain ⟨s, rfl⟩ := fit_bool Tryd.underlying4 (h x List.mem_cons_self)
    obtain ⟨l, rfl⟩ := bools_of c fun y hy => h y (List.mem_cons_of_mem _ hy)
    exact ⟨s :: l, rfl⟩
open Go.WideShapes Go.ChangeShapes in
theorem open_strs {H : Type} {enc : TypeId × Value → H} {W : World} {base b0 : Nat} {spare : Nat → Bool} {held : Bool} {r : Reach} {v : Value} {d : DataW H} {p : List MemPlace} {e : TypeId} (ht : Tryd.prog.underlying 35 = some (.slice e)) (hv : Value.okWide Tryd.prog W r b0 35 v) (h : DataW.Trod enc Tryd.prog W base spare held 35 v d p) :
    ∃ (l : List (List UInt8)) (A : Option Addr) (n c : Nat), v = .slice A n c ∧ (RepD (g0 W) W (look []) (.v (.sl (stV l))) (.slice A n c) ∧ l.length ≤ maxLen) := by
  obtain ⟨A, len, cap, rfl⟩ := okWide_slice ht hv
  obtain ⟨fuel, hf⟩ := h
  obtain ⟨xs, h1, h2, _⟩ := open_any 2 35 fuel _ _ (by kernel_rfl) hf
  obtain ⟨c, rfl, hc, hall⟩ := fit_sl Tryd.underlying35 h1
  obtain ⟨l, rfl⟩ := strs_of c hall
  have h3 := h2.2 0 _ (.slice A len cap) rfl (by simp [Value.cells])
  exact ⟨l, A, len, cap, rfl, .v _ _ h3, by rwa [stV_len] at hc⟩
open Go.WideShapes Go.ChangeShapes in
theorem open_bools {H : Type} {enc : TypeId × Value → H} {W : World} {base b0 : Nat} {spare : Nat → Bool} {held : Bool} {r : Reach} {v : Value} {d : DataW H} {p : List MemPlace} {e : TypeId} (ht : Tryd.prog.underlying 36 = some (.slice e)) (hv : Value.okWide Tryd.prog W r b0 36 v) (h : DataW.Trod enc Tryd.prog W base spare held 36 v d p) :
    ∃ (l : List Bool) (A : Option Addr) (n c : Nat), v = .slice A n c ∧ (RepD (g0 W) W (look []) (.v (.sl (blV l))) (.slice A n c) ∧ l.length ≤ maxLen) := by
  obtain ⟨A, len, cap, rfl⟩ := okWide_slice ht hv
  obtain ⟨fuel, hf⟩ := h
  obtain ⟨xs, h1, h2, _⟩ := open_any 2 36 fuel _ _ (by kernel_rfl) hf
  obtain ⟨c, rfl, hc, hall⟩ := fit_sl Tryd.underlying36 h1
  obtain ⟨l, rfl⟩ := bools_of c hall
  have h3 := h2.2 0 _ (.slice A len cap) rfl (by simp [Value.cells])
  exact ⟨l, A, len, cap, rfl, .v _ _ h3, by rwa [blV_len] at hc⟩
end Go.Proofs.YthflfnehdlpmdaaDoor

/- Chapter 15: what the library's variables hold when a row's call begins. No condition but the row's own. -/
namespace Go.Proofs.YthflfnehdlpmdaaDoor
set_option linter.all false
set_option maxRecDepth 100000
open Go Go.RowKit
theorem shp_of {L : Prop} {W : World} (_ : L) (hS : W.ShapedOpen Tryd.prog) : Shp Tryd.prog (fun g => g < W.heap.size) W := by
  obtain ⟨m, hm⟩ : ∃ m, W.cell? ⟨0, 0, none⟩ = some (.int .i64 m) :=
    cell_of_shapedOpen_int (t := 3) (zero := #[.int .i64 0]) hS (of_decide_eq_true (by kernel_rfl)) (by kernel_rfl) rfl (by kernel_rfl) (by kernel_rfl) (by kernel_rfl)
  have hlt : ∀ g v, W.cell? ⟨g, 0, none⟩ = some v → g < W.heap.size := fun g v h => by
    rcases Nat.lt_or_ge g W.heap.size with k | k
    · exact k
    · exfalso
      simp [World.cell?, Array.getElem?_eq_none k] at h
  refine ⟨fun g hg => ?_, ⟨m, hm⟩, trivial⟩
  subst hg
  exact hlt _ _ hm
end Go.Proofs.YthflfnehdlpmdaaDoor
