/- Chapter 15: pieces that come in. No condition. -/
import Derived.Test.YthflfnehdlpmdaaDoorBaseToGl
import Derived.Test.YthflfnehdlpmdaaDoorLz
import Derived.Test.YthflfnehdlpmdaaDoorRpPw
import Derived.Test.YthflfnehdlpmdaaDoorRows
import Derived.Shelf.Vars
import Derived.Test.YthflfnehdlpmdaaDoorShelf
namespace Go.Proofs.YthflfnehdlpmdaaDoor
set_option linter.all false
set_option maxRecDepth 100000
open Go Go.RowKit
abbrev g0 (W : World) : Gh := ⟨fun _ => none, fun _ => 0, fun g => g < W.heap.size⟩
theorem byte_of_fit {y : List V} (h : FitZ Tryd.prog reachBytes 1 5 y) : ∃ b : UInt8, y = [.int .u8 (b.toNat : Int)] := by
  obtain ⟨n, rfl, hw⟩ := fitz_int Tryd.underlying5 h
  have h1 : (decide ((0 : Int) ≤ n) && decide (n ≤ 255)) = true := hw
  rw [Bool.and_eq_true, decide_eq_true_eq, decide_eq_true_eq] at h1
  have h0 : 0 ≤ n ∧ n ≤ 255 := h1
  refine ⟨UInt8.ofNat n.toNat, ?_⟩
  have : (UInt8.ofNat n.toNat).toNat = n.toNat := by simp; omega
  rw [this, Int.toNat_of_nonneg h0.1]
theorem bytes_of : ∀ c : List (List V), (∀ x ∈ c, FitZ Tryd.prog reachBytes 1 5 x) → ∃ l, c = bs l
  | [], _ => ⟨[], rfl⟩
  | x :: c, h => by
    obtain ⟨b, rfl⟩ := byte_of_fit (h x List.mem_cons_self)
    obtain ⟨l, rfl⟩ := bytes_of c fun y hy => h y (List.mem_cons_of_mem _ hy)
    exact ⟨b :: l, rfl⟩
theorem u8_bytes : Tryd.prog.bytesOf 5 = 1 := by kernel_rfl
theorem sl_bytes : Tryd.prog.bytesOf 32 = 24 := by kernel_rfl
theorem pieces_of : ∀ c : List (List V), (∀ x ∈ c, FitZ Tryd.prog reachBytes 2 32 x) → ∃ l, c = psV l ∧ ∀ p ∈ l, p.length ≤ 140737488351232
  | [], _ => ⟨[], rfl, by simp⟩
  | x :: c, h => by
    obtain ⟨d, rfl, hb, hd⟩ := fitz_sl Tryd.underlying32 (h x List.mem_cons_self)
    obtain ⟨p, rfl⟩ := bytes_of d hd
    obtain ⟨l, rfl, h3⟩ := pieces_of c fun y hy => h y (List.mem_cons_of_mem _ hy)
    rw [u8_bytes, bs_length, show reachBytes = 140737488351232 from rfl] at hb
    refine ⟨p :: l, rfl, fun g hg => ?_⟩
    rcases List.mem_cons.1 hg with rfl | hg
    · omega
    · exact h3 g hg
/-- What is known of pieces that come in. -/
def InP (l : List (List UInt8)) : Prop := l.length ≤ 140737488351232 ∧ ∀ p ∈ l, p.length ≤ 140737488351232
open Go.WideShapes Go.ChangeShapes in
theorem open_pcs {H : Type} {enc : TypeId × Value → H} {W : World} {base b0 : Nat} {spare : Nat → Bool} {held : Bool} {r : Reach} {v : Value} {d : DataW H} {p : List MemPlace} {e : TypeId} (ht : Tryd.prog.underlying 39 = some (.slice e)) (hv : Value.okWide Tryd.prog W r b0 39 v) (h : DataW.Trod enc Tryd.prog W base spare held 39 v d p) (hw : ∀ n ∈ DataW.weights Tryd.prog 39 d, n ≤ reachBytes) :
    ∃ (l : List (List UInt8)) (A : Option Addr) (n c : Nat), v = .slice A n c ∧ (RepD (g0 W) W (look []) (.v (.sl (psV l))) (.slice A n c) ∧ InP l) := by
  obtain ⟨A, len, cap, rfl⟩ := okWide_slice ht hv
  obtain ⟨fuel, hf⟩ := h
  obtain ⟨xs, h1, h2, _⟩ := open_anyZ (R := reachBytes) 3 39 fuel _ _ (by kernel_rfl) hf hw
  obtain ⟨c, rfl, hc, hall⟩ := fitz_sl Tryd.underlying39 h1
  obtain ⟨l, rfl, hl⟩ := pieces_of c hall
  have h3 := h2.2 0 _ (.slice A len cap) rfl (by simp [Value.cells])
  rw [sl_bytes, psV_len, show reachBytes = 140737488351232 from rfl] at hc
  exact ⟨l, A, len, cap, rfl, .v _ _ h3, by omega, hl⟩
end Go.Proofs.YthflfnehdlpmdaaDoor

/- Chapter 15: what the library's variables hold when a row's call begins. No condition but the row's own. -/
namespace Go.Proofs.YthflfnehdlpmdaaDoor
set_option linter.all false
set_option maxRecDepth 100000
open Go Go.RowKit
theorem shp_of {L : Prop} {W : World} (_ : L) (hS : W.ShapedOpen Tryd.prog) : Shp Tryd.prog (fun g => g < W.heap.size) W := by
  obtain ⟨m, hm⟩ : ∃ m, W.cell? ⟨0, 0, none⟩ = some (.int .i64 m) :=
    cell_of_shapedOpen_int (t := 3) (zero := #[.int .i64 0]) hS (of_decide_eq_true (by kernel_rfl)) (by kernel_rfl) rfl (by kernel_rfl) (by kernel_rfl) (by kernel_rfl)
  have hlt : ∀ g v, W.cell? ⟨g, 0, none⟩ = some v → g < W.heap.size := fun g v h => by
    rcases Nat.lt_or_ge g W.heap.size with k | k
    · exact k
    · exfalso
      simp [World.cell?, Array.getElem?_eq_none k] at h
  refine ⟨fun g hg => ?_, ⟨m, hm⟩, trivial⟩
  subst hg
  exact hlt _ _ hm
end Go.Proofs.YthflfnehdlpmdaaDoor
