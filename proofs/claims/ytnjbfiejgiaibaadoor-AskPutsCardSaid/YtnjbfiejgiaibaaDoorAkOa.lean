/- Chapter 14: a request of an origin that comes in. No condition. -/
import Derived.Test.YtnjbfiejgiaibaaDoorAkO
import Derived.Test.YtnjbfiejgiaibaaDoorAkA
namespace Go.Proofs.YtnjbfiejgiaibaaDoor
set_option linter.all false
open Go Go.RowKit
set_option maxRecDepth 10000
set_option maxHeartbeats 4000000
theorem fit_ask {xs : List V} (h : FitZ Tryd.prog reachBytes 4 24 xs) : ∃ a : Ak, xs.map D.v = a.cs ∧ a.fits := by
  have h1 := fitz_struct Tryd.underlying24 h
  simp only [FitAll] at h1
  obtain ⟨a0, r0, rfl, k0, a1, r1, rfl, k1, a2, r2, rfl, k2, a3, r3, rfl, k3, rfl⟩ := h1
  obtain ⟨n0, rfl, w0⟩ := fitz_str Tryd.underlying9 k0
  obtain ⟨n1, rfl, w1⟩ := fitz_str Tryd.underlying9 k1
  obtain ⟨c, rfl, hc, hall⟩ := fitz_sl Tryd.underlying22 k2
  obtain ⟨n3, rfl, w3⟩ := fitz_str Tryd.underlying9 k3
  obtain ⟨l, rfl, hl⟩ := fields_of c hall
  rw [field_bytes, fdV_len, show reachBytes = 140737488351232 from rfl] at hc
  exact ⟨⟨n0, n1, l, n3⟩, rfl, w0, w1, w3, by show l.length ≤ _; omega, hl⟩
open Go.WideShapes Go.ChangeShapes in
theorem open_ask {H : Type} {enc : TypeId × Value → H} {W : World} {base b0 : Nat} {spare : Nat → Bool} {held : Bool} {r : Reach} {v : Value} {d : DataW H} {p : List MemPlace} {fs : Array Field} (ht : Tryd.prog.underlying 24 = some (.struct fs)) (hv : Value.okWide Tryd.prog W r b0 24 v) (h : DataW.Trod enc Tryd.prog W base spare held 24 v d p) (hw : ∀ n ∈ DataW.weights Tryd.prog 24 d, n ≤ reachBytes) :
    ∃ (q : Ak) (us : Array Value), v = .agg us ∧ (RepD (g0 W) W (look []) (.agg q.cs) (.agg us) ∧ q.fits) := by
  obtain ⟨cs, rfl⟩ := okWide_struct ht hv
  obtain ⟨fuel, hf⟩ := h
  obtain ⟨xs, h1, h2, _⟩ := open_anyZ (R := reachBytes) 4 24 fuel _ _ (by kernel_rfl) hf hw
  obtain ⟨q, hc, hq⟩ := fit_ask h1
  have h3 := rep_cellsL (us := cs) (by simpa [Value.cells] using h2)
  rw [hc] at h3
  exact ⟨q, _, rfl, h3, hq⟩
end Go.Proofs.YtnjbfiejgiaibaaDoor
