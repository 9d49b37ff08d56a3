/- Layer 6: a frame that comes in. No condition. -/
import Derived.Test.YtlfkgbcclinnbaaLawKit
import Derived.Test.YtlfkgbcclinnbaaLo
import Derived.Test.YtlfkgbcclinnbaaFrB
namespace Go.Proofs.Ytlfkgbcclinnbaa
set_option linter.all false
open Go Go.RowKit
abbrev g0 (W : World) : Gh := ⟨fun _ => none, fun _ => 0, fun g => g < W.heap.size⟩
theorem okWide_struct {P : Program} {W : World} {r : Reach} {b0 : Nat} {t : TypeId} {v : Value} {fs : Array Field} (ht : P.underlying t = some (.struct fs)) (h : Value.okWide P W r b0 t v) : ∃ cs, v = .agg cs := by
  simp only [Value.okWide, ht] at h
  obtain ⟨cs, h1, _⟩ := h
  exact ⟨cs, h1⟩
theorem rep_cellsL {W : World} {xs : List V} {us : Array Value} (h : CellsAre W xs us.toList) : RepD (g0 W) W (look []) (.agg (xs.map .v)) (.agg us) := by
  obtain ⟨us⟩ := us
  refine .agg _ us (by rw [List.length_map]; exact h.1.symm) (fun u hu => ?_) fun i d u hd hu => ?_
  · obtain ⟨i, hi⟩ := List.getElem?_of_mem hu
    have hlt := (List.getElem?_eq_some_iff.1 hi).1
    exact (h.2 i _ u (List.getElem?_eq_getElem (by rw [h.1]; exact hlt)) hi).one
  · rw [List.getElem?_map] at hd
    cases hx : xs[i]? with
    | none => rw [hx] at hd; cases hd
    | some x => rw [hx] at hd; injection hd with hd; subst hd; exact .v x u (h.2 i x u hx hu)
section
variable {H : Type} {enc : TypeId × Value → H} {W : World} {base b0 : Nat} {spare : Nat → Bool} {held : Bool} {r : Reach} {v : Value} {d : DataW H} {p : List MemPlace}
theorem fit_setting {xs : List V} {d : Nat} (h : Fit Try.prog (d + 2) 59 xs) : ∃ a b, xs = [.int .i64 a, .int .i64 b] := by
  have h := fit_struct Try.underlying59 h
  simp only [FitAll] at h
  obtain ⟨a0, r0, rfl, k0, a1, r1, rfl, k1, rfl⟩ := h
  obtain ⟨n0, rfl, w0⟩ := fit_int (by first | exact Try.underlying3 | exact Try.underlying2) k0
  obtain ⟨n1, rfl, w1⟩ := fit_int (by first | exact Try.underlying3 | exact Try.underlying2) k1
  exact ⟨n0, n1, rfl⟩
theorem sets_of : ∀ c : List (List V), (∀ x ∈ c, ∃ a b, x = [.int .i64 a, .int .i64 b]) → ∃ l, c = setV l
  | [], _ => ⟨[], rfl⟩
  | x :: c, h => by
    obtain ⟨a, b, rfl⟩ := h x List.mem_cons_self
    obtain ⟨l, rfl⟩ := sets_of c fun y hy => h y (List.mem_cons_of_mem _ hy)
    exact ⟨(a, b) :: l, rfl⟩
theorem fit_frame {xs : List V} (h : Fit Try.prog 4 24 xs) : ∃ f : Fr, xs.map D.v = f.cs := by
  have h1 := fit_struct Try.underlying24 h
  simp only [FitAll] at h1
  obtain ⟨a0, r0, rfl, k0, a1, r1, rfl, k1, a2, r2, rfl, k2, a3, r3, rfl, k3, a4, r4, rfl, k4, a5, r5, rfl, k5, a6, r6, rfl, k6, a7, r7, rfl, k7, a8, r8, rfl, k8, a9, r9, rfl, k9, a10, r10, rfl, k10, a11, r11, rfl, k11, rfl⟩ := h1
  obtain ⟨n0, rfl, w0⟩ := fit_int (by first | exact Try.underlying3 | exact Try.underlying2) k0
  obtain ⟨n1, rfl, w1⟩ := fit_int (by first | exact Try.underlying3 | exact Try.underlying2) k1
  obtain ⟨n2, rfl, w2⟩ := fit_int (by first | exact Try.underlying3 | exact Try.underlying2) k2
  obtain ⟨n3, rfl, w3⟩ := fit_str Try.underlying9 k3
  obtain ⟨n4, rfl, w4⟩ := fit_int (by first | exact Try.underlying3 | exact Try.underlying2) k4
  obtain ⟨n5, rfl, w5, q5⟩ := fit_sl Try.underlying22 k5
  obtain ⟨l, rfl⟩ := sets_of n5 (fun x hx => fit_setting (q5 x hx))
  obtain ⟨n6, rfl, w6⟩ := fit_int (by first | exact Try.underlying3 | exact Try.underlying2) k6
  obtain ⟨n7, rfl, w7⟩ := fit_int (by first | exact Try.underlying3 | exact Try.underlying2) k7
  obtain ⟨n8, rfl, w8⟩ := fit_int (by first | exact Try.underlying3 | exact Try.underlying2) k8
  obtain ⟨n9, rfl, w9⟩ := fit_int (by first | exact Try.underlying3 | exact Try.underlying2) k9
  obtain ⟨n10, rfl, w10⟩ := fit_int (by first | exact Try.underlying3 | exact Try.underlying2) k10
  obtain ⟨n11, rfl⟩ := fit_bool Try.underlying4 k11
  exact ⟨⟨n0, n1, n2, n3, n4, l, n6, n7, n8, n9, n10, n11⟩, rfl⟩
theorem open_frame {fs : Array Field} (ht : Try.prog.underlying 24 = some (.struct fs)) (hv : Value.okWide Try.prog W r b0 24 v) (h : DataW.Trod enc Try.prog W base spare held 24 v d p) : ∃ (f : Fr) (us : Array Value), v = .agg us ∧ RepD (g0 W) W (look []) (.agg f.cs) (.agg us) := by
  obtain ⟨cs, rfl⟩ := okWide_struct ht hv
  obtain ⟨fuel, hf⟩ := h
  obtain ⟨xs, h1, h2, _⟩ := open_any 4 24 fuel _ _ (by kernel_rfl) hf
  obtain ⟨f, hc⟩ := fit_frame h1
  have h3 := rep_cellsL (us := cs) (by simpa [Value.cells] using h2)
  rw [hc] at h3
  exact ⟨f, _, rfl, h3⟩
end
end Go.Proofs.Ytlfkgbcclinnbaa
