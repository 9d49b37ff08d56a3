/- What every law's last step wants: how an argument is opened. No condition. -/
import Derived.Test.YtigodfnckjidoaaRows
import Derived.Test.YtigodfnckjidoaaMem
import Derived.WalkKit
import Derived.ProofKit
import Derived.OpenShut
import Derived.ShutString
import Derived.ChangeOld
import Derived.SizedLaws
import Derived.Below
namespace Go.Proofs.Ytigodfnckjidoaa
set_option linter.all false
open Go.ChangeShapes Go.WideShapes Go.ChangeAt Go.RowKit
open Go.ChangeMaps (open_string shut_string)
theorem own : ownKnob Try.prog.godebug = none := by kernel_rfl
theorem laidOut : laidOutB Try.prog = true := by kernel_rfl
section
variable {H : Type} {enc : TypeId × Value → H} {P : Program} {W : World} {base b0 : Nat} {held : Bool} {r : Reach} {t e : TypeId} {v : Value} {d : DataW H} {p : List MemPlace}
theorem okWide_array {n : Nat} (ht : P.underlying t = some (.array n e)) (h : Value.okWide P W r b0 t v) : ∃ cs, v = .agg cs ∧ cs.size = P.cellsOf t := by
  simp only [Value.okWide, ht] at h
  obtain ⟨cs, h1, h2, _⟩ := h
  exact ⟨cs, h1, h2⟩
/-- A []byte that came in. -/
theorem open_bytes (ht : P.underlying t = some (.slice e)) (he : P.underlying e = some (.int .u8)) (hc : P.cellsOf e = 1) (hb : P.bytesOf e = 1)
    (hv : Value.okWide P W r b0 t v) (h : DataW.Trod enc P W base (fun _ => true) held t v d p) (hz : ∀ el sp, d = .slice el sp → (el.length + sp.length) * P.bytesOf e ≤ reachBytes) :
    ∃ A c l, v = .slice A l.length c ∧ (l.length ≤ c ∧ c ≤ 140737488351232 ∧ Rd W W.heap.size A l) := by
  obtain ⟨A, len, cap, rfl⟩ := okWide_slice ht hv
  obtain ⟨fuel, hf⟩ := h
  rcases open_ints ht he hc hf with ⟨hcs, _⟩ | ⟨x, len', cap', zs, hcs, _, hl, hm, hlen, hx, hcell, hwz⟩
  · simp [Value.cells] at hcs
    obtain ⟨rfl, rfl, rfl⟩ := hcs
    exact ⟨none, 0, [], rfl, Nat.le_refl _, by omega, .inl rfl⟩
  · simp [Value.cells] at hcs
    obtain ⟨rfl, rfl, rfl⟩ := hcs
    simp only [Prod.mk.injEq] at hx
    have hz' := hz _ _ hx.1
    rw [hb] at hz'
    simp only [lits, List.length_map, List.length_take, List.length_drop, reachBytes] at hz'
    simp only [if_true] at hlen
    have hl2 : ((zs.take len).map fun n => UInt8.ofNat n.toNat).length = len := by simp; omega
    refine ⟨some x, cap, (zs.take len).map fun n => UInt8.ofNat n.toNat, by rw [hl2], by omega, by omega, ?_⟩
    rcases Nat.eq_zero_or_pos len with h0 | h0
    · subst h0; exact .inl (by simp)
    · obtain ⟨g, o, spot⟩ := x
      have hc0 := hcell 0 (by omega)
      have hspot : spot = none := by simpa [Addr.add] using World.cell?_spot hc0
      subst hspot
      refine .inr ⟨g, o, rfl, ?_, fun i hi => ?_⟩
      · rcases Nat.lt_or_ge g W.heap.size with h1 | h1
        · exact h1
        · simp [Addr.add, World.cell?, Array.getElem?_eq_none h1] at hc0
      · rw [hl2] at hi
        have h2 := hcell i (by omega)
        have e2 : (⟨g, o, none⟩ : Addr).add i = ⟨g, o + i, none⟩ := by unfold Addr.add; split <;> simp_all
        rw [e2] at h2
        rw [h2]
        have h3 : i < zs.length := by omega
        have h4 := bounds_u8 (hwz zs[i] (List.getElem_mem h3))
        simp [U, h3]
        omega
/-- A [2]int that came in. -/
theorem open_two (ht : P.underlying t = some (.array 2 e)) (he : P.underlying e = some (.int .i64)) (hct : P.cellsOf t = 2) (hc : P.cellsOf e = 1)
    (hv : Value.okWide P W r b0 t v) (h : DataW.Trod enc P W base (fun _ => true) held t v d p) :
    ∃ a b, v = .agg #[.int .i64 a, .int .i64 b] ∧ (a ≤ 9223372036854775807 ∧ b ≤ 9223372036854775807) := by
  obtain ⟨cs, rfl, hs⟩ := okWide_array ht hv
  rw [hct] at hs
  obtain ⟨fuel, hf⟩ := h
  obtain ⟨xs, m, rfl, _, _, hl, hi⟩ := DataW.trod_array ht hf
  rw [hc] at hi
  have h0 := hi 0 (by omega)
  have h1 := hi 1 (by omega)
  obtain ⟨c0, c1, rfl⟩ : ∃ c0 c1, cs = #[c0, c1] := by
    match cs, hs with
    | ⟨[c0, c1]⟩, _ => exact ⟨c0, c1, rfl⟩
  rw [List.getElem?_eq_getElem (by omega)] at h0 h1
  obtain ⟨a, e0, _, wa⟩ := DataW.trod_int he h0
  obtain ⟨b, e1, _, wb⟩ := DataW.trod_int he h1
  simp [Value.cells] at e0 e1
  subst e0 e1
  exact ⟨a, b, rfl, (bounds_i64 wa).2, (bounds_i64 wb).2⟩
end
end Go.Proofs.Ytigodfnckjidoaa
