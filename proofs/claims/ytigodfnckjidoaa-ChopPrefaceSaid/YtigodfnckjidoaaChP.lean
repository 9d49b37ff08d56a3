/- Layer 7: pieces that come in. No condition. -/
import Derived.Test.YtigodfnckjidoaaLawKit
import Derived.Test.YtigodfnckjidoaaLo
import Derived.Test.YtigodfnckjidoaaChQ
namespace Go.Proofs.Ytigodfnckjidoaa
set_option linter.all false
open Go Go.RowKit
abbrev g0 (W : World) : Gh := ⟨fun _ => none, fun _ => 0, fun g => g < W.heap.size⟩
theorem byte_of_fit {y : List V} (h : Fit Try.prog 1 5 y) : ∃ b : UInt8, y = [.int .u8 (b.toNat : Int)] := by
  obtain ⟨n, rfl, hw⟩ := fit_int Try.underlying5 h
  have h1 : (decide ((0 : Int) ≤ n) && decide (n ≤ 255)) = true := hw
  rw [Bool.and_eq_true, decide_eq_true_eq, decide_eq_true_eq] at h1
  have h0 : 0 ≤ n ∧ n ≤ 255 := h1
  refine ⟨UInt8.ofNat n.toNat, ?_⟩
  have : (UInt8.ofNat n.toNat).toNat = n.toNat := by simp; omega
  rw [this, Int.toNat_of_nonneg h0.1]
theorem bytes_of : ∀ c : List (List V), (∀ x ∈ c, Fit Try.prog 1 5 x) → ∃ l, c = bs l
  | [], _ => ⟨[], rfl⟩
  | x :: c, h => by
    obtain ⟨b, rfl⟩ := byte_of_fit (h x List.mem_cons_self)
    obtain ⟨l, rfl⟩ := bytes_of c fun y hy => h y (List.mem_cons_of_mem _ hy)
    exact ⟨b :: l, rfl⟩
theorem pieces_of : ∀ c : List (List V), (∀ x ∈ c, Fit Try.prog 2 24 x) → ∃ l, c = psV l
  | [], _ => ⟨[], rfl⟩
  | x :: c, h => by
    obtain ⟨d, rfl, -, hd⟩ := fit_sl Try.underlying24 (h x List.mem_cons_self)
    obtain ⟨p, rfl⟩ := bytes_of d hd
    obtain ⟨l, rfl⟩ := pieces_of c fun y hy => h y (List.mem_cons_of_mem _ hy)
    exact ⟨p :: l, rfl⟩
open Go.WideShapes Go.ChangeShapes in
theorem open_pieces {H : Type} {enc : TypeId × Value → H} {W : World} {base b0 : Nat} {spare : Nat → Bool} {held : Bool} {r : Reach} {v : Value} {d : DataW H} {p : List MemPlace} {e : TypeId} (ht : Try.prog.underlying 22 = some (.slice e)) (hv : Value.okWide Try.prog W r b0 22 v) (h : DataW.Trod enc Try.prog W base spare held 22 v d p) :
    ∃ (l : List (List UInt8)) (A : Option Addr) (n c : Nat), v = .slice A n c ∧ (RepD (g0 W) W (look []) (.v (.sl (psV l))) (.slice A n c) ∧ l.length ≤ maxLen) := by
  obtain ⟨A, len, cap, rfl⟩ := okWide_slice ht hv
  obtain ⟨fuel, hf⟩ := h
  obtain ⟨xs, h1, h2, _⟩ := open_any 3 22 fuel _ _ (by kernel_rfl) hf
  obtain ⟨c, rfl, hc, hall⟩ := fit_sl Try.underlying22 h1
  obtain ⟨l, rfl⟩ := pieces_of c hall
  have h3 := h2.2 0 _ (.slice A len cap) rfl (by simp [Value.cells])
  exact ⟨l, A, len, cap, rfl, .v _ _ h3, by rwa [psV_len] at hc⟩
end Go.Proofs.Ytigodfnckjidoaa
