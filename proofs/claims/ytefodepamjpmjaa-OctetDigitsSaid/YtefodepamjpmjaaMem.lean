/- How memory is spoken of: a block known whole, a slice of bytes that reads as a list, a row of the call's own. No program, no condition. -/
import Derived.Test.YtefodepamjpmjaaBase
import Derived.Below
import Derived.Laws.OwnMore
import Derived.Laws.BytesString
import Derived.Laws.BytesArg
import Derived.Deep.AppendLies
import Derived.Deep.Draws
import Derived.Maps.AppendAt
import Derived.Laws.Rows
namespace Go.Proofs.Ytefodepamjpmjaa
open Go Go.RowKit

/-- A byte as a cell. -/
abbrev U (b : UInt8) : Value := .int .u8 (b.toNat : Int)
/-- Block g is just these cells. -/
def Whole (w : World) (g : Nat) (t : TypeId) (cs : List Value) : Prop := w.heap[g]? = some (.cells cs.toArray t (0, 0))
section
variable {w w' : World} {g : Nat} {t : TypeId} {cs : List Value}
theorem Whole.lt (h : Whole w g t cs) : g < w.heap.size := by
  rcases Nat.lt_or_ge g w.heap.size with h1 | h1
  · exact h1
  · unfold Whole at h; rw [Array.getElem?_eq_none h1] at h; cases h
theorem Whole.at_ (h : Whole w g t cs) (i : Nat) : w.cell? ⟨g, i, none⟩ = cs[i]? := by
  unfold Whole at h; simp [World.cell?, h]
theorem Whole.free (h : Whole w g t cs) (i : Nat) : w.frozen? ⟨g, i, none⟩ = false := by
  unfold Whole at h; simp [World.frozen?, h]
theorem Whole.new (w : World) (t : TypeId) (cs : List Value) : Whole (w.alloc (.cells cs.toArray t)) w.heap.size t cs := heap_alloc_new w _
theorem Whole.put (h : Whole w g t cs) (i : Nat) (u : Value) : Whole (w.setCell ⟨g, i, none⟩ u) g t (cs.set i u) := by
  unfold Whole at h ⊢; simp [World.setCell, Array.getElem?_modify, h]
theorem Whole.keep {B : Nat} (h : Whole w g t cs) (hb : Below B w w') (hg : g < B) : Whole w' g t cs := (hb.block g hg).trans h
theorem Whole.past (h : Whole w g t cs) (o : Obj) : Whole (w.alloc o) g t cs := (Below.heap_alloc w o g h.lt).trans h
theorem Whole.far (h : Whole w g t cs) {p : Addr} (hp : g ≠ p.block) (u : Value) : Whole (w.setCell p u) g t cs := (Below.heap_setCell w p u g hp).trans h
theorem Whole.grown (h : Whole w g t cs) {row : Option Nat} (hb : w.grownBy w' row) (hg : some g ≠ row) : Whole w' g t cs := (hb.block g h.lt hg).trans h
theorem Whole.drawn (h : Whole w g t cs) (n : Nat) : Whole (w.drewN n) g t cs := h
end

/-- The slice (A, l.length, any) reads as the bytes l, all of it below block B. -/
def Rd (w : World) (B : Nat) (A : Option Addr) (l : List UInt8) : Prop :=
  l = [] ∨ ∃ g o, A = some ⟨g, o, none⟩ ∧ g < B ∧ ∀ i, (h : i < l.length) → w.cell? ⟨g, o + i, none⟩ = some (U l[i])
section
variable {w w' : World} {B B' : Nat} {A : Option Addr} {l : List UInt8}
theorem Rd.nil : Rd w B A [] := .inl rfl
theorem Rd.keep (h : Rd w B A l) (hb : Below B w w') : Rd w' B A l := by
  rcases h with h | ⟨g, o, e, hg, hc⟩
  · exact .inl h
  · exact .inr ⟨g, o, e, hg, fun i hi => (hb.cell (p := ⟨g, o + i, none⟩) hg).trans (hc i hi)⟩
theorem Rd.more (h : Rd w B A l) (hB : B ≤ B') : Rd w B' A l := by
  rcases h with h | ⟨g, o, e, hg, hc⟩
  · exact .inl h
  · exact .inr ⟨g, o, e, by omega, hc⟩
theorem Rd.get {i : Nat} (h : Rd w B A l) (hi : i < l.length) : ∃ g o, A = some ⟨g, o, none⟩ ∧ g < B ∧ w.cell? ⟨g, o + i, none⟩ = some (U l[i]) := by
  rcases h with h | ⟨g, o, e, hg, hc⟩
  · subst h; simp at hi
  · exact ⟨g, o, e, hg, hc i hi⟩
theorem Rd.sub (h : Rd w B A l) (k n : Nat) (hk : k < l.length) : Rd w B (A.map fun a => { a with off := a.off + k }) ((l.drop k).take n) := by
  rcases h with h | ⟨g, o, e, hg, hc⟩
  · subst h; simp at hk
  · refine .inr ⟨g, o + k, by subst e; rfl, hg, fun i hi => ?_⟩
    have h1 : i < l.length - k := by simp at hi; omega
    have := hc (k + i) (by omega)
    simp only [List.getElem_take, List.getElem_drop]
    rw [← this, Nat.add_assoc]
theorem Rd.of_whole {g : Nat} {t : TypeId} {cs : List Value} (h : Whole w g t cs) (o : Nat) (hB : g < B) (hl : ∀ i, (hi : i < l.length) → cs[o + i]? = some (U l[i])) : Rd w B (some ⟨g, o, none⟩) l :=
  .inr ⟨g, o, rfl, hB, fun i hi => by rw [h.at_]; exact hl i hi⟩
end
/-- string(b) of a slice that reads as l. -/
theorem conv_rd {P : Program} {w : World} {B : Nat} {A : Option Addr} {l : List UInt8} (h : Rd w B A l) (src dst e : TypeId) (c : Nat)
    (hs : P.underlying src = some (.slice e)) (he : P.underlying e = some (.int .u8)) (hd : P.underlying dst = some .string) :
    (convert src dst (.slice A l.length c)).run P w = .ok (.string (S l)) w := by
  rcases h with h | ⟨g, o, e1, _, hc⟩
  · subst h
    rcases A with _ | a
    · exact run_convert_bytes_nil w src e hs he 0 c dst hd
    · rw [run_convert_bytes_string w src dst e _ _ c hs he hd]
      exact run_bytesToString w a 0 c [] (by simpa using run_loadCells_list (P := P) w a [] (fun j v hj => by simp at hj))
  · subst e1
    rw [run_convert_bytes_arg w src e hs he g o l.length c (l.map fun b => (b.toNat : Int)) (by simp) (fun i hi => by rw [hc i hi]; simp [U, hi]) dst hd]
    simp [strOfNums, S, Function.comp_def]
/-- b[l:] of an array of one-cell elements behind a pointer. -/
theorem sliceAt_l {P : Program} (t e n : Nat) (ht : P.underlying t = some (.array n e)) (i : TypeInfo) (hi : P.info? e = some i) (hs : i.size = 1) (g l : Nat) (li : Int) (hl : li = l) (h : l < n) (W : World) :
    (Instr.sliceAt t (.pointer (some ⟨g, 0, none⟩)) (some (.int .i64 li)) none none).run P W = .ok (.slice (some ⟨g, l, none⟩) (n - l) (n - l)) W := by
  subst hl
  simp [Instr.sliceAt, Instr.sureAddr, run_underlying ht, Instr.sliceBounds, run_sliceBound, sizeOf, typeInfo, hi, hs, go_sem]
  rw [if_pos (by omega), if_neg (by omega)]
/-- string([]byte(x)) of one new byte. -/
theorem conv_new1 {P : Program} (W : World) (x : Int) (h0 : 0 ≤ x) (h1 : x ≤ 255) (src dst e c : Nat)
    (hs : P.underlying src = some (.slice e)) (he : P.underlying e = some (.int .u8)) (hd : P.underlying dst = some .string) :
    (convert src dst (.slice (some ⟨W.heap.size, 0, none⟩) 1 c)).run P (W.alloc (.cells #[.int .u8 x] e)) = .ok (.string (S [UInt8.ofNat x.toNat])) (W.alloc (.cells #[.int .u8 x] e)) := by
  have h := Whole.new W e [.int .u8 x]
  have hr : Rd (W.alloc (.cells #[.int .u8 x] e)) (W.heap.size + 1) (some ⟨W.heap.size, 0, none⟩) [UInt8.ofNat x.toNat] :=
    Rd.of_whole h 0 (by omega) (fun i hi => by
      obtain rfl : i = 0 := by simpa using hi
      simp [U, UInt8.toNat_ofNat]; omega)
  exact conv_rd hr src dst e c hs he hd
@[simp] theorem S_append (a b : List UInt8) : S a ++ S b = S (a ++ b) := by
  apply ba_ext; simp [ByteArray.toList_eq, S]
@[simp] theorem mk_append_S (a : Array UInt8) (l : List UInt8) : (⟨a⟩ : ByteArray) ++ S l = S (a.toList ++ l) := by
  rw [← S_append]; rfl
theorem S_inj (a b : List UInt8) : (S a = S b) = (a = b) := by
  apply propext; constructor
  · intro h; rw [← S_toList a, h, S_toList]
  · intro h; rw [h]
theorem bt {w w1 w2 : World} (h : Below w.heap.size w w1) (k : Below w1.heap.size w1 w2) : Below w.heap.size w w2 := h.trans (k.mono h.size)
end Go.Proofs.Ytefodepamjpmjaa
