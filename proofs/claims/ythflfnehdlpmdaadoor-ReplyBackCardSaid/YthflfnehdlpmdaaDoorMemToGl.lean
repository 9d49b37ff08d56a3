/- How memory is spoken of: a block known whole, a slice of bytes that reads as a list, a row of the call's own. No program, no condition. -/
import Derived.Test.YthflfnehdlpmdaaDoorBase
import Derived.Below
import Derived.Laws.OwnMore
import Derived.Laws.BytesString
import Derived.Laws.BytesArg
import Derived.Deep.AppendLies
import Derived.Deep.Draws
import Derived.Maps.AppendAt
import Derived.Laws.Rows
import Derived.Test.YthflfnehdlpmdaaDoorRows
import Derived.WalkKit
import Derived.ProofKit
import Derived.OpenShut
import Derived.ShutString
import Derived.ChangeOld
import Derived.SizedLaws
namespace Go.Proofs.YthflfnehdlpmdaaDoor
set_option linter.all false
open Go Go.RowKit

/-- A byte as a cell. -/
abbrev U (b : UInt8) : Value := .int .u8 (b.toNat : Int)
/-- Block g is just these cells. -/
def Whole (w : World) (g : Nat) (t : TypeId) (cs : List Value) : Prop := w.heap[g]? = some (.cells cs.toArray t (0, 0))
section
variable {w w' : World} {g : Nat} {t : TypeId} {cs : List Value}
theorem Whole.lt (h : Whole w g t cs) : g < w.heap.size := by
  rcases Nat.lt_or_ge g w.heap.size with h1 | h1
  · exact h1
  · unfold Whole at h; rw [Array.getElem?_eq_none h1] at h; cases h
theorem Whole.at_ (h : Whole w g t cs) (i : Nat) : w.cell? ⟨g, i, none⟩ = cs[i]? := by
  unfold Whole at h; simp [World.cell?, h]
theorem Whole.free (h : Whole w g t cs) (i : Nat) : w.frozen? ⟨g, i, none⟩ = false := by
  unfold Whole at h; simp [World.frozen?, h]
theorem Whole.new (w : World) (t : TypeId) (cs : List Value) : Whole (w.alloc (.cells cs.toArray t)) w.heap.size t cs := heap_alloc_new w _
theorem Whole.put (h : Whole w g t cs) (i : Nat) (u : Value) : Whole (w.setCell ⟨g, i, none⟩ u) g t (cs.set i u) := by
  unfold Whole at h ⊢; simp [World.setCell, Array.getElem?_modify, h]
theorem Whole.keep {B : Nat} (h : Whole w g t cs) (hb : Below B w w') (hg : g < B) : Whole w' g t cs := (hb.block g hg).trans h
theorem Whole.drawn (h : Whole w g t cs) (n : Nat) : Whole (w.drewN n) g t cs := h
end

/-- The slice (A, l.length, any) reads as the bytes l, all of it below block B. -/
def Rd (w : World) (B : Nat) (A : Option Addr) (l : List UInt8) : Prop :=
  l = [] ∨ ∃ g o, A = some ⟨g, o, none⟩ ∧ g < B ∧ ∀ i, (h : i < l.length) → w.cell? ⟨g, o + i, none⟩ = some (U l[i])
section
variable {w w' : World} {B B' : Nat} {A : Option Addr} {l : List UInt8}
theorem Rd.nil : Rd w B A [] := .inl rfl
theorem Rd.keep (h : Rd w B A l) (hb : Below B w w') : Rd w' B A l := by
  rcases h with h | ⟨g, o, e, hg, hc⟩
  · exact .inl h
  · exact .inr ⟨g, o, e, hg, fun i hi => (hb.cell (p := ⟨g, o + i, none⟩) hg).trans (hc i hi)⟩
theorem Rd.more (h : Rd w B A l) (hB : B ≤ B') : Rd w B' A l := by
  rcases h with h | ⟨g, o, e, hg, hc⟩
  · exact .inl h
  · exact .inr ⟨g, o, e, by omega, hc⟩
theorem Rd.get {i : Nat} (h : Rd w B A l) (hi : i < l.length) : ∃ g o, A = some ⟨g, o, none⟩ ∧ g < B ∧ w.cell? ⟨g, o + i, none⟩ = some (U l[i]) := by
  rcases h with h | ⟨g, o, e, hg, hc⟩
  · subst h; simp at hi
  · exact ⟨g, o, e, hg, hc i hi⟩
theorem Rd.byte {g o i q : Nat} (h : Rd w B (some ⟨g, o, none⟩) l) (hi : i < l.length) (hq : q = o + i) : ∃ b, l[i]? = some b ∧ w.cell? ⟨g, q, none⟩ = some (U b) := by
  obtain ⟨g', o', e, _, hc⟩ := h.get hi
  obtain ⟨rfl, rfl⟩ : g = g' ∧ o = o' := by simpa using e
  subst hq
  exact ⟨l[i], List.getElem?_eq_getElem hi, hc⟩
theorem Rd.sub (h : Rd w B A l) (k n : Nat) (hk : k < l.length) : Rd w B (A.map fun a => { a with off := a.off + k }) ((l.drop k).take n) := by
  rcases h with h | ⟨g, o, e, hg, hc⟩
  · subst h; simp at hk
  · refine .inr ⟨g, o + k, by subst e; rfl, hg, fun i hi => ?_⟩
    have h1 : i < l.length - k := by simp at hi; omega
    have := hc (k + i) (by omega)
    simp only [List.getElem_take, List.getElem_drop]
    rw [← this, Nat.add_assoc]
theorem Rd.of_whole {g : Nat} {t : TypeId} {cs : List Value} (h : Whole w g t cs) (o : Nat) (hB : g < B) (hl : ∀ i, (hi : i < l.length) → cs[o + i]? = some (U l[i])) : Rd w B (some ⟨g, o, none⟩) l :=
  .inr ⟨g, o, rfl, hB, fun i hi => by rw [h.at_]; exact hl i hi⟩
end
theorem Rd.pre {w : World} {B : Nat} {A : Option Addr} {l : List UInt8} (h : Rd w B A l) (n : Nat) : Rd w B A (l.take n) := by
  rcases h with h | ⟨g, o, e, hg, hc⟩
  · subst h; exact .inl (by simp)
  · exact .inr ⟨g, o, e, hg, fun i hi => by rw [hc i (by simp at hi; omega)]; simp⟩
/-- string(b) of a slice that reads as l. -/
theorem conv_rd {P : Program} {w : World} {B : Nat} {A : Option Addr} {l : List UInt8} (h : Rd w B A l) (src dst e : TypeId) (c : Nat)
    (hs : P.underlying src = some (.slice e)) (he : P.underlying e = some (.int .u8)) (hd : P.underlying dst = some .string) :
    (convert src dst (.slice A l.length c)).run P w = .ok (.string (S l)) w := by
  rcases h with h | ⟨g, o, e1, _, hc⟩
  · subst h
    rcases A with _ | a
    · exact run_convert_bytes_nil w src e hs he 0 c dst hd
    · rw [run_convert_bytes_string w src dst e _ _ c hs he hd]
      exact run_bytesToString w a 0 c [] (by simpa using run_loadCells_list (P := P) w a [] (fun j v hj => by simp at hj))
  · subst e1
    rw [run_convert_bytes_arg w src e hs he g o l.length c (l.map fun b => (b.toNat : Int)) (by simp) (fun i hi => by rw [hc i hi]; simp [U, hi]) dst hd]
    simp [strOfNums, S, Function.comp_def]
/-- string([]byte(x)) of one new byte. -/
theorem conv_new1 {P : Program} (W : World) (x : Int) (h0 : 0 ≤ x) (h1 : x ≤ 255) (src dst e c : Nat)
    (hs : P.underlying src = some (.slice e)) (he : P.underlying e = some (.int .u8)) (hd : P.underlying dst = some .string) :
    (convert src dst (.slice (some ⟨W.heap.size, 0, none⟩) 1 c)).run P (W.alloc (.cells #[.int .u8 x] e)) = .ok (.string (S [UInt8.ofNat x.toNat])) (W.alloc (.cells #[.int .u8 x] e)) := by
  have h := Whole.new W e [.int .u8 x]
  have hr : Rd (W.alloc (.cells #[.int .u8 x] e)) (W.heap.size + 1) (some ⟨W.heap.size, 0, none⟩) [UInt8.ofNat x.toNat] :=
    Rd.of_whole h 0 (by omega) (fun i hi => by
      obtain rfl : i = 0 := by simpa using hi
      simp [U]; omega)
  exact conv_rd hr src dst e c hs he hd
@[simp] theorem S_append (a b : List UInt8) : S a ++ S b = S (a ++ b) := by
  apply ba_ext; simp [ByteArray.toList_eq, S]
@[simp] theorem mk_append_S (a : Array UInt8) (l : List UInt8) : (⟨a⟩ : ByteArray) ++ S l = S (a.toList ++ l) := by
  rw [← S_append]; rfl
theorem bt {w w1 w2 : World} (h : Below w.heap.size w w1) (k : Below w1.heap.size w1 w2) : Below w.heap.size w w2 := h.trans (k.mono h.size)
/-- v is a row of the call's own (from block B on) that holds the bytes l. -/
def Own (w : World) (B : Nat) (e : TypeId) (v : Value) (l : List UInt8) : Prop := w.ownsRow B e 1 v l.length (l.map U)
theorem Own.empty (w : World) (B : Nat) (e : TypeId) : Own w B e (.slice none 0 0) [] := ⟨rfl, .inl ⟨rfl, rfl⟩⟩
theorem Own.of_whole {w : World} {B : Nat} {e : TypeId} {g : Nat} {l : List UInt8} {cs : List Value} (h : Whole w g e cs) (hB : B ≤ g) (hl : cs.take l.length = l.map U) (hc : l.length ≤ cs.length) (hm : cs.length ≤ maxLen) :
    Own w B e (.slice (some ⟨g, 0, none⟩) l.length cs.length) l :=
  ⟨by simp, .inr ⟨g, cs.length, cs.toArray, rfl, hB, h, hc, hm, by simp, by simpa using hl⟩⟩
/-- Block g is just these cells, of its own mark behind them (what []byte(s) makes). -/
def Marked (w : World) (g : Nat) (t : TypeId) (cs : List Value) : Prop := w.heap[g]? = some (.cells cs.toArray t (cs.length, cs.length + 1))
section
variable {w w' : World} {g : Nat} {t : TypeId} {cs : List Value}
theorem Marked.lt (h : Marked w g t cs) : g < w.heap.size := by
  rcases Nat.lt_or_ge g w.heap.size with h1 | h1
  · exact h1
  · unfold Marked at h; rw [Array.getElem?_eq_none h1] at h; cases h
theorem Marked.at_ (h : Marked w g t cs) (i : Nat) : w.cell? ⟨g, i, none⟩ = cs[i]? := by
  unfold Marked at h; simp [World.cell?, h]
theorem Marked.free (h : Marked w g t cs) (i : Nat) (hi : i < cs.length) : w.frozen? ⟨g, i, none⟩ = false := by
  unfold Marked at h; simp [World.frozen?, h]; omega
theorem Marked.put (h : Marked w g t cs) (i : Nat) (u : Value) : Marked (w.setCell ⟨g, i, none⟩ u) g t (cs.set i u) := by
  unfold Marked at h ⊢; simp [World.setCell, Array.getElem?_modify, h]
theorem Marked.keep {B : Nat} (h : Marked w g t cs) (hb : Below B w w') (hg : g < B) : Marked w' g t cs := (hb.block g hg).trans h
theorem Marked.rd {B : Nat} {l : List UInt8} (h : Marked w g t cs) (o : Nat) (hB : g < B) (hl : ∀ i, (hi : i < l.length) → cs[o + i]? = some (U l[i])) : Rd w B (some ⟨g, o, Option.none⟩) l :=
  .inr ⟨g, o, rfl, hB, fun i hi => by rw [h.at_]; exact hl i hi⟩
end
theorem heap_alloc_new' (w : World) (o : Obj) : (w.alloc o).heap[w.heap.size]? = some o := heap_alloc_new w o
/-- []byte(s). -/
theorem conv_str {P : Program} (w : World) (src dst e : TypeId) (s : ByteArray) (hs : P.underlying src = some .string) (hd : P.underlying dst = some (.slice e)) (he : P.underlying e = some (.int .u8)) :
    ∃ W' cs c, (convert src dst (.string s)).run P w = .ok (.slice (some ⟨w.heap.size, 0, Option.none⟩) s.size c) W' ∧ Below w.heap.size w W' ∧ Marked W' w.heap.size e cs ∧ cs.take s.size = s.toList.map U ∧ s.size ≤ c ∧ cs.length = c := by
  have h := run_bytes_of_string (P := P) w src dst e s hs hd he
  generalize hc : grownCap w s.size 0 e = c at h
  have hge : s.size ≤ c := by rw [← hc]; exact grownCap_ge w s.size 0 e
  have hlen : (bytesRow s c).size = c := by simp [bytesRow]; have : s.data.size = s.size := rfl; omega
  refine ⟨_, (bytesRow s c).toList, c, h, (Below.refl _ _).drew.alloc (Nat.le_refl _) _, ?_, ?_, hge, by simpa using hlen⟩
  · unfold Marked
    have h2 := heap_alloc_new' w.drew (.cells (bytesRow s c) e ((bytesRow s c).size, (bytesRow s c).size + 1))
    rw [show w.drew.heap.size = w.heap.size from rfl] at h2
    rw [h2]
    simp
  · rw [ByteArray.toList_eq]
    have : s.data.size = s.size := rfl
    simp [bytesRow, U]
@[simp] theorem S_append_mk (l : List UInt8) (a : Array UInt8) : S l ++ (⟨a⟩ : ByteArray) = S (l ++ a.toList) := by
  rw [← S_append]; rfl
end Go.Proofs.YthflfnehdlpmdaaDoor

/- What every law's last step wants: how an argument is opened. No condition. -/
namespace Go.Proofs.YthflfnehdlpmdaaDoor
set_option linter.all false
open Go.ChangeShapes Go.WideShapes Go.ChangeAt Go.RowKit
open Go.ChangeMaps (open_string shut_string)
theorem own : ownKnob Tryd.prog.godebug = none := by kernel_rfl
theorem laidOut : laidOutB Tryd.prog = true := by kernel_rfl
section
variable {H : Type} {enc : TypeId × Value → H} {P : Program} {W : World} {base b0 : Nat} {held : Bool} {r : Reach} {t e : TypeId} {v : Value} {d : DataW H} {p : List MemPlace}
end
end Go.Proofs.YthflfnehdlpmdaaDoor

/- What is known of the library's variables at every call (kept blocks). No condition. -/
namespace Go.Proofs.YthflfnehdlpmdaaDoor
set_option linter.all false
open Go Go.RowKit
/-- Which functions (by the number of their slots) may go through a range over a function. -/
def rfN (_ : Nat) : Bool := false
def Shp (P : Program) (K : Nat → Prop) (w : World) : Prop := (∀ g, g = 0 → K g) ∧ (∃ m, w.cell? ⟨0, 0, none⟩ = some (.int .i64 m)) ∧ True
theorem Shp.mono {P : Program} {K K' : Nat → Prop} {w : World} (h : Shp P K w) (hk : ∀ g, K g → K' g) : Shp P K' w := ⟨fun g hg => hk g (h.1 g hg), h.2⟩
theorem Shp.keep {P : Program} {K : Nat → Prop} {w w' : World} (h : Shp P K w) (hk : ∀ g, K g → w'.heap[g]? = w.heap[g]?) : Shp P K w' := by
  obtain ⟨m, hm⟩ := h.2.1
  exact ⟨h.1, ⟨m, by simp only [World.cell?, hk _ (h.1 _ rfl)]; exact hm⟩, trivial⟩
end Go.Proofs.YthflfnehdlpmdaaDoor
