/- Small lemmas on lists, texts and endings, without any program. No condition. -/
import Derived.WalkKit
import Derived.Lib.Hide
namespace Go.Proofs.YthflfnehdlpmdaaDoor
set_option linter.all false
open Go Go.RowKit

theorem snoc_ind {α : Type} {P : List α → Prop} (h0 : P []) (h : ∀ l a, P l → P (l ++ [a])) (l : List α) : P l := by
  have : ∀ n (l : List α), l.length = n → P l := by
    intro n
    induction n with
    | zero => intro l hl; rw [List.eq_nil_of_length_eq_zero hl]; exact h0
    | succ n ih =>
      intro l hl
      have hne : l ≠ [] := by intro e; rw [e] at hl; simp at hl
      rw [← List.dropLast_concat_getLast hne]
      exact h _ _ (ih _ (by simp [hl]))
  exact this _ l rfl
theorem tolen (s : ByteArray) : s.toList.length = s.size := by rw [ByteArray.toList_eq]; simp
theorem take_snoc (s : ByteArray) (k : Nat) (h : k < s.size) : s.toList.take (k + 1) = s.toList.take k ++ [s[k]] := by
  rw [ByteArray.toList_eq, List.take_succ_eq_append_getElem (by simpa using h)]; rfl
theorem take_full (s : ByteArray) (k : Nat) (h : s.size ≤ k) : s.toList.take k = s.toList := List.take_of_length_le (by rw [tolen]; exact h)
theorem toget (s : ByteArray) (k : Nat) (h : k < s.size) : s.toList[k]'(by rw [tolen]; exact h) = s[k] := by simp [ByteArray.toList_eq]; rfl
theorem empty_yes (s : ByteArray) (h : s.size = 0) : s.toList = [] := List.eq_nil_of_length_eq_zero (by rw [tolen]; exact h)
theorem empty_no (s : ByteArray) (h : s.size ≠ 0) : s.toList.isEmpty = false := by
  have := tolen s
  cases e : s.toList with
  | nil => rw [e] at this; simp at this; omega
  | cons a b => rfl
theorem ret_int {k : IntKind} {a b : Int} (h : a = b) : Ending.returned (.int k a) = .returned (.int k b) := by rw [h]
theorem ret_bool {a b : Bool} (h : a = b) : Ending.returned (.bool a) = .returned (.bool b) := by rw [h]
theorem ret_int2 {k k' : IntKind} {a b c d : Int} (h : a = b) (h' : c = d) : Ending.returned (.tuple #[.int k a, .int k' c]) = .returned (.tuple #[.int k b, .int k' d]) := by rw [h, h']
theorem ba_ext {a b : ByteArray} (h : a.toList = b.toList) : a = b := by
  rw [ByteArray.toList_eq, ByteArray.toList_eq] at h
  cases a; cases b; simp at h; simp [h]
/-- A text by its list. -/
def S (l : List UInt8) : ByteArray := ⟨l.toArray⟩
@[simp] theorem S_toList (l : List UInt8) : (S l).toList = l := ByteArray.toList_mk l
@[simp] theorem S_size (l : List UInt8) : (S l).size = l.length := by rw [← tolen, S_toList]
end Go.Proofs.YthflfnehdlpmdaaDoor
