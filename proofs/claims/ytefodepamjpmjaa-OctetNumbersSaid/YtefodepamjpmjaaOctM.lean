/- Layer 1 in plain Lean: what digits say. No program. No condition. -/
import Derived.Test.YtefodepamjpmjaaBase
namespace Go.Proofs.Ytefodepamjpmjaa
open Go Go.RowKit

def digitM (c : Nat) : Int := if 48 ≤ c ∧ c ≤ 57 then (c:Int) - 48 else if 97 ≤ c ∧ c ≤ 102 then (c:Int) - 87 else if 65 ≤ c ∧ c ≤ 70 then (c:Int) - 55 else 16
def worthM (c : Nat) : Int := if 48 ≤ c ∧ c ≤ 57 then (c:Int) - 48 else if 97 ≤ c ∧ c ≤ 102 then (c:Int) - 87 else if 65 ≤ c ∧ c ≤ 70 then (c:Int) - 55 else 99
theorem digitM_bd (c : Nat) : 0 ≤ digitM c ∧ digitM c ≤ 16 := by unfold digitM; split <;> (try split) <;> (try split) <;> omega
theorem worthM_bd (c : Nat) : 0 ≤ worthM c ∧ worthM c ≤ 99 := by unfold worthM; split <;> (try split) <;> (try split) <;> omega
theorem worthM_ge (c : Nat) (base : Int) (hb : base ≤ 16) : (base ≤ worthM c) = (base ≤ digitM c) := by
  unfold worthM digitM; split <;> (try split) <;> (try split) <;> simp <;> omega
theorem worthM_lt (c : Nat) (base : Int) (hb : base ≤ 16) (h : worthM c < base) : worthM c = digitM c := by
  unfold worthM at h; unfold worthM digitM; split <;> (try split) <;> (try split) <;> simp_all <;> omega
def valM (base : Int) (l : List UInt8) : Int := l.foldl (fun n c => n * base + digitM c.toNat) 0
def badM (base : Int) (l : List UInt8) : Bool := l.any (fun c => decide (base ≤ digitM c.toNat))
/-- What a text says in a base: the number, and the error's number. -/
def numV (base : Int) (l : List UInt8) : Int := if l.isEmpty || badM base l || decide (1099511627776 < valM base l) then 0 else valM base l
def numE (base : Int) (l : List UInt8) : Int := if l.isEmpty || badM base l then 10 else if 1099511627776 < valM base l then 11 else 0
theorem valM_snoc (base : Int) (l : List UInt8) (c : UInt8) : valM base (l ++ [c]) = valM base l * base + digitM c.toNat := by simp [valM]
theorem badM_snoc (base : Int) (l : List UInt8) (c : UInt8) : badM base (l ++ [c]) = (badM base l || decide (base ≤ digitM c.toNat)) := by simp [badM]
theorem badM_take (base : Int) (l : List UInt8) (k : Nat) (h : badM base (l.take k) = true) : badM base l = true := by
  unfold badM at *; rw [List.any_eq_true] at *; obtain ⟨x, hx, hp⟩ := h; exact ⟨x, List.mem_of_mem_take hx, hp⟩
theorem badM_at (base : Int) (s : ByteArray) (k : Nat) (h : k < s.size) (hd : base ≤ digitM s[k].toNat) : badM base s.toList = true :=
  badM_take base _ (k + 1) (by rw [take_snoc s k h, badM_snoc]; simp [hd])
theorem badM_not (base : Int) (s : ByteArray) (k : Nat) (h : k < s.size) (hb : badM base s.toList = false) : digitM s[k].toNat < base := by
  rcases Int.lt_or_le (digitM s[k].toNat) base with h1 | h1
  · exact h1
  · rw [badM_at base s k h h1] at hb; cases hb
theorem valM_nonneg (base : Int) (hb : 1 ≤ base) (l : List UInt8) : 0 ≤ valM base l := by
  induction l using snoc_ind with
  | h0 => simp [valM]
  | h l c ih => rw [valM_snoc]; have := (digitM_bd c.toNat).1; have := Int.mul_nonneg ih (show 0 ≤ base by omega); omega
theorem valM_append (base : Int) (hb : 1 ≤ base) (l r : List UInt8) : valM base l ≤ valM base (l ++ r) := by
  induction r using snoc_ind with
  | h0 => simp
  | h r c ih =>
    rw [← List.append_assoc, valM_snoc]
    have := (digitM_bd c.toNat).1
    have h1 := valM_nonneg base hb (l ++ r)
    have := Int.mul_le_mul_of_nonneg_left hb h1
    omega
theorem valM_take (base : Int) (hb : 1 ≤ base) (l : List UInt8) (k : Nat) : valM base (l.take k) ≤ valM base l := by
  have := valM_append base hb (l.take k) (l.drop k); rwa [List.take_append_drop] at this
theorem num_nil (base : Int) (l : List UInt8) (h : l = []) : numV base l = 0 ∧ numE base l = 10 := by subst h; exact ⟨rfl, rfl⟩
theorem num_bad (base : Int) (l : List UInt8) (h : badM base l = true) : numV base l = 0 ∧ numE base l = 10 := by simp [numV, numE, h]
theorem num_big (base : Int) (l : List UInt8) (hn : l.isEmpty = false) (h : badM base l = false) (hv : 1099511627776 < valM base l) : numV base l = 0 ∧ numE base l = 11 := by
  unfold numV numE; rw [hn, h]; simp [hv]
theorem num_ok (base : Int) (l : List UInt8) (hn : l.isEmpty = false) (h : badM base l = false) (hv : valM base l ≤ 1099511627776) : numV base l = valM base l ∧ numE base l = 0 := by
  have : ¬ 1099511627776 < valM base l := by omega
  unfold numV numE; rw [hn, h]; simp [this]
end Go.Proofs.Ytefodepamjpmjaa
