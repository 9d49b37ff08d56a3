/- Layer 1 in plain Lean: what digits say. No program. No condition. -/
import Derived.Test.YthflfnehdlpmdaaDoorBase
namespace Go.Proofs.YthflfnehdlpmdaaDoor
set_option linter.all false
open Go Go.RowKit

def digitM (c : Nat) : Int := if 48 ≤ c ∧ c ≤ 57 then (c:Int) - 48 else if 97 ≤ c ∧ c ≤ 102 then (c:Int) - 87 else if 65 ≤ c ∧ c ≤ 70 then (c:Int) - 55 else 16
theorem digitM_bd (c : Nat) : 0 ≤ digitM c ∧ digitM c ≤ 16 := by unfold digitM; split <;> (try split) <;> (try split) <;> omega
def valM (base : Int) (l : List UInt8) : Int := l.foldl (fun n c => n * base + digitM c.toNat) 0
def badM (base : Int) (l : List UInt8) : Bool := l.any (fun c => decide (base ≤ digitM c.toNat))
/-- What a text says in a base: the number, and the error's number. -/
def numV (base : Int) (l : List UInt8) : Int := if l.isEmpty || badM base l || decide (1099511627776 < valM base l) then 0 else valM base l
def numE (base : Int) (l : List UInt8) : Int := if l.isEmpty || badM base l then 10 else if 1099511627776 < valM base l then 11 else 0
theorem valM_snoc (base : Int) (l : List UInt8) (c : UInt8) : valM base (l ++ [c]) = valM base l * base + digitM c.toNat := by simp [valM]
theorem badM_snoc (base : Int) (l : List UInt8) (c : UInt8) : badM base (l ++ [c]) = (badM base l || decide (base ≤ digitM c.toNat)) := by simp [badM]
theorem badM_take (base : Int) (l : List UInt8) (k : Nat) (h : badM base (l.take k) = true) : badM base l = true := by
  unfold badM at *; rw [List.any_eq_true] at *; obtain ⟨x, hx, hp⟩ := h; exact ⟨x, List.mem_of_mem_take hx, hp⟩
theorem badM_at (base : Int) (s : ByteArray) (k : Nat) (h : k < s.size) (hd : base ≤ digitM s[k].toNat) : badM base s.toList = true :=
  badM_take base _ (k + 1) (by rw [take_snoc s k h, badM_snoc]; simp [hd])
theorem valM_nonneg (base : Int) (hb : 1 ≤ base) (l : List UInt8) : 0 ≤ valM base l := by
  induction l using snoc_ind with
  | h0 => simp [valM]
  | h l c ih => rw [valM_snoc]; have := (digitM_bd c.toNat).1; have := Int.mul_nonneg ih (show 0 ≤ base by omega); omega
theorem valM_append (base : Int) (hb : 1 ≤ base) (l r : List UInt8) : valM base l ≤ valM base (l ++ r) := by
  induction r using snoc_ind with
  | h0 => simp
  | h r c ih =>
    rw [← List.append_assoc, valM_snoc]
    have := (digitM_bd c.toNat).1
    have h1 := valM_nonneg base hb (l ++ r)
    have := Int.mul_le_mul_of_nonneg_left hb h1
    omega
theorem valM_take (base : Int) (hb : 1 ≤ base) (l : List UInt8) (k : Nat) : valM base (l.take k) ≤ valM base l := by
  have := valM_append base hb (l.take k) (l.drop k); rwa [List.take_append_drop] at this
theorem num_nil (base : Int) (l : List UInt8) (h : l = []) : numV base l = 0 ∧ numE base l = 10 := by subst h; exact ⟨rfl, rfl⟩
theorem num_bad (base : Int) (l : List UInt8) (h : badM base l = true) : numV base l = 0 ∧ numE base l = 10 := by simp [numV, numE, h]
theorem num_big (base : Int) (l : List UInt8) (hn : l.isEmpty = false) (h : badM base l = false) (hv : 1099511627776 < valM base l) : numV base l = 0 ∧ numE base l = 11 := by
  unfold numV numE; rw [hn, h]; simp [hv]
theorem num_ok (base : Int) (l : List UInt8) (hn : l.isEmpty = false) (h : badM base l = false) (hv : valM base l ≤ 1099511627776) : numV base l = valM base l ∧ numE base l = 0 := by
  have : ¬ 1099511627776 < valM base l := by omega
  unfold numV numE; rw [hn, h]; simp [this]

/-- A digit's sign. -/
def chM (d : Nat) : UInt8 := UInt8.ofNat (if d < 10 then 48 + d else 87 + d)
/-- A number's digits in a base. -/
def digsF (b : Nat) : Nat → Nat → List UInt8
  | 0, _ => []
  | f + 1, n => if n < b then [chM n] else digsF b f (n / b) ++ [chM (n % b)]
def digsM (b n : Nat) : List UInt8 := digsF b (n + 1) n
theorem digitM_ch (d : Nat) (h : d < 16) : digitM (chM d).toNat = d := by
  have : ∀ d : Fin 16, digitM (chM d.val).toNat = d.val := by decide
  exact this ⟨d, h⟩
theorem digsF_fuel (b : Nat) (hb : 2 ≤ b) : ∀ f g n, n < f → n < g → digsF b f n = digsF b g n := by
  intro f
  induction f with
  | zero => intro g n h; omega
  | succ f ih =>
    intro g n hf hg
    cases g with
    | zero => omega
    | succ g =>
      simp only [digsF]
      split
      · rfl
      · have : n / b < n := Nat.div_lt_self (by omega) (by omega)
        rw [ih g (n / b) (by omega) (by omega)]
theorem digsM_eq (b : Nat) (hb : 2 ≤ b) (n : Nat) : digsM b n = if n < b then [chM n] else digsM b (n / b) ++ [chM (n % b)] := by
  unfold digsM
  rw [digsF]
  split
  · rfl
  · have : n / b < n := Nat.div_lt_self (by omega) (by omega)
    rw [digsF_fuel b hb n (n / b + 1) (n / b) (by omega) (by omega)]
theorem digs_ind (b : Nat) (hb : 2 ≤ b) {P : Nat → Prop} (h0 : ∀ n, n < b → P n) (h1 : ∀ n, b ≤ n → P (n / b) → P n) : ∀ n, P n := by
  intro n
  induction n using Nat.strongRecOn with
  | _ n ih =>
    rcases Nat.lt_or_ge n b with h | h
    · exact h0 n h
    · exact h1 n h (ih _ (Nat.div_lt_self (by omega) (by omega)))
theorem digs_val (b : Nat) (hb : 2 ≤ b) (h16 : b ≤ 16) (n : Nat) : valM b (digsM b n) = n := by
  induction n using digs_ind b hb with
  | h0 n h => rw [digsM_eq b hb, if_pos h]; simp [valM, digitM_ch n (by omega)]
  | h1 n h ih =>
    rw [digsM_eq b hb, if_neg (by omega), valM_snoc, ih, digitM_ch _ (by have := Nat.mod_lt n (show b > 0 by omega); omega)]
    have := Nat.div_add_mod n b
    rw [Nat.mul_comm] at this
    exact_mod_cast this
theorem digs_bad (b : Nat) (hb : 2 ≤ b) (h16 : b ≤ 16) (n : Nat) : badM b (digsM b n) = false := by
  induction n using digs_ind b hb with
  | h0 n h => rw [digsM_eq b hb, if_pos h]; simp [badM, digitM_ch n (by omega)]; omega
  | h1 n h ih =>
    have := Nat.mod_lt n (show b > 0 by omega)
    rw [digsM_eq b hb, if_neg (by omega), badM_snoc, ih, digitM_ch _ (by omega)]
    simp; omega
theorem digs_ne (b : Nat) (hb : 2 ≤ b) (n : Nat) : (digsM b n).isEmpty = false := by
  rw [digsM_eq b hb]; split <;> simp
theorem pow8 (k m : Nat) (h1 : 1 ≤ m) (h : m * 8 ^ k < 9223372036854775808) : k ≤ 20 := by
  rcases Nat.lt_or_ge k 21 with h2 | h2
  · omega
  · have h3 : 8 ^ 21 ≤ 8 ^ k := Nat.pow_le_pow_right (by omega) h2
    have h4 : 8 ^ k ≤ m * 8 ^ k := Nat.le_mul_of_pos_left _ (by omega)
    have h5 : (8:Nat) ^ 21 = 9223372036854775808 := by decide
    omega
theorem pow8_step (b k m : Nat) (hb : 8 ≤ b) (h : m * 8 ^ k < 9223372036854775808) : (m / b) * 8 ^ (k + 1) < 9223372036854775808 := by
  have h1 : m / b * 8 ≤ m := by
    have := Nat.div_mul_le_self m b
    have h2 : m / b * 8 ≤ m / b * b := Nat.mul_le_mul_left _ hb
    omega
  have h3 : m / b * 8 * 8 ^ k ≤ m * 8 ^ k := Nat.mul_le_mul_right _ h1
  rw [Nat.pow_succ, Nat.mul_comm (8 ^ k) 8, ← Nat.mul_assoc]
  omega
/-- A number's text; nothing below 0. -/
def digs (b : Nat) (n : Int) : List UInt8 := if n < 0 then [] else digsM b n.toNat
theorem digs_small (b : Nat) (hb : 2 ≤ b) (h16 : b ≤ 16) (n : Int) (h0 : 0 ≤ n) (h : n ≤ 1099511627776) : numV b (digs b n) = n ∧ numE b (digs b n) = 0 := by
  unfold digs; rw [if_neg (by omega)]
  have hv := digs_val b hb h16 n.toNat
  have := num_ok b _ (digs_ne b hb n.toNat) (digs_bad b hb h16 n.toNat) (by omega)
  omega
end Go.Proofs.YthflfnehdlpmdaaDoor
