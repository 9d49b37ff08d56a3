/- Layer 1 in plain Lean: what digits say. No program. No condition. -/
import Derived.Test.YtnjbfiejgiaibaaGreatDoorBaseToGl
namespace Go.Proofs.YtnjbfiejgiaibaaGreatDoor
set_option linter.all false
open Go Go.RowKit

def digitM (c : Nat) : Int := if 48 ≤ c ∧ c ≤ 57 then (c:Int) - 48 else if 97 ≤ c ∧ c ≤ 102 then (c:Int) - 87 else if 65 ≤ c ∧ c ≤ 70 then (c:Int) - 55 else 16
def worthM (c : Nat) : Int := if 48 ≤ c ∧ c ≤ 57 then (c:Int) - 48 else if 97 ≤ c ∧ c ≤ 102 then (c:Int) - 87 else if 65 ≤ c ∧ c ≤ 70 then (c:Int) - 55 else 99
theorem digitM_bd (c : Nat) : 0 ≤ digitM c ∧ digitM c ≤ 16 := by unfold digitM; split <;> (try split) <;> (try split) <;> omega
theorem worthM_bd (c : Nat) : 0 ≤ worthM c ∧ worthM c ≤ 99 := by unfold worthM; split <;> (try split) <;> (try split) <;> omega
theorem worthM_ge (c : Nat) (base : Int) (hb : base ≤ 16) : (base ≤ worthM c) = (base ≤ digitM c) := by
  unfold worthM digitM; split <;> (try split) <;> (try split) <;> simp <;> omega
theorem worthM_lt (c : Nat) (base : Int) (hb : base ≤ 16) (h : worthM c < base) : worthM c = digitM c := by
  unfold worthM at h; unfold worthM digitM; split <;> (try split) <;> (try split) <;> simp_all <;> omega
def valM (base : Int) (l : List UInt8) : Int := l.foldl (fun n c => n * base + digitM c.toNat) 0
def badM (base : Int) (l : List UInt8) : Bool := l.any (fun c => decide (base ≤ digitM c.toNat))
/-- What a text says in a base: the number, and the error's number. -/
def numV (base : Int) (l : List UInt8) : Int := if l.isEmpty || badM base l || decide (1099511627776 < valM base l) then 0 else valM base l
def numE (base : Int) (l : List UInt8) : Int := if l.isEmpty || badM base l then 10 else if 1099511627776 < valM base l then 11 else 0
theorem valM_snoc (base : Int) (l : List UInt8) (c : UInt8) : valM base (l ++ [c]) = valM base l * base + digitM c.toNat := by simp [valM]
theorem badM_snoc (base : Int) (l : List UInt8) (c : UInt8) : badM base (l ++ [c]) = (badM base l || decide (base ≤ digitM c.toNat)) := by simp [badM]
theorem badM_take (base : Int) (l : List UInt8) (k : Nat) (h : badM base (l.take k) = true) : badM base l = true := by
  unfold badM at *; rw [List.any_eq_true] at *; obtain ⟨x, hx, hp⟩ := h; exact ⟨x, List.mem_of_mem_take hx, hp⟩
theorem badM_at (base : Int) (s : ByteArray) (k : Nat) (h : k < s.size) (hd : base ≤ digitM s[k].toNat) : badM base s.toList = true :=
  badM_take base _ (k + 1) (by rw [take_snoc s k h, badM_snoc]; simp [hd])
theorem badM_not (base : Int) (s : ByteArray) (k : Nat) (h : k < s.size) (hb : badM base s.toList = false) : digitM s[k].toNat < base := by
  rcases Int.lt_or_le (digitM s[k].toNat) base with h1 | h1
  · exact h1
  · rw [badM_at base s k h h1] at hb; cases hb
theorem valM_nonneg (base : Int) (hb : 1 ≤ base) (l : List UInt8) : 0 ≤ valM base l := by
  induction l using snoc_ind with
  | h0 => simp [valM]
  | h l c ih => rw [valM_snoc]; have := (digitM_bd c.toNat).1; have := Int.mul_nonneg ih (show 0 ≤ base by omega); omega
theorem valM_append (base : Int) (hb : 1 ≤ base) (l r : List UInt8) : valM base l ≤ valM base (l ++ r) := by
  induction r using snoc_ind with
  | h0 => simp
  | h r c ih =>
    rw [← List.append_assoc, valM_snoc]
    have := (digitM_bd c.toNat).1
    have h1 := valM_nonneg base hb (l ++ r)
    have := Int.mul_le_mul_of_nonneg_left hb h1
    omega
theorem valM_take (base : Int) (hb : 1 ≤ base) (l : List UInt8) (k : Nat) : valM base (l.take k) ≤ valM base l := by
  have := valM_append base hb (l.take k) (l.drop k); rwa [List.take_append_drop] at this
theorem num_nil (base : Int) (l : List UInt8) (h : l = []) : numV base l = 0 ∧ numE base l = 10 := by subst h; exact ⟨rfl, rfl⟩
theorem num_bad (base : Int) (l : List UInt8) (h : badM base l = true) : numV base l = 0 ∧ numE base l = 10 := by simp [numV, numE, h]
theorem num_big (base : Int) (l : List UInt8) (hn : l.isEmpty = false) (h : badM base l = false) (hv : 1099511627776 < valM base l) : numV base l = 0 ∧ numE base l = 11 := by
  unfold numV numE; rw [hn, h]; simp [hv]
theorem num_ok (base : Int) (l : List UInt8) (hn : l.isEmpty = false) (h : badM base l = false) (hv : valM base l ≤ 1099511627776) : numV base l = valM base l ∧ numE base l = 0 := by
  have : ¬ 1099511627776 < valM base l := by omega
  unfold numV numE; rw [hn, h]; simp [this]

/-- A digit's sign. -/
def chM (d : Nat) : UInt8 := UInt8.ofNat (if d < 10 then 48 + d else 87 + d)
/-- A number's digits in a base. -/
def digsF (b : Nat) : Nat → Nat → List UInt8
  | 0, _ => []
  | f + 1, n => if n < b then [chM n] else digsF b f (n / b) ++ [chM (n % b)]
def digsM (b n : Nat) : List UInt8 := digsF b (n + 1) n
theorem digitM_ch (d : Nat) (h : d < 16) : digitM (chM d).toNat = d := by
  have : ∀ d : Fin 16, digitM (chM d.val).toNat = d.val := by decide
  exact this ⟨d, h⟩
theorem digsF_fuel (b : Nat) (hb : 2 ≤ b) : ∀ f g n, n < f → n < g → digsF b f n = digsF b g n := by
  intro f
  induction f with
  | zero => intro g n h; omega
  | succ f ih =>
    intro g n hf hg
    cases g with
    | zero => omega
    | succ g =>
      simp only [digsF]
      split
      · rfl
      · have : n / b < n := Nat.div_lt_self (by omega) (by omega)
        rw [ih g (n / b) (by omega) (by omega)]
theorem digsM_eq (b : Nat) (hb : 2 ≤ b) (n : Nat) : digsM b n = if n < b then [chM n] else digsM b (n / b) ++ [chM (n % b)] := by
  unfold digsM
  rw [digsF]
  split
  · rfl
  · have : n / b < n := Nat.div_lt_self (by omega) (by omega)
    rw [digsF_fuel b hb n (n / b + 1) (n / b) (by omega) (by omega)]
theorem digs_ind (b : Nat) (hb : 2 ≤ b) {P : Nat → Prop} (h0 : ∀ n, n < b → P n) (h1 : ∀ n, b ≤ n → P (n / b) → P n) : ∀ n, P n := by
  intro n
  induction n using Nat.strongRecOn with
  | _ n ih =>
    rcases Nat.lt_or_ge n b with h | h
    · exact h0 n h
    · exact h1 n h (ih _ (Nat.div_lt_self (by omega) (by omega)))
theorem digs_val (b : Nat) (hb : 2 ≤ b) (h16 : b ≤ 16) (n : Nat) : valM b (digsM b n) = n := by
  induction n using digs_ind b hb with
  | h0 n h => rw [digsM_eq b hb, if_pos h]; simp [valM, digitM_ch n (by omega)]
  | h1 n h ih =>
    rw [digsM_eq b hb, if_neg (by omega), valM_snoc, ih, digitM_ch _ (by have := Nat.mod_lt n (show b > 0 by omega); omega)]
    have := Nat.div_add_mod n b
    rw [Nat.mul_comm] at this
    exact_mod_cast this
theorem digs_bad (b : Nat) (hb : 2 ≤ b) (h16 : b ≤ 16) (n : Nat) : badM b (digsM b n) = false := by
  induction n using digs_ind b hb with
  | h0 n h => rw [digsM_eq b hb, if_pos h]; simp [badM, digitM_ch n (by omega)]; omega
  | h1 n h ih =>
    have := Nat.mod_lt n (show b > 0 by omega)
    rw [digsM_eq b hb, if_neg (by omega), badM_snoc, ih, digitM_ch _ (by omega)]
    simp; omega
theorem digs_ne (b : Nat) (hb : 2 ≤ b) (n : Nat) : (digsM b n).isEmpty = false := by
  rw [digsM_eq b hb]; split <;> simp
theorem digs_len (b : Nat) (hb : 2 ≤ b) (n : Nat) : (digsM b n).length ≤ n + 1 := by
  induction n using digs_ind b hb with
  | h0 n h => rw [digsM_eq b hb, if_pos h]; simp
  | h1 n h ih =>
    rw [digsM_eq b hb, if_neg (by omega)]
    have : n / b < n := Nat.div_lt_self (by omega) (by omega)
    simp; omega
theorem pow8 (k m : Nat) (h1 : 1 ≤ m) (h : m * 8 ^ k < 9223372036854775808) : k ≤ 20 := by
  rcases Nat.lt_or_ge k 21 with h2 | h2
  · omega
  · have h3 : 8 ^ 21 ≤ 8 ^ k := Nat.pow_le_pow_right (by omega) h2
    have h4 : 8 ^ k ≤ m * 8 ^ k := Nat.le_mul_of_pos_left _ (by omega)
    have h5 : (8:Nat) ^ 21 = 9223372036854775808 := by decide
    omega
theorem pow8_step (b k m : Nat) (hb : 8 ≤ b) (h : m * 8 ^ k < 9223372036854775808) : (m / b) * 8 ^ (k + 1) < 9223372036854775808 := by
  have h1 : m / b * 8 ≤ m := by
    have := Nat.div_mul_le_self m b
    have h2 : m / b * 8 ≤ m / b * b := Nat.mul_le_mul_left _ hb
    omega
  have h3 : m / b * 8 * 8 ^ k ≤ m * 8 ^ k := Nat.mul_le_mul_right _ h1
  rw [Nat.pow_succ, Nat.mul_comm (8 ^ k) 8, ← Nat.mul_assoc]
  omega
/-- A number's text; nothing below 0. -/
def digs (b : Nat) (n : Int) : List UInt8 := if n < 0 then [] else digsM b n.toNat
theorem digs_small (b : Nat) (hb : 2 ≤ b) (h16 : b ≤ 16) (n : Int) (h0 : 0 ≤ n) (h : n ≤ 1099511627776) : numV b (digs b n) = n ∧ numE b (digs b n) = 0 := by
  unfold digs; rw [if_neg (by omega)]
  have hv := digs_val b hb h16 n.toNat
  have := num_ok b _ (digs_ne b hb n.toNat) (digs_bad b hb h16 n.toNat) (by omega)
  omega
theorem digs_big (b : Nat) (hb : 2 ≤ b) (h16 : b ≤ 16) (n : Int) (h : 1099511627776 < n) : numV b (digs b n) = 0 ∧ numE b (digs b n) = 11 := by
  unfold digs; rw [if_neg (by omega)]
  have hv := digs_val b hb h16 n.toNat
  exact num_big b _ (digs_ne b hb n.toNat) (digs_bad b hb h16 n.toNat) (by omega)
theorem foldl_zero (base : Int) (l : List UInt8) : valM base (48 :: l) = valM base l := by
  simp [valM, show digitM 48 = 0 by decide]
theorem nought (base : Int) (hb : 1 ≤ base) (l : List UInt8) (h : l.isEmpty = false) : numV base (48 :: l) = numV base l ∧ numE base (48 :: l) = numE base l := by
  have h1 : badM base (48 :: l) = badM base l := by simp [badM, show digitM 48 = 0 by decide]; intro h2; omega
  unfold numV numE
  rw [h1, foldl_zero, h]; simp
theorem digsM_short (b : Nat) (hb : 8 ≤ b) : ∀ k n, n < 8 ^ (k + 1) → (digsM b n).length ≤ k + 1 := by
  intro k
  induction k with
  | zero =>
    intro n h
    rw [digsM_eq b (by omega), if_pos (by simp at h; omega)]; simp
  | succ k ih =>
    intro n h
    rw [digsM_eq b (by omega)]
    split
    · simp
    · have h1 : n / b < 8 ^ (k + 1) := by
        rw [Nat.div_lt_iff_lt_mul (by omega)]
        have : 8 ^ (k + 1) * 8 ≤ 8 ^ (k + 1) * b := Nat.mul_le_mul_left _ hb
        rw [Nat.pow_succ] at h; omega
      have := ih _ h1
      simp; omega
theorem digs_length (b : Nat) (hb : 8 ≤ b) (n : Int) (hn : n ≤ 9223372036854775807) : (digs b n).length ≤ 21 := by
  unfold digs; split
  · simp
  · exact digsM_short b hb 20 _ (by have : (8:Nat) ^ (20 + 1) = 9223372036854775808 := by decide
                                    omega)
theorem digs_neg (b : Nat) (n : Int) (h : n < 0) : digs b n = [] := by simp [digs, h]
theorem digs_no (b : Nat) (hb : 2 ≤ b) (n : Int) (h : 0 ≤ n) : (digs b n).isEmpty = false := by
  unfold digs; rw [if_neg (by omega)]; exact digs_ne b hb _
/-- The number that bytes say. -/
def beN (l : List UInt8) : Nat := l.foldl (fun n c => n * 256 + c.toNat) 0
theorem beN_snoc (l : List UInt8) (c : UInt8) : beN (l ++ [c]) = beN l * 256 + c.toNat := by simp [beN]
theorem beN_lt (l : List UInt8) : beN l < 256 ^ l.length := by
  induction l using snoc_ind with
  | h0 => simp [beN]
  | h l c ih =>
    rw [beN_snoc, List.length_append, Nat.pow_add]
    have := c.toNat_lt
    simp; omega
def takeV (l : List UInt8) (p size : Int) : Int := if size < 1 ∨ 4 < size ∨ p < 0 ∨ l.length - size < p then 0 else beN ((l.drop p.toNat).take size.toNat)
def takeE (l : List UInt8) (p size : Int) : Int := if size < 1 ∨ 4 < size ∨ p < 0 then 1 else if l.length - size < p then 12 else 0
/-- A number's lowest bytes, the highest first. -/
def putB : Nat → Nat → List UInt8
  | 0, _ => []
  | i + 1, n => UInt8.ofNat (n / 256 ^ i % 256) :: putB i n
theorem putB_length (i n : Nat) : (putB i n).length = i := by induction i <;> simp_all [putB]
def putL (n : Nat) (size : Int) : List UInt8 := if size < 1 ∨ 4 < size then [] else putB size.toNat n
theorem putB_val : ∀ i n, beN (putB i n) = n % 256 ^ i := by
  intro i n
  have key : ∀ i a, (putB i n).foldl (fun n c => n * 256 + c.toNat) a = a * 256 ^ i + n % 256 ^ i := by
    intro i
    induction i with
    | zero => intro a; simp [putB, Nat.mod_one]
    | succ i ih =>
      intro a
      have h1 : n % 256 ^ (i + 1) = (n / 256 ^ i % 256) * 256 ^ i + n % 256 ^ i := by
        rw [Nat.pow_succ, Nat.mod_mul]; rw [Nat.mul_comm (256 ^ i)]; omega
      have h2 : (UInt8.ofNat (n / 256 ^ i % 256)).toNat = n / 256 ^ i % 256 := by simp
      simp only [putB, List.foldl_cons, ih, h2]
      rw [h1, Nat.pow_succ, Nat.add_mul, Nat.mul_assoc, Nat.mul_comm 256, Nat.add_assoc]
  have := key i 0
  simpa [beN] using this
theorem u32_or_nat (a b : Nat) (ha : a < 4294967296) (hb : b < 4294967296) : bits .or .u32 (a : Int) (b : Int) = ((a ||| b : Nat) : Int) := by
  have hx : a ||| b < 2 ^ 32 := Nat.or_lt_two_pow (by omega) (by omega)
  show IntKind.u32.wrap ((BitVec.ofInt 32 (a : Int) ||| BitVec.ofInt 32 (b : Int)).toNat : Int) = _
  rw [BitVec.toNat_or, BitVec.ofInt_natCast, BitVec.ofInt_natCast, BitVec.toNat_ofNat, BitVec.toNat_ofNat, Nat.mod_eq_of_lt (by omega), Nat.mod_eq_of_lt (by omega), IntKind.wrap_u32]
  omega
theorem or8 (x b : Nat) (hx : x < 16777216) (hb : b < 256) : bits .or .u32 ((x : Int) * 256 % 4294967296) (b : Int) = ((x * 256 + b : Nat) : Int) := by
  have h1 : (x : Int) * 256 % 4294967296 = ((x * 256 : Nat) : Int) := by omega
  rw [h1, u32_or_nat _ _ (by omega) (by omega)]
  have := Nat.two_pow_add_eq_or_of_lt (i := 8) (b := b) (by omega) x
  have e : 2 ^ 8 * x = x * 256 := by omega
  rw [e] at this
  rw [this]
theorem beN_small (l : List UInt8) (n k : Nat) (h : n ≤ k) : beN (l.take n) < 256 ^ k := by
  have h1 := beN_lt (l.take n)
  have h2 : 256 ^ (l.take n).length ≤ 256 ^ k := Nat.pow_le_pow_right (by omega) (by have := List.length_take_le n l; omega)
  omega
theorem byte_at (n i : Nat) : Value.int .u8 ((n : Int) / 2 ^ (8 * i) % 256) = .int .u8 ((UInt8.ofNat (n / 256 ^ i % 256)).toNat : Int) := by
  have h : ((UInt8.ofNat (n / 256 ^ i % 256)).toNat : Int) = (n : Int) / 2 ^ (8 * i) % 256 := by
    have h1 : (UInt8.ofNat (n / 256 ^ i % 256)).toNat = n / 256 ^ i % 256 := by simp
    have h2 : (2 : Nat) ^ (8 * i) = 256 ^ i := by rw [Nat.pow_mul]
    rw [h1, ← h2]
    rw [Int.natCast_emod, Int.natCast_ediv, Int.natCast_pow]; rfl
  rw [h]
end Go.Proofs.YtnjbfiejgiaibaaGreatDoor
