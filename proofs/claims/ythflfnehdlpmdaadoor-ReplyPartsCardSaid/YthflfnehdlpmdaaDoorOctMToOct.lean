/- Layer 1 in plain Lean: what digits say. No program. No condition. -/
import Derived.Test.YthflfnehdlpmdaaDoorBaseToGl
import Derived.Test.YthflfnehdlpmdaaDoorChecked
import Derived.WalkLawsBesides
import Derived.WalkSpells
import Derived.Outline
namespace Go.Proofs.YthflfnehdlpmdaaDoor
set_option linter.all false
open Go Go.RowKit

def digitM (c : Nat) : Int := if 48 ≤ c ∧ c ≤ 57 then (c:Int) - 48 else if 97 ≤ c ∧ c ≤ 102 then (c:Int) - 87 else if 65 ≤ c ∧ c ≤ 70 then (c:Int) - 55 else 16
theorem digitM_bd (c : Nat) : 0 ≤ digitM c ∧ digitM c ≤ 16 := by unfold digitM; split <;> (try split) <;> (try split) <;> omega
def valM (base : Int) (l : List UInt8) : Int := l.foldl (fun n c => n * base + digitM c.toNat) 0
def badM (base : Int) (l : List UInt8) : Bool := l.any (fun c => decide (base ≤ digitM c.toNat))
/-- What a text says in a base: the number, and the error's number. -/
def numV (base : Int) (l : List UInt8) : Int := if l.isEmpty || badM base l || decide (1099511627776 < valM base l) then 0 else valM base l
def numE (base : Int) (l : List UInt8) : Int := if l.isEmpty || badM base l then 10 else if 1099511627776 < valM base l then 11 else 0
theorem valM_snoc (base : Int) (l : List UInt8) (c : UInt8) : valM base (l ++ [c]) = valM base l * base + digitM c.toNat := by simp [valM]
theorem badM_snoc (base : Int) (l : List UInt8) (c : UInt8) : badM base (l ++ [c]) = (badM base l || decide (base ≤ digitM c.toNat)) := by simp [badM]
theorem badM_take (base : Int) (l : List UInt8) (k : Nat) (h : badM base (l.take k) = true) : badM base l = true := by
  unfold badM at *; rw [List.any_eq_true] at *; obtain ⟨x, hx, hp⟩ := h; exact ⟨x, List.mem_of_mem_take hx, hp⟩
theorem badM_at (base : Int) (s : ByteArray) (k : Nat) (h : k < s.size) (hd : base ≤ digitM s[k].toNat) : badM base s.toList = true :=
  badM_take base _ (k + 1) (by rw [take_snoc s k h, badM_snoc]; simp [hd])
theorem valM_nonneg (base : Int) (hb : 1 ≤ base) (l : List UInt8) : 0 ≤ valM base l := by
  induction l using snoc_ind with
  | h0 => simp [valM]
  | h l c ih => rw [valM_snoc]; have := (digitM_bd c.toNat).1; have := Int.mul_nonneg ih (show 0 ≤ base by omega); omega
theorem valM_append (base : Int) (hb : 1 ≤ base) (l r : List UInt8) : valM base l ≤ valM base (l ++ r) := by
  induction r using snoc_ind with
  | h0 => simp
  | h r c ih =>
    rw [← List.append_assoc, valM_snoc]
    have := (digitM_bd c.toNat).1
    have h1 := valM_nonneg base hb (l ++ r)
    have := Int.mul_le_mul_of_nonneg_left hb h1
    omega
theorem valM_take (base : Int) (hb : 1 ≤ base) (l : List UInt8) (k : Nat) : valM base (l.take k) ≤ valM base l := by
  have := valM_append base hb (l.take k) (l.drop k); rwa [List.take_append_drop] at this
theorem num_nil (base : Int) (l : List UInt8) (h : l = []) : numV base l = 0 ∧ numE base l = 10 := by subst h; exact ⟨rfl, rfl⟩
theorem num_bad (base : Int) (l : List UInt8) (h : badM base l = true) : numV base l = 0 ∧ numE base l = 10 := by simp [numV, numE, h]
theorem num_big (base : Int) (l : List UInt8) (hn : l.isEmpty = false) (h : badM base l = false) (hv : 1099511627776 < valM base l) : numV base l = 0 ∧ numE base l = 11 := by
  unfold numV numE; rw [hn, h]; simp [hv]
theorem num_ok (base : Int) (l : List UInt8) (hn : l.isEmpty = false) (h : badM base l = false) (hv : valM base l ≤ 1099511627776) : numV base l = valM base l ∧ numE base l = 0 := by
  have : ¬ 1099511627776 < valM base l := by omega
  unfold numV numE; rw [hn, h]; simp [this]

end Go.Proofs.YthflfnehdlpmdaaDoor

/- Layer 1: contracts of the functions on digits. No condition. -/
namespace Go.Proofs.YthflfnehdlpmdaaDoor
set_option linter.all false
open Go Go.RowKit

theorem digit_any (c : Nat) (_hc : c < 256) (w : World) :
    Calls Tryd.prog 41 #[.int .u8 (c:Int)] w fun e w' => e = .returned (.int .i64 (digitM c)) ∧ w = w' := by
  go_enter Tryd.func41, Tryd.ntmps41
  go_wp2
  all_goals (go_ret; exact ⟨ret_int (by unfold digitM; split <;> (try split) <;> (try split) <;> omega), rfl⟩)
theorem digit_u8 (c : UInt8) (w : World) :
    Calls Tryd.prog 41 #[.int .u8 (c.toNat:Int)] w fun e w' => e = .returned (.int .i64 (digitM c.toNat)) ∧ w = w' := digit_any _ c.toNat_lt _
theorem number_any (s : ByteArray) (base : Int) (hb : base = 10 ∨ base = 16) (w : World) (hs : s.size ≤ maxLen) :
    Calls Tryd.prog 33 #[.string s, .int .i64 base] w fun e w' => e = .returned (.tuple #[.int .i64 (numV base s.toList), .int .i64 (numE base s.toList)]) ∧ w = w' := by
  unfold maxLen at hs
  have hb1 : 1 ≤ base := by omega
  have hb2 : base ≤ 16 := by omega
  clear hb
  by_cases h0 : s.size = 0
  · have Hf := Lib.hid (num_nil base s.toList (empty_yes s h0))
    have he : s.toList.isEmpty = true := by rw [empty_yes s h0]; rfl
    clear h0
    go_enter Tryd.func33, Tryd.ntmps33
    go_wp2
    go_ret2
    exact ⟨ret_int2 Hf.out.1.symm Hf.out.2.symm, rfl⟩
  · have he := empty_no s h0
    have hpos : 0 < s.size := by omega
    clear h0
    go_enter Tryd.func33, Tryd.ntmps33
    go_wp2
    go_loop [13] (fun i => ∃ k : Nat, k ≤ s.size ∧ i = .int .i64 k ∧ badM base (s.toList.take k) = false) (fun i => s.size - (intOf i).toNat)
    case atStart => exact ⟨0, Nat.zero_le _, rfl, by simp [badM]⟩
    case round =>
      obtain ⟨k, hk, rfl, hbad⟩ := hrel
      have Hbad := Lib.hid hbad; clear hbad
      have He := Lib.hid he
      by_cases hlt : k < s.size
      · have Ht := Lib.hid (take_snoc s k hlt)
        go_wp2_with (go_at_call 41; refine (digit_u8 _ _).mono ?_; rintro e w' ⟨rfl, rfl⟩)
        · have hd : base ≤ digitM s[k].toNat := by assumption
          go_ret2
          have Hf := num_bad base s.toList (badM_at base s k hlt hd)
          exact ⟨ret_int2 Hf.1.symm Hf.2.symm, rfl⟩
        · have hd : digitM s[k].toNat < base := by assumption
          go_round
          case rel => exact ⟨k + 1, by omega, by go_num, by rw [Ht.out, badM_snoc, Hbad.out]; simp; omega⟩
          case measure => simp [intOf]; omega
      · have Hb : Hid (badM base s.toList = false) := by have := Hbad.out; rwa [take_full s k (by omega)] at this
        clear Hbad
        go_wp2
        go_loop [7, 25] (fun n i => ∃ j : Nat, j ≤ s.size ∧ i = .int .i64 j ∧ n = .int .i64 (valM base (s.toList.take j)) ∧ valM base (s.toList.take j) ≤ 1099511627776) (fun _ i => s.size - (intOf i).toNat)
        case atStart => exact ⟨0, Nat.zero_le _, rfl, by simp [valM], by simp [valM]⟩
        case round =>
          obtain ⟨j, hj, rfl, rfl, hle⟩ := hrel
          have h0 := valM_nonneg base hb1 (s.toList.take j)
          by_cases hlt : j < s.size
          · have Ht : Hid (valM base (s.toList.take (j + 1)) = valM base (s.toList.take j) * base + digitM s[j].toNat) := by rw [take_snoc s j hlt]; exact valM_snoc _ _ _
            have hd := digitM_bd s[j].toNat
            have hm1 : valM base (s.toList.take j) * base ≤ 1099511627776 * 16 := Int.mul_le_mul hle hb2 (by omega) (by omega)
            have hm0 : 0 ≤ valM base (s.toList.take j) * base := Int.mul_nonneg h0 (by omega)
            go_wp2_with (go_at_call 41; refine (digit_u8 _ _).mono ?_; rintro e w' ⟨rfl, rfl⟩)
            · have hg : 1099511627776 < valM base (s.toList.take j) * base + digitM s[j].toNat := by assumption
              go_ret2
              have Hf := num_big base s.toList He.out Hb.out (by have := valM_take base hb1 s.toList (j + 1); rw [Ht.out] at this; omega)
              exact ⟨ret_int2 Hf.1.symm Hf.2.symm, rfl⟩
            · go_round
              case rel => exact ⟨j + 1, by omega, by go_num, by rw [Ht.out], by rw [Ht.out]; omega⟩
              case measure => simp [intOf]; omega
          · have Hf := Lib.hid (num_ok base s.toList He.out Hb.out (by rw [take_full s j (by omega)] at hle; exact hle))
            have Hg : Hid (s.toList.take j = s.toList) := take_full s j (by omega)
            go_wp2
            go_ret2
            exact ⟨ret_int2 (by rw [Hg.out]; exact Hf.out.1.symm) Hf.out.2.symm, rfl⟩

theorem decimal_any (s : ByteArray) (w : World) (hs : s.size ≤ maxLen) :
    Calls Tryd.prog 25 #[.string s] w fun e w' => e = .returned (.tuple #[.int .i64 (numV 10 s.toList), .int .i64 (numE 10 s.toList)]) ∧ w = w' := by
  go_enter Tryd.func25, Tryd.ntmps25
  go_wp2_with (go_at_call 33; refine (number_any _ _ (.inl rfl) _ hs).mono ?_; rintro e w' ⟨rfl, rfl⟩)
  go_ret2
  exact ⟨rfl, rfl⟩
theorem hex_any (s : ByteArray) (w : World) (hs : s.size ≤ maxLen) :
    Calls Tryd.prog 65 #[.string s] w fun e w' => e = .returned (.tuple #[.int .i64 (numV 16 s.toList), .int .i64 (numE 16 s.toList)]) ∧ w = w' := by
  go_enter Tryd.func65, Tryd.ntmps65
  go_wp2_with (go_at_call 33; refine (number_any _ _ (.inr rfl) _ hs).mono ?_; rintro e w' ⟨rfl, rfl⟩)
  go_ret2
  exact ⟨rfl, rfl⟩

end Go.Proofs.YthflfnehdlpmdaaDoor
