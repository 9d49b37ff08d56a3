/- Layer 1: contracts of the functions on digits. No condition. -/
import Derived.Test.YtnjbfiejgiaibaaGreatDoorChecked
import Derived.Test.YtnjbfiejgiaibaaGreatDoorOctC4ToOctM
import Derived.WalkLawsBesides
import Derived.WalkSpells
import Derived.Outline
namespace Go.Proofs.YtnjbfiejgiaibaaGreatDoor
set_option linter.all false
open Go Go.RowKit

theorem digit_any (c : Nat) (_hc : c < 256) (w : World) :
    Calls Tryz.prog 126 #[.int .u8 (c:Int)] w fun e w' => e = .returned (.int .i64 (digitM c)) ∧ w = w' := by
  go_enter Tryz.func126, Tryz.ntmps126
  go_wp2
  all_goals (go_ret; exact ⟨ret_int (by unfold digitM; split <;> (try split) <;> (try split) <;> omega), rfl⟩)
theorem digit_u8 (c : UInt8) (w : World) :
    Calls Tryz.prog 126 #[.int .u8 (c.toNat:Int)] w fun e w' => e = .returned (.int .i64 (digitM c.toNat)) ∧ w = w' := digit_any _ c.toNat_lt _
theorem refDigit_any (c : Nat) (_hc : c < 256) (w : World) :
    Calls Tryz.prog 86 #[.int .u8 (c:Int)] w fun e w' => e = .returned (.bool (decide (48 ≤ c ∧ c ≤ 57))) ∧ w = w' := by
  go_enter Tryz.func86, Tryz.ntmps86
  go_wp2
  all_goals (go_ret; exact ⟨ret_bool (by first | (rw [Bool.eq_iff_iff]; simp; omega) | (simp; omega)), rfl⟩)
theorem number_any (s : ByteArray) (base : Int) (hb : base = 10 ∨ base = 16) (w : World) (hs : s.size ≤ maxLen) :
    Calls Tryz.prog 110 #[.string s, .int .i64 base] w fun e w' => e = .returned (.tuple #[.int .i64 (numV base s.toList), .int .i64 (numE base s.toList)]) ∧ w = w' := by
  unfold maxLen at hs
  have hb1 : 1 ≤ base := by omega
  have hb2 : base ≤ 16 := by omega
  clear hb
  by_cases h0 : s.size = 0
  · have Hf := Lib.hid (num_nil base s.toList (empty_yes s h0))
    have he : s.toList.isEmpty = true := by rw [empty_yes s h0]; rfl
    clear h0
    go_enter Tryz.func110, Tryz.ntmps110
    go_wp2
    go_ret2
    exact ⟨ret_int2 Hf.out.1.symm Hf.out.2.symm, rfl⟩
  · have he := empty_no s h0
    have hpos : 0 < s.size := by omega
    clear h0
    go_enter Tryz.func110, Tryz.ntmps110
    go_wp2
    go_loop [13] (fun i => ∃ k : Nat, k ≤ s.size ∧ i = .int .i64 k ∧ badM base (s.toList.take k) = false) (fun i => s.size - (intOf i).toNat)
    case atStart => exact ⟨0, Nat.zero_le _, rfl, by simp [badM]⟩
    case round =>
      obtain ⟨k, hk, rfl, hbad⟩ := hrel
      have Hbad := Lib.hid hbad; clear hbad
      have He := Lib.hid he
      by_cases hlt : k < s.size
      · have Ht := Lib.hid (take_snoc s k hlt)
        go_wp2_with (go_at_call 126; refine (digit_u8 _ _).mono ?_; rintro e w' ⟨rfl, rfl⟩)
        · have hd : base ≤ digitM s[k].toNat := by assumption
          go_ret2
          have Hf := num_bad base s.toList (badM_at base s k hlt hd)
          exact ⟨ret_int2 Hf.1.symm Hf.2.symm, rfl⟩
        · have hd : digitM s[k].toNat < base := by assumption
          go_round
          case rel => exact ⟨k + 1, by omega, by go_num, by rw [Ht.out, badM_snoc, Hbad.out]; simp; omega⟩
          case measure => simp [intOf]; omega
      · have Hb : Hid (badM base s.toList = false) := by have := Hbad.out; rwa [take_full s k (by omega)] at this
        clear Hbad
        go_wp2
        go_loop [7, 25] (fun n i => ∃ j : Nat, j ≤ s.size ∧ i = .int .i64 j ∧ n = .int .i64 (valM base (s.toList.take j)) ∧ valM base (s.toList.take j) ≤ 1099511627776) (fun _ i => s.size - (intOf i).toNat)
        case atStart => exact ⟨0, Nat.zero_le _, rfl, by simp [valM], by simp [valM]⟩
        case round =>
          obtain ⟨j, hj, rfl, rfl, hle⟩ := hrel
          have h0 := valM_nonneg base hb1 (s.toList.take j)
          by_cases hlt : j < s.size
          · have Ht : Hid (valM base (s.toList.take (j + 1)) = valM base (s.toList.take j) * base + digitM s[j].toNat) := by rw [take_snoc s j hlt]; exact valM_snoc _ _ _
            have hd := digitM_bd s[j].toNat
            have hm1 : valM base (s.toList.take j) * base ≤ 1099511627776 * 16 := Int.mul_le_mul hle hb2 (by omega) (by omega)
            have hm0 : 0 ≤ valM base (s.toList.take j) * base := Int.mul_nonneg h0 (by omega)
            go_wp2_with (go_at_call 126; refine (digit_u8 _ _).mono ?_; rintro e w' ⟨rfl, rfl⟩)
            · have hg : 1099511627776 < valM base (s.toList.take j) * base + digitM s[j].toNat := by assumption
              go_ret2
              have Hf := num_big base s.toList He.out Hb.out (by have := valM_take base hb1 s.toList (j + 1); rw [Ht.out] at this; omega)
              exact ⟨ret_int2 Hf.1.symm Hf.2.symm, rfl⟩
            · go_round
              case rel => exact ⟨j + 1, by omega, by go_num, by rw [Ht.out], by rw [Ht.out]; omega⟩
              case measure => simp [intOf]; omega
          · have Hf := Lib.hid (num_ok base s.toList He.out Hb.out (by rw [take_full s j (by omega)] at hle; exact hle))
            have Hg : Hid (s.toList.take j = s.toList) := take_full s j (by omega)
            go_wp2
            go_ret2
            exact ⟨ret_int2 (by rw [Hg.out]; exact Hf.out.1.symm) Hf.out.2.symm, rfl⟩

theorem worth_any (c : Nat) (hc : c < 256) (w : World) :
    Calls Tryz.prog 111 #[.int .u8 (c:Int)] w fun e w' => e = .returned (.int .i64 (worthM c)) ∧ w = w' := by
  by_cases hd : 48 ≤ c ∧ c ≤ 57
  all_goals
    have hd' : decide (48 ≤ c ∧ c ≤ 57) = decide (48 ≤ c ∧ c ≤ 57) := rfl
    first | rw [decide_eq_true hd] at hd' | rw [decide_eq_false hd] at hd'
    have Hd := Lib.hid hd; clear hd
    go_enter Tryz.func111, Tryz.ntmps111
    go_wp2_with (go_at_call 86; refine (refDigit_any _ hc _).mono ?_; rintro e w' ⟨rfl, rfl⟩)
    all_goals (go_ret; exact ⟨ret_int (by have := Hd.out; unfold worthM; split <;> (try split) <;> (try split) <;> omega), rfl⟩)
theorem worth_u8 (c : UInt8) (w : World) :
    Calls Tryz.prog 111 #[.int .u8 (c.toNat:Int)] w fun e w' => e = .returned (.int .i64 (worthM c.toNat)) ∧ w = w' := worth_any _ c.toNat_lt _

theorem decimal_any (s : ByteArray) (w : World) (hs : s.size ≤ maxLen) :
    Calls Tryz.prog 83 #[.string s] w fun e w' => e = .returned (.tuple #[.int .i64 (numV 10 s.toList), .int .i64 (numE 10 s.toList)]) ∧ w = w' := by
  go_enter Tryz.func83, Tryz.ntmps83
  go_wp2_with (go_at_call 110; refine (number_any _ _ (.inl rfl) _ hs).mono ?_; rintro e w' ⟨rfl, rfl⟩)
  go_ret2
  exact ⟨rfl, rfl⟩
theorem refnumber_any (s : ByteArray) (base : Int) (hb : base = 10 ∨ base = 16) (w : World) (hs : s.size ≤ maxLen) :
    Calls Tryz.prog 85 #[.string s, .int .i64 base] w fun e w' => e = .returned (.tuple #[.int .i64 (numV base s.toList), .int .i64 (numE base s.toList)]) ∧ w = w' := by
  unfold maxLen at hs
  have hb1 : 1 ≤ base := by omega
  have hb2 : base ≤ 16 := by omega
  clear hb
  have hsz : ((s.size : Int) == 0) = decide (s.size = 0) := by rw [Bool.eq_iff_iff]; simp
  have Hsz := Lib.hid hsz; clear hsz
  go_enter Tryz.func85, Tryz.ntmps85
  go_wp2
  go_loop [6, 7] (fun n i => ∃ (k : Nat) (m : Int), k ≤ s.size ∧ i = .int .i64 k ∧ n = .int .i64 m ∧ badM base (s.toList.take k) = false ∧ 0 ≤ m ∧ m ≤ 17592186044416 + 16 ∧ Hid (m ≤ 1099511627776 → valM base (s.toList.take k) = m) ∧ Hid (1099511627776 < m → 1099511627776 < valM base (s.toList.take k))) (fun _ i => s.size - (intOf i).toNat)
  case atStart => exact ⟨0, 0, Nat.zero_le _, rfl, rfl, by simp [badM], by omega, by omega, fun _ => by simp [valM], fun h => by omega⟩
  case round =>
    obtain ⟨k, m, hk, rfl, rfl, hbad, hm0, hm1, hlo, hhi⟩ := hrel
    have Hbad := Lib.hid hbad; clear hbad
    by_cases hlt : k < s.size
    · have Ht := Lib.hid (take_snoc s k hlt)
      have Hge := Lib.hid (worthM_ge s[k].toNat base hb2)
      have Hlt2 := Lib.hid (worthM_lt s[k].toNat base hb2)
      have hdb := worthM_bd s[k].toNat
      have Hdb := Lib.hid (digitM_bd s[k].toNat)
      have Hn := Lib.hid (valM_nonneg base hb1 (s.toList.take k))
      by_cases hm : m ≤ 1099511627776
      · have hmb1 : m * base ≤ 1099511627776 * 16 := Int.mul_le_mul hm hb2 (by omega) (by omega)
        have hmb0 : 0 ≤ m * base := Int.mul_nonneg hm0 (by omega)
        go_wp2_with (go_at_call 111; refine (worth_u8 _ _).mono ?_; rintro e w' ⟨rfl, rfl⟩)
        · have hd : base ≤ worthM s[k].toNat := by assumption
          go_ret2
          have Hf := num_bad base s.toList (badM_at base s k hlt (by rw [Hge.out] at hd; exact hd))
          exact ⟨ret_int2 Hf.1.symm Hf.2.symm, rfl⟩
        · have hd : worthM s[k].toNat < base := by assumption
          have he := Hlt2.out hd
          have hv : valM base (s.toList.take (k + 1)) = m * base + worthM s[k].toNat := by rw [Ht.out, valM_snoc, hlo.out hm, he]
          go_round
          case rel => exact ⟨k + 1, _, by omega, by go_num, rfl, by rw [Ht.out, badM_snoc, Hbad.out]; simp; omega, by omega, by omega, fun _ => hv, fun _ => by omega⟩
          case measure => simp [intOf]; omega
      · go_wp2_with (go_at_call 111; refine (worth_u8 _ _).mono ?_; rintro e w' ⟨rfl, rfl⟩)
        · have hd : base ≤ worthM s[k].toNat := by assumption
          go_ret2
          have Hf := num_bad base s.toList (badM_at base s k hlt (by rw [Hge.out] at hd; exact hd))
          exact ⟨ret_int2 Hf.1.symm Hf.2.symm, rfl⟩
        · have hd : worthM s[k].toNat < base := by assumption
          have he := Hlt2.out hd
          have hv : valM base (s.toList.take (k + 1)) = valM base (s.toList.take k) * base + worthM s[k].toNat := by rw [Ht.out, valM_snoc, he]
          have h1 := Int.mul_le_mul_of_nonneg_left hb1 Hn.out
          have h2 := hhi.out (by omega)
          go_round
          case rel => exact ⟨k + 1, _, by omega, by go_num, rfl, by rw [Ht.out, badM_snoc, Hbad.out]; simp; omega, by omega, by omega, fun _ => by omega, fun _ => by omega⟩
          case measure => simp [intOf]; omega
    · have Ht := Lib.hid (take_full s k (by omega))
      by_cases h0 : s.size = 0
      · have hz : ((s.size : Int) == 0) = true := by simp [h0]
        have Hf := Lib.hid (num_nil base s.toList (empty_yes s h0))
        clear h0
        go_wp2
        go_ret2
        exact ⟨ret_int2 Hf.out.1.symm Hf.out.2.symm, rfl⟩
      · have hz : ((s.size : Int) == 0) = false := by simp [h0]
        have Hbad2 : badM base s.toList = false := by rw [← Ht.out]; exact Hbad.out
        by_cases hm : m ≤ 1099511627776
        · have hv := hlo.out hm
          rw [Ht.out] at hv
          have Hf := Lib.hid (num_ok base s.toList (empty_no s h0) Hbad2 (by omega))
          have Hv := Lib.hid hv
          clear h0 hv Hbad2
          go_wp2
          go_ret2
          exact ⟨ret_int2 (by rw [Hf.out.1, Hv.out]) Hf.out.2.symm, rfl⟩
        · have hv := hhi.out (by omega)
          rw [Ht.out] at hv
          have Hf := Lib.hid (num_big base s.toList (empty_no s h0) Hbad2 (by omega))
          clear h0 hv Hbad2
          go_wp2
          go_ret2
          exact ⟨ret_int2 Hf.out.1.symm Hf.out.2.symm, rfl⟩

theorem refdecimal_any (s : ByteArray) (w : World) (hs : s.size ≤ maxLen) :
    Calls Tryz.prog 62 #[.string s] w fun e w' => e = .returned (.tuple #[.int .i64 (numV 10 s.toList), .int .i64 (numE 10 s.toList)]) ∧ w = w' := by
  go_enter Tryz.func62, Tryz.ntmps62
  go_wp2_with (go_at_call 85; refine (refnumber_any _ _ (.inl rfl) _ hs).mono ?_; rintro e w' ⟨rfl, rfl⟩)
  go_ret2
  exact ⟨rfl, rfl⟩
end Go.Proofs.YtnjbfiejgiaibaaGreatDoor
