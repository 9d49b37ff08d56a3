/- Layer 1: contracts of the functions on digits. No condition. -/
import Derived.Test.YthflfnehdlpmdaaDoorChecked
import Derived.Test.YthflfnehdlpmdaaDoorOctM
import Derived.WalkLawsBesides
import Derived.WalkSpells
import Derived.Outline
import Derived.Test.YthflfnehdlpmdaaDoorMemToGl
namespace Go.Proofs.YthflfnehdlpmdaaDoor
set_option linter.all false
open Go Go.RowKit

theorem digit_any (c : Nat) (_hc : c < 256) (w : World) :
    Calls Tryd.prog 41 #[.int .u8 (c:Int)] w fun e w' => e = .returned (.int .i64 (digitM c)) ∧ w = w' := by
  go_enter Tryd.func41, Tryd.ntmps41
  go_wp2
  all_goals (go_ret; exact ⟨ret_int (by unfold digitM; split <;> (try split) <;> (try split) <;> omega), rfl⟩)
theorem digit_u8 (c : UInt8) (w : World) :
    Calls Tryd.prog 41 #[.int .u8 (c.toNat:Int)] w fun e w' => e = .returned (.int .i64 (digitM c.toNat)) ∧ w = w' := digit_any _ c.toNat_lt _
theorem number_any (s : ByteArray) (base : Int) (hb : base = 10 ∨ base = 16) (w : World) (hs : s.size ≤ maxLen) :
    Calls Tryd.prog 33 #[.string s, .int .i64 base] w fun e w' => e = .returned (.tuple #[.int .i64 (numV base s.toList), .int .i64 (numE base s.toList)]) ∧ w = w' := by
  unfold maxLen at hs
  have hb1 : 1 ≤ base := by omega
  have hb2 : base ≤ 16 := by omega
  clear hb
  by_cases h0 : s.size = 0
  · have Hf := Lib.hid (num_nil base s.toList (empty_yes s h0))
    have he : s.toList.isEmpty = true := by rw [empty_yes s h0]; rfl
    clear h0
    go_enter Tryd.func33, Tryd.ntmps33
    go_wp2
    go_ret2
    exact ⟨ret_int2 Hf.out.1.symm Hf.out.2.symm, rfl⟩
  · have he := empty_no s h0
    have hpos : 0 < s.size := by omega
    clear h0
    go_enter Tryd.func33, Tryd.ntmps33
    go_wp2
    go_loop [13] (fun i => ∃ k : Nat, k ≤ s.size ∧ i = .int .i64 k ∧ badM base (s.toList.take k) = false) (fun i => s.size - (intOf i).toNat)
    case atStart => exact ⟨0, Nat.zero_le _, rfl, by simp [badM]⟩
    case round =>
      obtain ⟨k, hk, rfl, hbad⟩ := hrel
      have Hbad := Lib.hid hbad; clear hbad
      have He := Lib.hid he
      by_cases hlt : k < s.size
      · have Ht := Lib.hid (take_snoc s k hlt)
        go_wp2_with (go_at_call 41; refine (digit_u8 _ _).mono ?_; rintro e w' ⟨rfl, rfl⟩)
        · have hd : base ≤ digitM s[k].toNat := by assumption
          go_ret2
          have Hf := num_bad base s.toList (badM_at base s k hlt hd)
          exact ⟨ret_int2 Hf.1.symm Hf.2.symm, rfl⟩
        · have hd : digitM s[k].toNat < base := by assumption
          go_round
          case rel => exact ⟨k + 1, by omega, by go_num, by rw [Ht.out, badM_snoc, Hbad.out]; simp; omega⟩
          case measure => simp [intOf]; omega
      · have Hb : Hid (badM base s.toList = false) := by have := Hbad.out; rwa [take_full s k (by omega)] at this
        clear Hbad
        go_wp2
        go_loop [7, 25] (fun n i => ∃ j : Nat, j ≤ s.size ∧ i = .int .i64 j ∧ n = .int .i64 (valM base (s.toList.take j)) ∧ valM base (s.toList.take j) ≤ 1099511627776) (fun _ i => s.size - (intOf i).toNat)
        case atStart => exact ⟨0, Nat.zero_le _, rfl, by simp [valM], by simp [valM]⟩
        case round =>
          obtain ⟨j, hj, rfl, rfl, hle⟩ := hrel
          have h0 := valM_nonneg base hb1 (s.toList.take j)
          by_cases hlt : j < s.size
          · have Ht : Hid (valM base (s.toList.take (j + 1)) = valM base (s.toList.take j) * base + digitM s[j].toNat) := by rw [take_snoc s j hlt]; exact valM_snoc _ _ _
            have hd := digitM_bd s[j].toNat
            have hm1 : valM base (s.toList.take j) * base ≤ 1099511627776 * 16 := Int.mul_le_mul hle hb2 (by omega) (by omega)
            have hm0 : 0 ≤ valM base (s.toList.take j) * base := Int.mul_nonneg h0 (by omega)
            go_wp2_with (go_at_call 41; refine (digit_u8 _ _).mono ?_; rintro e w' ⟨rfl, rfl⟩)
            · have hg : 1099511627776 < valM base (s.toList.take j) * base + digitM s[j].toNat := by assumption
              go_ret2
              have Hf := num_big base s.toList He.out Hb.out (by have := valM_take base hb1 s.toList (j + 1); rw [Ht.out] at this; omega)
              exact ⟨ret_int2 Hf.1.symm Hf.2.symm, rfl⟩
            · go_round
              case rel => exact ⟨j + 1, by omega, by go_num, by rw [Ht.out], by rw [Ht.out]; omega⟩
              case measure => simp [intOf]; omega
          · have Hf := Lib.hid (num_ok base s.toList He.out Hb.out (by rw [take_full s j (by omega)] at hle; exact hle))
            have Hg : Hid (s.toList.take j = s.toList) := take_full s j (by omega)
            go_wp2
            go_ret2
            exact ⟨ret_int2 (by rw [Hg.out]; exact Hf.out.1.symm) Hf.out.2.symm, rfl⟩

theorem decimal_any (s : ByteArray) (w : World) (hs : s.size ≤ maxLen) :
    Calls Tryd.prog 25 #[.string s] w fun e w' => e = .returned (.tuple #[.int .i64 (numV 10 s.toList), .int .i64 (numE 10 s.toList)]) ∧ w = w' := by
  go_enter Tryd.func25, Tryd.ntmps25
  go_wp2_with (go_at_call 33; refine (number_any _ _ (.inl rfl) _ hs).mono ?_; rintro e w' ⟨rfl, rfl⟩)
  go_ret2
  exact ⟨rfl, rfl⟩
theorem hex_any (s : ByteArray) (w : World) (hs : s.size ≤ maxLen) :
    Calls Tryd.prog 65 #[.string s] w fun e w' => e = .returned (.tuple #[.int .i64 (numV 16 s.toList), .int .i64 (numE 16 s.toList)]) ∧ w = w' := by
  go_enter Tryd.func65, Tryd.ntmps65
  go_wp2_with (go_at_call 33; refine (number_any _ _ (.inr rfl) _ hs).mono ?_; rintro e w' ⟨rfl, rfl⟩)
  go_ret2
  exact ⟨rfl, rfl⟩

end Go.Proofs.YthflfnehdlpmdaaDoor

/- Layer 1: contracts of the functions that write digits. No condition. -/
namespace Go.Proofs.YthflfnehdlpmdaaDoor
set_option linter.all false
open Go Go.RowKit
set_option maxRecDepth 20000

theorem refDigits_any (n0 : Nat) (hn : n0 < 9223372036854775808) (b : Nat) (hb : b = 10 ∨ b = 16) (w : World) :
    Calls Tryd.prog 13 #[.int .i64 n0, .int .i64 b] w fun e w' => e = .returned (.string (S (digsM b n0))) ∧ Below w.heap.size w w' := by
  have hb8 : 8 ≤ b := by omega
  have hb16 : b ≤ 16 := by omega
  clear hb
  go_enter Tryd.func13, Tryd.ntmps13
  go_wp2
  go_loopw [0, 5] (fun n s wr => ∃ (m : Nat) (suf : List UInt8), n = .int .i64 m ∧ s = .string (S suf) ∧ suf.length ≤ 21 ∧ Hid (m = 0 ∧ suf = digsM b n0 ∨ (1 ≤ m ∨ suf = []) ∧ digsM b n0 = digsM b m ++ suf) ∧ Hid (m * 8 ^ suf.length < 9223372036854775808) ∧ m < 9223372036854775808 ∧ Below w.heap.size w wr) (fun n s _ => 2 * (intOf n).toNat + (match s with | .string x => if x.size = 0 then 1 else 0 | _ => 0))
  case atStart => exact ⟨n0, [], rfl, rfl, by simp, Lib.hid (.inr ⟨.inr rfl, by simp⟩), Lib.hid (by simpa using hn), hn, Below.refl _ _⟩
  case round =>
    obtain ⟨m, suf, rfl, rfl, hl, h1, h2, hm, hbel⟩ := hrel
    have hd0 : 0 ≤ (m : Int) / b := Int.ediv_nonneg (by omega) (by omega)
    have hd1 : (m : Int) / b ≤ 9223372036854775807 := by have := Int.ediv_le_self (a := (m : Int)) b (by omega); omega
    have hi0 : 0 ≤ (m : Int) % b ∧ (m : Int) % b < 16 := by have := Int.emod_nonneg m (show (b : Int) ≠ 0 by omega); have := Int.emod_lt_of_pos m (show (0 : Int) < b by omega); omega
    have hmod : m % b < 16 := by have := Nat.mod_lt m (show b > 0 by omega); omega
    have hc48 : m % b < 10 → UInt8.ofNat ((m : Int) % b + 48).toNat = chM (m % b) := fun h => by unfold chM; rw [if_pos h]; congr 1; omega
    have hc87 : 10 ≤ m % b → UInt8.ofNat ((m : Int) % b + 87).toNat = chM (m % b) := fun h => by unfold chM; rw [if_neg (by omega)]; congr 1; omega
    have hcv48 := conv_new1 (P := Tryd.prog) wr ((m : Int) % b + 48) (by omega) (by omega) 32 9 5 1 Tryd.underlying32 Tryd.underlying5 Tryd.underlying9
    have hcv87 := conv_new1 (P := Tryd.prog) wr ((m : Int) % b + 87) (by omega) (by omega) 32 9 5 1 Tryd.underlying32 Tryd.underlying5 Tryd.underlying9
    have hdig := digsM_eq b (by omega) m
    have hdisj : (1 ≤ m ∨ suf = []) ∧ digsM b n0 = digsM b m ++ suf ∨ m = 0 ∧ suf ≠ [] ∧ suf = digsM b n0 := by
      rcases h1.out with h | h
      · rcases Classical.em (suf = []) with e | e
        · exact absurd (digs_ne b (by omega) n0) (by rw [← h.2, e]; simp)
        · exact .inr ⟨h.1, e, h.2⟩
      · exact .inl h
    rcases hdisj with ⟨hor, hout⟩ | ⟨rfl, hne, hout⟩
    · have Hfin : Hid (m / b = 0 ∧ chM (m % b) :: suf = digsM b n0 ∨ (1 ≤ m / b ∨ chM (m % b) :: suf = []) ∧ digsM b n0 = digsM b (m / b) ++ chM (m % b) :: suf) := by
        rcases Nat.lt_or_ge m b with hlt | hge
        · refine .inl ⟨Nat.div_eq_of_lt hlt, ?_⟩
          rw [hout, hdig, if_pos hlt, Nat.mod_eq_of_lt hlt]; rfl
        · refine .inr ⟨.inl ((Nat.le_div_iff_mul_le (by omega)).2 (by omega)), ?_⟩
          rw [hout, hdig, if_neg (by omega)]; simp
      have Hp := Lib.hid (pow8_step b suf.length m hb8 h2.out)
      have hl2 : suf.length + 1 ≤ 21 := by
        rcases hor with h | h
        · have := pow8 _ m h h2.out; omega
        · rw [h]; simp
      have hor2 : 1 ≤ m ∨ (S suf).toList.isEmpty = true ∧ suf.length = 0 ∧ m = 0 := by
        rcases Nat.eq_zero_or_pos m with h | h
        · rcases hor with h' | h'
          · omega
          · subst h'; exact .inr ⟨by simp, rfl, h⟩
        · exact .inl h
      clear hdig hout hor
      have hmb : m / b ≤ m := Nat.div_le_self _ _
      have hmb2 : 1 ≤ m → m / b < m := fun h => Nat.div_lt_self (by omega) (by omega)
      rcases hor2 with h0 | ⟨he, he2, rfl⟩
      · have hmb3 := hmb2 h0
        clear hmb2
        by_cases h10 : m % b < 10
        · rw [hc48 h10] at hcv48
          have h10i : (m : Int) % b < 10 := by omega
          clear hcv87 hc48 hc87
          go_wp2
          go_roundw
          case rel => exact ⟨m / b, chM (m % b) :: suf, by go_num, rfl, hl2, Hfin, Hp, by omega, hbel.alloc hbel.size _⟩
          case measure => simp [intOf]; omega
        · rw [hc87 (by omega)] at hcv87
          have h10i : 10 ≤ (m : Int) % b := by omega
          clear hcv48 hc48 hc87
          go_wp2
          go_roundw
          case rel => exact ⟨m / b, chM (m % b) :: suf, by go_num, rfl, hl2, Hfin, Hp, by omega, hbel.alloc hbel.size _⟩
          case measure => simp [intOf]; omega
      · clear hc48 hcv48 hc87 hcv87 hd0 hd1 hi0 hmod hmb hmb2
        have hcv0 := conv_new1 (P := Tryd.prog) wr 48 (by omega) (by omega) 32 9 5 1 Tryd.underlying32 Tryd.underlying5 Tryd.underlying9
        rw [Nat.zero_mod, Nat.zero_div] at Hfin
        have Hp0 : Hid (0 * 8 ^ (suf.length + 1) < 9223372036854775808) := Lib.hid (by simp)
        clear Hp
        obtain rfl : suf = [] := List.eq_nil_of_length_eq_zero he2
        clear he2
        have hb0 : (b : Int) ≠ 0 := by omega
        go_wp2
        go_roundw
        case rel => exact ⟨0, chM 0 :: [], by go_num, rfl, hl2, Hfin, Hp0, by omega, hbel.alloc hbel.size _⟩
        case measure => simp [intOf]
    · have he : suf.isEmpty = false := by simpa using hne
      have Hout := Lib.hid hout
      clear hne hout
      go_wp2
      go_ret
      rw [← Hout.out]
      exact ⟨rfl, hbel⟩
theorem refDigits_neg (n0 : Int) (hn : n0 < 0) (b : Int) (w : World) :
    Calls Tryd.prog 13 #[.int .i64 n0, .int .i64 b] w fun e w' => e = .returned (.string (S [])) ∧ Below w.heap.size w w' := by
  go_enter Tryd.func13, Tryd.ntmps13
  go_wp2
  go_ret
  exact ⟨rfl, Below.refl _ _⟩
theorem refDigits_all (n : Int) (hn : n ≤ 9223372036854775807) (b : Nat) (hb : b = 10 ∨ b = 16) (w : World) :
    Calls Tryd.prog 13 #[.int .i64 n, .int .i64 b] w fun e w' => e = .returned (.string (S (digs b n))) ∧ Below w.heap.size w w' := by
  unfold digs
  rcases Int.lt_or_le n 0 with h | h
  · rw [if_pos h]; exact refDigits_neg n h _ w
  · rw [if_neg (by omega)]
    have := refDigits_any n.toNat (by omega) b hb w
    rwa [Int.toNat_of_nonneg h] at this
end Go.Proofs.YthflfnehdlpmdaaDoor
