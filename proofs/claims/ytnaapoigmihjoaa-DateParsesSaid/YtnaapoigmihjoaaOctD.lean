/- Layer 1: contracts of the functions that write digits. No condition. -/
import Derived.Test.YtnaapoigmihjoaaOct
import Derived.Test.YtnaapoigmihjoaaMem
namespace Go.Proofs.Ytnaapoigmihjoaa
set_option linter.all false
open Go Go.RowKit

def hexS : ByteArray := { data := #[48, 49, 50, 51, 52, 53, 54, 55, 56, 57, 97, 98, 99, 100, 101, 102] }
theorem hexS_at (d : Nat) (h : d < ({ data := #[48, 49, 50, 51, 52, 53, 54, 55, 56, 57, 97, 98, 99, 100, 101, 102] } : ByteArray).size) : ({ data := #[48, 49, 50, 51, 52, 53, 54, 55, 56, 57, 97, 98, 99, 100, 101, 102] } : ByteArray)[d] = chM d := by
  have : ∀ d : Fin 16, ({ data := #[48, 49, 50, 51, 52, 53, 54, 55, 56, 57, 97, 98, 99, 100, 101, 102] } : ByteArray)[d.val]'d.isLt = chM d.val := by decide
  exact this ⟨d, h⟩
theorem uint8_info' : (Try.prog.info? 5).map (fun i => i.size) = some 1 := by kernel_rfl
theorem uint8_ex : ∃ i, Try.prog.info? 5 = some i ∧ i.size = 1 := by
  have h := uint8_info'
  cases e : Try.prog.info? 5 with
  | none => rw [e] at h; simp at h
  | some i => rw [e] at h; exact ⟨i, rfl, by simpa using h⟩
theorem refDigits_any (n0 : Nat) (hn : n0 < 9223372036854775808) (b : Nat) (hb : b = 10 ∨ b = 16) (w : World) :
    Calls Try.prog 43 #[.int .i64 n0, .int .i64 b] w fun e w' => e = .returned (.string (S (digsM b n0))) ∧ Below w.heap.size w w' := by
  have hb8 : 8 ≤ b := by omega
  have hb16 : b ≤ 16 := by omega
  clear hb
  go_enter Try.func43, Try.ntmps43
  go_wp2
  go_loopw [0, 5] (fun n s wr => ∃ (m : Nat) (suf : List UInt8), n = .int .i64 m ∧ s = .string (S suf) ∧ suf.length ≤ 21 ∧ Hid (m = 0 ∧ suf = digsM b n0 ∨ (1 ≤ m ∨ suf = []) ∧ digsM b n0 = digsM b m ++ suf) ∧ Hid (m * 8 ^ suf.length < 9223372036854775808) ∧ m < 9223372036854775808 ∧ Below w.heap.size w wr) (fun n s _ => 2 * (intOf n).toNat + (match s with | .string x => if x.size = 0 then 1 else 0 | _ => 0))
  case atStart => exact ⟨n0, [], rfl, rfl, by simp, Lib.hid (.inr ⟨.inr rfl, by simp⟩), Lib.hid (by simpa using hn), hn, Below.refl _ _⟩
  case round =>
    obtain ⟨m, suf, rfl, rfl, hl, h1, h2, hm, hbel⟩ := hrel
    have hd0 : 0 ≤ (m : Int) / b := Int.ediv_nonneg (by omega) (by omega)
    have hd1 : (m : Int) / b ≤ 9223372036854775807 := by have := Int.ediv_le_self (a := (m : Int)) b (by omega); omega
    have hi0 : 0 ≤ (m : Int) % b ∧ (m : Int) % b < 16 := by have := Int.emod_nonneg m (show (b : Int) ≠ 0 by omega); have := Int.emod_lt_of_pos m (show (0 : Int) < b by omega); omega
    have hmod : m % b < 16 := by have := Nat.mod_lt m (show b > 0 by omega); omega
    have hc48 : m % b < 10 → UInt8.ofNat ((m : Int) % b + 48).toNat = chM (m % b) := fun h => by unfold chM; rw [if_pos h]; congr 1; omega
    have hc87 : 10 ≤ m % b → UInt8.ofNat ((m : Int) % b + 87).toNat = chM (m % b) := fun h => by unfold chM; rw [if_neg (by omega)]; congr 1; omega
    have hcv48 := conv_new1 (P := Try.prog) wr ((m : Int) % b + 48) (by omega) (by omega) 54 9 5 1 Try.underlying54 Try.underlying5 Try.underlying9
    have hcv87 := conv_new1 (P := Try.prog) wr ((m : Int) % b + 87) (by omega) (by omega) 54 9 5 1 Try.underlying54 Try.underlying5 Try.underlying9
    have hdig := digsM_eq b (by omega) m
    have hdisj : (1 ≤ m ∨ suf = []) ∧ digsM b n0 = digsM b m ++ suf ∨ m = 0 ∧ suf ≠ [] ∧ suf = digsM b n0 := by
      rcases h1.out with h | h
      · rcases Classical.em (suf = []) with e | e
        · exact absurd (digs_ne b (by omega) n0) (by rw [← h.2, e]; simp)
        · exact .inr ⟨h.1, e, h.2⟩
      · exact .inl h
    rcases hdisj with ⟨hor, hout⟩ | ⟨rfl, hne, hout⟩
    · have Hfin : Hid (m / b = 0 ∧ chM (m % b) :: suf = digsM b n0 ∨ (1 ≤ m / b ∨ chM (m % b) :: suf = []) ∧ digsM b n0 = digsM b (m / b) ++ chM (m % b) :: suf) := by
        rcases Nat.lt_or_ge m b with hlt | hge
        · refine .inl ⟨Nat.div_eq_of_lt hlt, ?_⟩
          rw [hout, hdig, if_pos hlt, Nat.mod_eq_of_lt hlt]; rfl
        · refine .inr ⟨.inl ((Nat.le_div_iff_mul_le (by omega)).2 (by omega)), ?_⟩
          rw [hout, hdig, if_neg (by omega)]; simp
      have Hp := Lib.hid (pow8_step b suf.length m hb8 h2.out)
      have hl2 : suf.length + 1 ≤ 21 := by
        rcases hor with h | h
        · have := pow8 _ m h h2.out; omega
        · rw [h]; simp
      have hor2 : 1 ≤ m ∨ (S suf).toList.isEmpty = true ∧ suf.length = 0 ∧ m = 0 := by
        rcases Nat.eq_zero_or_pos m with h | h
        · rcases hor with h' | h'
          · omega
          · subst h'; exact .inr ⟨by simp, rfl, h⟩
        · exact .inl h
      clear hdig hout hor
      have hmb : m / b ≤ m := Nat.div_le_self _ _
      have hmb2 : 1 ≤ m → m / b < m := fun h => Nat.div_lt_self (by omega) (by omega)
      rcases hor2 with h0 | ⟨he, he2, rfl⟩
      · have hmb3 := hmb2 h0
        clear hmb2
        by_cases h10 : m % b < 10
        · rw [hc48 h10] at hcv48
          have h10i : (m : Int) % b < 10 := by omega
          clear hcv87 hc48 hc87
          go_wp2
          go_roundw
          case rel => exact ⟨m / b, chM (m % b) :: suf, by go_num, rfl, hl2, Hfin, Hp, by omega, hbel.alloc hbel.size _⟩
          case measure => simp [intOf]; omega
        · rw [hc87 (by omega)] at hcv87
          have h10i : 10 ≤ (m : Int) % b := by omega
          clear hcv48 hc48 hc87
          go_wp2
          go_roundw
          case rel => exact ⟨m / b, chM (m % b) :: suf, by go_num, rfl, hl2, Hfin, Hp, by omega, hbel.alloc hbel.size _⟩
          case measure => simp [intOf]; omega
      · clear hc48 hcv48 hc87 hcv87 hd0 hd1 hi0 hmod hmb hmb2
        have hcv0 := conv_new1 (P := Try.prog) wr 48 (by omega) (by omega) 54 9 5 1 Try.underlying54 Try.underlying5 Try.underlying9
        rw [Nat.zero_mod, Nat.zero_div] at Hfin
        have Hp0 : Hid (0 * 8 ^ (suf.length + 1) < 9223372036854775808) := Lib.hid (by simp)
        clear Hp
        obtain rfl : suf = [] := List.eq_nil_of_length_eq_zero he2
        clear he2
        have hb0 : (b : Int) ≠ 0 := by omega
        go_wp2
        go_roundw
        case rel => exact ⟨0, chM 0 :: [], by go_num, rfl, hl2, Hfin, Hp0, by omega, hbel.alloc hbel.size _⟩
        case measure => simp [intOf]
    · have he : suf.isEmpty = false := by simpa using hne
      have Hout := Lib.hid hout
      clear hne hout
      go_wp2
      go_ret
      rw [← Hout.out]
      exact ⟨rfl, hbel⟩
theorem refDigits_neg (n0 : Int) (hn : n0 < 0) (b : Int) (w : World) :
    Calls Try.prog 43 #[.int .i64 n0, .int .i64 b] w fun e w' => e = .returned (.string (S [])) ∧ Below w.heap.size w w' := by
  go_enter Try.func43, Try.ntmps43
  go_wp2
  go_ret
  exact ⟨rfl, Below.refl _ _⟩
theorem refDigits_all (n : Int) (hn : n ≤ 9223372036854775807) (b : Nat) (hb : b = 10 ∨ b = 16) (w : World) :
    Calls Try.prog 43 #[.int .i64 n, .int .i64 b] w fun e w' => e = .returned (.string (S (digs b n))) ∧ Below w.heap.size w w' := by
  unfold digs
  rcases Int.lt_or_le n 0 with h | h
  · rw [if_pos h]; exact refDigits_neg n h _ w
  · rw [if_neg (by omega)]
    have := refDigits_any n.toNat (by omega) b hb w
    rwa [Int.toNat_of_nonneg h] at this
end Go.Proofs.Ytnaapoigmihjoaa
