/- Layer 1: contracts of the functions that write digits. No condition. -/
import Derived.Test.YtnjbfiejgiaibaaGreatDoorOct
import Derived.Test.YtnjbfiejgiaibaaGreatDoorMemToGl
import Derived.Test.YtnjbfiejgiaibaaGreatDoorFa
import Derived.Test.YtnjbfiejgiaibaaGreatDoorOctC4ToOctM
import Derived.Test.YtnjbfiejgiaibaaGreatDoorShelf
namespace Go.Proofs.YtnjbfiejgiaibaaGreatDoor
set_option linter.all false
open Go Go.RowKit
set_option maxRecDepth 20000

theorem hexS_at (d : Nat) (h : d < ({ data := #[48, 49, 50, 51, 52, 53, 54, 55, 56, 57, 97, 98, 99, 100, 101, 102] } : ByteArray).size) : ({ data := #[48, 49, 50, 51, 52, 53, 54, 55, 56, 57, 97, 98, 99, 100, 101, 102] } : ByteArray)[d] = chM d := by
  have : ∀ d : Fin 16, ({ data := #[48, 49, 50, 51, 52, 53, 54, 55, 56, 57, 97, 98, 99, 100, 101, 102] } : ByteArray)[d.val]'d.isLt = chM d.val := by decide
  exact this ⟨d, h⟩
theorem uint8_info' : (Tryz.prog.info? 5).map (fun i => i.size) = some 1 := by kernel_rfl
theorem uint8_ex : ∃ i, Tryz.prog.info? 5 = some i ∧ i.size = 1 := by
  have h := uint8_info'
  cases e : Tryz.prog.info? 5 with
  | none => rw [e] at h; simp at h
  | some i => rw [e] at h; exact ⟨i, rfl, by simpa using h⟩
theorem digits_any (n0 : Nat) (hn : n0 < 9223372036854775808) (b : Nat) (hb : b = 10 ∨ b = 16) (w : World) :
    Calls Tryz.prog 69 #[.int .i64 n0, .int .i64 b] w fun e w' => e = .returned (.string (S (digsM b n0))) ∧ Below w.heap.size w w' := by
  have hb8 : 8 ≤ b := by omega
  have hb16 : b ≤ 16 := by omega
  clear hb
  obtain ⟨i8, hi8, hs8⟩ := uint8_ex
  have Hi8 := Lib.hid hi8
  have Hs8 := Lib.hid hs8
  clear hi8 hs8
  go_enter Tryz.func69, Tryz.ntmps69
  go_wp2
  go_loopw [0, 6] (fun n at_ wr => ∃ (m : Nat) (suf : List UInt8) (cs : List Value), n = .int .i64 m ∧ at_ = .int .i64 (64 - suf.length : Nat) ∧ suf.length ≤ 20 ∧
    Hid (digsM b n0 = digsM b m ++ suf) ∧ Hid (m * 8 ^ suf.length < 9223372036854775808) ∧ m < 9223372036854775808 ∧ Below w.heap.size w wr ∧ Whole wr w.heap.size 113 cs ∧ Hid (cs.length = 64) ∧ Hid (cs.drop (64 - suf.length) = suf.map U)) (fun n _ _ => (intOf n).toNat)
  case atStart => exact ⟨n0, [], List.replicate 64 (.int .u8 0), rfl, rfl, by simp, (by simp : digsM b n0 = digsM b n0 ++ []), (by simpa using hn : n0 * 8 ^ 0 < _), hn, (Below.refl _ _).alloc (Nat.le_refl _) _, Whole.new w _ _, (by simp : (List.replicate 64 (Value.int .u8 0)).length = 64), by rfl⟩
  case round =>
    obtain ⟨m, suf, cs, rfl, rfl, hl, h1, h2, hm, hbel, hwh, h4, h5⟩ := hrel
    have hcell : ∃ old, wr.cell? ⟨w.heap.size, 64 - suf.length - 1, none⟩ = some old := ⟨_, (hwh.at_ _).trans (List.getElem?_eq_getElem (by rw [h4.out]; omega))⟩
    obtain ⟨old, hcell⟩ := hcell
    have hfree := hwh.free (64 - suf.length - 1)
    have hi0 : 0 ≤ (m : Int) % b ∧ (m : Int) % b < 16 := by have := Int.emod_nonneg m (show (b : Int) ≠ 0 by omega); have := Int.emod_lt_of_pos m (show (0 : Int) < b by omega); omega
    have hd0 : 0 ≤ (m : Int) / b := Int.ediv_nonneg (by omega) (by omega)
    have hd1 : (m : Int) / b ≤ 9223372036854775807 := by have := Int.ediv_le_self (a := (m : Int)) b (by omega); omega
    have Hdig := Lib.hid (digsM_eq b (by omega) m)
    have hmod : m % b < 16 := by have := Nat.mod_lt m (show b > 0 by omega); omega
    have hch := hexS_at (m % b) hmod
    have hput := hwh.put (64 - suf.length - 1) (U (chM (m % b)))
    have hlen : 64 - suf.length - 1 < 64 := by omega
    have hsl := sliceAt_l (P := Tryz.prog) 113 5 64 Tryz.underlying113 i8 Hi8.out Hs8.out w.heap.size (64 - suf.length - 1) ((64 - suf.length : Nat) - 1 : Int) (by omega) hlen
    have hlen2 : 64 - (64 - suf.length - 1) = suf.length + 1 := by omega
    rw [hlen2] at hsl
    have hdrop : (cs.set (64 - suf.length - 1) (U (chM (m % b)))).drop (64 - suf.length - 1) = (chM (m % b) :: suf).map U := by
      have := h4.out
      rw [List.drop_eq_getElem_cons (by simp; omega), List.getElem_set_self, List.drop_set_of_lt (by omega), show 64 - suf.length - 1 + 1 = 64 - suf.length by omega, h5.out]; rfl
    have hrd := Rd.of_whole (l := chM (m % b) :: suf) hput (64 - suf.length - 1) (B := w.heap.size + 1) (by omega) (fun i hi => by
      rw [← List.getElem?_drop, hdrop, List.getElem?_map, List.getElem?_eq_getElem hi]; rfl)
    have Hdrop : Hid ((cs.set (64 - suf.length - 1) (U (chM (m % b)))).drop (64 - (chM (m % b) :: suf).length) = (chM (m % b) :: suf).map U) := by
      rw [show 64 - (chM (m % b) :: suf).length = 64 - suf.length - 1 by simp; omega]; exact hdrop
    clear hdrop
    have hbel2 : Below w.heap.size w (wr.setCell ⟨w.heap.size, 64 - suf.length - 1, none⟩ (U (chM (m % b)))) := hbel.setCell (Nat.le_refl _) _
    have hcv := conv_rd (P := Tryz.prog) hrd 22 9 5 (suf.length + 1) Tryz.underlying22 Tryz.underlying5 Tryz.underlying9
    rw [List.length_cons] at hcv
    by_cases hlt : m < b
    · have hz : ((m : Int) / b == 0) = true := by rw [beq_iff_eq]; exact Int.ediv_eq_zero_of_lt (by omega) (by omega)
      have Hfin : Hid (digsM b n0 = chM (m % b) :: suf) := by rw [h1.out, Hdig.out, if_pos hlt, Nat.mod_eq_of_lt hlt]; rfl
      clear hlen2
      go_wp2
      go_ret
      rw [Hfin.out]
      exact ⟨rfl, hbel2⟩
    · have hz : ((m : Int) / b == 0) = false := by
        rw [beq_eq_false_iff_ne]; intro h
        have : 1 ≤ (m : Int) / b := Int.le_ediv_of_mul_le (by omega) (by omega)
        omega
      have hm1 : 1 ≤ m / b := (Nat.le_div_iff_mul_le (by omega)).2 (by omega)
      have Hp := Lib.hid (pow8_step b suf.length m hb8 h2.out)
      have hl2 : suf.length + 1 ≤ 20 := pow8 _ (m / b) hm1 Hp.out
      have Hfin : Hid (digsM b n0 = digsM b (m / b) ++ chM (m % b) :: suf) := Lib.hid (by rw [h1.out, Hdig.out, if_neg hlt]; simp)
      have hmb : m / b < m := Nat.div_lt_self (by omega) (by omega)
      clear hlen2
      go_wp2
      go_roundw
      case rel => exact ⟨m / b, chM (m % b) :: suf, _, by go_num, by rw [show ((64 - (chM (m % b) :: suf).length : Nat) : Int) = ((64 - suf.length : Nat) : Int) - 1 by simp; omega], hl2, Hfin, Hp, by omega, hbel2, hput, by (show (cs.set _ _).length = 64; rw [List.length_set]; exact h4.out), Hdrop⟩
      case measure => simp [intOf]; omega

theorem digits_neg (n0 : Int) (hn : n0 < 0) (b : Int) (w : World) :
    Calls Tryz.prog 69 #[.int .i64 n0, .int .i64 b] w fun e w' => e = .returned (.string (S [])) ∧ Below w.heap.size w w' := by
  go_enter Tryz.func69, Tryz.ntmps69
  go_wp2
  go_ret
  exact ⟨rfl, Below.refl _ _⟩
theorem digits_all (n : Int) (hn : n ≤ 9223372036854775807) (b : Nat) (hb : b = 10 ∨ b = 16) (w : World) :
    Calls Tryz.prog 69 #[.int .i64 n, .int .i64 b] w fun e w' => e = .returned (.string (S (digs b n))) ∧ Below w.heap.size w w' := by
  unfold digs
  rcases Int.lt_or_le n 0 with h | h
  · rw [if_pos h]; exact digits_neg n h _ w
  · rw [if_neg (by omega)]
    have := digits_any n.toNat (by omega) b hb w
    rwa [Int.toNat_of_nonneg h] at this
theorem octDigits_all (n : Int) (hn : n ≤ 9223372036854775807) (w : World) :
    Calls Tryz.prog 41 #[.int .i64 n] w fun e w' => e = .returned (.string (S (digs 10 n))) ∧ Below w.heap.size w w' := by
  go_enter Tryz.func41, Tryz.ntmps41
  go_wp2_with (go_at_call 69; refine (digits_all _ hn 10 (.inl rfl) _).mono ?_; rintro e w' ⟨rfl, hb⟩)
  go_ret
  exact ⟨rfl, hb⟩
end Go.Proofs.YtnjbfiejgiaibaaGreatDoor

/- Layer 10: octets' contracts as abstract ones. No condition. -/
namespace Go.Proofs.YtnjbfiejgiaibaaGreatDoor
set_option linter.all false
open Go Go.RowKit
theorem es1 {G : Gh} {w : World} {m : Mem} {l : List UInt8} {us : List Value} (h : RepDs G w m [.v (.str l)] us) : us = [.string (S l)] := by
  match us, h.1 with
  | [u], _ => rw [rep_str (h.2 0 _ u rfl rfl)]
theorem con_Token {l : List UInt8} (hl : l.length ≤ maxLen) : Con Tryz.prog 47 [.v (.str l)] [] 0 (.ret (.v (.bool (tokenM l)))) [] :=
  con_pure fun G w us _ hA => by
    obtain rfl := es1 hA
    refine (Token_any (S l) w (by rw [S_size]; exact hl)).mono fun e w' ⟨he, hw⟩ => ?_
    subst hw
    exact ⟨_, he, fun m => by rw [S_toList]; exact mk_bool _, Below.refl _ _⟩
theorem con_rToken {l : List UInt8} (hl : l.length ≤ maxLen) : Con Tryz.prog 33 [.v (.str l)] [] 0 (.ret (.v (.bool (tokenM l)))) [] :=
  con_pure fun G w us _ hA => by
    obtain rfl := es1 hA
    refine (refToken_any (S l) w (by rw [S_size]; exact hl)).mono fun e w' ⟨he, hw⟩ => ?_
    subst hw
    exact ⟨_, he, fun m => by rw [S_toList]; exact mk_bool _, Below.refl _ _⟩
theorem con_Value {l : List UInt8} (hl : l.length ≤ maxLen) : Con Tryz.prog 55 [.v (.str l)] [] 0 (.ret (.v (.bool (valueM l)))) [] :=
  con_pure fun G w us _ hA => by
    obtain rfl := es1 hA
    refine (Value_any (S l) w (by rw [S_size]; exact hl)).mono fun e w' ⟨he, hw⟩ => ?_
    exact ⟨_, he, fun m => by rw [S_toList]; exact mk_bool _, hw⟩
theorem con_rValue {l : List UInt8} (hl : l.length ≤ maxLen) : Con Tryz.prog 13 [.v (.str l)] [] 0 (.ret (.v (.bool (valueM l)))) [] :=
  con_pure fun G w us _ hA => by
    obtain rfl := es1 hA
    refine (refValue_any (S l) w (by rw [S_size]; exact hl)).mono fun e w' ⟨he, hw⟩ => ?_
    subst hw
    exact ⟨_, he, fun m => by rw [S_toList]; exact mk_bool _, Below.refl _ _⟩
theorem con_Lower {l : List UInt8} (hl : l.length ≤ 140737488351232) : Con Tryz.prog 56 [.v (.str l)] [] 0 (.ret (.v (.str (lowM l)))) [] :=
  con_pure fun G w us _ hA => by
    obtain rfl := es1 hA
    refine (Lower_any (S l) w (by rw [S_size]; exact hl)).mono fun e w' ⟨he, hw⟩ => ?_
    exact ⟨_, he, fun m => by rw [S_toList]; exact mk_str _, hw⟩
theorem con_rLower {l : List UInt8} (hl : l.length ≤ 140737488351232) : Con Tryz.prog 36 [.v (.str l)] [] 0 (.ret (.v (.str (lowM l)))) [] :=
  con_pure fun G w us _ hA => by
    obtain rfl := es1 hA
    refine (refLower_any (S l) w (by rw [S_size]; exact hl)).mono fun e w' ⟨he, hw⟩ => ?_
    exact ⟨_, he, fun m => by rw [S_toList]; exact mk_str _, hw⟩
theorem es2 {G : Gh} {w : World} {m : Mem} {l r : List UInt8} {us : List Value} (h : RepDs G w m [.v (.str l), .v (.str r)] us) : us = [.string (S l), .string (S r)] := by
  match us, h.1 with
  | [u, v], _ => rw [rep_str (h.2 0 _ u rfl rfl), rep_str (h.2 1 _ v rfl rfl)]
theorem con_SameO {l r : List UInt8} (hl : l.length ≤ 140737488351232) (hr : r.length ≤ 140737488351232) : Con Tryz.prog 84 [.v (.str l), .v (.str r)] [] 0 (.ret (.v (.bool (decide (lowM l = lowM r))))) [] :=
  con_pure fun G w us _ hA => by
    obtain rfl := es2 hA
    refine (Same_any (S l) (S r) w (by rw [S_size]; exact hl) (by rw [S_size]; exact hr)).mono fun e w' ⟨he, hw⟩ => ?_
    exact ⟨_, he, fun m => by rw [S_toList, S_toList]; exact mk_bool _, hw⟩
end Go.Proofs.YtnjbfiejgiaibaaGreatDoor
