/- Layer 12: contracts of the calendar's functions. No condition. -/
import Derived.Test.YtnaapoigmihjoaaChecked
import Derived.Test.YtnaapoigmihjoaaMem
import Derived.Test.YtnaapoigmihjoaaDateM
import Derived.WalkLawsBesides
import Derived.WalkSpells
import Derived.Outline
namespace Go.Proofs.Ytnaapoigmihjoaa
set_option linter.all false
open Go Go.RowKit

theorem leap_any (y : Int) (h0 : 0 ≤ y) (w : World) :
    Calls Try.prog 32 #[.int .i64 y] w fun e w' => e = .returned (.bool (leapM y)) ∧ w = w' := by
  by_cases h4 : y % 4 = 0
  · have e4 : (y % 4 == 0) = true := by rw [beq_iff_eq]; exact h4
    by_cases h100 : y % 100 = 0
    · have e100 : (y % 100 != 0) = false := by rw [h100]; rfl
      have Hf : Hid (leapM y = (y % 400 == 0)) := Lib.hid (by unfold leapM; rw [Bool.eq_iff_iff]; simp; omega)
      clear h4 h100
      go_enter Try.func32, Try.ntmps32
      go_wp2
      go_ret
      exact ⟨ret_bool Hf.out.symm, rfl⟩
    · have e100 : (y % 100 != 0) = true := by rw [bne_iff_ne]; exact h100
      have Hf : Hid (leapM y = true) := Lib.hid (by unfold leapM; simp; omega)
      clear h4 h100
      go_enter Try.func32, Try.ntmps32
      go_wp2
      go_ret
      exact ⟨ret_bool Hf.out.symm, rfl⟩
  · have e4 : (y % 4 == 0) = false := by rw [beq_eq_false_iff_ne]; exact h4
    have Hf : Hid (leapM y = false) := Lib.hid (by unfold leapM; simp; omega)
    clear h4
    go_enter Try.func32, Try.ntmps32
    go_wp2
    go_ret
    exact ⟨ret_bool Hf.out.symm, rfl⟩
theorem begin_any (y : Int) (h0 : 1 ≤ y) (h1 : y ≤ 100000) (w : World) :
    Calls Try.prog 18 #[.int .i64 y] w fun e w' => e = .returned (.int .i64 (begM y)) ∧ w = w' := by
  have a1 : 0 ≤ (y - 1) / 4 ∧ (y - 1) / 4 ≤ 100000 := by omega
  have a2 : 0 ≤ (y - 1) / 100 ∧ (y - 1) / 100 ≤ 100000 := by omega
  have a3 : 0 ≤ (y - 1) / 400 ∧ (y - 1) / 400 ≤ 100000 := by omega
  go_enter Try.func18, Try.ntmps18
  go_wp2
  go_ret
  exact ⟨ret_int (by unfold begM; omega), rfl⟩
theorem monAt0 (w : World) : (Instr.index 53 (.agg #[.int .i64 31, .int .i64 28, .int .i64 31, .int .i64 30, .int .i64 31, .int .i64 30, .int .i64 31, .int .i64 31, .int .i64 30, .int .i64 31, .int .i64 30, .int .i64 31]) (.int .i64 0)).run Try.prog w = .ok (.int .i64 31) w := by kernel_rfl
theorem monAt1 (w : World) : (Instr.index 53 (.agg #[.int .i64 31, .int .i64 28, .int .i64 31, .int .i64 30, .int .i64 31, .int .i64 30, .int .i64 31, .int .i64 31, .int .i64 30, .int .i64 31, .int .i64 30, .int .i64 31]) (.int .i64 1)).run Try.prog w = .ok (.int .i64 28) w := by kernel_rfl
theorem monAt2 (w : World) : (Instr.index 53 (.agg #[.int .i64 31, .int .i64 28, .int .i64 31, .int .i64 30, .int .i64 31, .int .i64 30, .int .i64 31, .int .i64 31, .int .i64 30, .int .i64 31, .int .i64 30, .int .i64 31]) (.int .i64 2)).run Try.prog w = .ok (.int .i64 31) w := by kernel_rfl
theorem monAt3 (w : World) : (Instr.index 53 (.agg #[.int .i64 31, .int .i64 28, .int .i64 31, .int .i64 30, .int .i64 31, .int .i64 30, .int .i64 31, .int .i64 31, .int .i64 30, .int .i64 31, .int .i64 30, .int .i64 31]) (.int .i64 3)).run Try.prog w = .ok (.int .i64 30) w := by kernel_rfl
theorem monAt4 (w : World) : (Instr.index 53 (.agg #[.int .i64 31, .int .i64 28, .int .i64 31, .int .i64 30, .int .i64 31, .int .i64 30, .int .i64 31, .int .i64 31, .int .i64 30, .int .i64 31, .int .i64 30, .int .i64 31]) (.int .i64 4)).run Try.prog w = .ok (.int .i64 31) w := by kernel_rfl
theorem monAt5 (w : World) : (Instr.index 53 (.agg #[.int .i64 31, .int .i64 28, .int .i64 31, .int .i64 30, .int .i64 31, .int .i64 30, .int .i64 31, .int .i64 31, .int .i64 30, .int .i64 31, .int .i64 30, .int .i64 31]) (.int .i64 5)).run Try.prog w = .ok (.int .i64 30) w := by kernel_rfl
theorem monAt6 (w : World) : (Instr.index 53 (.agg #[.int .i64 31, .int .i64 28, .int .i64 31, .int .i64 30, .int .i64 31, .int .i64 30, .int .i64 31, .int .i64 31, .int .i64 30, .int .i64 31, .int .i64 30, .int .i64 31]) (.int .i64 6)).run Try.prog w = .ok (.int .i64 31) w := by kernel_rfl
theorem monAt7 (w : World) : (Instr.index 53 (.agg #[.int .i64 31, .int .i64 28, .int .i64 31, .int .i64 30, .int .i64 31, .int .i64 30, .int .i64 31, .int .i64 31, .int .i64 30, .int .i64 31, .int .i64 30, .int .i64 31]) (.int .i64 7)).run Try.prog w = .ok (.int .i64 31) w := by kernel_rfl
theorem monAt8 (w : World) : (Instr.index 53 (.agg #[.int .i64 31, .int .i64 28, .int .i64 31, .int .i64 30, .int .i64 31, .int .i64 30, .int .i64 31, .int .i64 31, .int .i64 30, .int .i64 31, .int .i64 30, .int .i64 31]) (.int .i64 8)).run Try.prog w = .ok (.int .i64 30) w := by kernel_rfl
theorem monAt9 (w : World) : (Instr.index 53 (.agg #[.int .i64 31, .int .i64 28, .int .i64 31, .int .i64 30, .int .i64 31, .int .i64 30, .int .i64 31, .int .i64 31, .int .i64 30, .int .i64 31, .int .i64 30, .int .i64 31]) (.int .i64 9)).run Try.prog w = .ok (.int .i64 31) w := by kernel_rfl
theorem monAt10 (w : World) : (Instr.index 53 (.agg #[.int .i64 31, .int .i64 28, .int .i64 31, .int .i64 30, .int .i64 31, .int .i64 30, .int .i64 31, .int .i64 31, .int .i64 30, .int .i64 31, .int .i64 30, .int .i64 31]) (.int .i64 10)).run Try.prog w = .ok (.int .i64 30) w := by kernel_rfl
theorem monAt11 (w : World) : (Instr.index 53 (.agg #[.int .i64 31, .int .i64 28, .int .i64 31, .int .i64 30, .int .i64 31, .int .i64 30, .int .i64 31, .int .i64 31, .int .i64 30, .int .i64 31, .int .i64 30, .int .i64 31]) (.int .i64 11)).run Try.prog w = .ok (.int .i64 31) w := by kernel_rfl
theorem dayAt0 (w : World) : (Instr.index 64 (.agg #[.string { data := #[84, 104, 117, 114, 115, 100, 97, 121] }, .string { data := #[70, 114, 105, 100, 97, 121] }, .string { data := #[83, 97, 116, 117, 114, 100, 97, 121] }, .string { data := #[83, 117, 110, 100, 97, 121] }, .string { data := #[77, 111, 110, 100, 97, 121] }, .string { data := #[84, 117, 101, 115, 100, 97, 121] }, .string { data := #[87, 101, 100, 110, 101, 115, 100, 97, 121] }]) (.int .i64 0)).run Try.prog w = .ok (.string { data := #[84, 104, 117, 114, 115, 100, 97, 121] }) w := by kernel_rfl
theorem dayAt1 (w : World) : (Instr.index 64 (.agg #[.string { data := #[84, 104, 117, 114, 115, 100, 97, 121] }, .string { data := #[70, 114, 105, 100, 97, 121] }, .string { data := #[83, 97, 116, 117, 114, 100, 97, 121] }, .string { data := #[83, 117, 110, 100, 97, 121] }, .string { data := #[77, 111, 110, 100, 97, 121] }, .string { data := #[84, 117, 101, 115, 100, 97, 121] }, .string { data := #[87, 101, 100, 110, 101, 115, 100, 97, 121] }]) (.int .i64 1)).run Try.prog w = .ok (.string { data := #[70, 114, 105, 100, 97, 121] }) w := by kernel_rfl
theorem dayAt2 (w : World) : (Instr.index 64 (.agg #[.string { data := #[84, 104, 117, 114, 115, 100, 97, 121] }, .string { data := #[70, 114, 105, 100, 97, 121] }, .string { data := #[83, 97, 116, 117, 114, 100, 97, 121] }, .string { data := #[83, 117, 110, 100, 97, 121] }, .string { data := #[77, 111, 110, 100, 97, 121] }, .string { data := #[84, 117, 101, 115, 100, 97, 121] }, .string { data := #[87, 101, 100, 110, 101, 115, 100, 97, 121] }]) (.int .i64 2)).run Try.prog w = .ok (.string { data := #[83, 97, 116, 117, 114, 100, 97, 121] }) w := by kernel_rfl
theorem dayAt3 (w : World) : (Instr.index 64 (.agg #[.string { data := #[84, 104, 117, 114, 115, 100, 97, 121] }, .string { data := #[70, 114, 105, 100, 97, 121] }, .string { data := #[83, 97, 116, 117, 114, 100, 97, 121] }, .string { data := #[83, 117, 110, 100, 97, 121] }, .string { data := #[77, 111, 110, 100, 97, 121] }, .string { data := #[84, 117, 101, 115, 100, 97, 121] }, .string { data := #[87, 101, 100, 110, 101, 115, 100, 97, 121] }]) (.int .i64 3)).run Try.prog w = .ok (.string { data := #[83, 117, 110, 100, 97, 121] }) w := by kernel_rfl
theorem dayAt4 (w : World) : (Instr.index 64 (.agg #[.string { data := #[84, 104, 117, 114, 115, 100, 97, 121] }, .string { data := #[70, 114, 105, 100, 97, 121] }, .string { data := #[83, 97, 116, 117, 114, 100, 97, 121] }, .string { data := #[83, 117, 110, 100, 97, 121] }, .string { data := #[77, 111, 110, 100, 97, 121] }, .string { data := #[84, 117, 101, 115, 100, 97, 121] }, .string { data := #[87, 101, 100, 110, 101, 115, 100, 97, 121] }]) (.int .i64 4)).run Try.prog w = .ok (.string { data := #[77, 111, 110, 100, 97, 121] }) w := by kernel_rfl
theorem dayAt5 (w : World) : (Instr.index 64 (.agg #[.string { data := #[84, 104, 117, 114, 115, 100, 97, 121] }, .string { data := #[70, 114, 105, 100, 97, 121] }, .string { data := #[83, 97, 116, 117, 114, 100, 97, 121] }, .string { data := #[83, 117, 110, 100, 97, 121] }, .string { data := #[77, 111, 110, 100, 97, 121] }, .string { data := #[84, 117, 101, 115, 100, 97, 121] }, .string { data := #[87, 101, 100, 110, 101, 115, 100, 97, 121] }]) (.int .i64 5)).run Try.prog w = .ok (.string { data := #[84, 117, 101, 115, 100, 97, 121] }) w := by kernel_rfl
theorem dayAt6 (w : World) : (Instr.index 64 (.agg #[.string { data := #[84, 104, 117, 114, 115, 100, 97, 121] }, .string { data := #[70, 114, 105, 100, 97, 121] }, .string { data := #[83, 97, 116, 117, 114, 100, 97, 121] }, .string { data := #[83, 117, 110, 100, 97, 121] }, .string { data := #[77, 111, 110, 100, 97, 121] }, .string { data := #[84, 117, 101, 115, 100, 97, 121] }, .string { data := #[87, 101, 100, 110, 101, 115, 100, 97, 121] }]) (.int .i64 6)).run Try.prog w = .ok (.string { data := #[87, 101, 100, 110, 101, 115, 100, 97, 121] }) w := by kernel_rfl
set_option maxHeartbeats 1600000 in
theorem length_any (y m : Int) (h0 : 0 ≤ y) (m0 : 0 ≤ m) (m1 : m ≤ 11) (w : World) :
    Calls Try.prog 19 #[.int .i64 y, .int .i64 m] w fun e w' => e = .returned (.int .i64 (lenM y m)) ∧ w = w' := by
  by_cases h : m = 1
  · subst h
    cases hl : leapM y
    · have Hf : Hid (lenM y 1 = 28) := Lib.hid (by unfold lenM lp; rw [hl]; simp)
      have i1 := monAt1
      go_enter Try.func19, Try.ntmps19
      go_wp2_with (go_at_call 32; refine (leap_any _ h0 _).mono ?_; rintro e w' ⟨rfl, rfl⟩)
      go_ret
      exact ⟨ret_int Hf.out.symm, rfl⟩
    · have Hf : Hid (lenM y 1 = 29) := Lib.hid (by unfold lenM lp; rw [hl]; simp)
      go_enter Try.func19, Try.ntmps19
      go_wp2_with (go_at_call 32; refine (leap_any _ h0 _).mono ?_; rintro e w' ⟨rfl, rfl⟩)
      go_ret
      exact ⟨ret_int Hf.out.symm, rfl⟩
  · have : m = 0 ∨ m = 2 ∨ m = 3 ∨ m = 4 ∨ m = 5 ∨ m = 6 ∨ m = 7 ∨ m = 8 ∨ m = 9 ∨ m = 10 ∨ m = 11 := by omega
    rcases this with rfl | rfl | rfl | rfl | rfl | rfl | rfl | rfl | rfl | rfl | rfl
    all_goals
      clear h
      have i0 := monAt0
      have i1 := monAt1
      have i2 := monAt2
      have i3 := monAt3
      have i4 := monAt4
      have i5 := monAt5
      have i6 := monAt6
      have i7 := monAt7
      have i8 := monAt8
      have i9 := monAt9
      have i10 := monAt10
      have i11 := monAt11
      go_enter Try.func19, Try.ntmps19
      go_wp2
      go_ret
      exact ⟨ret_int rfl, rfl⟩
theorem year_any (d : Int) (h0 : 0 ≤ d) (h1 : d ≤ 2932896) (w : World) :
    Calls Try.prog 17 #[.int .i64 d] w fun e w' => e = .returned (.int .i64 (yearM d)) ∧ w = w' := by
  have hle := yearM_le d h0 h1
  have hp := yearM_prop d h0
  have Hp := Lib.hid hp
  have Hle := Lib.hid hle
  clear hp hle
  have hq : 0 ≤ d / 366 ∧ d / 366 ≤ 10000 := by omega
  have Hg : Hid (begM (1970 + d / 366) ≤ d) := Lib.hid (by have := begM_guess (d / 366) hq.1; omega)
  go_enter Try.func17, Try.ntmps17
  go_wp2
  go_loop [3] (fun v => ∃ y : Int, v = .int .i64 y ∧ 1970 ≤ y ∧ y ≤ 12000 ∧ Hid (begM y ≤ d)) (fun v => (20000 - intOf v).toNat)
  case atStart => exact ⟨_, rfl, by omega, by omega, Hg⟩
  case round =>
    obtain ⟨y, rfl, hy0, hy1, hy⟩ := hrel
    have hyb : y ≤ 9999 := by
      rcases Int.lt_or_le 9999 y with h | h
      · have h2 := begM_mono 10000 y (by omega)
        have h3 : begM 10000 = 2932897 := by decide
        have := hy.out
        omega
      · exact h
    by_cases hb : begM (y + 1) ≤ d
    · have Hb := Lib.hid hb
      go_wp2_with (go_at_call 18; refine (begin_any _ (by omega) (by omega) _).mono ?_; rintro e w' ⟨rfl, rfl⟩)
      go_round
      case rel => exact ⟨y + 1, by go_num, by omega, by omega, Hb⟩
      case measure => simp [intOf]; omega
    · have Hf : Hid (yearM d = y) := Lib.hid (yearM_eq d y h0 hy.out (by omega))
      go_wp2_with (go_at_call 18; refine (begin_any _ (by omega) (by omega) _).mono ?_; rintro e w' ⟨rfl, rfl⟩)
      go_ret
      exact ⟨ret_int Hf.out.symm, rfl⟩
theorem day_any (y m n : Int) (h0 : 1 ≤ y) (h1 : y ≤ 100000) (m0 : 0 ≤ m) (m1 : m ≤ 11) (n0 : 0 ≤ n) (n1 : n ≤ 100) (w : World) :
    Calls Try.prog 39 #[.int .i64 y, .int .i64 m, .int .i64 n] w fun e w' => e = .returned (.int .i64 (begM y + cumM y m + n - 1)) ∧ w = w' := by
  have hbb := begM_bd y h0 h1
  obtain ⟨m, rfl⟩ := Int.eq_ofNat_of_zero_le m0
  go_enter Try.func39, Try.ntmps39
  go_wp2_with (go_at_call 18; refine (begin_any _ h0 h1 _).mono ?_; rintro e w' ⟨rfl, rfl⟩)
  go_loop [7, 15] (fun a k => ∃ j : Nat, j ≤ m ∧ k = .int .i64 j ∧ a = .int .i64 (begM y + cumM y j + n - 1)) (fun _ k => m - (intOf k).toNat)
  case atStart => exact ⟨0, Nat.zero_le _, rfl, by rw [show ((0 : Nat) : Int) = 0 from rfl, cumM_0]; simp⟩
  case round =>
    obtain ⟨j, hj, rfl, rfl⟩ := hrel
    have hc := cumM_bd y j (by omega) (by omega)
    have hl := lenM_bd y j
    by_cases hlt : j < m
    · have Hs := Lib.hid (cumM_succ y j (by omega) (by omega))
      go_wp2_with (go_at_call 19; refine (length_any _ _ (by omega) (by omega) (by omega) _).mono ?_; rintro e w' ⟨rfl, rfl⟩)
      go_round
      case rel => exact ⟨j + 1, by omega, by go_num, by rw [show ((j + 1 : Nat) : Int) = (j : Int) + 1 by omega, Hs.out]; congr 1; omega⟩
      case measure => simp [intOf]; omega
    · obtain rfl : j = m := by omega
      go_wp2
      go_ret
      exact ⟨rfl, rfl⟩
theorem long_any (d : Int) (d0 : 0 ≤ d) (d1 : d ≤ 6) (w : World) :
    Calls Try.prog 37 #[.int .i64 d] w fun e w' => e = .returned (.string (S (longN d))) ∧ w = w' := by
  have : d = 0 ∨ d = 1 ∨ d = 2 ∨ d = 3 ∨ d = 4 ∨ d = 5 ∨ d = 6 := by omega
  rcases this with rfl | rfl | rfl | rfl | rfl | rfl | rfl
  all_goals
    have i0 := dayAt0
    have i1 := dayAt1
    have i2 := dayAt2
    have i3 := dayAt3
    have i4 := dayAt4
    have i5 := dayAt5
    have i6 := dayAt6
    go_enter Try.func37, Try.ntmps37
    go_wp2
    go_ret
    exact ⟨rfl, rfl⟩
theorem two_any (n : Int) (n0 : 0 ≤ n) (n1 : n ≤ 100000) (w : World) :
    Calls Try.prog 20 #[.int .i64 n] w fun e w' => e = .returned (.string (S (twoM n))) ∧ Below w.heap.size w w' := by
  have a1 : 0 ≤ n / 10 % 10 ∧ n / 10 % 10 ≤ 9 := by omega
  have a2 : 0 ≤ n % 10 ∧ n % 10 ≤ 9 := by omega
  have hcv := conv_new2 (P := Try.prog) w (48 + n / 10 % 10) (48 + n % 10) (by omega) (by omega) (by omega) (by omega) 54 9 5 2 Try.underlying54 Try.underlying5 Try.underlying9
  go_enter Try.func20, Try.ntmps20
  go_wp2
  go_ret
  exact ⟨rfl, (Below.refl _ _).alloc (Nat.le_refl _) _⟩
end Go.Proofs.Ytnaapoigmihjoaa
