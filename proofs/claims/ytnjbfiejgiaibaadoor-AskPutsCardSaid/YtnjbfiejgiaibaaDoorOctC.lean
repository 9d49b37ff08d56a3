/- Layer 1: contracts of Lower, Trim, Token, Value, Same and their references. No condition. -/
import Derived.Test.YtnjbfiejgiaibaaDoorChecked
import Derived.Test.YtnjbfiejgiaibaaDoorShelf
import Derived.Test.YtnjbfiejgiaibaaDoorMem
import Derived.Test.YtnjbfiejgiaibaaDoorOctCM
import Derived.WalkLawsBesides
import Derived.WalkSpells
import Derived.Outline
namespace Go.Proofs.YtnjbfiejgiaibaaDoor
set_option linter.all false
open Go Go.RowKit

theorem mark_any (c : UInt8) (w : World) :
    Calls Tryd.prog 85 #[.int .u8 c.toNat] w fun e w' => e = .returned (.bool (markM c.toNat)) ∧ w = w' := by
  have h := Any.strings_IndexByte Tryd.lays137 { data := #[33, 35, 36, 37, 38, 39, 42, 43, 45, 46, 94, 95, 96, 124, 126] } c.toNat w
  change Calls Tryd.prog 110 _ _ _ at h
  have hc := mark_index ⟨c.toNat, c.toNat_lt⟩
  have e1 : UInt8.ofNat c.toNat = c := by simp
  have Hc : Hid (decide (0 ≤ Lib.indexByte markL c) = markM c.toNat) := Lib.hid (by rw [← hc]; simp)
  clear hc
  have e2 : ((c.toNat : Int)).toNat.toUInt8 = c := by simp
  rw [e2] at h
  clear e1 e2
  have e3 : ({ data := #[33, 35, 36, 37, 38, 39, 42, 43, 45, 46, 94, 95, 96, 124, 126] } : ByteArray).data.toList = markL := rfl
  rw [e3] at h
  have H := Lib.hid h
  clear h e3
  go_enter Tryd.func85, Tryd.ntmps85
  go_wp2_with fail
  refine (H.out).mono ?_; rintro e w' ⟨rfl, rfl⟩
  go_wp2
  go_ret
  exact ⟨ret_bool Hc.out, rfl⟩
theorem token_any (c : UInt8) (w : World) :
    Calls Tryd.prog 63 #[.int .u8 c.toNat] w fun e w' => e = .returned (.bool (tokM c.toNat)) ∧ w = w' := by
  have hlt := c.toNat_lt
  by_cases h : 48 ≤ c.toNat ∧ c.toNat ≤ 57 ∨ 97 ≤ c.toNat ∧ c.toNat ≤ 122 ∨ 65 ≤ c.toNat ∧ c.toNat ≤ 90
  · have Hf : Hid (tokM c.toNat = true) := Lib.hid (by unfold tokM alnum; rw [decide_eq_true h]; rfl)
    go_enter Tryd.func63, Tryd.ntmps63
    go_wp2_with (go_at_call 85; exfalso; omega)
    all_goals (go_ret; exact ⟨ret_bool Hf.out.symm, rfl⟩)
  · have Hf : Hid (tokM c.toNat = markM c.toNat) := Lib.hid (by unfold tokM alnum; rw [decide_eq_false h]; rfl)
    go_enter Tryd.func63, Tryd.ntmps63
    go_wp2_with (go_at_call 85; refine (mark_any c _).mono ?_; rintro e w' ⟨rfl, rfl⟩)
    all_goals (go_ret; first | exact ⟨ret_bool Hf.out.symm, rfl⟩ | (exfalso; omega))

theorem blank_any (c : UInt8) (w : World) :
    Calls Tryd.prog 68 #[.int .u8 c.toNat] w fun e w' => e = .returned (.bool (blankM c.toNat)) ∧ w = w' := by
  by_cases h : c.toNat = 32 ∨ c.toNat = 9
  · have Hf : Hid (blankM c.toNat = true) := Lib.hid (decide_eq_true h)
    rcases h with h | h
    all_goals
      have h2 : ((c.toNat : Int)) = 32 ∨ ((c.toNat : Int)) = 9 := by omega
      obtain ⟨x, hx⟩ : ∃ x, x = c.toNat := ⟨_, rfl⟩
      rw [← hx] at h Hf ⊢
      subst h
      clear hx h2
      go_enter Tryd.func68, Tryd.ntmps68
      go_wp2
      go_ret
      exact ⟨ret_bool Hf.out.symm, rfl⟩
  · have Hf : Hid (blankM c.toNat = false) := Lib.hid (decide_eq_false h)
    have h1 : ((c.toNat : Int) == 32) = false := by rw [beq_eq_false_iff_ne]; omega
    have h2 : ((c.toNat : Int) == 9) = false := by rw [beq_eq_false_iff_ne]; omega
    clear h
    go_enter Tryd.func68, Tryd.ntmps68
    go_wp2
    go_ret
    exact ⟨ret_bool Hf.out.symm, rfl⟩
theorem refDigitC (x : Nat) (_hx : x < 256) (w : World) :
    Calls Tryd.prog 87 #[.int .u8 (x : Int)] w fun e w' => e = .returned (.bool (decide (48 ≤ x ∧ x ≤ 57))) ∧ w = w' := by
  go_enter Tryd.func87, Tryd.ntmps87
  go_wp2
  all_goals (go_ret; exact ⟨ret_bool (by first | (rw [Bool.eq_iff_iff]; simp; omega) | (simp; omega)), rfl⟩)
theorem tokenByte_nat (x : Nat) (hx : x < 256) (w : World) :
    Calls Tryd.prog 67 #[.int .u8 (x : Int)] w fun e w' => e = .returned (.bool (tokM x)) ∧ w = w' := by
  by_cases h1 : 48 ≤ x ∧ x ≤ 57
  · have Hf : Hid (tokM x = true) := Lib.hid (by unfold tokM alnum; rw [decide_eq_true (.inl h1)]; rfl)
    have hd := decide_eq_true h1
    clear h1
    go_enter Tryd.func67, Tryd.ntmps67
    go_wp2_with (go_at_call 87; refine (refDigitC x hx _).mono ?_; rintro e w' ⟨rfl, rfl⟩)
    go_ret
    exact ⟨ret_bool Hf.out.symm, rfl⟩
  have hd := decide_eq_false h1
  by_cases h2 : 97 ≤ x ∧ x ≤ 122
  · have Hf : Hid (tokM x = true) := Lib.hid (by unfold tokM alnum; rw [decide_eq_true (.inr (.inl h2))]; rfl)
    clear h1
    go_enter Tryd.func67, Tryd.ntmps67
    go_wp2_with (go_at_call 87; refine (refDigitC x hx _).mono ?_; rintro e w' ⟨rfl, rfl⟩)
    go_ret
    exact ⟨ret_bool Hf.out.symm, rfl⟩
  by_cases h3 : 65 ≤ x ∧ x ≤ 90
  · have Hf : Hid (tokM x = true) := Lib.hid (by unfold tokM alnum; rw [decide_eq_true (.inr (.inr h3))]; rfl)
    clear h1 h2
    go_enter Tryd.func67, Tryd.ntmps67
    go_wp2_with (go_at_call 87; refine (refDigitC x hx _).mono ?_; rintro e w' ⟨rfl, rfl⟩)
    all_goals (go_ret; exact ⟨ret_bool Hf.out.symm, rfl⟩)
  by_cases h4 : x = 33 ∨ x = 35 ∨ x = 36 ∨ x = 37 ∨ x = 38 ∨ x = 39 ∨ x = 42 ∨ x = 43 ∨ x = 45 ∨ x = 46 ∨ x = 94 ∨ x = 95 ∨ x = 96 ∨ x = 124 ∨ x = 126
  · have Hf : Hid (tokM x = true) := Lib.hid (by unfold tokM markM; rw [decide_eq_true h4]; simp)
    have Hd := Lib.hid hd
    clear h1 h2 h3 hd
    rcases h4 with rfl | rfl | rfl | rfl | rfl | rfl | rfl | rfl | rfl | rfl | rfl | rfl | rfl | rfl | rfl
    all_goals
      have hd := Hd.out
      clear Hd
      go_enter Tryd.func67, Tryd.ntmps67
      go_wp2_with (go_at_call 87; refine (refDigitC _ hx _).mono ?_; rintro e w' ⟨rfl, rfl⟩)
      go_ret
      exact ⟨ret_bool Hf.out.symm, rfl⟩
  · have Hf : Hid (tokM x = false) := Lib.hid (by unfold tokM alnum markM; rw [decide_eq_false h4, decide_eq_false (by omega)]; rfl)
    have n33 : ((x : Int) == 33) = false := by rw [beq_eq_false_iff_ne]; omega
    have n35 : ((x : Int) == 35) = false := by rw [beq_eq_false_iff_ne]; omega
    have n36 : ((x : Int) == 36) = false := by rw [beq_eq_false_iff_ne]; omega
    have n37 : ((x : Int) == 37) = false := by rw [beq_eq_false_iff_ne]; omega
    have n38 : ((x : Int) == 38) = false := by rw [beq_eq_false_iff_ne]; omega
    have n39 : ((x : Int) == 39) = false := by rw [beq_eq_false_iff_ne]; omega
    have n42 : ((x : Int) == 42) = false := by rw [beq_eq_false_iff_ne]; omega
    have n43 : ((x : Int) == 43) = false := by rw [beq_eq_false_iff_ne]; omega
    have n45 : ((x : Int) == 45) = false := by rw [beq_eq_false_iff_ne]; omega
    have n46 : ((x : Int) == 46) = false := by rw [beq_eq_false_iff_ne]; omega
    have n94 : ((x : Int) == 94) = false := by rw [beq_eq_false_iff_ne]; omega
    have n95 : ((x : Int) == 95) = false := by rw [beq_eq_false_iff_ne]; omega
    have n96 : ((x : Int) == 96) = false := by rw [beq_eq_false_iff_ne]; omega
    have n124 : ((x : Int) == 124) = false := by rw [beq_eq_false_iff_ne]; omega
    have n126 : ((x : Int) == 126) = false := by rw [beq_eq_false_iff_ne]; omega
    clear h4
    by_cases h5 : x < 97
    · by_cases h6 : x < 65
      · clear h1 h2 h3
        go_enter Tryd.func67, Tryd.ntmps67
        go_wp2_with (go_at_call 87; refine (refDigitC x hx _).mono ?_; rintro e w' ⟨rfl, rfl⟩)
        go_ret
        exact ⟨ret_bool Hf.out.symm, rfl⟩
      · have h7 : 90 < x := by omega
        clear h1 h2 h3
        go_enter Tryd.func67, Tryd.ntmps67
        go_wp2_with (go_at_call 87; refine (refDigitC x hx _).mono ?_; rintro e w' ⟨rfl, rfl⟩)
        go_ret
        exact ⟨ret_bool Hf.out.symm, rfl⟩
    · have h7 : 122 < x := by omega
      clear h1 h2 h3
      go_enter Tryd.func67, Tryd.ntmps67
      go_wp2_with (go_at_call 87; refine (refDigitC x hx _).mono ?_; rintro e w' ⟨rfl, rfl⟩)
      go_ret
      exact ⟨ret_bool Hf.out.symm, rfl⟩
theorem tokenByte_any (c : UInt8) (w : World) :
    Calls Tryd.prog 67 #[.int .u8 c.toNat] w fun e w' => e = .returned (.bool (tokM c.toNat)) ∧ w = w' := tokenByte_nat _ c.toNat_lt w
end Go.Proofs.YtnjbfiejgiaibaaDoor
