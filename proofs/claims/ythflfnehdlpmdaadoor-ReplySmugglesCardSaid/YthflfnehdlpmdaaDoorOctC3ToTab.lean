/- Layer 1: contracts of the reference's Value and Trim, of Lower, its reference, and Same. No condition. -/
import Derived.Test.YthflfnehdlpmdaaDoorOctC2
import Derived.Test.YthflfnehdlpmdaaDoorChecked
import Derived.Test.YthflfnehdlpmdaaDoorMem
import Derived.OwnWalk
namespace Go.Proofs.YthflfnehdlpmdaaDoor
set_option linter.all false
open Go Go.RowKit

theorem head_of (s : ByteArray) (h : 0 < s.size) : s.toList.head? = some s[0] := by
  have := toget s 0 h
  rw [List.head?_eq_getElem?, List.getElem?_eq_getElem (by rw [tolen]; exact h), this]
theorem last_of (s : ByteArray) (h : s.size - 1 < s.size) : s.toList.getLast? = some s[s.size - 1] := by
  have := toget s (s.size - 1) h
  have hl := tolen s
  rw [List.getLast?_eq_getElem?, hl, List.getElem?_eq_getElem (by omega), this]

theorem refValue_any (s : ByteArray) (w : World) (hs : s.size ≤ maxLen) :
    Calls Tryd.prog 8 #[.string s] w fun e w' => e = .returned (.bool (valueM s.toList)) ∧ w = w' := by
  unfold maxLen at hs
  have hl := tolen s
  have Hl := Lib.hid hl
  clear hl
  go_enter Tryd.func8, Tryd.ntmps8
  go_wp2
  go_loop [3] (fun i => ∃ k : Nat, k ≤ s.size ∧ i = .int .i64 k ∧ Hid ((s.toList.take k).all (fun c => !badV c.toNat) = true)) (fun i => s.size - (intOf i).toNat)
  case atStart => exact ⟨0, Nat.zero_le _, rfl, rfl⟩
  case round =>
    obtain ⟨k, hk, rfl, hall⟩ := hrel
    by_cases hlt : k < s.size
    · have Hs1 := Lib.hid (all_snoc (fun c => !badV c.toNat) s k hlt)
      have Hn := Lib.hid (all_at (fun c => !badV c.toNat) s k hlt)
      obtain ⟨c, hc⟩ : ∃ c : UInt8, s[k] = c := ⟨_, rfl⟩
      rw [hc] at Hs1 Hn
      have hclt := c.toNat_lt
      by_cases hb0 : blankM c.toNat = true
      · have Hb : Hid (badV c.toNat = false) := Lib.hid (decide_eq_false (by have := of_decide_eq_true hb0; omega))
        go_wp2_with (go_at_call 18; refine (blank_any _ _).mono ?_; rintro e w' ⟨rfl, rfl⟩)
        go_round
        case rel => exact ⟨k + 1, by omega, by go_num, Lib.hid (by rw [Hs1.out, hall.out, Hb.out]; rfl)⟩
        case measure => simp [intOf]; omega
      · have hb0 : blankM c.toNat = false := by simpa using hb0
        have hb0' : ¬(c.toNat = 32 ∨ c.toNat = 9) := of_decide_eq_false hb0
        by_cases hb1 : c.toNat < 33
        · have Hb : Hid (badV c.toNat = true) := Lib.hid (decide_eq_true (by omega))
          have l33 : (c.toNat : Int) < 33 := by omega
          clear hb0' hb1
          go_wp2_with (go_at_call 18; refine (blank_any _ _).mono ?_; rintro e w' ⟨rfl, rfl⟩)
          go_ret
          exact ⟨ret_bool (by unfold valueM; rw [Hn.out (by rw [Hb.out]; rfl)]; simp), rfl⟩
        · have l33 : ¬ (c.toNat : Int) < 33 := by omega
          by_cases hb2 : c.toNat = 127
          · have Hb : Hid (badV c.toNat = true) := Lib.hid (decide_eq_true (by omega))
            have e127 : ((c.toNat : Int) == 127) = true := by rw [beq_iff_eq]; omega
            clear hb0' hb1 hb2
            go_wp2_with (go_at_call 18; refine (blank_any _ _).mono ?_; rintro e w' ⟨rfl, rfl⟩)
            go_ret
            exact ⟨ret_bool (by unfold valueM; rw [Hn.out (by rw [Hb.out]; rfl)]; simp), rfl⟩
          · have Hb : Hid (badV c.toNat = false) := Lib.hid (decide_eq_false (by omega))
            have e127 : ((c.toNat : Int) == 127) = false := by rw [beq_eq_false_iff_ne]; omega
            clear hb0' hb1 hb2
            go_wp2_with (go_at_call 18; refine (blank_any _ _).mono ?_; rintro e w' ⟨rfl, rfl⟩)
            go_round
            case rel => exact ⟨k + 1, by omega, by go_num, Lib.hid (by rw [Hs1.out, hall.out, Hb.out]; rfl)⟩
            case measure => simp [intOf]; omega
    · have hall2 : s.toList.all (fun c => !badV c.toNat) = true := by have := hall.out; rwa [take_full s k (by omega)] at this
      have Hall := Lib.hid hall2
      clear hall hall2
      by_cases h0 : s.size = 0
      · have Hf : Hid (valueM s.toList = true) := Lib.hid (by rw [empty_yes s h0]; rfl)
        have hz : ((s.size : Int) == 0) = true := by rw [h0]; rfl
        clear h0
        go_wp2
        go_ret
        exact ⟨ret_bool Hf.out.symm, rfl⟩
      · have hpos : 0 < s.size := by omega
        have hz : ((s.size : Int) == 0) = false := by rw [beq_eq_false_iff_ne]; omega
        have hlast : s.size - 1 < s.size := by omega
        have Ht := Lib.hid (trim_len s.toList)
        have H1 := Lib.hid (head_of s hpos)
        have H2 := Lib.hid (last_of s hlast)
        clear h0
        obtain ⟨a, ha⟩ : ∃ a : UInt8, s[0] = a := ⟨_, rfl⟩
        obtain ⟨b, hb⟩ : ∃ b : UInt8, s[s.size - 1] = b := ⟨_, rfl⟩
        rw [ha] at H1
        rw [hb] at H2
        cases ba : blankM a.toNat
        · cases bb : blankM b.toNat
          · have Hf : Hid (valueM s.toList = true) := Lib.hid (by
              have : (trimM s.toList).length = s.toList.length := Ht.out.2 ⟨fun x hx => by rw [H1.out] at hx; injection hx with hx; subst hx; exact ba, fun x hx => by rw [H2.out] at hx; injection hx with hx; subst hx; exact bb⟩
              unfold valueM; rw [Hall.out, decide_eq_true this]; rfl)
            go_wp2_with (go_at_call 18; refine (blank_any _ _).mono ?_; rintro e w' ⟨rfl, rfl⟩)
            go_ret
            exact ⟨ret_bool Hf.out.symm, rfl⟩
          · have Hf : Hid (valueM s.toList = false) := Lib.hid (by
              have : ¬ (trimM s.toList).length = s.toList.length := fun h => by have := (Ht.out.1 h).2 b H2.out; rw [show isBl b = blankM b.toNat from rfl, bb] at this; cases this
              unfold valueM; rw [decide_eq_false this]; rfl)
            go_wp2_with (go_at_call 18; refine (blank_any _ _).mono ?_; rintro e w' ⟨rfl, rfl⟩)
            go_ret
            exact ⟨ret_bool Hf.out.symm, rfl⟩
        · have Hf : Hid (valueM s.toList = false) := Lib.hid (by
            have : ¬ (trimM s.toList).length = s.toList.length := fun h => by have := (Ht.out.1 h).1 a H1.out; rw [show isBl a = blankM a.toNat from rfl, ba] at this; cases this
            unfold valueM; rw [decide_eq_false this]; rfl)
          go_wp2_with (go_at_call 18; refine (blank_any _ _).mono ?_; rintro e w' ⟨rfl, rfl⟩)
          go_ret
          exact ⟨ret_bool Hf.out.symm, rfl⟩
end Go.Proofs.YthflfnehdlpmdaaDoor

/- Closed facts on this translation's table of types. No condition. -/
namespace Go.Proofs.YthflfnehdlpmdaaDoor
set_option linter.all false
open Go Go.RowKit
end Go.Proofs.YthflfnehdlpmdaaDoor
