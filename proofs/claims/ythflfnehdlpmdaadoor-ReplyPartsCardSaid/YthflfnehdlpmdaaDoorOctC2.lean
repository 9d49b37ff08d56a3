/- Layer 1: contracts of Token, Value, Lower, Same, Trim and their references. No condition. -/
import Derived.Test.YthflfnehdlpmdaaDoorOctCMToOctC
namespace Go.Proofs.YthflfnehdlpmdaaDoor
set_option linter.all false
open Go Go.RowKit

theorem all_snoc (f : UInt8 → Bool) (s : ByteArray) (k : Nat) (h : k < s.size) : (s.toList.take (k + 1)).all f = ((s.toList.take k).all f && f s[k]) := by
  rw [take_snoc s k h]; simp
theorem all_at (f : UInt8 → Bool) (s : ByteArray) (k : Nat) (h : k < s.size) (hf : f s[k] = false) : s.toList.all f = false := by
  rw [List.all_eq_false]
  exact ⟨s[k], by rw [← toget s k h]; exact List.getElem_mem _, by simp [hf]⟩

theorem Token_any (s : ByteArray) (w : World) (hs : s.size ≤ maxLen) :
    Calls Tryd.prog 49 #[.string s] w fun e w' => e = .returned (.bool (tokenM s.toList)) ∧ w = w' := by
  unfold maxLen at hs
  go_enter Tryd.func49, Tryd.ntmps49
  go_wp2
  go_loop [6] (fun i => ∃ k : Nat, k ≤ s.size ∧ i = .int .i64 k ∧ Hid ((s.toList.take k).all (fun c => tokM c.toNat) = true)) (fun i => s.size - (intOf i).toNat)
  case atStart => exact ⟨0, Nat.zero_le _, rfl, rfl⟩
  case round =>
    obtain ⟨k, hk, rfl, hall⟩ := hrel
    by_cases hlt : k < s.size
    · have Hs := Lib.hid (all_snoc (fun c => tokM c.toNat) s k hlt)
      have Hn := Lib.hid (all_at (fun c => tokM c.toNat) s k hlt)
      cases hb : tokM s[k].toNat
      · have Hb := Lib.hid hb
        go_wp2_with (go_at_call 64; refine (token_any _ _).mono ?_; rintro e w' ⟨rfl, rfl⟩)
        go_ret
        exact ⟨ret_bool (by unfold tokenM; rw [Hn.out Hb.out]; simp), rfl⟩
      · have Hb := Lib.hid hb
        go_wp2_with (go_at_call 64; refine (token_any _ _).mono ?_; rintro e w' ⟨rfl, rfl⟩)
        go_round
        case rel => exact ⟨k + 1, by omega, by go_num, Lib.hid (by rw [Hs.out, hall.out]; simp [Hb.out])⟩
        case measure => simp [intOf]; omega
    · have Ht := Lib.hid (take_full s k (by omega))
      go_wp2
      go_ret
      refine ⟨ret_bool ?_, rfl⟩
      have := hall.out
      rw [Ht.out] at this
      unfold tokenM; rw [this]; simp
theorem Trim_any (s : ByteArray) (w : World) (hs : s.size ≤ maxLen) :
    Calls Tryd.prog 27 #[.string s] w fun e w' => e = .returned (.string (S (trimM s.toList))) ∧ Below w.heap.size w w' := by
  have h := Any.strings_Trim_laid Tryd.lays160 (by kernel_rfl) s ⟨#[32, 9]⟩ w (by unfold maxLen at hs; omega) (by decide) (ascii_of_all (by decide))
  change Calls Tryd.prog 34 #[.string s, .string { data := #[32, 9] }] w (fun e w' => e = .returned (.string ⟨(Lib.trimS s.data.toList [32, 9]).toArray⟩) ∧ Below w.heap.size w w') at h
  rw [← ByteArray.toList_eq] at h
  change Calls Tryd.prog 34 #[.string s, .string { data := #[32, 9] }] w (fun e w' => e = .returned (.string (S (trimM s.toList))) ∧ Below w.heap.size w w') at h
  have H := Lib.hid h
  clear h
  go_enter Tryd.func27, Tryd.ntmps27
  go_wp2_with fail
  refine (H.out).mono ?_; rintro e w' ⟨rfl, hb⟩
  go_wp2
  go_ret
  exact ⟨rfl, hb⟩
theorem Value_any (s : ByteArray) (w : World) (hs : s.size ≤ maxLen) :
    Calls Tryd.prog 26 #[.string s] w fun e w' => e = .returned (.bool (valueM s.toList)) ∧ Below w.heap.size w w' := by
  have Hs := Lib.hid hs
  unfold maxLen at hs
  have hl := tolen s
  have hle : (trimM s.toList).length ≤ s.size := by
    rw [← hl, trimM_eq']
    have h1 := dw_le isBl (s.toList.dropWhile isBl).reverse
    rw [List.length_reverse] at h1
    have h2 := dw_le isBl s.toList
    show ((s.toList.dropWhile isBl).reverse.dropWhile isBl).reverse.length ≤ _
    rw [List.length_reverse]; omega
  by_cases hq : (trimM s.toList).length = s.size
  · have Hq := Lib.hid hq
    have hq1 : (((trimM s.toList).length : Int) != (s.size : Int)) = false := by rw [hq]; simp
    have Hl := Lib.hid hl
    clear hq hl
    go_enter Tryd.func26, Tryd.ntmps26
    go_wp2_with fail
    refine (Trim_any s _ Hs.out).mono ?_; rintro e w1 ⟨rfl, hb⟩
    go_wp2
    go_loop [12] (fun i => ∃ k : Nat, k ≤ s.size ∧ i = .int .i64 k ∧ Hid ((s.toList.take k).all (fun c => !badV c.toNat) = true)) (fun i => s.size - (intOf i).toNat)
    case atStart => exact ⟨0, Nat.zero_le _, rfl, rfl⟩
    case round =>
      obtain ⟨k, hk, rfl, hall⟩ := hrel
      by_cases hlt : k < s.size
      · have Hs1 := Lib.hid (all_snoc (fun c => !badV c.toNat) s k hlt)
        have Hn := Lib.hid (all_at (fun c => !badV c.toNat) s k hlt)
        obtain ⟨c, hc⟩ : ∃ c : UInt8, s[k] = c := ⟨_, rfl⟩
        rw [hc] at Hs1 Hn
        have hclt := c.toNat_lt
        by_cases hb1 : c.toNat < 32 ∧ c.toNat ≠ 9
        · have Hb : Hid (badV c.toNat = true) := Lib.hid (decide_eq_true (.inl hb1))
          have n9 : ((c.toNat : Int) != 9) = true := by rw [bne_iff_ne]; omega
          have l32 : (c.toNat : Int) < 32 := by omega
          clear hb1
          go_wp2
          go_ret
          exact ⟨ret_bool (by unfold valueM; rw [Hn.out (by rw [Hb.out]; rfl)]; simp), hb⟩
        · by_cases hb2 : c.toNat = 127
          · have Hb : Hid (badV c.toNat = true) := Lib.hid (decide_eq_true (.inr hb2))
            have e127 : ((c.toNat : Int) == 127) = true := by rw [beq_iff_eq]; omega
            have l32 : ¬ (c.toNat : Int) < 32 := by omega
            clear hb1 hb2
            go_wp2
            go_ret
            exact ⟨ret_bool (by unfold valueM; rw [Hn.out (by rw [Hb.out]; rfl)]; simp), hb⟩
          · have Hb : Hid (badV c.toNat = false) := Lib.hid (decide_eq_false (by omega))
            have e127 : ((c.toNat : Int) == 127) = false := by rw [beq_eq_false_iff_ne]; omega
            by_cases l32 : (c.toNat : Int) < 32
            · have n9 : ((c.toNat : Int) != 9) = false := by
                have : c.toNat = 9 := by omega
                rw [this]; rfl
              clear hb1 hb2
              go_wp2
              go_round
              case rel => exact ⟨k + 1, by omega, by go_num, Lib.hid (by rw [Hs1.out, hall.out, Hb.out]; rfl)⟩
              case measure => simp [intOf]; omega
            · clear hb1 hb2
              go_wp2
              go_round
              case rel => exact ⟨k + 1, by omega, by go_num, Lib.hid (by rw [Hs1.out, hall.out, Hb.out]; rfl)⟩
              case measure => simp [intOf]; omega
      · have Ht := Lib.hid (take_full s k (by omega))
        go_wp2
        go_ret
        refine ⟨ret_bool ?_, hb⟩
        have := hall.out
        rw [Ht.out] at this
        unfold valueM; rw [this, Hq.out, Hl.out]; simp
  · have Hf : Hid (valueM s.toList = false) := Lib.hid (by unfold valueM; rw [hl]; simp [hq])
    have hq1 : (((trimM s.toList).length : Int) != (s.size : Int)) = true := by rw [bne_iff_ne]; omega
    clear hq hl
    go_enter Tryd.func26, Tryd.ntmps26
    go_wp2_with fail
    refine (Trim_any s _ Hs.out).mono ?_; rintro e w1 ⟨rfl, hb⟩
    go_wp2
    go_ret
    exact ⟨ret_bool Hf.out.symm, hb⟩
end Go.Proofs.YthflfnehdlpmdaaDoor
