/- Layer 1: contracts of Token, Value, Lower, Same, Trim and their references. No condition. -/
import Derived.Test.YthflfnehdlpmdaaDoorOctCMToOctC
import Derived.Test.YthflfnehdlpmdaaDoorChecked
import Derived.Test.YthflfnehdlpmdaaDoorMemToGl
import Derived.OwnWalk
namespace Go.Proofs.YthflfnehdlpmdaaDoor
set_option linter.all false
open Go Go.RowKit

theorem all_snoc (f : UInt8 → Bool) (s : ByteArray) (k : Nat) (h : k < s.size) : (s.toList.take (k + 1)).all f = ((s.toList.take k).all f && f s[k]) := by
  rw [take_snoc s k h]; simp
theorem all_at (f : UInt8 → Bool) (s : ByteArray) (k : Nat) (h : k < s.size) (hf : f s[k] = false) : s.toList.all f = false := by
  rw [List.all_eq_false]
  exact ⟨s[k], by rw [← toget s k h]; exact List.getElem_mem _, by simp [hf]⟩

theorem Token_any (s : ByteArray) (w : World) (hs : s.size ≤ maxLen) :
    Calls Tryd.prog 49 #[.string s] w fun e w' => e = .returned (.bool (tokenM s.toList)) ∧ w = w' := by
  unfold maxLen at hs
  go_enter Tryd.func49, Tryd.ntmps49
  go_wp2
  go_loop [6] (fun i => ∃ k : Nat, k ≤ s.size ∧ i = .int .i64 k ∧ Hid ((s.toList.take k).all (fun c => tokM c.toNat) = true)) (fun i => s.size - (intOf i).toNat)
  case atStart => exact ⟨0, Nat.zero_le _, rfl, rfl⟩
  case round =>
    obtain ⟨k, hk, rfl, hall⟩ := hrel
    by_cases hlt : k < s.size
    · have Hs := Lib.hid (all_snoc (fun c => tokM c.toNat) s k hlt)
      have Hn := Lib.hid (all_at (fun c => tokM c.toNat) s k hlt)
      cases hb : tokM s[k].toNat
      · have Hb := Lib.hid hb
        go_wp2_with (go_at_call 64; refine (token_any _ _).mono ?_; rintro e w' ⟨rfl, rfl⟩)
        go_ret
        exact ⟨ret_bool (by unfold tokenM; rw [Hn.out Hb.out]; simp), rfl⟩
      · have Hb := Lib.hid hb
        go_wp2_with (go_at_call 64; refine (token_any _ _).mono ?_; rintro e w' ⟨rfl, rfl⟩)
        go_round
        case rel => exact ⟨k + 1, by omega, by go_num, Lib.hid (by rw [Hs.out, hall.out]; simp [Hb.out])⟩
        case measure => simp [intOf]; omega
    · have Ht := Lib.hid (take_full s k (by omega))
      go_wp2
      go_ret
      refine ⟨ret_bool ?_, rfl⟩
      have := hall.out
      rw [Ht.out] at this
      unfold tokenM; rw [this]; simp
theorem Trim_any (s : ByteArray) (w : World) (hs : s.size ≤ maxLen) :
    Calls Tryd.prog 27 #[.string s] w fun e w' => e = .returned (.string (S (trimM s.toList))) ∧ Below w.heap.size w w' := by
  have h := Any.strings_Trim_laid Tryd.lays160 (by kernel_rfl) s ⟨#[32, 9]⟩ w (by unfold maxLen at hs; omega) (by decide) (ascii_of_all (by decide))
  change Calls Tryd.prog 34 #[.string s, .string { data := #[32, 9] }] w (fun e w' => e = .returned (.string ⟨(Lib.trimS s.data.toList [32, 9]).toArray⟩) ∧ Below w.heap.size w w') at h
  rw [← ByteArray.toList_eq] at h
  change Calls Tryd.prog 34 #[.string s, .string { data := #[32, 9] }] w (fun e w' => e = .returned (.string (S (trimM s.toList))) ∧ Below w.heap.size w w') at h
  have H := Lib.hid h
  clear h
  go_enter Tryd.func27, Tryd.ntmps27
  go_wp2_with fail
  refine (H.out).mono ?_; rintro e w' ⟨rfl, hb⟩
  go_wp2
  go_ret
  exact ⟨rfl, hb⟩
theorem Value_any (s : ByteArray) (w : World) (hs : s.size ≤ maxLen) :
    Calls Tryd.prog 26 #[.string s] w fun e w' => e = .returned (.bool (valueM s.toList)) ∧ Below w.heap.size w w' := by
  have Hs := Lib.hid hs
  unfold maxLen at hs
  have hl := tolen s
  have hle : (trimM s.toList).length ≤ s.size := by
    rw [← hl, trimM_eq']
    have h1 := dw_le isBl (s.toList.dropWhile isBl).reverse
    rw [List.length_reverse] at h1
    have h2 := dw_le isBl s.toList
    show ((s.toList.dropWhile isBl).reverse.dropWhile isBl).reverse.length ≤ _
    rw [List.length_reverse]; omega
  by_cases hq : (trimM s.toList).length = s.size
  · have Hq := Lib.hid hq
    have hq1 : (((trimM s.toList).length : Int) != (s.size : Int)) = false := by rw [hq]; simp
    have Hl := Lib.hid hl
    clear hq hl
    go_enter Tryd.func26, Tryd.ntmps26
    go_wp2_with fail
    refine (Trim_any s _ Hs.out).mono ?_; rintro e w1 ⟨rfl, hb⟩
    go_wp2
    go_loop [12] (fun i => ∃ k : Nat, k ≤ s.size ∧ i = .int .i64 k ∧ Hid ((s.toList.take k).all (fun c => !badV c.toNat) = true)) (fun i => s.size - (intOf i).toNat)
    case atStart => exact ⟨0, Nat.zero_le _, rfl, rfl⟩
    case round =>
      obtain ⟨k, hk, rfl, hall⟩ := hrel
      by_cases hlt : k < s.size
      · have Hs1 := Lib.hid (all_snoc (fun c => !badV c.toNat) s k hlt)
        have Hn := Lib.hid (all_at (fun c => !badV c.toNat) s k hlt)
        obtain ⟨c, hc⟩ : ∃ c : UInt8, s[k] = c := ⟨_, rfl⟩
        rw [hc] at Hs1 Hn
        have hclt := c.toNat_lt
        by_cases hb1 : c.toNat < 32 ∧ c.toNat ≠ 9
        · have Hb : Hid (badV c.toNat = true) := Lib.hid (decide_eq_true (.inl hb1))
          have n9 : ((c.toNat : Int) != 9) = true := by rw [bne_iff_ne]; omega
          have l32 : (c.toNat : Int) < 32 := by omega
          clear hb1
          go_wp2
          go_ret
          exact ⟨ret_bool (by unfold valueM; rw [Hn.out (by rw [Hb.out]; rfl)]; simp), hb⟩
        · by_cases hb2 : c.toNat = 127
          · have Hb : Hid (badV c.toNat = true) := Lib.hid (decide_eq_true (.inr hb2))
            have e127 : ((c.toNat : Int) == 127) = true := by rw [beq_iff_eq]; omega
            have l32 : ¬ (c.toNat : Int) < 32 := by omega
            clear hb1 hb2
            go_wp2
            go_ret
            exact ⟨ret_bool (by unfold valueM; rw [Hn.out (by rw [Hb.out]; rfl)]; simp), hb⟩
          · have Hb : Hid (badV c.toNat = false) := Lib.hid (decide_eq_false (by omega))
            have e127 : ((c.toNat : Int) == 127) = false := by rw [beq_eq_false_iff_ne]; omega
            by_cases l32 : (c.toNat : Int) < 32
            · have n9 : ((c.toNat : Int) != 9) = false := by
                have : c.toNat = 9 := by omega
                rw [this]; rfl
              clear hb1 hb2
              go_wp2
              go_round
              case rel => exact ⟨k + 1, by omega, by go_num, Lib.hid (by rw [Hs1.out, hall.out, Hb.out]; rfl)⟩
              case measure => simp [intOf]; omega
            · clear hb1 hb2
              go_wp2
              go_round
              case rel => exact ⟨k + 1, by omega, by go_num, Lib.hid (by rw [Hs1.out, hall.out, Hb.out]; rfl)⟩
              case measure => simp [intOf]; omega
      · have Ht := Lib.hid (take_full s k (by omega))
        go_wp2
        go_ret
        refine ⟨ret_bool ?_, hb⟩
        have := hall.out
        rw [Ht.out] at this
        unfold valueM; rw [this, Hq.out, Hl.out]; simp
  · have Hf : Hid (valueM s.toList = false) := Lib.hid (by unfold valueM; rw [hl]; simp [hq])
    have hq1 : (((trimM s.toList).length : Int) != (s.size : Int)) = true := by rw [bne_iff_ne]; omega
    clear hq hl
    go_enter Tryd.func26, Tryd.ntmps26
    go_wp2_with fail
    refine (Trim_any s _ Hs.out).mono ?_; rintro e w1 ⟨rfl, hb⟩
    go_wp2
    go_ret
    exact ⟨ret_bool Hf.out.symm, hb⟩
end Go.Proofs.YthflfnehdlpmdaaDoor

/- Layer 1: contracts of the reference's Value and Trim, of Lower, its reference, and Same. No condition. -/
namespace Go.Proofs.YthflfnehdlpmdaaDoor
set_option linter.all false
open Go Go.RowKit

end Go.Proofs.YthflfnehdlpmdaaDoor

/- Closed facts on this translation's table of types. No condition. -/
namespace Go.Proofs.YthflfnehdlpmdaaDoor
set_option linter.all false
open Go Go.RowKit
end Go.Proofs.YthflfnehdlpmdaaDoor

/- Layer 1: contracts of the reference's Trim, of Lower, its reference, and Same. No condition. -/
namespace Go.Proofs.YthflfnehdlpmdaaDoor
set_option linter.all false
open Go Go.RowKit
set_option maxRecDepth 20000

@[simp] theorem S_at (l : List UInt8) (k : Nat) (h : k < (S l).size) : (S l)[k] = l[k]'(by rw [S_size] at h; exact h) := by
  have := toget (S l) k h
  rw [← this]; simp
theorem Lower_any (s : ByteArray) (w : World) (hs : s.size ≤ 140737488351232) :
    Calls Tryd.prog 39 #[.string s] w fun e w' => e = .returned (.string (S (lowM s.toList))) ∧ Below w.heap.size w w' := by
  obtain ⟨W1, cs0, c0, hrun, hb1, hm1, hcs0, hc0, hl0⟩ := conv_str (P := Tryd.prog) w 9 32 5 s Tryd.underlying9 Tryd.underlying32 Tryd.underlying5
  have Hl0 := Lib.hid hl0
  have Hcs0 := Lib.hid hcs0
  have Hlen := Lib.hid (tolen s)
  clear hl0 hcs0
  go_enter Tryd.func39, Tryd.ntmps39
  go_wp2
  go_loopw [10] (fun i wr => ∃ (k : Nat) (cs : List Value), k ≤ s.size ∧ i = .int .i64 k ∧ Marked wr w.heap.size 5 cs ∧ Hid (cs.length = c0) ∧ Hid (cs.take s.size = (lowM (s.toList.take k) ++ s.toList.drop k).map U) ∧ Below w.heap.size w wr) (fun i _ => s.size - (intOf i).toNat)
  case atStart => exact ⟨0, cs0, Nat.zero_le _, rfl, hm1, Hl0, Lib.hid (by rw [Hcs0.out]; simp [lowM]), hb1⟩
  case round =>
    obtain ⟨k, cs, hk, rfl, hm, hl, hcs, hb⟩ := hrel
    by_cases hlt : k < s.size
    · obtain ⟨c, hc⟩ : ∃ c : UInt8, s[k] = c := ⟨_, rfl⟩
      have Hdrop : Hid (s.toList.drop k = c :: s.toList.drop (k + 1)) := Lib.hid (by
        rw [List.drop_eq_getElem_cons (by rw [tolen]; exact hlt), toget s k hlt, hc])
      have Htk : Hid (lowM (s.toList.take (k + 1)) = lowM (s.toList.take k) ++ [lowC c]) := Lib.hid (by rw [take_snoc s k hlt, hc]; simp [lowM])
      have Hll : Hid ((lowM (s.toList.take k)).length = k) := Lib.hid (by rw [lowM_len, List.length_take, Hlen.out]; omega)
      have hcl : k < cs.length := by have := hl.out; omega
      have hcell : wr.cell? ⟨w.heap.size, k, none⟩ = some (U c) := by
        rw [hm.at_]
        have : (cs.take s.size)[k]? = some (U c) := by
          rw [hcs.out, Hdrop.out, List.map_append, List.getElem?_append_right (by rw [List.length_map, Hll.out]; exact Nat.le_refl _), List.length_map, Hll.out, Nat.sub_self]; rfl
        rwa [List.getElem?_take_of_lt hlt] at this
      have hfree := hm.free k hcl
      have hclt := c.toNat_lt
      by_cases hup : 65 ≤ c.toNat ∧ c.toNat ≤ 90
      · have hput := hm.put k (.int .u8 (bits .or .u8 (c.toNat : Int) 32))
        have hb2 := hb.setCell (p := ⟨w.heap.size, k, none⟩) (Nat.le_refl _) (.int .u8 (bits .or .u8 (c.toNat : Int) 32))
        have hor := lowC_up c hup
        have Hor : Hid (Value.int .u8 (bits .or .u8 (c.toNat : Int) 32) = U (lowC c)) := Lib.hid (by rw [← hor])
        have Hset : Hid ((cs.set k (.int .u8 (bits .or .u8 (c.toNat : Int) 32))).take s.size = (lowM (s.toList.take (k + 1)) ++ s.toList.drop (k + 1)).map U) := Lib.hid (by
          rw [Hor.out, List.take_set, hcs.out, Hdrop.out, Htk.out, List.map_append, List.set_append_right _ _ (by rw [List.length_map, Hll.out]; exact Nat.le_refl _), List.length_map, Hll.out, Nat.sub_self]
          simp)
        have Hl2 : Hid ((cs.set k (.int .u8 (bits .or .u8 (c.toNat : Int) 32))).length = c0) := Lib.hid (by rw [List.length_set]; exact hl.out)
        clear hor hc
        go_wp2
        go_roundw
        case rel => exact ⟨k + 1, _, by omega, by go_num, hput, Hl2, Hset, hb2⟩
        case measure => simp [intOf]; omega
      · have Hx := Lib.hid (lowC_no c hup)
        have Hset : Hid (cs.take s.size = (lowM (s.toList.take (k + 1)) ++ s.toList.drop (k + 1)).map U) := Lib.hid (by
          rw [hcs.out, Hdrop.out, Htk.out, Hx.out]; simp)
        have hor : c.toNat < 65 ∨ 90 < c.toNat := by omega
        clear hup hc
        rcases hor with h65 | h90
        · go_wp2
          all_goals
            go_roundw
            case rel => exact ⟨k + 1, cs, by omega, by go_num, hm, hl, Hset, hb⟩
            case measure => simp [intOf]; omega
        · go_wp2
          all_goals
            go_roundw
            case rel => exact ⟨k + 1, cs, by omega, by go_num, hm, hl, Hset, hb⟩
            case measure => simp [intOf]; omega
    · have hrd : Rd wr (w.heap.size + 1) (some ⟨w.heap.size, 0, none⟩) (lowM s.toList) := hm.rd 0 (by omega) (fun i hi => by
        rw [lowM_len, Hlen.out] at hi
        have h1 := hcs.out
        rw [take_full s k (by omega), List.drop_eq_nil_of_le (by rw [Hlen.out]; omega), List.append_nil] at h1
        have : (cs.take s.size)[i]? = some (U (lowM s.toList)[i]) := by rw [h1, List.getElem?_map, List.getElem?_eq_getElem (by rw [lowM_len, Hlen.out]; exact hi)]; rfl
        rw [List.getElem?_take_of_lt hi] at this
        simpa using this)
      have hcv := conv_rd (P := Tryd.prog) hrd 32 9 5 c0 Tryd.underlying32 Tryd.underlying5 Tryd.underlying9
      rw [lowM_len, Hlen.out] at hcv
      go_wp2
      go_ret
      exact ⟨rfl, hb⟩
theorem Same_any (a b : ByteArray) (w : World) (ha : a.size ≤ 140737488351232) (hb : b.size ≤ 140737488351232) :
    Calls Tryd.prog 31 #[.string a, .string b] w fun e w' => e = .returned (.bool (decide (lowM a.toList = lowM b.toList))) ∧ Below w.heap.size w w' := by
  by_cases hq : a.size = b.size
  · have hz : ((a.size : Int) == (b.size : Int)) = true := by rw [hq]; simp
    clear hq
    go_enter Tryd.func31, Tryd.ntmps31
    go_wp2_with fail
    refine (Lower_any a _ ha).mono ?_; rintro e w1 ⟨rfl, hb1⟩
    go_wp2_with fail
    refine (Lower_any b _ hb).mono ?_; rintro e w2 ⟨rfl, hb2⟩
    go_wp2
    go_ret
    refine ⟨ret_bool ?_, bt hb1 hb2⟩
    rw [Bool.eq_iff_iff]; simp
  · have hz : ((a.size : Int) == (b.size : Int)) = false := by rw [beq_eq_false_iff_ne]; omega
    have Hf : Hid (decide (lowM a.toList = lowM b.toList) = false) := Lib.hid (by
      apply decide_eq_false
      intro h
      have := congrArg List.length h
      rw [lowM_len, lowM_len, tolen, tolen] at this
      exact hq this)
    clear hq
    go_enter Tryd.func31, Tryd.ntmps31
    go_wp2
    go_ret
    exact ⟨ret_bool Hf.out.symm, Below.refl _ _⟩
end Go.Proofs.YthflfnehdlpmdaaDoor
