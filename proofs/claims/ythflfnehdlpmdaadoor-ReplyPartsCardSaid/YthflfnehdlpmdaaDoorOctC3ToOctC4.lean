/- Layer 1: contracts of the reference's Value and Trim, of Lower, its reference, and Same. No condition. -/
import Derived.Test.YthflfnehdlpmdaaDoorOctC2
import Derived.Test.YthflfnehdlpmdaaDoorChecked
import Derived.Test.YthflfnehdlpmdaaDoorBaseToGl
import Derived.OwnWalk
namespace Go.Proofs.YthflfnehdlpmdaaDoor
set_option linter.all false
open Go Go.RowKit

end Go.Proofs.YthflfnehdlpmdaaDoor

/- Closed facts on this translation's table of types. No condition. -/
namespace Go.Proofs.YthflfnehdlpmdaaDoor
set_option linter.all false
open Go Go.RowKit
end Go.Proofs.YthflfnehdlpmdaaDoor

/- Layer 1: contracts of the reference's Trim, of Lower, its reference, and Same. No condition. -/
namespace Go.Proofs.YthflfnehdlpmdaaDoor
set_option linter.all false
open Go Go.RowKit
set_option maxRecDepth 20000

@[simp] theorem S_at (l : List UInt8) (k : Nat) (h : k < (S l).size) : (S l)[k] = l[k]'(by rw [S_size] at h; exact h) := by
  have := toget (S l) k h
  rw [← this]; simp
theorem Lower_any (s : ByteArray) (w : World) (hs : s.size ≤ 140737488351232) :
    Calls Tryd.prog 39 #[.string s] w fun e w' => e = .returned (.string (S (lowM s.toList))) ∧ Below w.heap.size w w' := by
  obtain ⟨W1, cs0, c0, hrun, hb1, hm1, hcs0, hc0, hl0⟩ := conv_str (P := Tryd.prog) w 9 32 5 s Tryd.underlying9 Tryd.underlying32 Tryd.underlying5
  have Hl0 := Lib.hid hl0
  have Hcs0 := Lib.hid hcs0
  have Hlen := Lib.hid (tolen s)
  clear hl0 hcs0
  go_enter Tryd.func39, Tryd.ntmps39
  go_wp2
  go_loopw [10] (fun i wr => ∃ (k : Nat) (cs : List Value), k ≤ s.size ∧ i = .int .i64 k ∧ Marked wr w.heap.size 5 cs ∧ Hid (cs.length = c0) ∧ Hid (cs.take s.size = (lowM (s.toList.take k) ++ s.toList.drop k).map U) ∧ Below w.heap.size w wr) (fun i _ => s.size - (intOf i).toNat)
  case atStart => exact ⟨0, cs0, Nat.zero_le _, rfl, hm1, Hl0, Lib.hid (by rw [Hcs0.out]; simp [lowM]), hb1⟩
  case round =>
    obtain ⟨k, cs, hk, rfl, hm, hl, hcs, hb⟩ := hrel
    by_cases hlt : k < s.size
    · obtain ⟨c, hc⟩ : ∃ c : UInt8, s[k] = c := ⟨_, rfl⟩
      have Hdrop : Hid (s.toList.drop k = c :: s.toList.drop (k + 1)) := Lib.hid (by
        rw [List.drop_eq_getElem_cons (by rw [tolen]; exact hlt), toget s k hlt, hc])
      have Htk : Hid (lowM (s.toList.take (k + 1)) = lowM (s.toList.take k) ++ [lowC c]) := Lib.hid (by rw [take_snoc s k hlt, hc]; simp [lowM])
      have Hll : Hid ((lowM (s.toList.take k)).length = k) := Lib.hid (by rw [lowM_len, List.length_take, Hlen.out]; omega)
      have hcl : k < cs.length := by have := hl.out; omega
      have hcell : wr.cell? ⟨w.heap.size, k, none⟩ = some (U c) := by
        rw [hm.at_]
        have : (cs.take s.size)[k]? = some (U c) := by
          rw [hcs.out, Hdrop.out, List.map_append, List.getElem?_append_right (by rw [List.length_map, Hll.out]; exact Nat.le_refl _), List.length_map, Hll.out, Nat.sub_self]; rfl
        rwa [List.getElem?_take_of_lt hlt] at this
      have hfree := hm.free k hcl
      have hclt := c.toNat_lt
      by_cases hup : 65 ≤ c.toNat ∧ c.toNat ≤ 90
      · have hput := hm.put k (.int .u8 (bits .or .u8 (c.toNat : Int) 32))
        have hb2 := hb.setCell (p := ⟨w.heap.size, k, none⟩) (Nat.le_refl _) (.int .u8 (bits .or .u8 (c.toNat : Int) 32))
        have hor := lowC_up c hup
        have Hor : Hid (Value.int .u8 (bits .or .u8 (c.toNat : Int) 32) = U (lowC c)) := Lib.hid (by rw [← hor])
        have Hset : Hid ((cs.set k (.int .u8 (bits .or .u8 (c.toNat : Int) 32))).take s.size = (lowM (s.toList.take (k + 1)) ++ s.toList.drop (k + 1)).map U) := Lib.hid (by
          rw [Hor.out, List.take_set, hcs.out, Hdrop.out, Htk.out, List.map_append, List.set_append_right _ _ (by rw [List.length_map, Hll.out]; exact Nat.le_refl _), List.length_map, Hll.out, Nat.sub_self]
          simp)
        have Hl2 : Hid ((cs.set k (.int .u8 (bits .or .u8 (c.toNat : Int) 32))).length = c0) := Lib.hid (by rw [List.length_set]; exact hl.out)
        clear hor hc
        go_wp2
        go_roundw
        case rel => exact ⟨k + 1, _, by omega, by go_num, hput, Hl2, Hset, hb2⟩
        case measure => simp [intOf]; omega
      · have Hx := Lib.hid (lowC_no c hup)
        have Hset : Hid (cs.take s.size = (lowM (s.toList.take (k + 1)) ++ s.toList.drop (k + 1)).map U) := Lib.hid (by
          rw [hcs.out, Hdrop.out, Htk.out, Hx.out]; simp)
        have hor : c.toNat < 65 ∨ 90 < c.toNat := by omega
        clear hup hc
        rcases hor with h65 | h90
        · go_wp2
          all_goals
            go_roundw
            case rel => exact ⟨k + 1, cs, by omega, by go_num, hm, hl, Hset, hb⟩
            case measure => simp [intOf]; omega
        · go_wp2
          all_goals
            go_roundw
            case rel => exact ⟨k + 1, cs, by omega, by go_num, hm, hl, Hset, hb⟩
            case measure => simp [intOf]; omega
    · have hrd : Rd wr (w.heap.size + 1) (some ⟨w.heap.size, 0, none⟩) (lowM s.toList) := hm.rd 0 (by omega) (fun i hi => by
        rw [lowM_len, Hlen.out] at hi
        have h1 := hcs.out
        rw [take_full s k (by omega), List.drop_eq_nil_of_le (by rw [Hlen.out]; omega), List.append_nil] at h1
        have : (cs.take s.size)[i]? = some (U (lowM s.toList)[i]) := by rw [h1, List.getElem?_map, List.getElem?_eq_getElem (by rw [lowM_len, Hlen.out]; exact hi)]; rfl
        rw [List.getElem?_take_of_lt hi] at this
        simpa using this)
      have hcv := conv_rd (P := Tryd.prog) hrd 32 9 5 c0 Tryd.underlying32 Tryd.underlying5 Tryd.underlying9
      rw [lowM_len, Hlen.out] at hcv
      go_wp2
      go_ret
      exact ⟨rfl, hb⟩
theorem Same_any (a b : ByteArray) (w : World) (ha : a.size ≤ 140737488351232) (hb : b.size ≤ 140737488351232) :
    Calls Tryd.prog 31 #[.string a, .string b] w fun e w' => e = .returned (.bool (decide (lowM a.toList = lowM b.toList))) ∧ Below w.heap.size w w' := by
  by_cases hq : a.size = b.size
  · have hz : ((a.size : Int) == (b.size : Int)) = true := by rw [hq]; simp
    clear hq
    go_enter Tryd.func31, Tryd.ntmps31
    go_wp2_with fail
    refine (Lower_any a _ ha).mono ?_; rintro e w1 ⟨rfl, hb1⟩
    go_wp2_with fail
    refine (Lower_any b _ hb).mono ?_; rintro e w2 ⟨rfl, hb2⟩
    go_wp2
    go_ret
    refine ⟨ret_bool ?_, bt hb1 hb2⟩
    rw [Bool.eq_iff_iff]; simp
  · have hz : ((a.size : Int) == (b.size : Int)) = false := by rw [beq_eq_false_iff_ne]; omega
    have Hf : Hid (decide (lowM a.toList = lowM b.toList) = false) := Lib.hid (by
      apply decide_eq_false
      intro h
      have := congrArg List.length h
      rw [lowM_len, lowM_len, tolen, tolen] at this
      exact hq this)
    clear hq
    go_enter Tryd.func31, Tryd.ntmps31
    go_wp2
    go_ret
    exact ⟨ret_bool Hf.out.symm, Below.refl _ _⟩
end Go.Proofs.YthflfnehdlpmdaaDoor
