/- Layer 1: contracts of the reference's Trim, of Lower, its reference, and Same. No condition. -/
import Derived.Test.YtnjbfiejgiaibaaGreatDoorOctC2ToTab
namespace Go.Proofs.YtnjbfiejgiaibaaGreatDoor
set_option linter.all false
open Go Go.RowKit
set_option maxRecDepth 20000

@[simp] theorem S_at (l : List UInt8) (k : Nat) (h : k < (S l).size) : (S l)[k] = l[k]'(by rw [S_size] at h; exact h) := by
  have := toget (S l) k h
  rw [← this]; simp
theorem cut_head (a : UInt8) (t : List UInt8) : (S (a :: t)).extract 1 (t.length + 1) = S t := by
  apply ba_ext; simp [ByteArray.toList_eq, S, ByteArray.size]
theorem cut_tail (t : List UInt8) (a : UInt8) : (S (t ++ [a])).extract 0 t.length = S t := by
  apply ba_ext; simp [ByteArray.toList_eq, S, ByteArray.size]
theorem rdw_snoc (p : UInt8 → Bool) (t : List UInt8) (a : UInt8) : rdw p (t ++ [a]) = if p a = true then rdw p t else t ++ [a] := by
  unfold rdw
  rw [List.reverse_append]
  simp only [List.reverse_cons, List.reverse_nil, List.nil_append, List.cons_append]
  split
  · rename_i h; rw [List.dropWhile_cons_of_pos h]
  · rename_i h; rw [List.dropWhile_cons_of_neg h]; simp

theorem refTrim_any (s : ByteArray) (w : World) (hs : s.size ≤ maxLen) :
    Calls Tryz.prog 61 #[.string s] w fun e w' => e = .returned (.string (S (trimM s.toList))) ∧ w = w' := by
  obtain ⟨l, rfl⟩ : ∃ l, s = S l := ⟨_, (S_of s).symm⟩
  rw [S_toList]
  rw [S_size] at hs
  unfold maxLen at hs
  go_enter Tryz.func61, Tryz.ntmps61
  go_wp2
  go_loop [0] (fun v => ∃ r : List UInt8, v = .string (S r) ∧ r.length ≤ l.length ∧ Hid (r.dropWhile isBl = l.dropWhile isBl)) (fun v => match v with | .string x => x.size | _ => 0)
  case atStart => exact ⟨l, rfl, Nat.le_refl _, rfl⟩
  case round =>
    obtain ⟨r, rfl, hr, hd⟩ := hrel
    by_cases hc : ∃ a t, r = a :: t ∧ isBl a = true
    · obtain ⟨a, t, rfl, ha⟩ := hc
      have ha' : blankM a.toNat = true := ha
      have Hd : Hid (t.dropWhile isBl = l.dropWhile isBl) := Lib.hid (by have := hd.out; rwa [List.dropWhile_cons_of_pos ha] at this)
      have hcut := cut_head a t
      have hr2 : t.length + 1 ≤ l.length := hr
      clear ha hr
      go_wp2_with (go_at_call 30; refine (blank_any _ _).mono ?_; rintro e w' ⟨rfl, rfl⟩)
      go_round
      case rel => exact ⟨t, rfl, by omega, Hd⟩
      case measure => simp
    · have Hd : Hid (r = l.dropWhile isBl) := Lib.hid (by
        cases r with
        | nil => exact hd.out
        | cons a t =>
          have := hd.out
          rwa [List.dropWhile_cons_of_neg (fun h => hc ⟨a, t, rfl, h⟩)] at this)
      have Hf : Hid (trimM l = rdw isBl r) := Lib.hid (by rw [trimM_eq', Hd.out])
      have key : r = [] ∨ ∃ a t, r = a :: t ∧ blankM a.toNat = false := by
        cases r with
        | nil => exact .inl rfl
        | cons a t =>
          refine .inr ⟨a, t, rfl, ?_⟩
          cases h : blankM a.toNat with
          | false => rfl
          | true => exact absurd ⟨a, t, rfl, h⟩ hc
      clear hc hd Hd
      rcases key with rfl | ⟨a, t, rfl, ha⟩
      all_goals
        go_wp2_with (go_at_call 30; refine (blank_any _ _).mono ?_; rintro e w' ⟨rfl, rfl⟩)
        go_loop [0] (fun v => ∃ q : List UInt8, v = .string (S q) ∧ q.length ≤ l.length ∧ Hid (rdw isBl q = trimM l)) (fun v => match v with | .string x => x.size | _ => 0)
        case atStart => exact ⟨_, rfl, hr, Lib.hid Hf.out.symm⟩
        case round =>
          obtain ⟨q, rfl, hq, hdq⟩ := hrel
          by_cases hc : ∃ t a, q = t ++ [a] ∧ isBl a = true
          · obtain ⟨u, b, rfl, hb⟩ := hc
            have hb' : blankM b.toNat = true := hb
            have Hd : Hid (rdw isBl u = trimM l) := Lib.hid (by have := hdq.out; rwa [rdw_snoc, if_pos hb] at this)
            have hcut := cut_tail u b
            have hr2 : u.length + 1 ≤ l.length := by simpa using hq
            clear hb hq
            go_wp2_with (go_at_call 30; refine (blank_any _ _).mono ?_; rintro e w' ⟨rfl, rfl⟩)
            go_round
            case rel => exact ⟨u, rfl, by omega, Hd⟩
            case measure => simp
          · have key : q = [] ∨ ∃ u b, q = u ++ [b] ∧ blankM b.toNat = false ∧ u.length + 1 ≤ l.length := by
              rcases List.eq_nil_or_concat q with h | ⟨u, b, h⟩
              · exact .inl h
              · refine .inr ⟨u, b, by simpa using h, ?_, by rw [h] at hq; simpa using hq⟩
                cases h2 : blankM b.toNat with
                | false => rfl
                | true => exact absurd ⟨u, b, by simpa using h, h2⟩ hc
            have Hd : Hid (q = trimM l) := Lib.hid (by
              rcases key with h | ⟨u, b, h, h2, _⟩
              · have := hdq.out; rw [h] at this ⊢; exact this
              · have := hdq.out; rw [h, rdw_snoc, if_neg (by rw [show isBl b = blankM b.toNat from rfl, h2]; simp)] at this; rw [h]; exact this)
            clear hc
            rcases key with rfl | ⟨u, b, rfl, hb, hr2⟩
            all_goals
              go_wp2_with (go_at_call 30; refine (blank_any _ _).mono ?_; rintro e w' ⟨rfl, rfl⟩)
              go_ret
              exact ⟨ret_str (by rw [← Hd.out]), rfl⟩
theorem refLower_any (s : ByteArray) (w : World) (hs : s.size ≤ 140737488351232) :
    Calls Tryz.prog 36 #[.string s] w fun e w' => e = .returned (.string (S (lowM s.toList))) ∧ Below w.heap.size w w' := by
  obtain ⟨i8, hi8⟩ := uint8_row
  have Hi8 := Lib.hid hi8
  clear hi8
  go_enter Tryz.func36, Tryz.ntmps36
  go_wp2
  go_loopw [3, 4] (fun v i wr => ∃ k : Nat, k ≤ s.size ∧ i = .int .i64 k ∧ Own wr w.heap.size 5 v (lowM (s.toList.take k)) ∧ Below w.heap.size w wr) (fun _ i _ => s.size - (intOf i).toNat)
  case atStart => exact ⟨0, Nat.zero_le _, rfl, Own.new0 _ _ _ _ rfl (Nat.le_refl _), (Below.refl _ _).alloc (Nat.le_refl _) _⟩
  case round =>
    obtain ⟨k, hk, rfl, hown, hb⟩ := hrel
    by_cases hlt : k < s.size
    · have Hs : Hid (∀ c : UInt8, s[k] = c → lowM (s.toList.take (k + 1)) = lowM (s.toList.take k) ++ [lowC c]) := Lib.hid (fun c hc => by rw [take_snoc s k hlt, hc]; simp [lowM])
      obtain ⟨c, hc⟩ : ∃ c : UInt8, s[k] = c := ⟨_, rfl⟩
      have Hs2 := Lib.hid (Hs.out c hc)
      have hlen : (lowM (s.toList.take k)).length ≤ s.size := by rw [lowM_len, List.length_take]; have := tolen s; omega
      have hclt := c.toNat_lt
      clear Hs
      by_cases hup : 65 ≤ c.toNat ∧ c.toNat ≤ 90
      · have Hx := Lib.hid (lowC_add c hup)
        go_wp2_with (at_builtin; refine wpList_append_bytes rfl (.tmp 24) (.tmp 26) 22 rfl Tryz.underlying22 Hi8.out w.heap.size (wr.heap.size + 1) _ (lowM (s.toList.take k)) [lowC c] rfl (some ⟨wr.heap.size, 0, none⟩) 1 1 rfl ?_ ?c1a ?c2a rfl ?c4a ?c5a; intro v2 w2 hown2 hg2 hat2 hb2)
        case c1a => exact own_past hown _
        case c2a => exact rd_new1 _ _ _ _ Hx.out
        case c4a => first | omega | (simp; omega)
        case c5a => have := hb.size; first | omega | (simp; omega)
        go_roundw
        case rel => exact ⟨k + 1, by omega, by go_num, by rw [Hs2.out]; exact hown2, (hb.alloc hb.size _).trans hb2⟩
        case measure => simp [intOf]; omega
      · have Hx : Hid (((lowC c).toNat : Int) = c.toNat) := Lib.hid (by rw [lowC_no c hup])
        have hor : c.toNat < 65 ∨ 90 < c.toNat := by omega
        clear hup
        rcases hor with h65 | h90
        · by_cases h90 : c.toNat ≤ 90
          · go_wp2_with (at_builtin; refine wpList_append_bytes rfl (.tmp 24) (.tmp 26) 22 rfl Tryz.underlying22 Hi8.out w.heap.size (wr.heap.size + 1) _ (lowM (s.toList.take k)) [lowC c] rfl (some ⟨wr.heap.size, 0, none⟩) 1 1 rfl ?_ ?c1b ?c2b rfl ?c4b ?c5b; intro v2 w2 hown2 hg2 hat2 hb2)
            case c1b => exact own_past hown _
            case c2b => exact rd_new1 _ _ _ _ Hx.out
            case c4b => first | omega | (simp; omega)
            case c5b => have := hb.size; first | omega | (simp; omega)
            go_roundw
            case rel => exact ⟨k + 1, by omega, by go_num, by rw [Hs2.out]; exact hown2, (hb.alloc hb.size _).trans hb2⟩
            case measure => simp [intOf]; omega
          · exfalso; omega
        · have h65 : 65 ≤ c.toNat := by omega
          go_wp2_with (at_builtin; refine wpList_append_bytes rfl (.tmp 24) (.tmp 26) 22 rfl Tryz.underlying22 Hi8.out w.heap.size (wr.heap.size + 1) _ (lowM (s.toList.take k)) [lowC c] rfl (some ⟨wr.heap.size, 0, none⟩) 1 1 rfl ?_ ?c1c ?c2c rfl ?c4c ?c5c; intro v2 w2 hown2 hg2 hat2 hb2)
          case c1c => exact own_past hown _
          case c2c => exact rd_new1 _ _ _ _ Hx.out
          case c4c => first | omega | (simp; omega)
          case c5c => have := hb.size; first | omega | (simp; omega)
          go_roundw
          case rel => exact ⟨k + 1, by omega, by go_num, by rw [Hs2.out]; exact hown2, (hb.alloc hb.size _).trans hb2⟩
          case measure => simp [intOf]; omega
    · have Ht := Lib.hid (take_full s k (by omega))
      rw [Ht.out] at hown
      obtain ⟨A, c, rfl, _, _, hrd, _⟩ := hown.open_
      have hcv := conv_rd (P := Tryz.prog) hrd 22 9 5 c Tryz.underlying22 Tryz.underlying5 Tryz.underlying9
      clear hown
      go_wp2
      go_ret
      exact ⟨rfl, hb⟩
theorem Lower_any (s : ByteArray) (w : World) (hs : s.size ≤ 140737488351232) :
    Calls Tryz.prog 56 #[.string s] w fun e w' => e = .returned (.string (S (lowM s.toList))) ∧ Below w.heap.size w w' := by
  obtain ⟨W1, cs0, c0, hrun, hb1, hm1, hcs0, hc0, hl0⟩ := conv_str (P := Tryz.prog) w 9 22 5 s Tryz.underlying9 Tryz.underlying22 Tryz.underlying5
  have Hl0 := Lib.hid hl0
  have Hcs0 := Lib.hid hcs0
  have Hlen := Lib.hid (tolen s)
  clear hl0 hcs0
  go_enter Tryz.func56, Tryz.ntmps56
  go_wp2
  go_loopw [10] (fun i wr => ∃ (k : Nat) (cs : List Value), k ≤ s.size ∧ i = .int .i64 k ∧ Marked wr w.heap.size 5 cs ∧ Hid (cs.length = c0) ∧ Hid (cs.take s.size = (lowM (s.toList.take k) ++ s.toList.drop k).map U) ∧ Below w.heap.size w wr) (fun i _ => s.size - (intOf i).toNat)
  case atStart => exact ⟨0, cs0, Nat.zero_le _, rfl, hm1, Hl0, Lib.hid (by rw [Hcs0.out]; simp [lowM]), hb1⟩
  case round =>
    obtain ⟨k, cs, hk, rfl, hm, hl, hcs, hb⟩ := hrel
    by_cases hlt : k < s.size
    · obtain ⟨c, hc⟩ : ∃ c : UInt8, s[k] = c := ⟨_, rfl⟩
      have Hdrop : Hid (s.toList.drop k = c :: s.toList.drop (k + 1)) := Lib.hid (by
        rw [List.drop_eq_getElem_cons (by rw [tolen]; exact hlt), toget s k hlt, hc])
      have Htk : Hid (lowM (s.toList.take (k + 1)) = lowM (s.toList.take k) ++ [lowC c]) := Lib.hid (by rw [take_snoc s k hlt, hc]; simp [lowM])
      have Hll : Hid ((lowM (s.toList.take k)).length = k) := Lib.hid (by rw [lowM_len, List.length_take, Hlen.out]; omega)
      have hcl : k < cs.length := by have := hl.out; omega
      have hcell : wr.cell? ⟨w.heap.size, k, none⟩ = some (U c) := by
        rw [hm.at_]
        have : (cs.take s.size)[k]? = some (U c) := by
          rw [hcs.out, Hdrop.out, List.map_append, List.getElem?_append_right (by rw [List.length_map, Hll.out]; exact Nat.le_refl _), List.length_map, Hll.out, Nat.sub_self]; rfl
        rwa [List.getElem?_take_of_lt hlt] at this
      have hfree := hm.free k hcl
      have hclt := c.toNat_lt
      by_cases hup : 65 ≤ c.toNat ∧ c.toNat ≤ 90
      · have hput := hm.put k (.int .u8 (bits .or .u8 (c.toNat : Int) 32))
        have hb2 := hb.setCell (p := ⟨w.heap.size, k, none⟩) (Nat.le_refl _) (.int .u8 (bits .or .u8 (c.toNat : Int) 32))
        have hor := lowC_up c hup
        have Hor : Hid (Value.int .u8 (bits .or .u8 (c.toNat : Int) 32) = U (lowC c)) := Lib.hid (by rw [← hor])
        have Hset : Hid ((cs.set k (.int .u8 (bits .or .u8 (c.toNat : Int) 32))).take s.size = (lowM (s.toList.take (k + 1)) ++ s.toList.drop (k + 1)).map U) := Lib.hid (by
          rw [Hor.out, List.take_set, hcs.out, Hdrop.out, Htk.out, List.map_append, List.set_append_right _ _ (by rw [List.length_map, Hll.out]; exact Nat.le_refl _), List.length_map, Hll.out, Nat.sub_self]
          simp)
        have Hl2 : Hid ((cs.set k (.int .u8 (bits .or .u8 (c.toNat : Int) 32))).length = c0) := Lib.hid (by rw [List.length_set]; exact hl.out)
        clear hor hc
        go_wp2
        go_roundw
        case rel => exact ⟨k + 1, _, by omega, by go_num, hput, Hl2, Hset, hb2⟩
        case measure => simp [intOf]; omega
      · have Hx := Lib.hid (lowC_no c hup)
        have Hset : Hid (cs.take s.size = (lowM (s.toList.take (k + 1)) ++ s.toList.drop (k + 1)).map U) := Lib.hid (by
          rw [hcs.out, Hdrop.out, Htk.out, Hx.out]; simp)
        have hor : c.toNat < 65 ∨ 90 < c.toNat := by omega
        clear hup hc
        rcases hor with h65 | h90
        · go_wp2
          all_goals
            go_roundw
            case rel => exact ⟨k + 1, cs, by omega, by go_num, hm, hl, Hset, hb⟩
            case measure => simp [intOf]; omega
        · go_wp2
          all_goals
            go_roundw
            case rel => exact ⟨k + 1, cs, by omega, by go_num, hm, hl, Hset, hb⟩
            case measure => simp [intOf]; omega
    · have hrd : Rd wr (w.heap.size + 1) (some ⟨w.heap.size, 0, none⟩) (lowM s.toList) := hm.rd 0 (by omega) (fun i hi => by
        rw [lowM_len, Hlen.out] at hi
        have h1 := hcs.out
        rw [take_full s k (by omega), List.drop_eq_nil_of_le (by rw [Hlen.out]; omega), List.append_nil] at h1
        have : (cs.take s.size)[i]? = some (U (lowM s.toList)[i]) := by rw [h1, List.getElem?_map, List.getElem?_eq_getElem (by rw [lowM_len, Hlen.out]; exact hi)]; rfl
        rw [List.getElem?_take_of_lt hi] at this
        simpa using this)
      have hcv := conv_rd (P := Tryz.prog) hrd 22 9 5 c0 Tryz.underlying22 Tryz.underlying5 Tryz.underlying9
      rw [lowM_len, Hlen.out] at hcv
      go_wp2
      go_ret
      exact ⟨rfl, hb⟩
theorem Same_any (a b : ByteArray) (w : World) (ha : a.size ≤ 140737488351232) (hb : b.size ≤ 140737488351232) :
    Calls Tryz.prog 84 #[.string a, .string b] w fun e w' => e = .returned (.bool (decide (lowM a.toList = lowM b.toList))) ∧ Below w.heap.size w w' := by
  by_cases hq : a.size = b.size
  · have hz : ((a.size : Int) == (b.size : Int)) = true := by rw [hq]; simp
    clear hq
    go_enter Tryz.func84, Tryz.ntmps84
    go_wp2_with fail
    refine (Lower_any a _ ha).mono ?_; rintro e w1 ⟨rfl, hb1⟩
    go_wp2_with fail
    refine (Lower_any b _ hb).mono ?_; rintro e w2 ⟨rfl, hb2⟩
    go_wp2
    go_ret
    refine ⟨ret_bool ?_, bt hb1 hb2⟩
    rw [Bool.eq_iff_iff]; simp
  · have hz : ((a.size : Int) == (b.size : Int)) = false := by rw [beq_eq_false_iff_ne]; omega
    have Hf : Hid (decide (lowM a.toList = lowM b.toList) = false) := Lib.hid (by
      apply decide_eq_false
      intro h
      have := congrArg List.length h
      rw [lowM_len, lowM_len, tolen, tolen] at this
      exact hq this)
    clear hq
    go_enter Tryz.func84, Tryz.ntmps84
    go_wp2
    go_ret
    exact ⟨ret_bool Hf.out.symm, Below.refl _ _⟩
end Go.Proofs.YtnjbfiejgiaibaaGreatDoor
