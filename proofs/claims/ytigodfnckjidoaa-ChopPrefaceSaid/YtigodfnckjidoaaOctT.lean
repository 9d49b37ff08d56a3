/- Layer 1: contracts of Put, Take and their references. No condition. -/
import Derived.Test.YtigodfnckjidoaaOct
import Derived.Test.YtigodfnckjidoaaTab
namespace Go.Proofs.Ytigodfnckjidoaa
set_option linter.all false
open Go Go.RowKit

theorem take_any (l : List UInt8) (A : Option Addr) (c : Nat) (hc : l.length ≤ c) (hm : c ≤ maxLen) (p size : Int) (hp : p ≤ 9223372036854775807) (w : World) (B : Nat) (h : Rd w B A l) :
    Calls Try.prog 35 #[.slice A l.length c, .int .i64 p, .int .i64 size] w fun e w' => e = .returned (.tuple #[.int .u32 (takeV l p size), .int .i64 (takeE l p size)]) ∧ w = w' := by
  unfold maxLen at hm
  by_cases h1 : size < 1 ∨ 4 < size ∨ p < 0
  · have Hf : Hid (takeV l p size = 0 ∧ takeE l p size = 1) := by
      constructor
      · unfold takeV; rw [if_pos (by omega)]
      · unfold takeE; rw [if_pos h1]
    by_cases g1 : size < 1
    · go_enter Try.func35, Try.ntmps35
      go_wp2
      go_ret2
      exact ⟨ret_int2 Hf.out.1.symm Hf.out.2.symm, rfl⟩
    · by_cases g2 : 4 < size
      · clear h1
        go_enter Try.func35, Try.ntmps35
        go_wp2
        go_ret2
        exact ⟨ret_int2 Hf.out.1.symm Hf.out.2.symm, rfl⟩
      · have g3 : p < 0 := by omega
        clear h1
        go_enter Try.func35, Try.ntmps35
        go_wp2
        go_ret2
        exact ⟨ret_int2 Hf.out.1.symm Hf.out.2.symm, rfl⟩
  · have g1 : 1 ≤ size := by omega
    have g2 : size ≤ 4 := by omega
    have g3 : 0 ≤ p := by omega
    by_cases h2 : l.length - size < p
    · have Hf : Hid (takeV l p size = 0 ∧ takeE l p size = 12) := by
        constructor
        · unfold takeV; rw [if_pos (by omega)]
        · unfold takeE; rw [if_neg h1, if_pos h2]
      clear h1
      go_enter Try.func35, Try.ntmps35
      go_wp2
      go_ret2
      exact ⟨ret_int2 Hf.out.1.symm Hf.out.2.symm, rfl⟩
    · have Hf : Hid (takeV l p size = beN ((l.drop p.toNat).take size.toNat) ∧ takeE l p size = 0) := by
        constructor
        · unfold takeV; rw [if_neg (by omega)]
        · unfold takeE; rw [if_neg h1, if_neg h2]
      clear h1
      obtain ⟨p, rfl⟩ := Int.eq_ofNat_of_zero_le g3
      obtain ⟨k, rfl⟩ := Int.eq_ofNat_of_zero_le (show 0 ≤ size by omega)
      obtain ⟨g, o, rfl, hg, _⟩ := h.get (i := 0) (by omega)
      go_enter Try.func35, Try.ntmps35
      go_wp2
      go_loop [8, 34] (fun n i => ∃ j : Nat, j ≤ k ∧ i = .int .i64 j ∧ n = .int .u32 (beN ((l.drop p).take j))) (fun _ i => k - (intOf i).toNat)
      case atStart => exact ⟨0, Nat.zero_le _, rfl, by simp [beN]⟩
      case round =>
        obtain ⟨j, hj, rfl, rfl⟩ := hrel
        by_cases hlt : j < k
        · obtain ⟨b, hb, hcell⟩ := h.byte (i := p + j) (q := o + p + j) (by omega) (by omega)
          have Hs : Hid (beN ((l.drop p).take (j + 1)) = beN ((l.drop p).take j) * 256 + b.toNat) := Lib.hid (by
            rw [List.take_add_one, List.getElem?_drop, hb]; exact beN_snoc _ _)
          have hlt2 := beN_lt ((l.drop p).take j)
          have hb2 := b.toNat_lt
          clear hb
          have Hor := Lib.hid (or8 _ _ (by have := beN_small (l.drop p) j 3 (by omega); omega) hb2)
          clear hlt2
          go_wp2
          go_round
          case rel => exact ⟨j + 1, by omega, by go_num, by rw [Hs.out, Hor.out]⟩
          case measure => simp [intOf]; omega
        · obtain rfl : j = k := by omega
          go_wp2
          go_ret2
          exact ⟨ret_int2 (by simpa using Hf.out.1.symm) Hf.out.2.symm, rfl⟩

theorem reftake_any (l : List UInt8) (A : Option Addr) (c : Nat) (hc : l.length ≤ c) (hm : c ≤ maxLen) (p size : Int) (hp : p ≤ 9223372036854775807) (w : World) (B : Nat) (h : Rd w B A l) :
    Calls Try.prog 34 #[.slice A l.length c, .int .i64 p, .int .i64 size] w fun e w' => e = .returned (.tuple #[.int .u32 (takeV l p size), .int .i64 (takeE l p size)]) ∧ w = w' := by
  unfold maxLen at hm
  by_cases h1 : size < 1 ∨ 4 < size ∨ p < 0
  · have Hf : Hid (takeV l p size = 0 ∧ takeE l p size = 1) := by
      constructor
      · unfold takeV; rw [if_pos (by omega)]
      · unfold takeE; rw [if_pos h1]
    by_cases g1 : size < 1
    · go_enter Try.func34, Try.ntmps34
      go_wp2
      go_ret2
      exact ⟨ret_int2 Hf.out.1.symm Hf.out.2.symm, rfl⟩
    · by_cases g2 : 4 < size
      · clear h1
        go_enter Try.func34, Try.ntmps34
        go_wp2
        go_ret2
        exact ⟨ret_int2 Hf.out.1.symm Hf.out.2.symm, rfl⟩
      · have g3 : p < 0 := by omega
        clear h1
        go_enter Try.func34, Try.ntmps34
        go_wp2
        go_ret2
        exact ⟨ret_int2 Hf.out.1.symm Hf.out.2.symm, rfl⟩
  · have g1 : 1 ≤ size := by omega
    have g2 : size ≤ 4 := by omega
    have g3 : 0 ≤ p := by omega
    have Hf : Hid (if l.length - size < p then takeV l p size = 0 ∧ takeE l p size = 12 else takeV l p size = beN ((l.drop p.toNat).take size.toNat) ∧ takeE l p size = 0) := by
      by_cases h2 : l.length - size < p
      · show if _ then _ else _
        rw [if_pos h2]
        constructor
        · unfold takeV; rw [if_pos (by omega)]
        · unfold takeE; rw [if_neg h1, if_pos h2]
      · show if _ then _ else _
        rw [if_neg h2]
        constructor
        · unfold takeV; rw [if_neg (by omega)]
        · unfold takeE; rw [if_neg h1, if_neg h2]
    clear h1
    obtain ⟨p, rfl⟩ := Int.eq_ofNat_of_zero_le g3
    obtain ⟨k, rfl⟩ := Int.eq_ofNat_of_zero_le (show 0 ≤ size by omega)
    go_enter Try.func34, Try.ntmps34
    go_wp2
    go_loop [8, 9] (fun n i => ∃ j : Nat, j ≤ k ∧ i = .int .i64 j ∧ n = .int .u32 (beN ((l.drop p).take j)) ∧ (0 < j → p + j ≤ l.length)) (fun _ i => k - (intOf i).toNat)
    case atStart => exact ⟨0, Nat.zero_le _, rfl, by simp [beN], by omega⟩
    case round =>
      obtain ⟨j, hj, rfl, rfl, hin⟩ := hrel
      by_cases hlt : j < k
      · by_cases hq : p + j < l.length
        · obtain ⟨g, o, rfl, hg, _⟩ := h.get (i := 0) (by omega)
          obtain ⟨b, hb, hcell⟩ := h.byte (i := p + j) (q := o + (p + j)) (by omega) (by omega)
          have Hs : Hid (beN ((l.drop p).take (j + 1)) = beN ((l.drop p).take j) * 256 + b.toNat) := Lib.hid (by
            rw [List.take_add_one, List.getElem?_drop, hb]; exact beN_snoc _ _)
          have hsm := beN_small (l.drop p) j 3 (by omega)
          have Hsm : Hid (beN ((l.drop p).take j) < 256 ^ 3) := hsm
          clear hsm
          have hb2 := b.toNat_lt
          obtain ⟨x, Hx⟩ : ∃ x, Hid (x = beN ((l.drop p).take j)) := ⟨_, rfl⟩
          rw [← Hx.out] at Hsm Hs ⊢
          have hx : x ≤ 16777215 := by have := Hsm.out; omega
          clear hb hin
          go_wp2
          go_round
          case rel => exact ⟨j + 1, by omega, by go_num, by rw [Hs.out]; go_num, by omega⟩
          case measure => simp [intOf]; omega
        · have Hq : Hid (takeV l p k = 0 ∧ takeE l p k = 12) := by
            have := Hf.out; rw [if_pos (by omega)] at this; exact this
          clear hin Hf
          go_wp2
          go_ret2
          exact ⟨ret_int2 Hq.out.1.symm Hq.out.2.symm, rfl⟩
      · obtain rfl : j = k := by omega
        have Hq : Hid (takeV l p j = beN ((l.drop p).take j) ∧ takeE l p j = 0) := by
          have := Hf.out; rw [if_neg (by omega)] at this; exact Lib.hid (by simpa using this)
        clear hin Hf
        go_wp2
        go_ret2
        exact ⟨ret_int2 Hq.out.1.symm Hq.out.2.symm, rfl⟩

theorem refput_any (n : Nat) (hn : n < 4294967296) (size : Int) (w : World) :
    Calls Try.prog 23 #[.int .u32 n, .int .i64 size] w fun e w' => (∃ v, e = .returned v ∧ Own w' w.heap.size 5 v (putL n size)) ∧ Below w.heap.size w w' := by
  by_cases h1 : size < 1 ∨ 4 < size
  · have Hf : Hid (putL n size = []) := by show putL n size = _; unfold putL; rw [if_pos h1]
    by_cases g1 : size < 1
    · clear h1
      go_enter Try.func23, Try.ntmps23
      go_wp2
      go_ret
      exact ⟨⟨_, rfl, by rw [Hf.out]; exact Own.empty _ _ _⟩, Below.refl _ _⟩
    · have g2 : 4 < size := by omega
      clear h1
      go_enter Try.func23, Try.ntmps23
      go_wp2
      go_ret
      exact ⟨⟨_, rfl, by rw [Hf.out]; exact Own.empty _ _ _⟩, Below.refl _ _⟩
  · obtain ⟨k, rfl⟩ := Int.eq_ofNat_of_zero_le (show 0 ≤ size by omega)
    have Hf : Hid (putL n k = putB k n) := by show putL n k = _; unfold putL; rw [if_neg h1]; rfl
    have g1 : 1 ≤ k := by omega
    have g2 : k ≤ 4 := by omega
    clear h1
    obtain ⟨i8, hi8⟩ := uint8_row
    have Hi8 := Lib.hid hi8
    clear hi8
    go_enter Try.func23, Try.ntmps23
    have H4 : Hid (∀ W : World, Rd (W.alloc (.cells #[Value.int .u8 ((n : Int) / 16777216), Value.int .u8 ((n : Int) / 65536 % 256), Value.int .u8 ((n : Int) / 256 % 256), Value.int .u8 ((n : Int) % 256)] 5)) (W.heap.size + 1) (some ⟨W.heap.size, 4 - k, none⟩) (putB k n)) := Lib.hid (fun W => by
      have hw := Whole.new W 5 [Value.int .u8 ((n : Int) / 16777216), Value.int .u8 ((n : Int) / 65536 % 256), Value.int .u8 ((n : Int) / 256 % 256), Value.int .u8 ((n : Int) % 256)]
      refine Rd.of_whole hw (4 - k) (by omega) (fun i hi => ?_)
      have hk : k = 1 ∨ k = 2 ∨ k = 3 ∨ k = 4 := by omega
      have b0 := byte_at n 0
      have b1 := byte_at n 1
      have b2 := byte_at n 2
      have b3 := byte_at n 3
      have e3 : (n : Int) / 2 ^ (8 * 3) % 256 = (n : Int) / 16777216 := by omega
      rw [e3] at b3
      simp only [Nat.mul_zero, Nat.reduceMul, Int.reducePow, Int.ediv_one] at b0 b1 b2 b3
      rw [b0, b1, b2, b3]
      rw [putB_length] at hi
      rcases hk with rfl | rfl | rfl | rfl
      · obtain rfl : i = 0 := by omega
        rfl
      · obtain rfl | rfl : i = 0 ∨ i = 1 := by omega
        all_goals rfl
      · obtain rfl | rfl | rfl : i = 0 ∨ i = 1 ∨ i = 2 := by omega
        all_goals rfl
      · obtain rfl | rfl | rfl | rfl : i = 0 ∨ i = 1 ∨ i = 2 ∨ i = 3 := by omega
        all_goals rfl)
    go_wp2_with (at_builtin; refine wpList_append_bytes rfl (.tmp 27) (.tmp 31) 24 rfl Try.underlying24 Hi8.out w.heap.size (w.heap.size + 1) (.slice (some ⟨w.heap.size + 1, 0, none⟩) 0 0) [] (putB k n) rfl (some ⟨w.heap.size, 4 - k, none⟩) (4 - (4 - k)) (4 - (4 - k)) rfl ?_ ?c1 ?c2 ?c3 ?c4 ?c5; intro v1 w1 hown1 hg1 hat1 hb1)
    case c1 => exact Own.new0 _ _ _ _ (by simp) (by simp)
    case c2 => exact (H4.out w).keep ((Below.refl _ _).alloc (by simp) _)
    case c3 => rw [putB_length]; omega
    case c4 => rw [putB_length]; simp; omega
    case c5 => simp; omega
    go_ret
    refine ⟨⟨v1, rfl, ?_⟩, ?_⟩
    · rw [Hf.out]; exact hown1
    · exact (((Below.refl _ _).alloc (Nat.le_refl _) _).alloc (by simp) _).trans hb1
end Go.Proofs.Ytigodfnckjidoaa
