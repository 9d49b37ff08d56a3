/- Layer 12: contracts of the document's guess at a text. No condition. -/
import Derived.Test.YtnaapoigmihjoaaDateT
import Derived.Test.YtnaapoigmihjoaaDateN
import Derived.Test.YtnaapoigmihjoaaTyp
namespace Go.Proofs.Ytnaapoigmihjoaa
open Go Go.RowKit
set_option linter.all false

theorem Below.drewN {B : Nat} {a w : World} (h : Below B a w) (n : Nat) : Below B a (w.drewN n) := ⟨h.os, h.tape, h.output, h.size, h.block⟩
/-- The number that two bytes at a place say; -1: none. -/
def twoR (s : List UInt8) (i : Int) : Int :=
  if 0 ≤ i ∧ i + 2 ≤ s.length ∧ ((s.drop i.toNat).take 2).all isDg = true then valD ((s.drop i.toNat).take 2) else -1
theorem two_cut (s : List UInt8) (i : Nat) (h : i + 2 ≤ s.length) : (s.drop i).take 2 = [s[i], s[i + 1]] := by
  rw [List.drop_eq_getElem_cons (by omega), List.drop_eq_getElem_cons (by omega)]; rfl
theorem S_idx (s : List UInt8) (i : Nat) (h : i < s.length) : (S s)[i]'(by rw [S_size]; exact h) = s[i] := by
  have := toget (S s) i (by rw [S_size]; exact h)
  rw [← this]; simp
theorem twoR_bd (s : List UInt8) (i : Int) : -1 ≤ twoR s i ∧ twoR s i ≤ 99 := by
  unfold twoR
  split
  · rename_i h
    have h1 := valD_bd _ h.2.2
    have h2 : ((s.drop i.toNat).take 2).length ≤ 2 := by rw [List.length_take]; omega
    have h3 : (10 : Int) ^ ((s.drop i.toNat).take 2).length ≤ 100 := by
      rcases (by omega : ((s.drop i.toNat).take 2).length = 0 ∨ ((s.drop i.toNat).take 2).length = 1 ∨ ((s.drop i.toNat).take 2).length = 2) with e | e | e <;> rw [e] <;> decide
    omega
  · omega
set_option maxHeartbeats 800000 in
theorem refTwo_any (s : List UInt8) (i : Int) (hs : s.length ≤ 9223372036854775000) (hi : i ≤ 9223372036854775000) (w : World) :
    Calls Try.prog 40 #[.string (S s), .int .i64 i] w fun e w' => e = .returned (.int .i64 (twoR s i)) ∧ ∃ n, w' = w.drewN n := by
  by_cases h0 : 0 ≤ i
  · by_cases h1 : i + 2 ≤ s.length
    · obtain ⟨i, rfl⟩ := Int.eq_ofNat_of_zero_le h0
      have hc := two_cut s i (by omega)
      obtain ⟨a, ha⟩ : ∃ a : UInt8, s[i]'(by omega) = a := ⟨_, rfl⟩
      obtain ⟨b, hb⟩ : ∃ a : UInt8, s[i + 1]'(by omega) = a := ⟨_, rfl⟩
      have xa : (S s)[i]'(by rw [S_size]; omega) = a := by rw [S_idx s i (by omega), ha]
      have xb : (S s)[i + 1]'(by rw [S_size]; omega) = b := by rw [S_idx s (i + 1) (by omega), hb]
      rw [ha, hb] at hc
      have Hv : Hid (twoR s i = if ([a, b] : List UInt8).all isDg = true then 10 * ((a.toNat : Int) - 48) + ((b.toNat : Int) - 48) else -1) := Lib.hid (by
        unfold twoR
        rw [Int.toNat_natCast, hc]
        by_cases hd : ([a, b] : List UInt8).all isDg = true
        · rw [if_pos ⟨by omega, by omega, hd⟩, if_pos hd]; simp [valD]
        · rw [if_neg (fun e => hd e.2.2), if_neg hd])
      clear hc
      have hia : i < s.length := by omega
      have hib : i + 1 < s.length := by omega
      have ca := a.toNat_lt
      have cb := b.toNat_lt
      have g0 : decide ((i : Int) < 0) = false := decide_eq_false (by omega)
      have g1 : decide ((s.length : Int) < (i : Int) + 2) = false := decide_eq_false (by omega)
      by_cases da : 48 ≤ a.toNat ∧ a.toNat ≤ 57
      · have ea : decide (48 ≤ a.toNat ∧ a.toNat ≤ 57) = true := decide_eq_true da
        by_cases db : 48 ≤ b.toNat ∧ b.toNat ≤ 57
        · have eb : decide (48 ≤ b.toNat ∧ b.toNat ≤ 57) = true := decide_eq_true db
          have Hv2 : Hid (twoR s i = 10 * ((a.toNat : Int) - 48) + ((b.toNat : Int) - 48)) := Lib.hid (by rw [Hv.out, if_pos (by simp [isDg, da, db])])
          go_enter Try.func40, Try.ntmps40
          go_wp2_with (go_at_call 42; refine (refDigit_u8 _ _).mono ?_; rintro e w' ⟨rfl, rfl⟩)
          go_quiet (fail)
          go_wp2
          go_ret
          exact ⟨ret_int (by rw [Hv2.out]; omega), _, rfl⟩
        · have eb : decide (48 ≤ b.toNat ∧ b.toNat ≤ 57) = false := decide_eq_false db
          have Hv2 : Hid (twoR s i = -1) := Lib.hid (by rw [Hv.out, if_neg (by simp [isDg, da, db])])
          go_enter Try.func40, Try.ntmps40
          go_wp2_with (go_at_call 42; refine (refDigit_u8 _ _).mono ?_; rintro e w' ⟨rfl, rfl⟩)
          go_ret
          exact ⟨ret_int Hv2.out.symm, 0, rfl⟩
      · have ea : decide (48 ≤ a.toNat ∧ a.toNat ≤ 57) = false := decide_eq_false da
        have Hv2 : Hid (twoR s i = -1) := Lib.hid (by rw [Hv.out, if_neg (by simp [isDg, da])])
        go_enter Try.func40, Try.ntmps40
        go_wp2_with (go_at_call 42; refine (refDigit_u8 _ _).mono ?_; rintro e w' ⟨rfl, rfl⟩)
        go_ret
        exact ⟨ret_int Hv2.out.symm, 0, rfl⟩
    · have Hv2 : Hid (twoR s i = -1) := Lib.hid (by unfold twoR; rw [if_neg (fun e => h1 e.2.1)])
      have g0 : decide (i < 0) = false := decide_eq_false (by omega)
      have g1 : decide ((s.length : Int) < i + 2) = true := decide_eq_true (by omega)
      go_enter Try.func40, Try.ntmps40
      go_wp2_with fail
      go_ret
      exact ⟨ret_int Hv2.out.symm, 0, rfl⟩
  · have Hv2 : Hid (twoR s i = -1) := Lib.hid (by unfold twoR; rw [if_neg (fun e => h0 e.1)])
    have g0 : decide (i < 0) = true := decide_eq_true (by omega)
    go_enter Try.func40, Try.ntmps40
    go_wp2_with fail
    go_ret
    exact ⟨ret_int Hv2.out.symm, 0, rfl⟩
def monR (s : List UInt8) (i : Int) : Int :=
  if 0 ≤ i ∧ i + 3 ≤ s.length then (match (List.range 12).find? fun k => (s.drop i.toNat).take 3 == monN (k : Nat) with | some k => (k : Int) + 1 | none => 0) else 0
theorem monR_bd (s : List UInt8) (i : Int) : 0 ≤ monR s i ∧ monR s i ≤ 12 := by
  unfold monR
  split
  · split
    · rename_i k h
      rw [List.find?_range_eq_some] at h
      have := List.mem_range.1 h.2.1
      omega
    · omega
  · omega
theorem monR_some (s : List UInt8) (i : Int) (h : 0 ≤ i ∧ i + 3 ≤ s.length) (k : Nat) (hk : k < 12) (he : ((s.drop i.toNat).take 3 == monN (k : Nat)) = true) (hno : ∀ j, j < k → ((s.drop i.toNat).take 3 == monN (j : Nat)) = false) : monR s i = (k : Int) + 1 := by
  unfold monR
  have : ((List.range 12).find? fun k => (s.drop i.toNat).take 3 == monN (k : Nat)) = some k := by
    rw [List.find?_range_eq_some]
    exact ⟨he, List.mem_range.2 hk, fun j hj => by simp [hno j hj]⟩
  rw [if_pos h, this]
theorem monR_none (s : List UInt8) (i : Int) (hno : ∀ j, j < 12 → ((s.drop i.toNat).take 3 == monN (j : Nat)) = false) : monR s i = 0 := by
  unfold monR
  have : ((List.range 12).find? fun k => (s.drop i.toNat).take 3 == monN (k : Nat)) = none := by
    rw [List.find?_eq_none]
    intro j hj
    rw [hno j (List.mem_range.1 hj)]; simp
  rw [this]; split <;> rfl
set_option maxHeartbeats 800000 in
theorem refMonth_any (s : List UInt8) (i : Int) (hs : s.length ≤ 9223372036854775000) (hi : i ≤ 9223372036854775000) (w : World) :
    Calls Try.prog 41 #[.string (S s), .int .i64 i] w fun e w' => e = .returned (.int .i64 (monR s i)) ∧ Below w.heap.size w w' := by
  by_cases h : 0 ≤ i ∧ i + 3 ≤ s.length
  · obtain ⟨h0, h1⟩ := h
    obtain ⟨i, rfl⟩ := Int.eq_ofNat_of_zero_le h0
    have g0 : decide (0 ≤ (i : Int)) = true := decide_eq_true (by omega)
    have g1 : decide ((i : Int) + 3 ≤ (s.length : Int)) = true := decide_eq_true (by omega)
    have hcut := S_cut s i 3 (by omega)
    have b1 : (0 : Int) ≤ (i : Int) := by omega
    have b2 : (i : Int) ≤ (i : Int) + 3 := by omega
    have b3 : (i : Int) + 3 ≤ (s.length : Int) := by omega
    have t2 : ((i : Int) + 3).toNat = i + 3 := by omega
    have wr1 : IntKind.i64.wrap ((i : Int) + 3) = (i : Int) + 3 := IntWalk.i64_in _ (by omega)
    go_enter Try.func41, Try.ntmps41
    go_wp2
    go_loopw [5] (fun k wr => ∃ j : Nat, k = .int .i64 j ∧ j ≤ 12 ∧ Hid (∀ q, q < j → ((s.drop i).take 3 == monN (q : Nat)) = false) ∧ Below w.heap.size w wr) (fun k _ => 12 - (intOf k).toNat)
    case atStart => exact ⟨0, rfl, by omega, Lib.hid (fun q hq => by omega), Below.refl _ _⟩
    case round =>
      obtain ⟨j, rfl, hj, hno, hb⟩ := hrel
      by_cases hlt : j < 12
      · have c1 : (0 : Int) ≤ (j : Int) := by omega
        have c2 : (j : Int) < 12 := by omega
        cases heq : ((s.drop i).take 3 == monN (j : Nat))
        all_goals
          go_wp2_with fail
          refine wp_region_typed_at (by intro vs; simp only [puts, Act.put, List.setIfInBounds_toArray, List.set_cons_zero, List.set_cons_succ, Nat.reduceAdd]; rfl) (fun wx => Below w.heap.size w wx) (fun x y => Below x.heap.size x y) (by kernel_rfl) (by kernel_rfl) (by kernel_rfl) (hb.drew) (fun hA => ?_); have hRf : Hid (∀ w : World, (fun x y => Below x.heap.size x y) w w) := Lib.hid (fun w => Below.refl _ w)
          repeat (refine wpTyped_same hA _ (fun w => hRf.out w) (by intro vs wz hC hk; (try simp only [known, Region.binds, List.nil_append, List.cons_append, List.getElem?_cons_zero, List.getElem?_cons_succ, forall_const, true_implies, and_true] at hk); refine ⟨by first | rfl | exact wanted_at rfl rfl rfl (by simp only [hk, List.getElem_toArray, List.getElem_cons_succ, List.getElem_cons_zero]), ?_⟩; go_simp; with_reducible rfl) ?_)
          refine wpTyped_step hA (fun v wx => ∃ g, v = .slice (some ⟨g, 0, Option.none⟩) 12 12 ∧ wx.cell? ⟨g, j, none⟩ = some (.string (S (monN j))) ∧ g < wx.heap.size) (fun v x y ⟨g, h1, h2, h3⟩ _ hs => ⟨g, h1, (hs.cell (p := ⟨g, j, none⟩) h3).trans h2, Nat.lt_of_lt_of_le h3 hs.size⟩) (by intro vs wz hC hk K hK; (try simp only [known, Region.binds, List.nil_append, List.cons_append, List.getElem?_cons_zero, List.getElem?_cons_succ, forall_const, true_implies, and_true] at hk); rw [if_pos (by first | rfl | exact wanted_at rfl rfl rfl (by simp only [hk, List.getElem_toArray, List.getElem_cons_succ, List.getElem_cons_zero]))]; obtain ⟨_, _⟩ := hk; go_simp; refine (months_at j (by omega) _).mono ?_; rintro e w1 ⟨g1, rfl, gc1, gb1⟩; exact hK.out _ _ _ (by first | rfl | (simp only [Act.put, List.setIfInBounds_toArray, List.set_cons_zero, List.set_cons_succ, *])) ⟨g1, rfl, gc1, World.block_lt_of_cell? _ _ gc1⟩ (bt hC gb1) gb1) ?_
          repeat (refine wpTyped_same hA _ (fun w => hRf.out w) (by intro vs wz hC hk; (try simp only [known, Region.binds, List.nil_append, List.cons_append, List.getElem?_cons_zero, List.getElem?_cons_succ, forall_const, true_implies, and_true] at hk); refine ⟨by first | rfl | exact wanted_at rfl rfl rfl (by simp only [hk, List.getElem_toArray, List.getElem_cons_succ, List.getElem_cons_zero]), ?_⟩; go_simp; with_reducible rfl) ?_)
          refine wpTyped_pure hA (fun v wx => ∃ g, v = .pointer (some ⟨g, j, Option.none⟩) ∧ wx.cell? ⟨g, j, none⟩ = some (.string (S (monN j))) ∧ g < wx.heap.size) (fun v x y ⟨g, h1, h2, h3⟩ _ hs => ⟨g, h1, (hs.cell (p := ⟨g, j, none⟩) h3).trans h2, Nat.lt_of_lt_of_le h3 hs.size⟩) (fun w => hRf.out w) (by intro vs wz hC hk; (try simp only [known, Region.binds, List.nil_append, List.cons_append, List.getElem?_cons_zero, List.getElem?_cons_succ, forall_const, true_implies, and_true] at hk); refine ⟨by first | rfl | exact wanted_at rfl rfl rfl (by simp only [hk, List.getElem_toArray, List.getElem_cons_succ, List.getElem_cons_zero]), ?_⟩; obtain ⟨⟨g, e1, e2, e3⟩, e4, e5⟩ := hk; refine ⟨_, by (go_simp; with_reducible rfl), ?_⟩; exact ⟨g, rfl, e2, e3⟩) ?_
          refine wpTyped_same hA _ (fun w => hRf.out w) (by intro vs wz hC hk; (try simp only [known, Region.binds, List.nil_append, List.cons_append, List.getElem?_cons_zero, List.getElem?_cons_succ, forall_const, true_implies, and_true] at hk); refine ⟨by first | rfl | exact wanted_at rfl rfl rfl (by simp only [hk, List.getElem_toArray, List.getElem_cons_succ, List.getElem_cons_zero]), ?_⟩; obtain ⟨⟨g, e1, e2, e3⟩, _⟩ := hk; go_simp; with_reducible rfl) ?_
          repeat (refine wpTyped_same hA _ (fun w => hRf.out w) (by intro vs wz hC hk; (try simp only [known, Region.binds, List.nil_append, List.cons_append, List.getElem?_cons_zero, List.getElem?_cons_succ, forall_const, true_implies, and_true] at hk); refine ⟨by first | rfl | exact wanted_at rfl rfl rfl (by simp only [hk, List.getElem_toArray, List.getElem_cons_succ, List.getElem_cons_zero]), ?_⟩; go_simp; with_reducible rfl) ?_)
          refine wpTyped_nil hA ?_; intro vs wz hC hk; simp only [allKnown, List.nil_append, List.cons_append, Nat.reduceAdd, and_true] at hk; simp only [hk]
          have hb1 := hC
          clear hC hk hRf hA
          first
            | (have Hf : Hid (monR s i = (j : Int) + 1) := Lib.hid (monR_some s i ⟨by omega, by omega⟩ j hlt (by rw [Int.toNat_natCast]; exact heq) (by rw [Int.toNat_natCast]; exact hno.out))
               go_wp2
               go_ret
               exact ⟨ret_int Hf.out.symm, hb1⟩)
            | (have Hno : Hid (∀ q, q < j + 1 → ((s.drop i).take 3 == monN (q : Nat)) = false) := Lib.hid (fun q hq => by
                 rcases (by omega : q < j ∨ q = j) with e | rfl
                 · exact hno.out q e
                 · exact heq)
               go_wp2
               go_roundw
               case rel => exact ⟨j + 1, by go_num, by omega, Hno, hb1⟩
               case measure => simp [intOf]; omega)
      · obtain rfl : j = 12 := by omega
        have Hf : Hid (monR s i = 0) := Lib.hid (monR_none s i (by rw [Int.toNat_natCast]; exact hno.out))
        go_wp2
        go_ret
        exact ⟨ret_int Hf.out.symm, hb⟩
  · have Hf : Hid (monR s i = 0) := Lib.hid (by unfold monR; rw [if_neg h])
    by_cases h0 : 0 ≤ i
    · have g0 : decide (0 ≤ i) = true := decide_eq_true (by omega)
      have g1 : decide (i + 3 ≤ (s.length : Int)) = false := decide_eq_false (by omega)
      have wr1 : IntKind.i64.wrap (i + 3) = i + 3 := IntWalk.i64_in _ (by omega)
      clear h
      go_enter Try.func41, Try.ntmps41
      go_wp2
      go_loopw [5] (fun k wr => ∃ j : Nat, k = .int .i64 j ∧ j ≤ 12 ∧ Below w.heap.size w wr) (fun k _ => 12 - (intOf k).toNat)
      case atStart => exact ⟨0, rfl, by omega, Below.refl _ _⟩
      case round =>
        obtain ⟨j, rfl, hj, hb⟩ := hrel
        by_cases hlt : j < 12
        · go_wp2_with fail
          go_quiet (fail)
          go_wp2
          go_roundw
          case rel => exact ⟨j + 1, by go_num, by omega, Below.drewN hb _⟩
          case measure => simp [intOf]; omega
        · obtain rfl : j = 12 := by omega
          go_wp2
          go_ret
          exact ⟨ret_int Hf.out.symm, hb⟩
    · have g0 : decide (0 ≤ i) = false := decide_eq_false h0
      clear h
      go_enter Try.func41, Try.ntmps41
      go_wp2
      go_loopw [5] (fun k wr => ∃ j : Nat, k = .int .i64 j ∧ j ≤ 12 ∧ Below w.heap.size w wr) (fun k _ => 12 - (intOf k).toNat)
      case atStart => exact ⟨0, rfl, by omega, Below.refl _ _⟩
      case round =>
        obtain ⟨j, rfl, hj, hb⟩ := hrel
        by_cases hlt : j < 12
        · go_wp2_with fail
          go_quiet (fail)
          go_wp2
          go_roundw
          case rel => exact ⟨j + 1, by go_num, by omega, Below.drewN hb _⟩
          case measure => simp [intOf]; omega
        · obtain rfl : j = 12 := by omega
          go_wp2
          go_ret
          exact ⟨ret_int Hf.out.symm, hb⟩
end Go.Proofs.Ytnaapoigmihjoaa
