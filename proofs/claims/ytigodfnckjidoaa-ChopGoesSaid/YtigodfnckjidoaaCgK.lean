/- Layer 6: what is written is read as it was: the plain law. No program, no condition. -/
import Derived.Test.YtigodfnckjidoaaCgA
namespace Go.Proofs.Ytigodfnckjidoaa
set_option linter.all false
open Go Go.RowKit
theorem beN_put4 {n : Nat} (h : n < 4294967296) : beN (putB 4 n) = n := by rw [putB_val]; exact Nat.mod_eq_of_lt h
theorem at4_app (a : List UInt8) {n : Nat} (h : n < 4294967296) (r : List UInt8) : at4 (a ++ putB 4 n ++ r) a.length = (n : Int) := by
  unfold at4
  rw [List.append_assoc, List.drop_left, List.take_left' (putB_length 4 n), beN_put4 h]
theorem at4_put {n : Nat} (h : n < 4294967296) (r : List UInt8) : at4 (putB 4 n ++ r) 0 = (n : Int) := at4_app [] h r
theorem byte_of {n : Int} (h0 : 0 ≤ n) (h : n ≤ 255) : ((UInt8.ofNat n.toNat).toNat : Int) = n := by simp; omega
theorem toNat_of {n : Int} (h0 : 0 ≤ n) : ((n.toNat : Nat) : Int) = n := Int.toNat_of_nonneg h0
theorem ord_len (f : Fr) : (ordL f).length = 5 := by simp [ordL, putB_length]
theorem place_ord {f g : Fr} (hd : 0 ≤ f.dep ∧ f.dep ≤ 2147483647) (hw : 0 ≤ f.wt ∧ f.wt ≤ 255) (r : List UInt8) : placeM g (ordL f ++ r) = { g with sole := f.sole, dep := f.dep, wt := f.wt } := by
  have h4 : (ordL f ++ r).getD 4 0 = UInt8.ofNat f.wt.toNat := by
    unfold ordL
    rw [List.getD_eq_getElem?_getD, List.append_assoc, List.getElem?_append_right (by rw [putB_length]; omega), putB_length]; rfl
  have h0 : at4 (ordL f ++ r) 0 = ((f.dep.toNat + if f.sole then 2147483648 else 0 : Nat) : Int) := by
    unfold ordL
    rw [List.append_assoc]
    exact at4_put (by split <;> omega) _
  unfold placeM
  rw [h4, h0, byte_of hw.1 hw.2]
  cases f.sole
  · simp [lowM]; omega
  · simp [lowM]; omega
theorem zeros_len (n : Int) : (zeros n).length = n.toNat := by simp [zeros]
theorem sets_back : ∀ (l : List (Int × Int)) (r : List UInt8), setsB l = true → setsM l.length (l.flatMap setL ++ r) = l
  | [], _, _ => rfl
  | s :: l, r, h => by
    unfold setsB at h
    simp only [List.all_cons, inB, Bool.and_eq_true, decide_eq_true_eq] at h
    obtain ⟨⟨h1, h2⟩, h3⟩ := h
    have ih := sets_back l r (by unfold setsB; simpa [inB] using h3)
    have e : List.flatMap setL (s :: l) ++ r = putB 2 s.1.toNat ++ (putB 4 s.2.toNat ++ (l.flatMap setL ++ r)) := by simp [setL]
    show setsM (l.length + 1) _ = _
    rw [e]
    unfold setsM
    have e1 : (putB 2 s.1.toNat ++ (putB 4 s.2.toNat ++ (l.flatMap setL ++ r))).take 2 = putB 2 s.1.toNat := List.take_left' (putB_length 2 _)
    have e2 : at4 (putB 2 s.1.toNat ++ (putB 4 s.2.toNat ++ (l.flatMap setL ++ r))) 2 = (s.2.toNat : Int) := by
      have := at4_app (putB 2 s.1.toNat) (n := s.2.toNat) (by omega) (l.flatMap setL ++ r)
      rw [putB_length, List.append_assoc] at this
      exact this
    have e3 : (putB 2 s.1.toNat ++ (putB 4 s.2.toNat ++ (l.flatMap setL ++ r))).drop 6 = l.flatMap setL ++ r := by
      rw [← List.append_assoc]
      exact List.drop_left' (by simp [putB_length])
    rw [e1, e2, e3, ih, putB_val, Nat.mod_eq_of_lt (by omega), toNat_of h1.1, toNat_of h2.1]
theorem sets_len (l : List (Int × Int)) : (l.flatMap setL).length = 6 * l.length := by
  induction l with
  | nil => rfl
  | cons s l ih => rw [List.flatMap_cons, List.length_append, ih]; simp [setL, putB_length]; omega
theorem openM_4 {g : Fr} {p : List UInt8} (h : g.ty = 4) : openM g p = some { g with sets := setsM (p.length / 6) p } := by simp [openM, h]
/-- What a payload says. -/
theorem open_pay {f : Fr} (hm : mayB f = true) : openM { Fr.nil with ty := f.ty, fl := f.fl, st := f.st } (payL f) = some f := by
  obtain ⟨ty, fl, st, data, pad, sets, code, last, inc, dep, wt, sole⟩ := f
  simp only [mayB, rangesB, shapeB, inB, Bool.and_eq_true, decide_eq_true_eq, Bool.or_eq_true, Bool.not_eq_true', Bool.and_eq_false_iff, decide_eq_false_iff_not, Bool.or_eq_false_iff] at hm
  obtain ⟨⟨⟨⟨⟨⟨⟨⟨⟨⟨ht, hfl⟩, hp⟩, hw⟩, hst⟩, hla⟩, hde⟩, hin⟩, hse⟩, hco⟩, ⟨⟨⟨⟨⟨⟨s1, s2⟩, s3⟩, s4⟩, s5⟩, s6⟩, s7⟩⟩ := hm
  have hz : zeros 0 = [] := rfl
  by_cases h0 : ty = 0
  · subst h0
    obtain rfl : sets = [] := by simpa using s4
    obtain rfl : code = 0 := by simpa using s5
    obtain rfl : last = 0 := by simpa using s6
    obtain rfl : inc = 0 := by simpa using s7
    obtain ⟨rfl, rfl, rfl⟩ : dep = 0 ∧ wt = 0 ∧ sole = false := by
      rcases s2 with h | h
      · simpa [and_assoc] using h
      · simp at h
    cases e8 : bitB fl 8
    · obtain rfl : pad = 0 := by
        rcases s1 with h | h
        · omega
        · simp [e8] at h
      simp [openM, payL, padL, e8, Fr.nil, hz]
    · simp [openM, payL, padL, e8, Fr.nil, zeros_len]
      have hmx : max pad 0 % 256 = pad := by omega
      rw [hmx]
      refine ⟨by omega, ?_, rfl⟩
      rw [Nat.add_sub_cancel]
      exact List.take_left' rfl
  by_cases h1 : ty = 1
  · subst h1
    obtain rfl : sets = [] := by simpa using s4
    obtain rfl : code = 0 := by simpa using s5
    obtain rfl : last = 0 := by simpa using s6
    obtain rfl : inc = 0 := by simpa using s7
    have hmx : max pad 0 % 256 = pad := by omega
    have hO : ∀ (g : Fr) (r : List UInt8), placeM g (ordL ⟨1, fl, st, data, pad, [], 0, 0, 0, dep, wt, sole⟩ ++ r) = { g with sole := sole, dep := dep, wt := wt } := fun g r => place_ord (f := ⟨1, fl, st, data, pad, [], 0, 0, 0, dep, wt, sole⟩) hde hw r
    cases e8 : bitB fl 8
    · obtain rfl : pad = 0 := by
        rcases s1 with h | h
        · omega
        · simp [e8] at h
      cases e32 : bitB fl 32
      · obtain ⟨rfl, rfl, rfl⟩ : dep = 0 ∧ wt = 0 ∧ sole = false := by
          rcases s2 with h | h
          · simpa [and_assoc] using h
          · simp [e32] at h
        simp [openM, payL, padL, e8, e32, Fr.nil, hz]
      · simp [openM, payL, padL, e8, e32, Fr.nil, hz, hO, ord_len]
    · cases e32 : bitB fl 32
      · obtain ⟨rfl, rfl, rfl⟩ : dep = 0 ∧ wt = 0 ∧ sole = false := by
          rcases s2 with h | h
          · simpa [and_assoc] using h
          · simp [e32] at h
        simp [openM, payL, padL, e8, e32, Fr.nil, zeros_len]
        rw [hmx]
        refine ⟨by omega, ?_, rfl⟩
        rw [Nat.add_sub_cancel]
        exact List.take_left' rfl
      · simp [openM, payL, padL, e8, e32, Fr.nil, zeros_len, hO, ord_len]
        rw [hmx]
        refine ⟨by omega, ?_, rfl⟩
        rw [Nat.add_sub_cancel]
        exact List.take_left' rfl
  obtain rfl : pad = 0 := by
    rcases s1 with h | h
    · omega
    · simp [h0, h1] at h
  by_cases h2 : ty = 2
  · subst h2
    obtain rfl : sets = [] := by simpa using s4
    obtain rfl : data = [] := by simpa using s3
    obtain rfl : code = 0 := by simpa using s5
    obtain rfl : last = 0 := by simpa using s6
    obtain rfl : inc = 0 := by simpa using s7
    have := place_ord (f := ⟨2, fl, st, [], 0, [], 0, 0, 0, dep, wt, sole⟩) (g := { Fr.nil with ty := 2, fl := fl, st := st }) hde hw []
    rw [List.append_nil] at this
    simp [openM, payL]
    rw [this]; rfl
  obtain ⟨rfl, rfl, rfl⟩ : dep = 0 ∧ wt = 0 ∧ sole = false := by
    rcases s2 with h | h
    · simpa [and_assoc] using h
    · simp [h1, h2] at h
  by_cases h3 : ty = 3
  · subst h3
    obtain rfl : sets = [] := by simpa using s4
    obtain rfl : data = [] := by simpa using s3
    obtain rfl : last = 0 := by simpa using s6
    obtain rfl : inc = 0 := by simpa using s7
    have := at4_put (n := code.toNat) (by omega) []
    rw [List.append_nil] at this
    simp [openM, payL, this, Fr.nil]
    omega
  by_cases h4 : ty = 4
  · subst h4
    obtain rfl : data = [] := by simpa using s3
    obtain rfl : code = 0 := by simpa using s5
    obtain rfl : last = 0 := by simpa using s6
    obtain rfl : inc = 0 := by simpa using s7
    have := sets_back sets [] hse
    rw [List.append_nil] at this
    have e : payL ⟨4, fl, st, [], 0, sets, 0, 0, 0, 0, 0, false⟩ = sets.flatMap setL := by simp [payL]
    have e2 : (sets.flatMap setL).length / 6 = sets.length := by rw [sets_len]; omega
    rw [e, openM_4 rfl, e2, this]; rfl
  obtain rfl : sets = [] := by simpa [h4] using s4
  by_cases h8 : ty = 8
  · subst h8
    obtain rfl : data = [] := by simpa using s3
    obtain rfl : code = 0 := by simpa using s5
    obtain rfl : last = 0 := by simpa using s6
    have := at4_put (n := inc.toNat) (by omega) []
    rw [List.append_nil] at this
    simp [openM, payL, this, Fr.nil, lowM]
    omega
  obtain rfl : inc = 0 := by simpa [h8] using s7
  by_cases h7 : ty = 7
  · subst h7
    have e1 := at4_put (n := last.toNat) (by omega) (putB 4 code.toNat ++ data)
    have e2 := at4_app (putB 4 last.toNat) (n := code.toNat) (by omega) data
    rw [putB_length, List.append_assoc] at e2
    have e3 : (putB 4 last.toNat ++ (putB 4 code.toNat ++ data)).drop 8 = data := by
      rw [← List.append_assoc]; exact List.drop_left' (by simp [putB_length])
    simp [openM, payL, e1, e2, e3, Fr.nil, lowM]
    omega
  obtain rfl : code = 0 := by simpa [h3, h7] using s5
  obtain rfl : last = 0 := by simpa [h7] using s6
  simp [openM, payL, h0, h1, h2, h3, h4, h7, h8, Fr.nil]
theorem take_app {b : List UInt8} {m : Int} (r : List UInt8) (h1 : (beN (b.take 3) : Int) ≤ m) (h9 : 9 ≤ b.length) (h2 : 9 + beN (b.take 3) ≤ b.length) : takeF (b ++ r) m = takeF b m := by
  have e3 : (b ++ r).take 3 = b.take 3 := List.take_append_of_le_length (by omega)
  have e5 : at4 (b ++ r) 5 = at4 b 5 := by
    unfold at4; rw [List.drop_append_of_le_length (by omega), List.take_append_of_le_length (by simp; omega)]
  have g : ∀ k, k < 9 → (b ++ r).getD k 0 = b.getD k 0 := fun k hk => by
    rw [List.getD_eq_getElem?_getD, List.getD_eq_getElem?_getD, List.getElem?_append_left (by omega)]
  have ep : pB (b ++ r) = pB b := by
    unfold pB; rw [e3, List.drop_append_of_le_length (by omega), List.take_append_of_le_length (by simp; omega)]
  have et : tyB (b ++ r) = tyB b := by unfold tyB; rw [g 3 (by decide)]
  have ef : flB (b ++ r) = flB b := by unfold flB; rw [g 4 (by decide)]
  have es : stB (b ++ r) = stB b := by unfold stB; rw [e5]
  have e0 : f0B (b ++ r) = f0B b := by unfold f0B; rw [et, ef, es]
  rw [takeF_0 (b := b ++ r) (by rw [e3]; exact h1) (by rw [e3]; simp; omega), takeF_0 (b := b) h1 (by omega), e3, et, ef, es, ep, e0]
theorem take_cut {b : List UInt8} {m : Int} {k : Nat} (h1 : (beN (b.take 3) : Int) ≤ m) (hk : k < 9 + beN (b.take 3)) (hb : 9 + beN (b.take 3) ≤ b.length) : takeF (b.take k) m = ⟨Fr.nil, 0, Flt.no⟩ := by
  by_cases h9 : k < 9
  · exact takeF_1 (by simp; omega)
  · have e3 : (b.take k).take 3 = b.take 3 := by rw [List.take_take, Nat.min_eq_left (by omega)]
    exact takeF_3 (by simp; omega) (by rw [e3]; exact h1) (by rw [e3]; simp; omega)
/-- What is written has a fault, or is read as it was. -/
theorem take_put {f : Fr} (h : putE f = 0) : (∃ n x, takeF (putF f) 16777215 = ⟨Fr.nil, n, x⟩ ∧ x.is = true) ∨ takeF (putF f) 16777215 = ⟨f, (putF f).length, Flt.no⟩ := by
  obtain ⟨hm, hl, hp⟩ := put_ok h
  have hr : rangesB f = true := by unfold mayB at hm; rw [Bool.and_eq_true] at hm; exact hm.1
  simp only [rangesB, inB, Bool.and_eq_true, decide_eq_true_eq] at hr
  obtain ⟨⟨⟨⟨⟨⟨⟨⟨⟨ht, hfl⟩, -⟩, -⟩, hst⟩, -⟩, -⟩, -⟩, -⟩, -⟩ := hr
  have hlen := put_len h
  have h3 : beN ((putF f).take 3) = (payL f).length := by have := (put_head h []).1; rwa [List.append_nil] at this
  have e : putF f = putB 3 (payL f).length ++ [UInt8.ofNat f.ty.toNat, UInt8.ofNat f.fl.toNat] ++ putB 4 f.st.toNat ++ payL f := hp
  have l5 : (putB 3 (payL f).length ++ [UInt8.ofNat f.ty.toNat, UInt8.ofNat f.fl.toNat]).length = 5 := by simp [putB_length]
  have et : tyB (putF f) = f.ty := by
    unfold tyB
    rw [e, List.getD_eq_getElem?_getD, List.append_assoc, List.getElem?_append_left (by omega), List.getElem?_append_right (by rw [putB_length]; omega), putB_length]
    exact byte_of ht.1 ht.2
  have ef : flB (putF f) = f.fl := by
    unfold flB
    rw [e, List.getD_eq_getElem?_getD, List.append_assoc, List.getElem?_append_left (by omega), List.getElem?_append_right (by rw [putB_length]; omega), putB_length]
    exact byte_of hfl.1 hfl.2
  have es : stB (putF f) = f.st := by
    unfold stB
    have := at4_app (putB 3 (payL f).length ++ [UInt8.ofNat f.ty.toNat, UInt8.ofNat f.fl.toNat]) (n := f.st.toNat) (by omega) (payL f)
    rw [l5] at this
    rw [e, this]
    unfold lowM; omega
  have ep : pB (putF f) = payL f := by
    unfold pB
    rw [h3, e, List.drop_left' (by simp [putB_length])]
    exact List.take_of_length_le (Nat.le_refl _)
  have e0 : f0B (putF f) = { Fr.nil with ty := f.ty, fl := f.fl, st := f.st } := by unfold f0B; rw [et, ef, es]
  rw [takeF_0 (by rw [h3]; omega) (by rw [h3, hlen]; omega), et, ef, es, ep, e0, open_pay hm, h3]
  by_cases c1 : misB f.ty f.st = true
  · rw [if_pos c1]; exact .inl ⟨_, _, rfl, rfl⟩
  rw [if_neg c1]
  by_cases c2 : missB f.ty f.fl ((payL f).length : Int) = true
  · rw [if_pos c2]
    by_cases c3 : f.ty = 2
    · rw [if_pos c3]; exact .inl ⟨_, _, rfl, rfl⟩
    · rw [if_neg c3]; exact .inl ⟨_, _, rfl, rfl⟩
  rw [if_neg c2]
  simp only
  by_cases c4 : f.ty = 8 ∧ f.inc = 0
  · rw [if_pos c4]
    by_cases c5 : f.st ≠ 0
    · rw [if_pos c5]; exact .inl ⟨_, _, rfl, rfl⟩
    · rw [if_neg c5]; exact .inl ⟨_, _, rfl, rfl⟩
  rw [if_neg c4]
  by_cases c6 : (unfitM f.sets).is = true
  · rw [if_pos c6]; exact .inl ⟨_, _, rfl, c6⟩
  · rw [if_neg c6, hlen]; exact .inr rfl
end Go.Proofs.Ytigodfnckjidoaa
