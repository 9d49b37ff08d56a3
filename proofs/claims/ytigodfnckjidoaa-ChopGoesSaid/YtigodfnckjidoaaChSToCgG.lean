/- Layer 7: plain laws: items' settings are short; parts. No program, no condition. -/
import Derived.Test.YtigodfnckjidoaaChQToChR
import Derived.Test.YtigodfnckjidoaaCgK
namespace Go.Proofs.Ytigodfnckjidoaa
set_option linter.all false
open Go Go.RowKit
theorem setsM_le : ∀ (n : Nat) (p : List UInt8), (setsM n p).length ≤ n
  | 0, p => by simp [setsM]
  | n + 1, p => by
    have := setsM_le n (p.drop 6)
    simp only [setsM, List.length_cons]; omega
theorem openM_sets {f g : Fr} {p : List UInt8} (hs : f.sets = []) (h : openM f p = some g) : g.sets.length ≤ p.length := by
  unfold openM at h
  have hp : ∀ (f : Fr) (q : List UInt8), (placeM f q).sets = f.sets := fun f q => rfl
  by_cases h0 : f.ty = 0 ∨ f.ty = 1
  · rw [if_pos h0] at h
    rcases Bool.eq_false_or_eq_true (bitB f.fl 8) with hb | hb <;> by_cases hc : f.ty = 1 ∧ bitB f.fl 32 = true
    all_goals
      simp only [hb, hc, if_true, if_false, and_self, Bool.false_eq_true, reduceIte] at h
      split at h
      · exact absurd h (by simp)
      · have h' := Option.some.inj h
        rw [← h']
        simp [hs, placeM]
  rw [if_neg h0] at h
  by_cases h2 : f.ty = 2
  · rw [if_pos h2] at h; injection h with h; subst h; rw [hp, hs]; simp
  rw [if_neg h2] at h
  by_cases h3 : f.ty = 3
  · rw [if_pos h3] at h; injection h with h; subst h; simp [hs]
  rw [if_neg h3] at h
  by_cases h8 : f.ty = 8
  · rw [if_pos h8] at h; injection h with h; subst h; simp [hs]
  rw [if_neg h8] at h
  by_cases h4 : f.ty = 4
  · rw [if_pos h4] at h; injection h with h; subst h
    have := setsM_le (p.length / 6) p
    show (setsM (p.length / 6) p).length ≤ _
    omega
  rw [if_neg h4] at h
  by_cases h7 : f.ty = 7
  · rw [if_pos h7] at h; injection h with h; subst h; simp [hs]
  rw [if_neg h7] at h
  injection h with h; subst h; simp [hs]
theorem take_sets (b : List UInt8) (m : Int) : (takeF b m).f.sets.length ≤ b.length := by
  have hn : Fr.nil.sets.length ≤ b.length := Nat.zero_le _
  unfold takeF
  by_cases h0 : b.length < 9
  · rw [if_pos h0]; exact hn
  rw [if_neg h0]
  dsimp only
  by_cases h1 : m < (beN (b.take 3) : Int)
  · rw [if_pos h1]; exact hn
  rw [if_neg h1]
  by_cases h2 : b.length < 9 + beN (b.take 3)
  · rw [if_pos h2]; exact hn
  rw [if_neg h2]
  by_cases h3 : misB ((b.getD 3 0).toNat : Int) (lowM (at4 b 5)) = true
  · rw [if_pos h3]; exact hn
  rw [if_neg h3]
  by_cases h4 : missB ((b.getD 3 0).toNat : Int) ((b.getD 4 0).toNat : Int) (beN (b.take 3) : Int) = true
  · rw [if_pos h4]; split <;> exact hn
  rw [if_neg h4]
  cases h6 : openM { Fr.nil with ty := ((b.getD 3 0).toNat : Int), fl := ((b.getD 4 0).toNat : Int), st := lowM (at4 b 5) } ((b.drop 9).take (beN (b.take 3))) with
  | none => exact hn
  | some f =>
    dsimp only
    have hf := openM_sets rfl h6
    have hl : ((b.drop 9).take (beN (b.take 3))).length ≤ b.length := by simp; omega
    split
    · split <;> exact hn
    · split
      · exact hn
      · exact Nat.le_trans hf hl
theorem goF_sets (m : Int) : ∀ (k : Nat) (b : List UInt8), ∀ i ∈ (goF m k b).1, i.f.sets.length ≤ b.length
  | 0, b, i, h => by cases h
  | k + 1, b, i, h => by
    unfold goF at h
    split at h
    · cases h
    · split at h
      · rw [List.mem_singleton] at h; subst h; exact take_sets b m
      · rcases List.mem_cons.1 h with h | h
        · subst h; exact take_sets b m
        · have := goF_sets m k _ i h
          rw [List.length_drop] at this; omega
theorem items_sets (m : Int) (b : List UInt8) : ∀ i ∈ (itemsM m b).1, i.f.sets.length ≤ b.length := goF_sets m _ b
theorem feed_sets (f : Fd7) (b : List UInt8) : ∀ i ∈ (f.take b).1, i.f.sets.length ≤ f.left.length + b.length := by
  by_cases ho : f.over = true
  · rw [take_over ho]; intro i h; cases h
  · have ho : f.over = false := by simpa using ho
    cases hg : greetM f.pre b with
    | mk k o =>
      cases o with
      | none =>
        rw [take_none ho hg]
        intro i h
        rw [List.mem_singleton] at h; subst h; exact Nat.zero_le _
      | some r =>
        obtain ⟨its, l, o, hi⟩ : ∃ i l o, itemsM f.most (f.left ++ r) = (i, l, o) := ⟨_, _, _, rfl⟩
        rw [take_some ho hg hi]
        intro i h
        have h1 := items_sets f.most (f.left ++ r) i (by rw [hi]; exact h)
        have h2 := greet_len hg
        rw [List.length_append] at h1; omega
/-- A feed that was given bytes in parts, and what was told, beside one that was given all. -/
structure Fed (f0 : Fd7) (c : List UInt8) (told : List Itm) (f : Fd7) : Prop where
  told : told = (f0.take c).1
  over : f.over = (f0.take c).2.over
  same : f.over = false → f = (f0.take c).2
theorem Fed.nil {f0 : Fd7} (ho : f0.over = false) (h24 : f0.left = []) : Fed f0 [] [] f0 := by
  have e4 : itemsM f0.most (f0.left ++ []) = ([], [], false) := by rw [h24]; exact items_none rfl
  have e : f0.take [] = ([], ⟨f0.most, f0.pre, if false = true then [] else [], false⟩) := take_some ho rfl e4
  refine ⟨by rw [e], by rw [e]; exact ho, fun _ => ?_⟩
  rw [e]
  obtain ⟨m, p, l, o⟩ := f0
  simp only at ho h24
  subst ho h24
  rfl
theorem Fed.step {f0 f : Fd7} {c : List UInt8} {told : List Itm} (hk : f0.ok) (h : Fed f0 c told f) (b : List UInt8) : Fed f0 (c ++ b) (told ++ (f.take b).1) (f.take b).2 := by
  obtain ⟨t1, t2, t3⟩ := take_two hk c b
  by_cases ho : f.over = true
  · have h2 : (f0.take c).2.over = true := by rw [← h.over]; exact ho
    rw [take_over h2] at t1 t2 t3
    rw [take_over ho]
    refine ⟨?_, ?_, fun h3 => ?_⟩
    · rw [t1, ← h.told]
    · show f.over = _; rw [t2]; exact h.over
    · have h3 : f.over = false := h3
      rw [ho] at h3; cases h3
  · have ho : f.over = false := by simpa using ho
    have e := h.same ho
    rw [← e] at t1 t2 t3
    refine ⟨by rw [t1, ← h.told], t2.symm, fun h3 => (t3 (t2.trans h3)).symm⟩
theorem Fed.left {f0 f : Fd7} {c : List UInt8} {told : List Itm} (h : Fed f0 c told f) : f.leftM = (f0.take c).2.leftM := by
  by_cases ho : f.over = true
  · unfold Fd7.leftM; rw [if_pos ho, if_pos (by rw [← h.over]; exact ho)]
  · rw [h.same (by simpa using ho)]
end Go.Proofs.Ytigodfnckjidoaa

/- Layer 7: plain laws: a fault of a stream is told in its place. No program, no condition. -/
namespace Go.Proofs.Ytigodfnckjidoaa
set_option linter.all false
open Go Go.RowKit
def badF (n : Nat) : Fr := { Fr.nil with ty := 8, st := (n : Int) }
theorem bad_pay (n : Nat) : payL (badF n) = [0, 0, 0, 0] := by
  simp [payL, badF, Fr.nil]; rfl
theorem bad_may {n : Nat} (h : n ≤ 65536) : mayB (badF n) = true := by
  have hn : (n : Int) ≤ 2147483647 := by omega
  have e : rangesB (badF n) = true := by
    show (_ && (decide (0 ≤ (n : Int)) && decide ((n : Int) ≤ 2147483647)) && _ && _ && _ && _ && _) = true
    rw [decide_eq_true hn, decide_eq_true (by omega : (0 : Int) ≤ n)]; rfl
  have e2 : shapeB (badF n) = true := rfl
  unfold mayB; rw [e, e2]; rfl
theorem bad_E {n : Nat} (h : n ≤ 65536) : putE (badF n) = 0 := by
  unfold putE; rw [if_pos (bad_may h), bad_pay]; rfl
theorem bad_F {n : Nat} (h : n ≤ 65536) : putF (badF n) = [0, 0, 4, 8, 0] ++ putB 4 n ++ [0, 0, 0, 0] := by
  unfold putF; rw [if_pos (bad_E h), bad_pay]; rfl
theorem bad_take0 {n : Nat} (h : 1 ≤ n) (h2 : n ≤ 65536) : takeF ([0, 0, 4, 8, 0] ++ putB 4 n ++ [0, 0, 0, 0]) 16777215 = ⟨Fr.nil, 13, ⟨true, 1, (n : Int)⟩⟩ := by
  have ha : at4 ([0, 0, 4, 8, 0] ++ putB 4 n ++ [0, 0, 0, 0]) 5 = (n : Int) := at4_app [0, 0, 4, 8, 0] (by omega) [0, 0, 0, 0]
  obtain ⟨a, b, c, d, he⟩ : ∃ a b c d, putB 4 n = [a, b, c, d] := by
    have hl := putB_length 4 n
    match hp : putB 4 n, hl with
    | [a, b, c, d], _ => exact ⟨a, b, c, d, rfl⟩
  rw [he] at ha ⊢
  have hlow : lowM (n : Int) = (n : Int) := by unfold lowM; omega
  unfold takeF
  have e3 : beN (([0, 0, 4, 8, 0] ++ [a, b, c, d] ++ [0, 0, 0, 0] : List UInt8).take 3) = 4 := rfl
  have e4 : ((([0, 0, 4, 8, 0] ++ [a, b, c, d] ++ [0, 0, 0, 0] : List UInt8).getD 3 0).toNat : Int) = 8 := rfl
  have e5 : ((([0, 0, 4, 8, 0] ++ [a, b, c, d] ++ [0, 0, 0, 0] : List UInt8).getD 4 0).toNat : Int) = 0 := rfl
  have el : ([0, 0, 4, 8, 0] ++ [a, b, c, d] ++ [0, 0, 0, 0] : List UInt8).length = 13 := rfl
  have ep : (([0, 0, 4, 8, 0] ++ [a, b, c, d] ++ [0, 0, 0, 0] : List UInt8).drop 9).take 4 = [0, 0, 0, 0] := rfl
  rw [e3, ha, hlow, e4, e5, el]
  dsimp only
  rw [ep]
  have eo : openM { Fr.nil with ty := 8, fl := 0, st := (n : Int) } [0, 0, 0, 0] = some { Fr.nil with ty := 8, fl := 0, st := (n : Int), inc := 0 } := rfl
  rw [eo]
  have em : misB 8 (n : Int) = false := by unfold misB; simp
  have ez : missB 8 0 ((4 : Nat) : Int) = false := rfl
  rw [em, ez]
  rw [if_neg (by decide), if_neg (by decide), if_neg (by decide), if_neg (by decide), if_neg (by decide)]
  dsimp only
  rw [if_pos ⟨rfl, rfl⟩, if_pos (by omega)]
theorem bad_take {n : Nat} (h : 1 ≤ n) (h2 : n ≤ 65536) (r : List UInt8) : takeF (putF (badF n) ++ r) 16777215 = ⟨Fr.nil, 13, ⟨true, 1, (n : Int)⟩⟩ := by
  have hl := put_len (bad_E h2)
  rw [bad_pay] at hl
  have hb := (put_head (bad_E h2) []).1
  rw [List.append_nil, bad_pay] at hb
  rw [take_app r (by rw [hb]; decide) (by rw [hl]; decide) (by rw [hb, hl]; decide), bad_F h2]
  exact bad_take0 h h2
abbrev badI7 (n : Nat) : Itm := ⟨Fr.nil, ⟨true, 1, (n : Int)⟩⟩
theorem goes_items {n : Nat} (h : 1 ≤ n) (h2 : n ≤ 65536) {f : Fr} (he : putE f = 0) (hx : (takeF (putF f) 16777215).x.is = false) : itemsM 16777215 (putF (badF n) ++ putF f) = ([badI7 n, ⟨f, Flt.no⟩], [], false) := by
  have ht := bad_take h h2 (putF f)
  have hl := put_len (bad_E h2)
  rw [bad_pay] at hl
  have hl : (putF (badF n)).length = 13 := hl
  have h1 : takeF (putF f) 16777215 = ⟨f, (putF f).length, Flt.no⟩ := by
    rcases take_put he with ⟨k, x, e1, e2⟩ | e1
    · rw [e1] at hx; rw [e2] at hx; cases hx
    · exact e1
  have hlf := put_len he
  rw [items_on (by rw [ht]; rfl) (by rw [ht]; simp [overT]; omega), ht]
  have ed : (putF (badF n) ++ putF f).drop 13 = putF f := List.drop_left' hl
  dsimp only
  rw [ed, items_on (by rw [h1]; show (decide ((putF f).length = 0) && !Flt.no.is) = false; rw [decide_eq_false (by omega)]; rfl) (by rw [h1]; rfl), h1]
  dsimp only
  rw [List.drop_length, items_none rfl]
theorem goes_take {n : Nat} (h : 1 ≤ n) (h2 : n ≤ 65536) {f : Fr} (he : putE f = 0) (hx : (takeF (putF f) 16777215).x.is = false) : Fd7.take ⟨16777215, 24, [], false⟩ (putF (badF n) ++ putF f) = ([badI7 n, ⟨f, Flt.no⟩], ⟨16777215, 24, [], false⟩) :=
  take_some (f := ⟨16777215, 24, [], false⟩) rfl (greet_full (by decide) _) (goes_items h h2 he hx)
end Go.Proofs.Ytigodfnckjidoaa
