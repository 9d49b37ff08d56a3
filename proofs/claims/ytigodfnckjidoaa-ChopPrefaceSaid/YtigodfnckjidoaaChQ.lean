/- Layer 7: plain laws: items of bytes that come in parts. No program, no condition. -/
import Derived.Test.YtigodfnckjidoaaChL
namespace Go.Proofs.Ytigodfnckjidoaa
set_option linter.all false
open Go Go.RowKit
theorem take_appQ {b : List UInt8} {m : Int} (r : List UInt8) (h1 : (beN (b.take 3) : Int) ≤ m) (h9 : 9 ≤ b.length) (h2 : 9 + beN (b.take 3) ≤ b.length) : takeF (b ++ r) m = takeF b m := by
  have e3 : (b ++ r).take 3 = b.take 3 := List.take_append_of_le_length (by omega)
  have e5 : at4 (b ++ r) 5 = at4 b 5 := by
    unfold at4; rw [List.drop_append_of_le_length (by omega), List.take_append_of_le_length (by simp; omega)]
  have g : ∀ k, k < 9 → (b ++ r).getD k 0 = b.getD k 0 := fun k hk => by
    rw [List.getD_eq_getElem?_getD, List.getD_eq_getElem?_getD, List.getElem?_append_left (by omega)]
  have ep : pB (b ++ r) = pB b := by
    unfold pB; rw [e3, List.drop_append_of_le_length (by omega), List.take_append_of_le_length (by simp; omega)]
  have et : tyB (b ++ r) = tyB b := by unfold tyB; rw [g 3 (by decide)]
  have ef : flB (b ++ r) = flB b := by unfold flB; rw [g 4 (by decide)]
  have es : stB (b ++ r) = stB b := by unfold stB; rw [e5]
  have e0 : f0B (b ++ r) = f0B b := by unfold f0B; rw [et, ef, es]
  rw [takeF_0 (b := b ++ r) (by rw [e3]; exact h1) (by rw [e3]; simp; omega), takeF_0 (b := b) h1 (by omega), e3, et, ef, es, ep, e0]
theorem take_more {a : List UInt8} {m : Int} (b : List UInt8) (h : noneT (takeF a m) = false) : takeF (a ++ b) m = takeF a m := by
  by_cases h9 : a.length < 9
  · have e : takeF a m = ⟨Fr.nil, 0, Flt.no⟩ := by unfold takeF; rw [if_pos h9]
    rw [e] at h; cases h
  have e3 : (a ++ b).take 3 = a.take 3 := List.take_append_of_le_length (by omega)
  by_cases hm : m < (beN (a.take 3) : Int)
  · have e : takeF a m = ⟨Fr.nil, 0, Flt.whole 6⟩ := by unfold takeF; rw [if_neg h9]; dsimp only; rw [if_pos hm]
    rw [e]
    unfold takeF
    rw [if_neg (by rw [List.length_append]; omega)]
    dsimp only
    rw [e3, if_pos hm]
  by_cases hl : a.length < 9 + beN (a.take 3)
  · have e : takeF a m = ⟨Fr.nil, 0, Flt.no⟩ := by unfold takeF; rw [if_neg h9]; dsimp only; rw [if_neg hm, if_pos hl]
    rw [e] at h; cases h
  exact take_appQ b (by omega) (by omega) (by omega)
theorem items_app (m : Int) : ∀ (n : Nat) (a b : List UInt8), a.length ≤ n →
    ((itemsM m a).2.2 = true → (itemsM m (a ++ b)).1 = (itemsM m a).1 ∧ (itemsM m (a ++ b)).2.2 = true) ∧
    ((itemsM m a).2.2 = false → itemsM m (a ++ b) = ((itemsM m a).1 ++ (itemsM m ((itemsM m a).2.1 ++ b)).1, (itemsM m ((itemsM m a).2.1 ++ b)).2)) := by
  intro n
  induction n with
  | zero =>
    intro a b h
    obtain rfl := List.eq_nil_of_length_eq_zero (by omega : a.length = 0)
    have e : itemsM m [] = ([], [], false) := items_none rfl
    rw [e]
    exact ⟨fun h => (by cases h), fun _ => rfl⟩
  | succ n ih =>
    intro a b h
    by_cases hN : noneT (takeF a m) = true
    · rw [items_none hN]
      exact ⟨fun h => (by cases h), fun _ => rfl⟩
    · have hN : noneT (takeF a m) = false := by simpa using hN
      have et := take_more b hN
      by_cases hV : overT (takeF a m) = true
      · rw [items_over hN hV, items_over (b := a ++ b) (by rw [et]; exact hN) (by rw [et]; exact hV), et]
        exact ⟨fun _ => ⟨rfl, rfl⟩, fun h => by cases h⟩
      · have hV : overT (takeF a m) = false := by simpa using hV
        obtain ⟨h9, hle⟩ := take_on hN hV
        rw [items_on hN hV, items_on (b := a ++ b) (by rw [et]; exact hN) (by rw [et]; exact hV), et, List.drop_append_of_le_length hle]
        obtain ⟨i1, i2⟩ := ih (a.drop (takeF a m).n) b (by rw [List.length_drop]; omega)
        refine ⟨fun h => ?_, fun h => ?_⟩
        · obtain ⟨j1, j2⟩ := i1 h
          exact ⟨by dsimp only; rw [j1], j2⟩
        · have := i2 h
          rw [this]; rfl
theorem greet_cons (q : Nat) (x : UInt8) (a : List UInt8) : greetM q (x :: a) = if q < 24 then (if preL[q]? = some x then greetM (q + 1) a else (q, none)) else (q, some (x :: a)) := by rw [greetM]
theorem greet_app : ∀ (a b : List UInt8) (q : Nat), greetM q (a ++ b) = match greetM q a with | (k, none) => (k, none) | (k, some r) => greetM k (r ++ b)
  | [], b, q => rfl
  | x :: a, b, q => by
    rw [List.cons_append, greet_cons, greet_cons]
    by_cases h : q < 24
    · rw [if_pos h, if_pos h]
      by_cases h2 : preL[q]? = some x
      · rw [if_pos h2, if_pos h2]; exact greet_app a b (q + 1)
      · rw [if_neg h2, if_neg h2]
    · rw [if_neg h, if_neg h]
      show _ = greetM q ((x :: a) ++ b)
      rw [List.cons_append, greet_cons, if_neg h]
end Go.Proofs.Ytigodfnckjidoaa
/- Layer 7: plain laws: a feed that is given parts tells what it tells of the whole. No program, no condition. -/
namespace Go.Proofs.Ytigodfnckjidoaa
set_option linter.all false
open Go Go.RowKit
/-- A feed that has not had its preface has nothing left. -/
def Fd7.ok (f : Fd7) : Prop := f.pre ≤ 24 ∧ (f.over = false → f.pre < 24 → f.left = [])
theorem greet_full {k : Nat} (h : ¬ k < 24) (b : List UInt8) : greetM k b = (k, some b) := by
  cases b with
  | nil => rfl
  | cons a b => rw [greet_cons, if_neg h]
theorem greet_short : ∀ {a : List UInt8} {q k : Nat} {r : List UInt8}, greetM q a = (k, some r) → k < 24 → r = [] ∧ q ≤ k
  | [], q, k, r, h, hk => by
    injection h with h1 h2; injection h2 with h2
    exact ⟨h2.symm, by omega⟩
  | x :: a, q, k, r, h, hk => by
    rw [greet_cons] at h
    split at h
    · split at h
      · obtain ⟨h1, h2⟩ := greet_short h hk
        exact ⟨h1, by omega⟩
      · injection h with _ h2; cases h2
    · injection h with h1 h2; omega
theorem greet_le : ∀ {a : List UInt8} {q k : Nat} {o : Option (List UInt8)}, greetM q a = (k, o) → q ≤ 24 → k ≤ 24
  | [], q, k, o, h, hq => by injection h with h1 h2; omega
  | x :: a, q, k, o, h, hq => by
    rw [greet_cons] at h
    split at h
    · split at h
      · exact greet_le h (by omega)
      · injection h with h1 h2; omega
    · injection h with h1 h2; omega
theorem take_none {f : Fd7} {b : List UInt8} {k : Nat} (ho : f.over = false) (hg : greetM f.pre b = (k, none)) : f.take b = ([badI], ⟨f.most, k, f.left, true⟩) := by
  unfold Fd7.take; rw [if_neg (by rw [ho]; exact Bool.false_ne_true)]; simp only [hg]
theorem take_some {f : Fd7} {b : List UInt8} {k : Nat} {r : List UInt8} {i : List Itm} {l : List UInt8} {o : Bool} (ho : f.over = false) (hg : greetM f.pre b = (k, some r)) (hi : itemsM f.most (f.left ++ r) = (i, l, o)) : f.take b = (i, ⟨f.most, k, if o = true then [] else l, o⟩) := by
  unfold Fd7.take; rw [if_neg (by rw [ho]; exact Bool.false_ne_true)]; simp only [hg, hi]
theorem take_over {f : Fd7} {b : List UInt8} (ho : f.over = true) : f.take b = ([], f) := if_pos ho
theorem take_okF {f : Fd7} (h : f.ok) (b : List UInt8) : (f.take b).2.ok := by
  by_cases ho : f.over = true
  · rw [take_over ho]; exact h
  · have ho : f.over = false := by simpa using ho
    cases hg : greetM f.pre b with
    | mk k o =>
      have hk := greet_le hg h.1
      cases o with
      | none => rw [take_none ho hg]; exact ⟨hk, fun h => by cases h⟩
      | some r =>
        obtain ⟨i, l, o, hi⟩ : ∃ i l o, itemsM f.most (f.left ++ r) = (i, l, o) := ⟨_, _, _, rfl⟩
        rw [take_some ho hg hi]
        refine ⟨hk, fun h1 h2 => ?_⟩
        have h2 : k < 24 := h2
        obtain ⟨e1, e2⟩ := greet_short hg h2
        have e3 := h.2 ho (by omega)
        rw [e3, e1] at hi
        have e4 : itemsM f.most ([] ++ []) = ([], [], false) := items_none rfl
        rw [e4] at hi
        injection hi with _ hi; injection hi with hi _
        show (if o = true then [] else l) = []
        rw [← hi]; split <;> rfl
theorem take_two {f : Fd7} (h : f.ok) (a b : List UInt8) : (f.take (a ++ b)).1 = (f.take a).1 ++ ((f.take a).2.take b).1 ∧ (f.take (a ++ b)).2.over = ((f.take a).2.take b).2.over ∧ ((f.take (a ++ b)).2.over = false → (f.take (a ++ b)).2 = ((f.take a).2.take b).2) := by
  by_cases ho : f.over = true
  · rw [take_over ho, take_over ho]
    dsimp only
    rw [take_over ho]; exact ⟨rfl, rfl, fun _ => rfl⟩
  have ho : f.over = false := by simpa using ho
  have hga := greet_app a b f.pre
  cases hg : greetM f.pre a with
  | mk k o =>
    rw [hg] at hga
    cases o with
    | none =>
      dsimp only at hga
      rw [take_none ho hg, take_none ho hga, take_over (f := ⟨f.most, k, f.left, true⟩) rfl]
      exact ⟨rfl, rfl, fun _ => rfl⟩
    | some r =>
      dsimp only at hga
      obtain ⟨i, l, o, hi⟩ : ∃ i l o, itemsM f.most (f.left ++ r) = (i, l, o) := ⟨_, _, _, rfl⟩
      rw [take_some ho hg hi]
      by_cases hk : k < 24
      · obtain ⟨e1, e2⟩ := greet_short hg hk
        have e3 := h.2 ho (by omega)
        subst e1
        have e4 : itemsM f.most (f.left ++ []) = ([], [], false) := by rw [e3]; exact items_none rfl
        rw [e4] at hi
        injection hi with h1 h2
        injection h2 with h2 h3
        subst h1 h2 h3
        have e5 : f.take (a ++ b) = Fd7.take ⟨f.most, k, [], false⟩ b := by
          unfold Fd7.take
          rw [if_neg (by rw [ho]; exact Bool.false_ne_true), if_neg Bool.false_ne_true, hga, e3]; rfl
        rw [e5]
        exact ⟨rfl, rfl, fun _ => rfl⟩
      · rw [greet_full hk] at hga
        obtain ⟨p1, p2⟩ := items_app f.most _ (f.left ++ r) b (Nat.le_refl _)
        rw [hi, List.append_assoc] at p1 p2
        obtain ⟨i', l', o', hi'⟩ : ∃ i l o, itemsM f.most (f.left ++ (r ++ b)) = (i, l, o) := ⟨_, _, _, rfl⟩
        rw [take_some ho hga hi']
        rw [hi'] at p1 p2
        cases o with
        | true =>
          obtain ⟨q1, q2⟩ := p1 rfl
          dsimp only at q1 q2
          subst q1 q2
          rw [take_over (f := ⟨f.most, k, if true = true then [] else l, true⟩) rfl]
          exact ⟨by simp, rfl, fun h => by cases h⟩
        | false =>
          have q := p2 rfl
          dsimp only at q
          obtain ⟨i2, l2, o2, hi2⟩ : ∃ i l' o, itemsM f.most (l ++ b) = (i, l', o) := ⟨_, _, _, rfl⟩
          rw [hi2] at q
          injection q with q1 q2
          injection q2 with q2 q3
          subst q1 q2 q3
          rw [take_some (f := ⟨f.most, k, if false = true then [] else l, false⟩) rfl (greet_full hk b) hi2]
          exact ⟨rfl, rfl, fun _ => rfl⟩
/-- What the document's All answers, by the feed. -/
theorem all_take (came : List UInt8) (m : Int) (p : Bool) : allM came m p = (((Fd7.new m p).take came).1, ((Fd7.new m p).take came).2.leftM, ((Fd7.new m p).take came).2.over) := by
  cases p with
  | false =>
    obtain ⟨i, l, o, hi⟩ : ∃ i l o, itemsM (max m 0) came = (i, l, o) := ⟨_, _, _, rfl⟩
    have e := take_some (f := Fd7.new m false) (b := came) (k := 24) (r := came) rfl (show greetM 24 came = (24, some came) from greet_full (by omega) came) hi
    rw [e]
    show coreM (max m 0) came = _
    unfold coreM Fd7.leftM
    rw [hi]
    cases o <;> rfl
  | true =>
    cases hg : greetM 0 came with
    | mk k o =>
      cases o with
      | none =>
        have e := take_none (f := Fd7.new m true) (b := came) rfl hg
        rw [e]
        unfold allM; rw [if_pos rfl]; simp only [hg]; rfl
      | some r =>
        obtain ⟨i, l, o, hi⟩ : ∃ i l o, itemsM (max m 0) r = (i, l, o) := ⟨_, _, _, rfl⟩
        have e := take_some (f := Fd7.new m true) (b := came) rfl hg hi
        rw [e]
        unfold allM; rw [if_pos rfl]; simp only [hg]
        by_cases hk : k < 24
        · rw [if_pos hk]
          obtain ⟨e1, -⟩ := greet_short hg hk
          subst e1
          have e4 : itemsM (max m 0) [] = ([], [], false) := items_none rfl
          rw [e4] at hi
          injection hi with h1 h2
          injection h2 with h2 h3
          subst h1 h2 h3
          unfold Fd7.leftM
          rw [if_neg Bool.false_ne_true, if_pos hk]
        · rw [if_neg hk]
          unfold coreM Fd7.leftM
          rw [hi]
          cases o with
          | true => rfl
          | false => rw [if_neg Bool.false_ne_true, if_neg Bool.false_ne_true, if_neg hk]; rfl
end Go.Proofs.Ytigodfnckjidoaa
/- Layer 7: plain laws: items' settings are short; parts. No program, no condition. -/
namespace Go.Proofs.Ytigodfnckjidoaa
set_option linter.all false
open Go Go.RowKit
theorem setsM_le : ∀ (n : Nat) (p : List UInt8), (setsM n p).length ≤ n
  | 0, p => by simp [setsM]
  | n + 1, p => by
    have := setsM_le n (p.drop 6)
    simp only [setsM, List.length_cons]; omega
theorem openM_sets {f g : Fr} {p : List UInt8} (hs : f.sets = []) (h : openM f p = some g) : g.sets.length ≤ p.length := by
  unfold openM at h
  have hp : ∀ (f : Fr) (q : List UInt8), (placeM f q).sets = f.sets := fun f q => rfl
  by_cases h0 : f.ty = 0 ∨ f.ty = 1
  · rw [if_pos h0] at h
    rcases Bool.eq_false_or_eq_true (bitB f.fl 8) with hb | hb <;> by_cases hc : f.ty = 1 ∧ bitB f.fl 32 = true
    all_goals
      simp only [hb, hc, if_true, if_false, and_self, Bool.false_eq_true, reduceIte] at h
      split at h
      · exact absurd h (by simp)
      · have h' := Option.some.inj h
        rw [← h']
        simp [hs, placeM]
  rw [if_neg h0] at h
  by_cases h2 : f.ty = 2
  · rw [if_pos h2] at h; injection h with h; subst h; rw [hp, hs]; simp
  rw [if_neg h2] at h
  by_cases h3 : f.ty = 3
  · rw [if_pos h3] at h; injection h with h; subst h; simp [hs]
  rw [if_neg h3] at h
  by_cases h8 : f.ty = 8
  · rw [if_pos h8] at h; injection h with h; subst h; simp [hs]
  rw [if_neg h8] at h
  by_cases h4 : f.ty = 4
  · rw [if_pos h4] at h; injection h with h; subst h
    have := setsM_le (p.length / 6) p
    show (setsM (p.length / 6) p).length ≤ _
    omega
  rw [if_neg h4] at h
  by_cases h7 : f.ty = 7
  · rw [if_pos h7] at h; injection h with h; subst h; simp [hs]
  rw [if_neg h7] at h
  injection h with h; subst h; simp [hs]
theorem take_sets (b : List UInt8) (m : Int) : (takeF b m).f.sets.length ≤ b.length := by
  have hn : Fr.nil.sets.length ≤ b.length := Nat.zero_le _
  unfold takeF
  by_cases h0 : b.length < 9
  · rw [if_pos h0]; exact hn
  rw [if_neg h0]
  dsimp only
  by_cases h1 : m < (beN (b.take 3) : Int)
  · rw [if_pos h1]; exact hn
  rw [if_neg h1]
  by_cases h2 : b.length < 9 + beN (b.take 3)
  · rw [if_pos h2]; exact hn
  rw [if_neg h2]
  by_cases h3 : misB ((b.getD 3 0).toNat : Int) (lowM (at4 b 5)) = true
  · rw [if_pos h3]; exact hn
  rw [if_neg h3]
  by_cases h4 : missB ((b.getD 3 0).toNat : Int) ((b.getD 4 0).toNat : Int) (beN (b.take 3) : Int) = true
  · rw [if_pos h4]; split <;> exact hn
  rw [if_neg h4]
  cases h6 : openM { Fr.nil with ty := ((b.getD 3 0).toNat : Int), fl := ((b.getD 4 0).toNat : Int), st := lowM (at4 b 5) } ((b.drop 9).take (beN (b.take 3))) with
  | none => exact hn
  | some f =>
    dsimp only
    have hf := openM_sets rfl h6
    have hl : ((b.drop 9).take (beN (b.take 3))).length ≤ b.length := by simp; omega
    split
    · split <;> exact hn
    · split
      · exact hn
      · exact Nat.le_trans hf hl
theorem goF_sets (m : Int) : ∀ (k : Nat) (b : List UInt8), ∀ i ∈ (goF m k b).1, i.f.sets.length ≤ b.length
  | 0, b, i, h => by cases h
  | k + 1, b, i, h => by
    unfold goF at h
    split at h
    · cases h
    · split at h
      · rw [List.mem_singleton] at h; subst h; exact take_sets b m
      · rcases List.mem_cons.1 h with h | h
        · subst h; exact take_sets b m
        · have := goF_sets m k _ i h
          rw [List.length_drop] at this; omega
theorem items_sets (m : Int) (b : List UInt8) : ∀ i ∈ (itemsM m b).1, i.f.sets.length ≤ b.length := goF_sets m _ b
theorem feed_sets (f : Fd7) (b : List UInt8) : ∀ i ∈ (f.take b).1, i.f.sets.length ≤ f.left.length + b.length := by
  by_cases ho : f.over = true
  · rw [take_over ho]; intro i h; cases h
  · have ho : f.over = false := by simpa using ho
    cases hg : greetM f.pre b with
    | mk k o =>
      cases o with
      | none =>
        rw [take_none ho hg]
        intro i h
        rw [List.mem_singleton] at h; subst h; exact Nat.zero_le _
      | some r =>
        obtain ⟨its, l, o, hi⟩ : ∃ i l o, itemsM f.most (f.left ++ r) = (i, l, o) := ⟨_, _, _, rfl⟩
        rw [take_some ho hg hi]
        intro i h
        have h1 := items_sets f.most (f.left ++ r) i (by rw [hi]; exact h)
        have h2 := greet_len hg
        rw [List.length_append] at h1; omega
/-- A feed that was given bytes in parts, and what was told, beside one that was given all. -/
structure Fed (f0 : Fd7) (c : List UInt8) (told : List Itm) (f : Fd7) : Prop where
  told : told = (f0.take c).1
  over : f.over = (f0.take c).2.over
  same : f.over = false → f = (f0.take c).2
theorem Fed.nil {f0 : Fd7} (ho : f0.over = false) (h24 : f0.left = []) : Fed f0 [] [] f0 := by
  have e4 : itemsM f0.most (f0.left ++ []) = ([], [], false) := by rw [h24]; exact items_none rfl
  have e : f0.take [] = ([], ⟨f0.most, f0.pre, if false = true then [] else [], false⟩) := take_some ho rfl e4
  refine ⟨by rw [e], by rw [e]; exact ho, fun _ => ?_⟩
  rw [e]
  obtain ⟨m, p, l, o⟩ := f0
  simp only at ho h24
  subst ho h24
  rfl
theorem Fed.step {f0 f : Fd7} {c : List UInt8} {told : List Itm} (hk : f0.ok) (h : Fed f0 c told f) (b : List UInt8) : Fed f0 (c ++ b) (told ++ (f.take b).1) (f.take b).2 := by
  obtain ⟨t1, t2, t3⟩ := take_two hk c b
  by_cases ho : f.over = true
  · have h2 : (f0.take c).2.over = true := by rw [← h.over]; exact ho
    rw [take_over h2] at t1 t2 t3
    rw [take_over ho]
    refine ⟨?_, ?_, fun h3 => ?_⟩
    · rw [t1, ← h.told]
    · show f.over = _; rw [t2]; exact h.over
    · have h3 : f.over = false := h3
      rw [ho] at h3; cases h3
  · have ho : f.over = false := by simpa using ho
    have e := h.same ho
    rw [← e] at t1 t2 t3
    refine ⟨by rw [t1, ← h.told], t2.symm, fun h3 => (t3 (t2.trans h3)).symm⟩
theorem Fed.left {f0 f : Fd7} {c : List UInt8} {told : List Itm} (h : Fed f0 c told f) : f.leftM = (f0.take c).2.leftM := by
  by_cases ho : f.over = true
  · unfold Fd7.leftM; rw [if_pos ho, if_pos (by rw [← h.over]; exact ho)]
  · rw [h.same (by simpa using ho)]
end Go.Proofs.Ytigodfnckjidoaa
/- Layer 7: ChopParts: facts. No condition. -/
namespace Go.Proofs.Ytigodfnckjidoaa
set_option linter.all false
open Go Go.RowKit
set_option maxRecDepth 10000
set_option maxHeartbeats 4000000
theorem goF_len (m : Int) : ∀ (k : Nat) (b : List UInt8), (goF m k b).1.length ≤ k
  | 0, b => Nat.le_refl _
  | k + 1, b => by
    unfold goF
    split
    · exact Nat.zero_le _
    · split
      · show 1 ≤ _; omega
      · have := goF_len m k (b.drop (takeF b m).n)
        simp only [List.length_cons]; omega
theorem feed_len (f : Fd7) (b : List UInt8) : (f.take b).1.length ≤ f.left.length + b.length + 1 ∧ (f.take b).2.left.length ≤ f.left.length + b.length := by
  by_cases ho : f.over = true
  · rw [take_over ho]; exact ⟨Nat.zero_le _, by show f.left.length ≤ _; omega⟩
  · have ho : f.over = false := by simpa using ho
    cases hg : greetM f.pre b with
    | mk k o =>
      cases o with
      | none => rw [take_none ho hg]; exact ⟨by show 1 ≤ _; omega, by show f.left.length ≤ _; omega⟩
      | some r =>
        obtain ⟨its, l, o, hi⟩ : ∃ i l o, itemsM f.most (f.left ++ r) = (i, l, o) := ⟨_, _, _, rfl⟩
        rw [take_some ho hg hi]
        have h1 := goF_len f.most ((f.left ++ r).length + 1) (f.left ++ r)
        have h2 := items_left f.most (f.left ++ r)
        have h3 := greet_len hg
        have e1 : (goF f.most ((f.left ++ r).length + 1) (f.left ++ r)).1 = its := by show (itemsM f.most (f.left ++ r)).1 = its; rw [hi]
        rw [e1] at h1
        rw [hi] at h2
        rw [List.length_append] at h1 h2
        refine ⟨by show its.length ≤ _; omega, ?_⟩
        show (if o = true then [] else l).length ≤ _
        split
        · exact Nat.zero_le _
        · have h2 : l.length ≤ f.left.length + r.length := h2
          omega
theorem join_some : ∀ {r : List (List UInt8)} {a all : List UInt8} {i : Nat}, joinGo a i r = some all → all = a ++ r.flatten ∧ (a.length ≤ 131072 → all.length ≤ 131072)
  | [], a, all, i, h => by injection h with h; subst h; simp
  | p :: r, a, all, i, h => by
    unfold joinGo at h
    split at h
    · rename_i hc
      obtain ⟨h1, h2⟩ := join_some h
      exact ⟨by rw [h1]; simp, fun _ => h2 (by rw [List.length_append]; omega)⟩
    · cases h
theorem new_ok (m : Int) (p : Bool) : (Fd7.new m p).ok ∧ (Fd7.new m p).over = false ∧ (Fd7.new m p).left = [] := ⟨⟨by cases p <;> simp [Fd7.new], fun _ _ => rfl⟩, rfl, rfl⟩
/-- What is told of parts is what is told of the whole. -/
theorem Fed.len {f0 f : Fd7} {c : List UInt8} {told : List Itm} (h : Fed f0 c told f) (h0 : f0.left = []) : told.length ≤ c.length + 1 := by
  have := (feed_len f0 c).1
  rw [← h.told, h0] at this
  simpa using this
theorem flat_take {ps : List (List UInt8)} {i : Nat} (h : i < ps.length) : (ps.take (i + 1)).flatten = (ps.take i).flatten ++ ps[i] := by
  have e : ps.take (i + 1) = ps.take i ++ [ps[i]] := by rw [List.take_add_one, List.getElem?_eq_getElem h]; rfl
  rw [e, List.flatten_append]; simp
theorem flat_le (ps : List (List UInt8)) (i : Nat) : (ps.take i).flatten.length ≤ ps.flatten.length := by
  have h : (ps.take i).flatten ++ (ps.drop i).flatten = ps.flatten := by rw [← List.flatten_append, List.take_append_drop]
  rw [← h, List.length_append]; omega
theorem flat_at {ps : List (List UInt8)} {i : Nat} (h : i < ps.length) : (ps.take i).flatten.length + ps[i].length ≤ ps.flatten.length := by
  have := flat_le ps (i + 1)
  rw [flat_take h, List.length_append] at this; exact this
/-- A feed's memory, its row by name. -/
abbrev fdI (id : Nat) (f : Fd7) (v : Nat) : List D := [.v (.int .i64 f.most), .v (.int .i64 (f.pre : Int)), .view id v 0 f.left.length, .v (.bool f.over)]
theorem lentI {id : Nat} {f : Fd7} {v : Nat} : Lent id v (bs f.left) (fdI id f v) (f.vs.map .v) :=
  .same rfl (.same rfl (.view (by have := cut_all (bs f.left); rwa [bs_length] at this) (.same rfl .nil)))
theorem con_PartsN {m : Int} {p : Bool} {ps : List (List UInt8)} (hl : ps.length ≤ 9223372036854775807) (hR : joinM ps = none) : Con Try.prog 4 [.v (.int .i64 m), .v (.bool p), .v (.sl (psV ps))] [] 0 (.ret (.v (.bool true))) [] := by
  refine con_of Try.func4 rfl (by show _ ≤ 116; simp) fun X Q hP hnt hnp hret hpan => ?_
  obtain ⟨P0, nt0, w0, K0, S0, np0, pin0, df0⟩ := X
  simp only at hP hnt hnp
  subst hP hnp
  obtain rfl : nt0 = 116 := hnt
  refine aw_region fun K1 hK1 => ?_
  refine aL z_assign ?_
  refine awl_nil (hK1 _ _ ?_)
  clear hK1 K1
  refine aw_seq fun K2 hK2 => ?_
  refine aw_region fun K3 hK3 => ?_
  refine aL (z_call0 .nil en_8 (con_awake)) ?_
  refine aL z_not ?_
  refine awl_nil (hK3 _ _ ?_)
  clear hK3 K3
  refine aC (fun r1 c1 => ?_) (fun r1 c1 => ?_)
  · exact absurd c1 (by decide)
  · refine aw_skip ?_
    refine hK2 _ _ ?_
    clear hK2
    refine aw_region fun K4 hK4 => ?_
    refine aL z_move ?_
    refine aL (z_call0 (eC .nil) en_9 (con_joined (R := none) hR hl)) ?_
    refine aL z_move ?_
    refine aL z_extract ?_
    refine aL z_extract ?_
    refine aL z_assign ?_
    refine aL z_assign ?_
    refine awl_nil (hK4 _ _ ?_)
    clear hK4 K4
    refine aw_seq fun K5 hK5 => ?_
    refine aw_region fun K6 hK6 => ?_
    refine aL z_move ?_
    refine aL z_not ?_
    refine awl_nil (hK6 _ _ ?_)
    clear hK6 K6
    refine aC (fun r2 c2 => ?_) (fun r2 c2 => ?_)
    · refine aw_region fun K7 hK7 => ?_
      refine aL z_assign ?_
      refine awl_nil (hK7 _ _ ?_)
      clear hK7 K7
      refine aw_ret ?_
      refine (hret _ _ _ _ _ rfl (.tmp rfl .nil) rfl ?_ .nil rfl).1
      rfl
    · exact absurd c2 (by decide)
end Go.Proofs.Ytigodfnckjidoaa
