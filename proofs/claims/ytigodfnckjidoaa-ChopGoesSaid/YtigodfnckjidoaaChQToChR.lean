/- Layer 7: plain laws: items of bytes that come in parts. No program, no condition. -/
import Derived.Test.YtigodfnckjidoaaChNToChO
namespace Go.Proofs.Ytigodfnckjidoaa
set_option linter.all false
open Go Go.RowKit
theorem take_appQ {b : List UInt8} {m : Int} (r : List UInt8) (h1 : (beN (b.take 3) : Int) ≤ m) (h9 : 9 ≤ b.length) (h2 : 9 + beN (b.take 3) ≤ b.length) : takeF (b ++ r) m = takeF b m := by
  have e3 : (b ++ r).take 3 = b.take 3 := List.take_append_of_le_length (by omega)
  have e5 : at4 (b ++ r) 5 = at4 b 5 := by
    unfold at4; rw [List.drop_append_of_le_length (by omega), List.take_append_of_le_length (by simp; omega)]
  have g : ∀ k, k < 9 → (b ++ r).getD k 0 = b.getD k 0 := fun k hk => by
    rw [List.getD_eq_getElem?_getD, List.getD_eq_getElem?_getD, List.getElem?_append_left (by omega)]
  have ep : pB (b ++ r) = pB b := by
    unfold pB; rw [e3, List.drop_append_of_le_length (by omega), List.take_append_of_le_length (by simp; omega)]
  have et : tyB (b ++ r) = tyB b := by unfold tyB; rw [g 3 (by decide)]
  have ef : flB (b ++ r) = flB b := by unfold flB; rw [g 4 (by decide)]
  have es : stB (b ++ r) = stB b := by unfold stB; rw [e5]
  have e0 : f0B (b ++ r) = f0B b := by unfold f0B; rw [et, ef, es]
  rw [takeF_0 (b := b ++ r) (by rw [e3]; exact h1) (by rw [e3]; simp; omega), takeF_0 (b := b) h1 (by omega), e3, et, ef, es, ep, e0]
theorem take_more {a : List UInt8} {m : Int} (b : List UInt8) (h : noneT (takeF a m) = false) : takeF (a ++ b) m = takeF a m := by
  by_cases h9 : a.length < 9
  · have e : takeF a m = ⟨Fr.nil, 0, Flt.no⟩ := by unfold takeF; rw [if_pos h9]
    rw [e] at h; cases h
  have e3 : (a ++ b).take 3 = a.take 3 := List.take_append_of_le_length (by omega)
  by_cases hm : m < (beN (a.take 3) : Int)
  · have e : takeF a m = ⟨Fr.nil, 0, Flt.whole 6⟩ := by unfold takeF; rw [if_neg h9]; dsimp only; rw [if_pos hm]
    rw [e]
    unfold takeF
    rw [if_neg (by rw [List.length_append]; omega)]
    dsimp only
    rw [e3, if_pos hm]
  by_cases hl : a.length < 9 + beN (a.take 3)
  · have e : takeF a m = ⟨Fr.nil, 0, Flt.no⟩ := by unfold takeF; rw [if_neg h9]; dsimp only; rw [if_neg hm, if_pos hl]
    rw [e] at h; cases h
  exact take_appQ b (by omega) (by omega) (by omega)
theorem items_app (m : Int) : ∀ (n : Nat) (a b : List UInt8), a.length ≤ n →
    ((itemsM m a).2.2 = true → (itemsM m (a ++ b)).1 = (itemsM m a).1 ∧ (itemsM m (a ++ b)).2.2 = true) ∧
    ((itemsM m a).2.2 = false → itemsM m (a ++ b) = ((itemsM m a).1 ++ (itemsM m ((itemsM m a).2.1 ++ b)).1, (itemsM m ((itemsM m a).2.1 ++ b)).2)) := by
  intro n
  induction n with
  | zero =>
    intro a b h
    obtain rfl := List.eq_nil_of_length_eq_zero (by omega : a.length = 0)
    have e : itemsM m [] = ([], [], false) := items_none rfl
    rw [e]
    exact ⟨fun h => (by cases h), fun _ => rfl⟩
  | succ n ih =>
    intro a b h
    by_cases hN : noneT (takeF a m) = true
    · rw [items_none hN]
      exact ⟨fun h => (by cases h), fun _ => rfl⟩
    · have hN : noneT (takeF a m) = false := by simpa using hN
      have et := take_more b hN
      by_cases hV : overT (takeF a m) = true
      · rw [items_over hN hV, items_over (b := a ++ b) (by rw [et]; exact hN) (by rw [et]; exact hV), et]
        exact ⟨fun _ => ⟨rfl, rfl⟩, fun h => by cases h⟩
      · have hV : overT (takeF a m) = false := by simpa using hV
        obtain ⟨h9, hle⟩ := take_on hN hV
        rw [items_on hN hV, items_on (b := a ++ b) (by rw [et]; exact hN) (by rw [et]; exact hV), et, List.drop_append_of_le_length hle]
        obtain ⟨i1, i2⟩ := ih (a.drop (takeF a m).n) b (by rw [List.length_drop]; omega)
        refine ⟨fun h => ?_, fun h => ?_⟩
        · obtain ⟨j1, j2⟩ := i1 h
          exact ⟨by dsimp only; rw [j1], j2⟩
        · have := i2 h
          rw [this]; rfl
theorem greet_cons (q : Nat) (x : UInt8) (a : List UInt8) : greetM q (x :: a) = if q < 24 then (if preL[q]? = some x then greetM (q + 1) a else (q, none)) else (q, some (x :: a)) := by rw [greetM]
theorem greet_app : ∀ (a b : List UInt8) (q : Nat), greetM q (a ++ b) = match greetM q a with | (k, none) => (k, none) | (k, some r) => greetM k (r ++ b)
  | [], b, q => rfl
  | x :: a, b, q => by
    rw [List.cons_append, greet_cons, greet_cons]
    by_cases h : q < 24
    · rw [if_pos h, if_pos h]
      by_cases h2 : preL[q]? = some x
      · rw [if_pos h2, if_pos h2]; exact greet_app a b (q + 1)
      · rw [if_neg h2, if_neg h2]
    · rw [if_neg h, if_neg h]
      show _ = greetM q ((x :: a) ++ b)
      rw [List.cons_append, greet_cons, if_neg h]
end Go.Proofs.Ytigodfnckjidoaa

/- Layer 7: plain laws: a feed that is given parts tells what it tells of the whole. No program, no condition. -/
namespace Go.Proofs.Ytigodfnckjidoaa
set_option linter.all false
open Go Go.RowKit
/-- A feed that has not had its preface has nothing left. -/
def Fd7.ok (f : Fd7) : Prop := f.pre ≤ 24 ∧ (f.over = false → f.pre < 24 → f.left = [])
theorem greet_full {k : Nat} (h : ¬ k < 24) (b : List UInt8) : greetM k b = (k, some b) := by
  cases b with
  | nil => rfl
  | cons a b => rw [greet_cons, if_neg h]
theorem greet_short : ∀ {a : List UInt8} {q k : Nat} {r : List UInt8}, greetM q a = (k, some r) → k < 24 → r = [] ∧ q ≤ k
  | [], q, k, r, h, hk => by
    injection h with h1 h2; injection h2 with h2
    exact ⟨h2.symm, by omega⟩
  | x :: a, q, k, r, h, hk => by
    rw [greet_cons] at h
    split at h
    · split at h
      · obtain ⟨h1, h2⟩ := greet_short h hk
        exact ⟨h1, by omega⟩
      · injection h with _ h2; cases h2
    · injection h with h1 h2; omega
theorem greet_le : ∀ {a : List UInt8} {q k : Nat} {o : Option (List UInt8)}, greetM q a = (k, o) → q ≤ 24 → k ≤ 24
  | [], q, k, o, h, hq => by injection h with h1 h2; omega
  | x :: a, q, k, o, h, hq => by
    rw [greet_cons] at h
    split at h
    · split at h
      · exact greet_le h (by omega)
      · injection h with h1 h2; omega
    · injection h with h1 h2; omega
theorem take_none {f : Fd7} {b : List UInt8} {k : Nat} (ho : f.over = false) (hg : greetM f.pre b = (k, none)) : f.take b = ([badI], ⟨f.most, k, f.left, true⟩) := by
  unfold Fd7.take; rw [if_neg (by rw [ho]; exact Bool.false_ne_true)]; simp only [hg]
theorem take_some {f : Fd7} {b : List UInt8} {k : Nat} {r : List UInt8} {i : List Itm} {l : List UInt8} {o : Bool} (ho : f.over = false) (hg : greetM f.pre b = (k, some r)) (hi : itemsM f.most (f.left ++ r) = (i, l, o)) : f.take b = (i, ⟨f.most, k, if o = true then [] else l, o⟩) := by
  unfold Fd7.take; rw [if_neg (by rw [ho]; exact Bool.false_ne_true)]; simp only [hg, hi]
theorem take_over {f : Fd7} {b : List UInt8} (ho : f.over = true) : f.take b = ([], f) := if_pos ho
theorem take_okF {f : Fd7} (h : f.ok) (b : List UInt8) : (f.take b).2.ok := by
  by_cases ho : f.over = true
  · rw [take_over ho]; exact h
  · have ho : f.over = false := by simpa using ho
    cases hg : greetM f.pre b with
    | mk k o =>
      have hk := greet_le hg h.1
      cases o with
      | none => rw [take_none ho hg]; exact ⟨hk, fun h => by cases h⟩
      | some r =>
        obtain ⟨i, l, o, hi⟩ : ∃ i l o, itemsM f.most (f.left ++ r) = (i, l, o) := ⟨_, _, _, rfl⟩
        rw [take_some ho hg hi]
        refine ⟨hk, fun h1 h2 => ?_⟩
        have h2 : k < 24 := h2
        obtain ⟨e1, e2⟩ := greet_short hg h2
        have e3 := h.2 ho (by omega)
        rw [e3, e1] at hi
        have e4 : itemsM f.most ([] ++ []) = ([], [], false) := items_none rfl
        rw [e4] at hi
        injection hi with _ hi; injection hi with hi _
        show (if o = true then [] else l) = []
        rw [← hi]; split <;> rfl
theorem take_two {f : Fd7} (h : f.ok) (a b : List UInt8) : (f.take (a ++ b)).1 = (f.take a).1 ++ ((f.take a).2.take b).1 ∧ (f.take (a ++ b)).2.over = ((f.take a).2.take b).2.over ∧ ((f.take (a ++ b)).2.over = false → (f.take (a ++ b)).2 = ((f.take a).2.take b).2) := by
  by_cases ho : f.over = true
  · rw [take_over ho, take_over ho]
    dsimp only
    rw [take_over ho]; exact ⟨rfl, rfl, fun _ => rfl⟩
  have ho : f.over = false := by simpa using ho
  have hga := greet_app a b f.pre
  cases hg : greetM f.pre a with
  | mk k o =>
    rw [hg] at hga
    cases o with
    | none =>
      dsimp only at hga
      rw [take_none ho hg, take_none ho hga, take_over (f := ⟨f.most, k, f.left, true⟩) rfl]
      exact ⟨rfl, rfl, fun _ => rfl⟩
    | some r =>
      dsimp only at hga
      obtain ⟨i, l, o, hi⟩ : ∃ i l o, itemsM f.most (f.left ++ r) = (i, l, o) := ⟨_, _, _, rfl⟩
      rw [take_some ho hg hi]
      by_cases hk : k < 24
      · obtain ⟨e1, e2⟩ := greet_short hg hk
        have e3 := h.2 ho (by omega)
        subst e1
        have e4 : itemsM f.most (f.left ++ []) = ([], [], false) := by rw [e3]; exact items_none rfl
        rw [e4] at hi
        injection hi with h1 h2
        injection h2 with h2 h3
        subst h1 h2 h3
        have e5 : f.take (a ++ b) = Fd7.take ⟨f.most, k, [], false⟩ b := by
          unfold Fd7.take
          rw [if_neg (by rw [ho]; exact Bool.false_ne_true), if_neg Bool.false_ne_true, hga, e3]; rfl
        rw [e5]
        exact ⟨rfl, rfl, fun _ => rfl⟩
      · rw [greet_full hk] at hga
        obtain ⟨p1, p2⟩ := items_app f.most _ (f.left ++ r) b (Nat.le_refl _)
        rw [hi, List.append_assoc] at p1 p2
        obtain ⟨i', l', o', hi'⟩ : ∃ i l o, itemsM f.most (f.left ++ (r ++ b)) = (i, l, o) := ⟨_, _, _, rfl⟩
        rw [take_some ho hga hi']
        rw [hi'] at p1 p2
        cases o with
        | true =>
          obtain ⟨q1, q2⟩ := p1 rfl
          dsimp only at q1 q2
          subst q1 q2
          rw [take_over (f := ⟨f.most, k, if true = true then [] else l, true⟩) rfl]
          exact ⟨by simp, rfl, fun h => by cases h⟩
        | false =>
          have q := p2 rfl
          dsimp only at q
          obtain ⟨i2, l2, o2, hi2⟩ : ∃ i l' o, itemsM f.most (l ++ b) = (i, l', o) := ⟨_, _, _, rfl⟩
          rw [hi2] at q
          injection q with q1 q2
          injection q2 with q2 q3
          subst q1 q2 q3
          rw [take_some (f := ⟨f.most, k, if false = true then [] else l, false⟩) rfl (greet_full hk b) hi2]
          exact ⟨rfl, rfl, fun _ => rfl⟩
/-- What the document's All answers, by the feed. -/
theorem all_take (came : List UInt8) (m : Int) (p : Bool) : allM came m p = (((Fd7.new m p).take came).1, ((Fd7.new m p).take came).2.leftM, ((Fd7.new m p).take came).2.over) := by
  cases p with
  | false =>
    obtain ⟨i, l, o, hi⟩ : ∃ i l o, itemsM (max m 0) came = (i, l, o) := ⟨_, _, _, rfl⟩
    have e := take_some (f := Fd7.new m false) (b := came) (k := 24) (r := came) rfl (show greetM 24 came = (24, some came) from greet_full (by omega) came) hi
    rw [e]
    show coreM (max m 0) came = _
    unfold coreM Fd7.leftM
    rw [hi]
    cases o <;> rfl
  | true =>
    cases hg : greetM 0 came with
    | mk k o =>
      cases o with
      | none =>
        have e := take_none (f := Fd7.new m true) (b := came) rfl hg
        rw [e]
        unfold allM; rw [if_pos rfl]; simp only [hg]; rfl
      | some r =>
        obtain ⟨i, l, o, hi⟩ : ∃ i l o, itemsM (max m 0) r = (i, l, o) := ⟨_, _, _, rfl⟩
        have e := take_some (f := Fd7.new m true) (b := came) rfl hg hi
        rw [e]
        unfold allM; rw [if_pos rfl]; simp only [hg]
        by_cases hk : k < 24
        · rw [if_pos hk]
          obtain ⟨e1, -⟩ := greet_short hg hk
          subst e1
          have e4 : itemsM (max m 0) [] = ([], [], false) := items_none rfl
          rw [e4] at hi
          injection hi with h1 h2
          injection h2 with h2 h3
          subst h1 h2 h3
          unfold Fd7.leftM
          rw [if_neg Bool.false_ne_true, if_pos hk]
        · rw [if_neg hk]
          unfold coreM Fd7.leftM
          rw [hi]
          cases o with
          | true => rfl
          | false => rw [if_neg Bool.false_ne_true, if_neg Bool.false_ne_true, if_neg hk]; rfl
end Go.Proofs.Ytigodfnckjidoaa
