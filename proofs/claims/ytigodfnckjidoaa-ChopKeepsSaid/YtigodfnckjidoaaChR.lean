/- Layer 7: plain laws: a feed that is given parts tells what it tells of the whole. No program, no condition. -/
import Derived.Test.YtigodfnckjidoaaChQ
namespace Go.Proofs.Ytigodfnckjidoaa
set_option linter.all false
open Go Go.RowKit
/-- A feed that has not had its preface has nothing left. -/
def Fd7.ok (f : Fd7) : Prop := f.pre ≤ 24 ∧ (f.over = false → f.pre < 24 → f.left = [])
theorem greet_full {k : Nat} (h : ¬ k < 24) (b : List UInt8) : greetM k b = (k, some b) := by
  cases b with
  | nil => rfl
  | cons a b => rw [greet_cons, if_neg h]
theorem greet_short : ∀ {a : List UInt8} {q k : Nat} {r : List UInt8}, greetM q a = (k, some r) → k < 24 → r = [] ∧ q ≤ k
  | [], q, k, r, h, hk => by
    injection h with h1 h2; injection h2 with h2
    exact ⟨h2.symm, by omega⟩
  | x :: a, q, k, r, h, hk => by
    rw [greet_cons] at h
    split at h
    · split at h
      · obtain ⟨h1, h2⟩ := greet_short h hk
        exact ⟨h1, by omega⟩
      · injection h with _ h2; cases h2
    · injection h with h1 h2; omega
theorem greet_le : ∀ {a : List UInt8} {q k : Nat} {o : Option (List UInt8)}, greetM q a = (k, o) → q ≤ 24 → k ≤ 24
  | [], q, k, o, h, hq => by injection h with h1 h2; omega
  | x :: a, q, k, o, h, hq => by
    rw [greet_cons] at h
    split at h
    · split at h
      · exact greet_le h (by omega)
      · injection h with h1 h2; omega
    · injection h with h1 h2; omega
theorem take_none {f : Fd7} {b : List UInt8} {k : Nat} (ho : f.over = false) (hg : greetM f.pre b = (k, none)) : f.take b = ([badI], ⟨f.most, k, f.left, true⟩) := by
  unfold Fd7.take; rw [if_neg (by rw [ho]; exact Bool.false_ne_true)]; simp only [hg]
theorem take_some {f : Fd7} {b : List UInt8} {k : Nat} {r : List UInt8} {i : List Itm} {l : List UInt8} {o : Bool} (ho : f.over = false) (hg : greetM f.pre b = (k, some r)) (hi : itemsM f.most (f.left ++ r) = (i, l, o)) : f.take b = (i, ⟨f.most, k, if o = true then [] else l, o⟩) := by
  unfold Fd7.take; rw [if_neg (by rw [ho]; exact Bool.false_ne_true)]; simp only [hg, hi]
theorem take_over {f : Fd7} {b : List UInt8} (ho : f.over = true) : f.take b = ([], f) := if_pos ho
theorem take_okF {f : Fd7} (h : f.ok) (b : List UInt8) : (f.take b).2.ok := by
  by_cases ho : f.over = true
  · rw [take_over ho]; exact h
  · have ho : f.over = false := by simpa using ho
    cases hg : greetM f.pre b with
    | mk k o =>
      have hk := greet_le hg h.1
      cases o with
      | none => rw [take_none ho hg]; exact ⟨hk, fun h => by cases h⟩
      | some r =>
        obtain ⟨i, l, o, hi⟩ : ∃ i l o, itemsM f.most (f.left ++ r) = (i, l, o) := ⟨_, _, _, rfl⟩
        rw [take_some ho hg hi]
        refine ⟨hk, fun h1 h2 => ?_⟩
        have h2 : k < 24 := h2
        obtain ⟨e1, e2⟩ := greet_short hg h2
        have e3 := h.2 ho (by omega)
        rw [e3, e1] at hi
        have e4 : itemsM f.most ([] ++ []) = ([], [], false) := items_none rfl
        rw [e4] at hi
        injection hi with _ hi; injection hi with hi _
        show (if o = true then [] else l) = []
        rw [← hi]; split <;> rfl
theorem take_two {f : Fd7} (h : f.ok) (a b : List UInt8) : (f.take (a ++ b)).1 = (f.take a).1 ++ ((f.take a).2.take b).1 ∧ (f.take (a ++ b)).2.over = ((f.take a).2.take b).2.over ∧ ((f.take (a ++ b)).2.over = false → (f.take (a ++ b)).2 = ((f.take a).2.take b).2) := by
  by_cases ho : f.over = true
  · rw [take_over ho, take_over ho]
    dsimp only
    rw [take_over ho]; exact ⟨rfl, rfl, fun _ => rfl⟩
  have ho : f.over = false := by simpa using ho
  have hga := greet_app a b f.pre
  cases hg : greetM f.pre a with
  | mk k o =>
    rw [hg] at hga
    cases o with
    | none =>
      dsimp only at hga
      rw [take_none ho hg, take_none ho hga, take_over (f := ⟨f.most, k, f.left, true⟩) rfl]
      exact ⟨rfl, rfl, fun _ => rfl⟩
    | some r =>
      dsimp only at hga
      obtain ⟨i, l, o, hi⟩ : ∃ i l o, itemsM f.most (f.left ++ r) = (i, l, o) := ⟨_, _, _, rfl⟩
      rw [take_some ho hg hi]
      by_cases hk : k < 24
      · obtain ⟨e1, e2⟩ := greet_short hg hk
        have e3 := h.2 ho (by omega)
        subst e1
        have e4 : itemsM f.most (f.left ++ []) = ([], [], false) := by rw [e3]; exact items_none rfl
        rw [e4] at hi
        injection hi with h1 h2
        injection h2 with h2 h3
        subst h1 h2 h3
        have e5 : f.take (a ++ b) = Fd7.take ⟨f.most, k, [], false⟩ b := by
          unfold Fd7.take
          rw [if_neg (by rw [ho]; exact Bool.false_ne_true), if_neg Bool.false_ne_true, hga, e3]; rfl
        rw [e5]
        exact ⟨rfl, rfl, fun _ => rfl⟩
      · rw [greet_full hk] at hga
        obtain ⟨p1, p2⟩ := items_app f.most _ (f.left ++ r) b (Nat.le_refl _)
        rw [hi, List.append_assoc] at p1 p2
        obtain ⟨i', l', o', hi'⟩ : ∃ i l o, itemsM f.most (f.left ++ (r ++ b)) = (i, l, o) := ⟨_, _, _, rfl⟩
        rw [take_some ho hga hi']
        rw [hi'] at p1 p2
        cases o with
        | true =>
          obtain ⟨q1, q2⟩ := p1 rfl
          dsimp only at q1 q2
          subst q1 q2
          rw [take_over (f := ⟨f.most, k, if true = true then [] else l, true⟩) rfl]
          exact ⟨by simp, rfl, fun h => by cases h⟩
        | false =>
          have q := p2 rfl
          dsimp only at q
          obtain ⟨i2, l2, o2, hi2⟩ : ∃ i l' o, itemsM f.most (l ++ b) = (i, l', o) := ⟨_, _, _, rfl⟩
          rw [hi2] at q
          injection q with q1 q2
          injection q2 with q2 q3
          subst q1 q2 q3
          rw [take_some (f := ⟨f.most, k, if false = true then [] else l, false⟩) rfl (greet_full hk b) hi2]
          exact ⟨rfl, rfl, fun _ => rfl⟩
/-- What the document's All answers, by the feed. -/
theorem all_take (came : List UInt8) (m : Int) (p : Bool) : allM came m p = (((Fd7.new m p).take came).1, ((Fd7.new m p).take came).2.leftM, ((Fd7.new m p).take came).2.over) := by
  cases p with
  | false =>
    obtain ⟨i, l, o, hi⟩ : ∃ i l o, itemsM (max m 0) came = (i, l, o) := ⟨_, _, _, rfl⟩
    have e := take_some (f := Fd7.new m false) (b := came) (k := 24) (r := came) rfl (show greetM 24 came = (24, some came) from greet_full (by omega) came) hi
    rw [e]
    show coreM (max m 0) came = _
    unfold coreM Fd7.leftM
    rw [hi]
    cases o <;> rfl
  | true =>
    cases hg : greetM 0 came with
    | mk k o =>
      cases o with
      | none =>
        have e := take_none (f := Fd7.new m true) (b := came) rfl hg
        rw [e]
        unfold allM; rw [if_pos rfl]; simp only [hg]; rfl
      | some r =>
        obtain ⟨i, l, o, hi⟩ : ∃ i l o, itemsM (max m 0) r = (i, l, o) := ⟨_, _, _, rfl⟩
        have e := take_some (f := Fd7.new m true) (b := came) rfl hg hi
        rw [e]
        unfold allM; rw [if_pos rfl]; simp only [hg]
        by_cases hk : k < 24
        · rw [if_pos hk]
          obtain ⟨e1, -⟩ := greet_short hg hk
          subst e1
          have e4 : itemsM (max m 0) [] = ([], [], false) := items_none rfl
          rw [e4] at hi
          injection hi with h1 h2
          injection h2 with h2 h3
          subst h1 h2 h3
          unfold Fd7.leftM
          rw [if_neg Bool.false_ne_true, if_pos hk]
        · rw [if_neg hk]
          unfold coreM Fd7.leftM
          rw [hi]
          cases o with
          | true => rfl
          | false => rw [if_neg Bool.false_ne_true, if_neg Bool.false_ne_true, if_neg hk]; rfl
end Go.Proofs.Ytigodfnckjidoaa
