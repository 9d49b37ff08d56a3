/- Layer 7: plain laws: items of bytes that come in parts. No program, no condition. -/
import Derived.Test.YtigodfnckjidoaaChO
namespace Go.Proofs.Ytigodfnckjidoaa
set_option linter.all false
open Go Go.RowKit
theorem take_appQ {b : List UInt8} {m : Int} (r : List UInt8) (h1 : (beN (b.take 3) : Int) ≤ m) (h9 : 9 ≤ b.length) (h2 : 9 + beN (b.take 3) ≤ b.length) : takeF (b ++ r) m = takeF b m := by
  have e3 : (b ++ r).take 3 = b.take 3 := List.take_append_of_le_length (by omega)
  have e5 : at4 (b ++ r) 5 = at4 b 5 := by
    unfold at4; rw [List.drop_append_of_le_length (by omega), List.take_append_of_le_length (by simp; omega)]
  have g : ∀ k, k < 9 → (b ++ r).getD k 0 = b.getD k 0 := fun k hk => by
    rw [List.getD_eq_getElem?_getD, List.getD_eq_getElem?_getD, List.getElem?_append_left (by omega)]
  have ep : pB (b ++ r) = pB b := by
    unfold pB; rw [e3, List.drop_append_of_le_length (by omega), List.take_append_of_le_length (by simp; omega)]
  have et : tyB (b ++ r) = tyB b := by unfold tyB; rw [g 3 (by decide)]
  have ef : flB (b ++ r) = flB b := by unfold flB; rw [g 4 (by decide)]
  have es : stB (b ++ r) = stB b := by unfold stB; rw [e5]
  have e0 : f0B (b ++ r) = f0B b := by unfold f0B; rw [et, ef, es]
  rw [takeF_0 (b := b ++ r) (by rw [e3]; exact h1) (by rw [e3]; simp; omega), takeF_0 (b := b) h1 (by omega), e3, et, ef, es, ep, e0]
theorem take_more {a : List UInt8} {m : Int} (b : List UInt8) (h : noneT (takeF a m) = false) : takeF (a ++ b) m = takeF a m := by
  by_cases h9 : a.length < 9
  · have e : takeF a m = ⟨Fr.nil, 0, Flt.no⟩ := by unfold takeF; rw [if_pos h9]
    rw [e] at h; cases h
  have e3 : (a ++ b).take 3 = a.take 3 := List.take_append_of_le_length (by omega)
  by_cases hm : m < (beN (a.take 3) : Int)
  · have e : takeF a m = ⟨Fr.nil, 0, Flt.whole 6⟩ := by unfold takeF; rw [if_neg h9]; dsimp only; rw [if_pos hm]
    rw [e]
    unfold takeF
    rw [if_neg (by rw [List.length_append]; omega)]
    dsimp only
    rw [e3, if_pos hm]
  by_cases hl : a.length < 9 + beN (a.take 3)
  · have e : takeF a m = ⟨Fr.nil, 0, Flt.no⟩ := by unfold takeF; rw [if_neg h9]; dsimp only; rw [if_neg hm, if_pos hl]
    rw [e] at h; cases h
  exact take_appQ b (by omega) (by omega) (by omega)
theorem items_app (m : Int) : ∀ (n : Nat) (a b : List UInt8), a.length ≤ n →
    ((itemsM m a).2.2 = true → (itemsM m (a ++ b)).1 = (itemsM m a).1 ∧ (itemsM m (a ++ b)).2.2 = true) ∧
    ((itemsM m a).2.2 = false → itemsM m (a ++ b) = ((itemsM m a).1 ++ (itemsM m ((itemsM m a).2.1 ++ b)).1, (itemsM m ((itemsM m a).2.1 ++ b)).2)) := by
  intro n
  induction n with
  | zero =>
    intro a b h
    obtain rfl := List.eq_nil_of_length_eq_zero (by omega : a.length = 0)
    have e : itemsM m [] = ([], [], false) := items_none rfl
    rw [e]
    exact ⟨fun h => (by cases h), fun _ => rfl⟩
  | succ n ih =>
    intro a b h
    by_cases hN : noneT (takeF a m) = true
    · rw [items_none hN]
      exact ⟨fun h => (by cases h), fun _ => rfl⟩
    · have hN : noneT (takeF a m) = false := by simpa using hN
      have et := take_more b hN
      by_cases hV : overT (takeF a m) = true
      · rw [items_over hN hV, items_over (b := a ++ b) (by rw [et]; exact hN) (by rw [et]; exact hV), et]
        exact ⟨fun _ => ⟨rfl, rfl⟩, fun h => by cases h⟩
      · have hV : overT (takeF a m) = false := by simpa using hV
        obtain ⟨h9, hle⟩ := take_on hN hV
        rw [items_on hN hV, items_on (b := a ++ b) (by rw [et]; exact hN) (by rw [et]; exact hV), et, List.drop_append_of_le_length hle]
        obtain ⟨i1, i2⟩ := ih (a.drop (takeF a m).n) b (by rw [List.length_drop]; omega)
        refine ⟨fun h => ?_, fun h => ?_⟩
        · obtain ⟨j1, j2⟩ := i1 h
          exact ⟨by dsimp only; rw [j1], j2⟩
        · have := i2 h
          rw [this]; rfl
theorem greet_cons (q : Nat) (x : UInt8) (a : List UInt8) : greetM q (x :: a) = if q < 24 then (if preL[q]? = some x then greetM (q + 1) a else (q, none)) else (q, some (x :: a)) := by rw [greetM]
theorem greet_app : ∀ (a b : List UInt8) (q : Nat), greetM q (a ++ b) = match greetM q a with | (k, none) => (k, none) | (k, some r) => greetM k (r ++ b)
  | [], b, q => rfl
  | x :: a, b, q => by
    rw [List.cons_append, greet_cons, greet_cons]
    by_cases h : q < 24
    · rw [if_pos h, if_pos h]
      by_cases h2 : preL[q]? = some x
      · rw [if_pos h2, if_pos h2]; exact greet_app a b (q + 1)
      · rw [if_neg h2, if_neg h2]
    · rw [if_neg h, if_neg h]
      show _ = greetM q ((x :: a) ++ b)
      rw [List.cons_append, greet_cons, if_neg h]
end Go.Proofs.Ytigodfnckjidoaa
