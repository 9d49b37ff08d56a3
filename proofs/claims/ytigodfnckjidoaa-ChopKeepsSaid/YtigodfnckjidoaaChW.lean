/- Layer 7: plain laws: what is left is short; which item is the last. No program, no condition. -/
import Derived.Test.YtigodfnckjidoaaChT
namespace Go.Proofs.Ytigodfnckjidoaa
set_option linter.all false
open Go Go.RowKit
theorem none_len {b : List UInt8} {m : Int} (hm : 0 ≤ m) (h : noneT (takeF b m) = true) : (b.length : Int) ≤ 8 + m := by
  by_cases h0 : b.length < 9
  · omega
  by_cases h1 : m < (beN (b.take 3) : Int)
  · unfold takeF at h; rw [if_neg h0] at h; dsimp only at h; rw [if_pos h1] at h; cases h
  by_cases h2 : b.length < 9 + beN (b.take 3)
  · omega
  exfalso
  have h9 : noneT (takeF b m) = false := by
    unfold takeF
    rw [if_neg h0]
    dsimp only
    rw [if_neg h1, if_neg h2]
    by_cases h3 : misB ((b.getD 3 0).toNat : Int) (lowM (at4 b 5)) = true
    · rw [if_pos h3]; rfl
    rw [if_neg h3]
    by_cases h4 : missB ((b.getD 3 0).toNat : Int) ((b.getD 4 0).toNat : Int) (beN (b.take 3) : Int) = true
    · rw [if_pos h4]
      split
      · simp [noneT]
      · rfl
    rw [if_neg h4]
    cases h6 : openM { Fr.nil with ty := ((b.getD 3 0).toNat : Int), fl := ((b.getD 4 0).toNat : Int), st := lowM (at4 b 5) } ((b.drop 9).take (beN (b.take 3))) with
    | none => rfl
    | some f =>
      dsimp only
      split
      · split
        · simp [noneT]
        · rfl
      · split
        · rename_i h8; simp [noneT, h8]
        · simp [noneT]
  rw [h9] at h; cases h
theorem goF_rest (m : Int) : ∀ (k : Nat) (b : List UInt8), b.length < k → (goF m k b).2.2 = false → noneT (takeF (goF m k b).2.1 m) = true
  | 0, b, h, _ => by omega
  | k + 1, b, h, ho => by
    unfold goF at ho ⊢
    by_cases hN : noneT (takeF b m) = true
    · rw [if_pos hN]; exact hN
    rw [if_neg hN] at ho ⊢
    by_cases hV : overT (takeF b m) = true
    · rw [if_pos hV] at ho; cases ho
    rw [if_neg hV] at ho ⊢
    obtain ⟨h9, h10⟩ := take_on (by simpa using hN) (by simpa using hV)
    exact goF_rest m k _ (by rw [List.length_drop]; omega) ho
def overI (i : Itm) : Bool := i.x.is && decide (i.x.st = 0)
theorem goF_nil (m : Int) : ∀ (k : Nat) (b : List UInt8), (goF m k b).1 = [] → (goF m k b).2.2 = false
  | 0, b, _ => rfl
  | k + 1, b, h => by
    unfold goF at h ⊢
    by_cases hN : noneT (takeF b m) = true
    · rw [if_pos hN]
    rw [if_neg hN] at h ⊢
    by_cases hV : overT (takeF b m) = true
    · rw [if_pos hV] at h; cases h
    · rw [if_neg hV] at h; cases h
theorem goF_last (m : Int) : ∀ (k : Nat) (b : List UInt8) (i : Nat) (x : Itm), (goF m k b).1[i]? = some x → overI x = (decide (i + 1 = (goF m k b).1.length) && (goF m k b).2.2)
  | 0, b, i, x, h => by cases h
  | k + 1, b, i, x, h => by
    unfold goF at h ⊢
    by_cases hN : noneT (takeF b m) = true
    · rw [if_pos hN] at h; cases h
    rw [if_neg hN] at h ⊢
    by_cases hV : overT (takeF b m) = true
    · rw [if_pos hV] at h ⊢
      cases i with
      | zero =>
        injection h with h; subst h
        exact hV
      | succ i => cases h
    rw [if_neg hV] at h ⊢
    cases i with
    | zero =>
      injection h with h; subst h
      have h1 : overI (itT (takeF b m)) = false := Bool.eq_false_iff.2 hV
      rw [h1]
      dsimp only
      rw [List.length_cons]
      cases hl : (goF m k (b.drop (takeF b m).n)).1 with
      | nil => rw [goF_nil m k _ hl]; simp
      | cons y l => simp
    | succ i =>
      have h2 := goF_last m k (b.drop (takeF b m).n) i x h
      rw [h2]
      dsimp only
      rw [List.length_cons]
      congr 1
      simp
/-- What a feed keeps: little, unless it is over. -/
def Fd7.little (f : Fd7) : Prop := 0 ≤ f.most ∧ (f.over = false → (f.left.length : Int) ≤ 8 + f.most)
theorem new_little (m : Int) (p : Bool) : (Fd7.new m p).little := ⟨by show 0 ≤ max m 0; omega, fun _ => by show ((0 : Nat) : Int) ≤ 8 + max m 0; omega⟩
theorem take_most (f : Fd7) (b : List UInt8) : (f.take b).2.most = f.most := by
  by_cases ho : f.over = true
  · rw [take_over ho]
  · have ho : f.over = false := by simpa using ho
    cases hg : greetM f.pre b with
    | mk k o =>
      cases o with
      | none => rw [take_none ho hg]
      | some r =>
        obtain ⟨its, l, o, hi⟩ : ∃ i l o, itemsM f.most (f.left ++ r) = (i, l, o) := ⟨_, _, _, rfl⟩
        rw [take_some ho hg hi]
theorem take_little {f : Fd7} (h : f.little) (b : List UInt8) : (f.take b).2.little := by
  refine ⟨by rw [take_most]; exact h.1, fun h2 => ?_⟩
  rw [take_most]
  by_cases ho : f.over = true
  · rw [take_over ho] at h2; dsimp only at h2; rw [ho] at h2; cases h2
  · have ho : f.over = false := by simpa using ho
    cases hg : greetM f.pre b with
    | mk k o =>
      cases o with
      | none => rw [take_none ho hg] at h2; cases h2
      | some r =>
        obtain ⟨its, l, o, hi⟩ : ∃ i l o, itemsM f.most (f.left ++ r) = (i, l, o) := ⟨_, _, _, rfl⟩
        rw [take_some ho hg hi] at h2 ⊢
        have h2 : o = false := h2
        subst h2
        have h3 := goF_rest f.most ((f.left ++ r).length + 1) (f.left ++ r) (by omega) (by show (itemsM f.most (f.left ++ r)).2.2 = false; rw [hi])
        have h4 := none_len h.1 h3
        have e : (goF f.most ((f.left ++ r).length + 1) (f.left ++ r)).2.1 = l := by show (itemsM f.most (f.left ++ r)).2.1 = l; rw [hi]
        rw [e] at h4
        exact h4
theorem take_last (f : Fd7) (b : List UInt8) (i : Nat) (x : Itm) (h : (f.take b).1[i]? = some x) : overI x = (decide (i + 1 = (f.take b).1.length) && (f.take b).2.over) := by
  by_cases ho : f.over = true
  · rw [take_over ho] at h; cases h
  · have ho : f.over = false := by simpa using ho
    cases hg : greetM f.pre b with
    | mk k o =>
      cases o with
      | none =>
        rw [take_none ho hg] at h ⊢
        cases i with
        | zero => injection h with h; subst h; rfl
        | succ i => cases h
      | some r =>
        obtain ⟨its, l, o, hi⟩ : ∃ i l o, itemsM f.most (f.left ++ r) = (i, l, o) := ⟨_, _, _, rfl⟩
        rw [take_some ho hg hi] at h ⊢
        have h3 := goF_last f.most ((f.left ++ r).length + 1) (f.left ++ r) i x (by show (itemsM f.most (f.left ++ r)).1[i]? = some x; rw [hi]; exact h)
        have e : goF f.most ((f.left ++ r).length + 1) (f.left ++ r) = (its, l, o) := hi
        rw [e] at h3
        exact h3
theorem left_little {f : Fd7} (h : f.little) {lim : Int} (hlim : f.most = lim) (h2 : f.leftM > 8 + lim) (h3 : f.leftM > 23) : False := by
  unfold Fd7.leftM at h2 h3
  by_cases ho : f.over = true
  · rw [if_pos ho] at h3; omega
  · rw [if_neg ho] at h2 h3
    have h4 := h.2 (by simpa using ho)
    split at h3
    · omega
    · rename_i hp; rw [if_neg hp] at h2; omega
end Go.Proofs.Ytigodfnckjidoaa
