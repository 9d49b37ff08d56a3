/- Layer 7: plain models: items of bytes. No program, no condition. -/
import Derived.Test.YtigodfnckjidoaaFrW
import Derived.Test.YtigodfnckjidoaaFrX
import Derived.Test.YtigodfnckjidoaaAv
namespace Go.Proofs.Ytigodfnckjidoaa
set_option linter.all false
open Go Go.RowKit
/-- What is taken: nothing; a fault of the connection; an item that takes bytes. -/
theorem take_kinds (b : List UInt8) (m : Int) : takeF b m = ⟨Fr.nil, 0, Flt.no⟩ ∨ (∃ x, takeF b m = ⟨Fr.nil, 0, x⟩ ∧ x.is = true ∧ x.st = 0) ∨ (9 ≤ (takeF b m).n ∧ (takeF b m).n ≤ b.length ∧ ((takeF b m).x = Flt.no ∨ (takeF b m).x.is = true ∧ ¬ (takeF b m).x.st = 0)) := by
  unfold takeF
  by_cases h0 : b.length < 9
  · rw [if_pos h0]; exact .inl rfl
  rw [if_neg h0]
  dsimp only
  by_cases h1 : m < (beN (b.take 3) : Int)
  · rw [if_pos h1]; exact .inr (.inl ⟨_, rfl, rfl, rfl⟩)
  rw [if_neg h1]
  by_cases h2 : b.length < 9 + beN (b.take 3)
  · rw [if_pos h2]; exact .inl rfl
  rw [if_neg h2]
  by_cases h3 : misB ((b.getD 3 0).toNat : Int) (lowM (at4 b 5)) = true
  · rw [if_pos h3]; exact .inr (.inl ⟨_, rfl, rfl, rfl⟩)
  rw [if_neg h3]
  by_cases h4 : missB ((b.getD 3 0).toNat : Int) ((b.getD 4 0).toNat : Int) (beN (b.take 3) : Int) = true
  · rw [if_pos h4]
    by_cases h5 : ((b.getD 3 0).toNat : Int) = 2
    · rw [if_pos h5]
      refine .inr (.inr ⟨by dsimp only; omega, by dsimp only; omega, .inr ⟨rfl, fun he => h3 ?_⟩⟩)
      have he : lowM (at4 b 5) = 0 := he
      rw [h5, he]; rfl
    · rw [if_neg h5]; exact .inr (.inl ⟨_, rfl, rfl, rfl⟩)
  rw [if_neg h4]
  cases h6 : openM { Fr.nil with ty := ((b.getD 3 0).toNat : Int), fl := ((b.getD 4 0).toNat : Int), st := lowM (at4 b 5) } ((b.drop 9).take (beN (b.take 3))) with
  | none => exact .inr (.inl ⟨_, rfl, rfl, rfl⟩)
  | some f =>
    dsimp only
    by_cases h7 : ((b.getD 3 0).toNat : Int) = 8 ∧ f.inc = 0
    · rw [if_pos h7]
      by_cases h8 : lowM (at4 b 5) ≠ 0
      · rw [if_pos h8]; exact .inr (.inr ⟨by dsimp only; omega, by dsimp only; omega, .inr ⟨rfl, h8⟩⟩)
      · rw [if_neg h8]; exact .inr (.inl ⟨_, rfl, rfl, rfl⟩)
    · rw [if_neg h7]
      by_cases h8 : (unfitM f.sets).is = true
      · rw [if_pos h8]
        have hst : ∀ l : List (Int × Int), (unfitM l).st = 0 := fun l => by
          induction l with
          | nil => rfl
          | cons s r ih => unfold unfitM; split; rfl; exact ih
        exact .inr (.inl ⟨_, rfl, h8, hst _⟩)
      · rw [if_neg h8]; exact .inr (.inr ⟨by dsimp only; omega, by dsimp only; omega, .inl rfl⟩)
/-- An item. -/
structure Itm where
  f : Fr
  x : Flt
abbrev Itm.vs (i : Itm) : List V := [.int .i64 i.f.ty, .int .i64 i.f.fl, .int .i64 i.f.st, .str i.f.data, .int .i64 i.f.pad, .sl (setV i.f.sets), .int .i64 i.f.code, .int .i64 i.f.last, .int .i64 i.f.inc, .int .i64 i.f.dep, .int .i64 i.f.wt, .bool i.f.sole, .bool i.x.is, .int .i64 i.x.code, .int .i64 i.x.st]
def itV (l : List Itm) : List (List V) := l.map Itm.vs
@[simp] theorem itV_len (l : List Itm) : (itV l).length = l.length := by simp [itV]
theorem itV_get {l : List Itm} {i : Nat} (h : i < l.length) : (itV l)[i]? = some (l[i]).vs := by simp [itV, h]
theorem itV_one (l : List Itm) : ∀ e ∈ itV l, e.length = 15 := by intro e he; obtain ⟨f, _, rfl⟩ := List.mem_map.1 he; rfl
theorem itV_app (a b : List Itm) : itV a ++ itV b = itV (a ++ b) := by simp [itV]
theorem itV_snoc {a : List Itm} {i : Itm} {n : Nat} (h : n = a.length) : (itV a).take n ++ [i.vs] = itV (a ++ [i]) := by
  rw [List.take_of_length_le (by rw [itV_len]; omega), ← itV_app]; rfl
theorem itV_join {a b : List Itm} {n : Nat} (h : n = a.length) : (itV a).take n ++ itV b = itV (a ++ b) := by
  rw [List.take_of_length_le (by rw [itV_len]; omega), ← itV_app]
/-- Is nothing whole there? Is the connection at fault? -/
def noneT (t : Took) : Bool := decide (t.n = 0) && !t.x.is
def overT (t : Took) : Bool := t.x.is && decide (t.x.st = 0)
abbrev itT (t : Took) : Itm := ⟨t.f, t.x⟩
/-- The items of bytes, what is left, is it over? -/
def goF (m : Int) : Nat → List UInt8 → List Itm × List UInt8 × Bool
  | 0, b => ([], b, false)
  | k + 1, b => if noneT (takeF b m) = true then ([], b, false) else if overT (takeF b m) = true then ([itT (takeF b m)], b.drop (takeF b m).n, true) else
      (itT (takeF b m) :: (goF m k (b.drop (takeF b m).n)).1, (goF m k (b.drop (takeF b m).n)).2)
theorem take_on {b : List UInt8} {m : Int} (h1 : noneT (takeF b m) = false) (h2 : overT (takeF b m) = false) : 9 ≤ (takeF b m).n ∧ (takeF b m).n ≤ b.length := by
  rcases take_kinds b m with h | ⟨x, h, hx, hs⟩ | ⟨h, h', -⟩
  · rw [h] at h1; cases h1
  · rw [h] at h2; simp [overT, hx, hs] at h2
  · exact ⟨h, h'⟩
theorem goF_fuel (m : Int) : ∀ (k j : Nat) (b : List UInt8), b.length < k → b.length < j → goF m k b = goF m j b
  | 0, _, _, h, _ => by omega
  | _, 0, _, _, h => by omega
  | k + 1, j + 1, b, h1, h2 => by
    unfold goF
    by_cases hn : noneT (takeF b m) = true
    · rw [if_pos hn, if_pos hn]
    · rw [if_neg hn, if_neg hn]
      by_cases ho : overT (takeF b m) = true
      · rw [if_pos ho, if_pos ho]
      · rw [if_neg ho, if_neg ho]
        obtain ⟨h9, h10⟩ := take_on (by simpa using hn) (by simpa using ho)
        rw [goF_fuel m k j (b.drop (takeF b m).n) (by rw [List.length_drop]; omega) (by rw [List.length_drop]; omega)]
def itemsM (m : Int) (b : List UInt8) : List Itm × List UInt8 × Bool := goF m (b.length + 1) b
theorem items_none {m : Int} {b : List UInt8} (h : noneT (takeF b m) = true) : itemsM m b = ([], b, false) := by unfold itemsM goF; rw [if_pos h]
theorem items_over {m : Int} {b : List UInt8} (h1 : noneT (takeF b m) = false) (h : overT (takeF b m) = true) : itemsM m b = ([itT (takeF b m)], b.drop (takeF b m).n, true) := by unfold itemsM goF; rw [if_neg (by simp [h1]), if_pos h]
theorem items_on {m : Int} {b : List UInt8} (h1 : noneT (takeF b m) = false) (h2 : overT (takeF b m) = false) : itemsM m b = (itT (takeF b m) :: (itemsM m (b.drop (takeF b m).n)).1, (itemsM m (b.drop (takeF b m).n)).2) := by
  obtain ⟨h9, h10⟩ := take_on h1 h2
  have e : itemsM m (b.drop (takeF b m).n) = goF m b.length (b.drop (takeF b m).n) := goF_fuel m _ _ _ (by omega) (by rw [List.length_drop]; omega)
  rw [e]
  show goF m (b.length + 1) b = _
  rw [goF, if_neg (by simp [h1]), if_neg (by simp [h2])]
/-- The preface: how far it is right, what is left behind it. -/
def preL : List UInt8 := [80, 82, 73, 32, 42, 32, 72, 84, 84, 80, 47, 50, 46, 48, 13, 10, 13, 10, 83, 77, 13, 10, 13, 10]
def greetM : Nat → List UInt8 → Nat × Option (List UInt8)
  | k, [] => (k, some [])
  | k, a :: b => if k < 24 then (if preL[k]? = some a then greetM (k + 1) b else (k, none)) else (k, some (a :: b))
/-- A feed. -/
structure Fd7 where
  most : Int
  pre : Nat
  left : List UInt8
  over : Bool
end Go.Proofs.Ytigodfnckjidoaa
