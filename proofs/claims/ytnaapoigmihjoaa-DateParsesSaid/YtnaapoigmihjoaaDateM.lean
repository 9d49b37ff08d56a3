/- Layer 12 in plain Lean: the calendar. No program. No condition. -/
import Derived.Test.YtnaapoigmihjoaaBase
namespace Go.Proofs.Ytnaapoigmihjoaa
set_option linter.all false
open Go Go.RowKit

def leapM (y : Int) : Bool := decide (y % 4 = 0 ∧ (y % 100 ≠ 0 ∨ y % 400 = 0))
def begM (y : Int) : Int := 365 * (y - 1970) + (y - 1) / 4 - (y - 1) / 100 + (y - 1) / 400 - 477
def lp (y : Int) : Int := if leapM y = true then 1 else 0
theorem lp_01 (y : Int) : 0 ≤ lp y ∧ lp y ≤ 1 := by unfold lp; split <;> omega
theorem begM_succ (y : Int) : begM (y + 1) = begM y + 365 + lp y := by
  unfold begM lp leapM
  by_cases h : y % 4 = 0 ∧ (y % 100 ≠ 0 ∨ y % 400 = 0)
  · rw [decide_eq_true h]; simp; omega
  · rw [decide_eq_false h]; simp; omega
theorem begM_1970 : begM 1970 = 0 := by decide
theorem begM_guess (k : Int) (h : 0 ≤ k) : begM (1970 + k) ≤ 366 * k := by unfold begM; omega
theorem begM_mono (a b : Int) (h : a ≤ b) : begM a + 365 * (b - a) ≤ begM b := by unfold begM; omega
theorem begM_bd (y : Int) (h : 1 ≤ y) (h2 : y ≤ 100000) : -720000 ≤ begM y ∧ begM y ≤ 36600000 := by unfold begM; omega
theorem year_uniq (d a b : Int) (a1 : begM a ≤ d) (a2 : d < begM (a + 1)) (b1 : begM b ≤ d) (b2 : d < begM (b + 1)) : a = b := by
  rcases Int.lt_trichotomy a b with h | h | h
  · have := begM_mono (a + 1) b (by omega); omega
  · exact h
  · have := begM_mono (b + 1) a (by omega); omega
def yearF : Nat → Int → Int → Int
  | 0, y, _ => y
  | f + 1, y, d => if begM (y + 1) ≤ d then yearF f (y + 1) d else y
def yearM (d : Int) : Int := yearF d.toNat 1970 d
theorem yearF_prop : ∀ (f : Nat) (y d : Int), begM y ≤ d → d - begM y ≤ f → begM (yearF f y d) ≤ d ∧ d < begM (yearF f y d + 1) ∧ y ≤ yearF f y d := by
  intro f
  induction f with
  | zero =>
    intro y d h1 h2
    have := begM_succ y; have := lp_01 y
    simp only [yearF]; omega
  | succ f ih =>
    intro y d h1 h2
    have hs := begM_succ y; have := lp_01 y
    simp only [yearF]
    split
    · rename_i h
      have := ih (y + 1) d h (by omega)
      omega
    · omega
theorem yearM_prop (d : Int) (h : 0 ≤ d) : begM (yearM d) ≤ d ∧ d < begM (yearM d + 1) ∧ 1970 ≤ yearM d := by
  have := yearF_prop d.toNat 1970 d (by rw [begM_1970]; exact h) (by rw [begM_1970]; omega)
  exact this
theorem yearM_eq (d y : Int) (h : 0 ≤ d) (h1 : begM y ≤ d) (h2 : d < begM (y + 1)) : yearM d = y := by
  have := yearM_prop d h
  exact year_uniq d _ _ this.1 this.2.1 h1 h2
theorem yearM_le (d : Int) (h : 0 ≤ d) (h2 : d ≤ 2932896) : yearM d ≤ 9999 := by
  have := yearM_prop d h
  rcases Int.lt_or_le 9999 (yearM d) with h3 | h3
  · have h4 := begM_mono 10000 (yearM d) (by omega)
    have : begM 10000 = 2932897 := by decide
    omega
  · exact h3

/-- A month's days (0 to 11). -/
def lenM (y m : Int) : Int := if m = 1 then 28 + lp y else if m = 3 ∨ m = 5 ∨ m = 8 ∨ m = 10 then 30 else 31
/-- The days ahead of a month. -/
def cumM (y m : Int) : Int :=
  if m ≤ 0 then 0 else if m = 1 then 31 else (if m = 2 then 59 else if m = 3 then 90 else if m = 4 then 120 else if m = 5 then 151 else if m = 6 then 181 else if m = 7 then 212 else if m = 8 then 243 else if m = 9 then 273 else if m = 10 then 304 else if m = 11 then 334 else 365) + lp y
theorem cumM_succ (y m : Int) (h0 : 0 ≤ m) (h1 : m ≤ 11) : cumM y (m + 1) = cumM y m + lenM y m := by
  have : m = 0 ∨ m = 1 ∨ m = 2 ∨ m = 3 ∨ m = 4 ∨ m = 5 ∨ m = 6 ∨ m = 7 ∨ m = 8 ∨ m = 9 ∨ m = 10 ∨ m = 11 := by omega
  rcases this with rfl | rfl | rfl | rfl | rfl | rfl | rfl | rfl | rfl | rfl | rfl | rfl <;> simp [cumM, lenM] <;> omega
theorem cumM_12 (y : Int) : cumM y 12 = 365 + lp y := by simp [cumM]
theorem cumM_0 (y : Int) : cumM y 0 = 0 := by simp [cumM]
theorem lenM_bd (y m : Int) : 28 ≤ lenM y m ∧ lenM y m ≤ 31 := by have := lp_01 y; unfold lenM; split <;> (try split) <;> omega
theorem cumM_bd (y m : Int) (h0 : 0 ≤ m) (h1 : m ≤ 12) : 0 ≤ cumM y m ∧ cumM y m ≤ 366 := by
  have := lp_01 y
  have : m = 0 ∨ m = 1 ∨ m = 2 ∨ m = 3 ∨ m = 4 ∨ m = 5 ∨ m = 6 ∨ m = 7 ∨ m = 8 ∨ m = 9 ∨ m = 10 ∨ m = 11 ∨ m = 12 := by omega
  rcases this with rfl | rfl | rfl | rfl | rfl | rfl | rfl | rfl | rfl | rfl | rfl | rfl | rfl <;> simp [cumM] <;> omega
theorem cumM_mono (y : Int) (a b : Int) (h0 : 0 ≤ a) (h : a ≤ b) (h1 : b ≤ 12) : cumM y a + 28 * (b - a) ≤ cumM y b := by
  obtain ⟨k, rfl⟩ : ∃ k : Nat, b = a + k := ⟨(b - a).toNat, by omega⟩
  induction k with
  | zero => simp
  | succ k ih =>
    have h2 := ih (by omega) (by omega)
    have h3 := cumM_succ y (a + k) (by omega) (by omega)
    have h4 := lenM_bd y (a + k)
    have e : a + ((k + 1 : Nat) : Int) = a + k + 1 := by omega
    rw [e, h3]; omega
theorem mon_uniq (y l a b : Int) (a0 : 0 ≤ a) (a11 : a ≤ 11) (b0 : 0 ≤ b) (b11 : b ≤ 11) (a1 : cumM y a ≤ l) (a2 : l < cumM y (a + 1)) (b1 : cumM y b ≤ l) (b2 : l < cumM y (b + 1)) : a = b := by
  rcases Int.lt_trichotomy a b with h | h | h
  · have := cumM_mono y (a + 1) b (by omega) (by omega) (by omega); omega
  · exact h
  · have := cumM_mono y (b + 1) a (by omega) (by omega) (by omega); omega
def monF : Nat → Int → Int → Int → Int
  | 0, _, m, _ => m
  | f + 1, y, m, l => if cumM y (m + 1) ≤ l then monF f y (m + 1) l else m
def monM (y l : Int) : Int := monF 11 y 0 l
theorem monF_prop : ∀ (f : Nat) (y m l : Int), 0 ≤ m → m + f = 11 → cumM y m ≤ l → l < cumM y 12 → cumM y (monF f y m l) ≤ l ∧ l < cumM y (monF f y m l + 1) ∧ 0 ≤ monF f y m l ∧ monF f y m l ≤ 11 := by
  intro f
  induction f with
  | zero =>
    intro y m l h0 h1 h2 h3
    obtain rfl : m = 11 := by omega
    exact ⟨h2, h3, by simp [monF], by simp [monF]⟩
  | succ f ih =>
    intro y m l h0 h1 h2 h3
    simp only [monF]
    split
    · rename_i h
      exact ih y (m + 1) l (by omega) (by omega) h h3
    · exact ⟨h2, by omega, h0, by omega⟩
theorem monM_prop (y l : Int) (h0 : 0 ≤ l) (h : l < 365 + lp y) : cumM y (monM y l) ≤ l ∧ l < cumM y (monM y l + 1) ∧ 0 ≤ monM y l ∧ monM y l ≤ 11 :=
  monF_prop 11 y 0 l (by omega) (by omega) (by rw [cumM_0]; exact h0) (by rw [cumM_12]; exact h)
theorem monM_eq (y l m : Int) (h0 : 0 ≤ l) (h : l < 365 + lp y) (m0 : 0 ≤ m) (m1 : m ≤ 11) (h1 : cumM y m ≤ l) (h2 : l < cumM y (m + 1)) : monM y l = m := by
  have := monM_prop y l h0 h
  exact mon_uniq y l _ _ this.2.2.1 this.2.2.2 m0 m1 this.1 this.2.1 h1 h2

/-- The weekdays' names, the months' first letters, one behind the other. -/
def longL : List (List UInt8) := [[84, 104, 117, 114, 115, 100, 97, 121], [70, 114, 105, 100, 97, 121], [83, 97, 116, 117, 114, 100, 97, 121], [83, 117, 110, 100, 97, 121], [77, 111, 110, 100, 97, 121], [84, 117, 101, 115, 100, 97, 121], [87, 101, 100, 110, 101, 115, 100, 97, 121]]
def longN (d : Int) : List UInt8 := longL.getD d.toNat []
def daysL : List UInt8 := [84, 104, 117, 70, 114, 105, 83, 97, 116, 83, 117, 110, 77, 111, 110, 84, 117, 101, 87, 101, 100]
def monthsL : List UInt8 := [74, 97, 110, 70, 101, 98, 77, 97, 114, 65, 112, 114, 77, 97, 121, 74, 117, 110, 74, 117, 108, 65, 117, 103, 83, 101, 112, 79, 99, 116, 78, 111, 118, 68, 101, 99]
def three (l : List UInt8) (k : Int) : List UInt8 := (l.drop (3 * k).toNat).take 3
def dayN (d : Int) : List UInt8 := three daysL d
def monN (m : Int) : List UInt8 := three monthsL m
def dg (n : Int) : UInt8 := UInt8.ofNat (48 + n).toNat
def twoM (n : Int) : List UInt8 := [dg (n / 10 % 10), dg (n % 10)]
def gmt : List UInt8 := [32, 71, 77, 84]
def clockM (h mi s : Int) : List UInt8 := twoM h ++ [58] ++ twoM mi ++ [58] ++ twoM s
/-- A date's own text. -/
def ownT (w d m y h mi s : Int) : List UInt8 := dayN w ++ [44, 32] ++ twoM d ++ [32] ++ monN m ++ [32] ++ twoM (y / 100) ++ twoM y ++ [32] ++ clockM h mi s ++ gmt
def yOf (at_ : Int) : Int := yearM (at_ / 86400)
def lOf (at_ : Int) : Int := at_ / 86400 - begM (yOf at_)
def mOf (at_ : Int) : Int := monM (yOf at_) (lOf at_)
def dOf (at_ : Int) : Int := lOf at_ - cumM (yOf at_) (mOf at_) + 1
def wOf (at_ : Int) : Int := at_ / 86400 % 7
def hOf (at_ : Int) : Int := at_ % 86400 / 3600
def miOf (at_ : Int) : Int := at_ % 86400 / 60 % 60
def sOf (at_ : Int) : Int := at_ % 86400 % 60
def printM (at_ : Int) : List UInt8 := if at_ < 0 ∨ 253402300799 < at_ then [] else ownT (wOf at_) (dOf at_) (mOf at_) (yOf at_) (hOf at_) (miOf at_) (sOf at_)
theorem of_prop (at_ : Int) (h0 : 0 ≤ at_) (h1 : at_ ≤ 253402300799) : 1970 ≤ yOf at_ ∧ yOf at_ ≤ 9999 ∧ 0 ≤ lOf at_ ∧ lOf at_ < 365 + lp (yOf at_) ∧ 0 ≤ mOf at_ ∧ mOf at_ ≤ 11 ∧ cumM (yOf at_) (mOf at_) ≤ lOf at_ ∧ lOf at_ < cumM (yOf at_) (mOf at_ + 1) := by
  have hd : 0 ≤ at_ / 86400 ∧ at_ / 86400 ≤ 2932896 := by omega
  have hy := yearM_prop (at_ / 86400) hd.1
  have hy2 := yearM_le (at_ / 86400) hd.1 hd.2
  have hs := begM_succ (yearM (at_ / 86400))
  have hl0 : 0 ≤ lOf at_ := by unfold lOf yOf; omega
  have hl1 : lOf at_ < 365 + lp (yOf at_) := by unfold lOf yOf; omega
  have hm := monM_prop (yOf at_) (lOf at_) hl0 hl1
  exact ⟨hy.2.2, hy2, hl0, hl1, hm.2.2.1, hm.2.2.2, hm.1, hm.2.1⟩
@[simp] theorem twoM_len (n : Int) : (twoM n).length = 2 := rfl
theorem dayN_len (d : Nat) (h : d ≤ 6) : (dayN (d : Int)).length = 3 := by
  have : ∀ d : Fin 7, (dayN (d.val : Int)).length = 3 := by decide
  exact this ⟨d, by omega⟩
theorem monN_len (d : Nat) (h : d ≤ 11) : (monN (d : Int)).length = 3 := by
  have : ∀ d : Fin 12, (monN (d.val : Int)).length = 3 := by decide
  exact this ⟨d, by omega⟩
end Go.Proofs.Ytnaapoigmihjoaa
