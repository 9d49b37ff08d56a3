/- Layer 12 in plain Lean: how a date's text is read, step by step. No program. No condition. -/
import Derived.Test.YtnaapoigmihjoaaDateM
import Derived.Lib.Strings
namespace Go.Proofs.Ytnaapoigmihjoaa
set_option linter.all false
open Go Go.RowKit

structure PS where
  left : List UInt8
  week : Int
  year : Int
  month : Int
  day : Int
  hour : Int
  minute : Int
  sec : Int
  bad : Bool
def PS.cells (p : PS) : List Value := [.string (S p.left), .int .i64 p.week, .int .i64 p.year, .int .i64 p.month, .int .i64 p.day, .int .i64 p.hour, .int .i64 p.minute, .int .i64 p.sec, .bool p.bad]
def wordP (p : PS) (s : List UInt8) : PS := { p with left := Lib.trimPrefix p.left s, bad := p.bad || !Lib.hasPrefix p.left s }
def isDg (c : UInt8) : Bool := decide (48 ≤ c.toNat ∧ c.toNat ≤ 57)
def valD (l : List UInt8) : Int := l.foldl (fun n c => 10 * n + ((c.toNat : Int) - 48)) 0
theorem valD_snoc (l : List UInt8) (c : UInt8) : valD (l ++ [c]) = 10 * valD l + ((c.toNat : Int) - 48) := by simp [valD]
theorem valD_bd (l : List UInt8) (h : l.all isDg = true) : 0 ≤ valD l ∧ valD l < 10 ^ l.length := by
  induction l using snoc_ind with
  | h0 => simp [valD]
  | h l c ih =>
    rw [List.all_append, Bool.and_eq_true] at h
    have h1 := ih h.1
    have h2 : 48 ≤ c.toNat ∧ c.toNat ≤ 57 := by have := h.2; simp [isDg] at this; exact this
    rw [valD_snoc, List.length_append, Int.pow_add]
    simp; omega
/-- Takes n digits. -/
def digsOk (p : PS) (n : Nat) : Bool := decide (n ≤ p.left.length) && (p.left.take n).all isDg
def digitsV (p : PS) (n : Nat) : Int := if digsOk p n = true then valD (p.left.take n) else 0
def digitsP (p : PS) (n : Nat) : PS := if digsOk p n = true then { p with left := p.left.drop n } else { p with bad := true }
def clockP (p : PS) : PS :=
  let p1 := digitsP p 2
  let p2 : PS := { p1 with hour := digitsV p 2 }
  let p3 := wordP p2 [58]
  let p4 := digitsP p3 2
  let p5 : PS := { p4 with minute := digitsV p3 2 }
  let p6 := wordP p5 [58]
  let p7 := digitsP p6 2
  { p7 with sec := digitsV p6 2 }
theorem digitsP_len (p : PS) (n : Nat) : (digitsP p n).left.length ≤ p.left.length := by unfold digitsP; split <;> simp
theorem wordP_len (p : PS) (s : List UInt8) : (wordP p s).left.length ≤ p.left.length := by unfold wordP Lib.trimPrefix; simp; split <;> simp
/-- The place of three letters in a row of names, or none. -/
def nameI (all l : List UInt8) : Option Nat := (List.range (all.length / 3)).find? fun k => (all.drop (3 * k)).take 3 == l.take 3
def nameO (p : PS) (all : List UInt8) : Option Nat := if 3 ≤ p.left.length then nameI all p.left else none
def nameV (p : PS) (all : List UInt8) : Int := match nameO p all with | some k => (k : Int) | none => 0
def nameP (p : PS) (all : List UInt8) : PS := match nameO p all with | some _ => { p with left := p.left.drop 3 } | none => { p with bad := true }
theorem nameI_some (all l : List UInt8) (k : Nat) (hk : k < all.length / 3) (he : ((all.drop (3 * k)).take 3 == l.take 3) = true) (hno : ∀ j, j < k → ((all.drop (3 * j)).take 3 == l.take 3) = false) : nameI all l = some k := by
  unfold nameI
  rw [List.find?_range_eq_some]
  exact ⟨he, List.mem_range.2 hk, fun j hj => by simp [hno j hj]⟩
theorem nameI_none (all l : List UInt8) (hno : ∀ j, j < all.length / 3 → ((all.drop (3 * j)).take 3 == l.take 3) = false) : nameI all l = none := by
  unfold nameI
  rw [List.find?_eq_none]
  intro j hj
  rw [hno j (List.mem_range.1 hj)]; simp
theorem nameP_len (p : PS) (all : List UInt8) : (nameP p all).left.length ≤ p.left.length := by unfold nameP; split <;> simp
theorem clockP_len (p : PS) : (clockP p).left.length ≤ p.left.length := by
  unfold clockP
  refine Nat.le_trans (digitsP_len _ _) (Nat.le_trans (wordP_len _ _) (Nat.le_trans (digitsP_len _ _) (Nat.le_trans (wordP_len _ _) (digitsP_len _ _))))
def ownP (p : PS) : PS :=
  wordP (clockP (wordP (
    let f := wordP (
      let d := wordP (
        let b := wordP ({ nameP p daysL with week := nameV p daysL } : PS) [44, 32]
        ({ digitsP b 2 with day := digitsV b 2 } : PS)) [32]
      ({ nameP d monthsL with month := nameV d monthsL } : PS)) [32]
    ({ digitsP f 4 with year := digitsV f 4 } : PS)) [32])) [32, 71, 77, 84]
theorem nameV_bd (p : PS) (all : List UInt8) (K : Nat) (hK : all.length = 3 * K) (h1 : 1 ≤ K) : 0 ≤ nameV p all ∧ nameV p all ≤ (K : Int) - 1 := by
  unfold nameV nameO
  split
  · rename_i k h
    split at h
    · unfold nameI at h
      rw [List.find?_range_eq_some] at h
      have := List.mem_range.1 h.2.1
      omega
    · cases h
  · omega
theorem digitsV_bd (p : PS) (n : Nat) : 0 ≤ digitsV p n ∧ digitsV p n < 10 ^ n := by
  unfold digitsV digsOk
  have hp : (0 : Int) < 10 ^ n := Int.pow_pos (by omega)
  split
  · rename_i h
    rw [Bool.and_eq_true] at h
    have h1 := valD_bd _ h.2
    have h2 : (p.left.take n).length = n := by rw [List.length_take]; have := of_decide_eq_true h.1; omega
    rw [h2] at h1
    exact h1
  · omega
theorem longN_len (d : Int) (h0 : 0 ≤ d) (h1 : d ≤ 6) : 3 ≤ (longN d).length ∧ (longN d).length ≤ 9 := by
  have : ∀ d : Fin 7, 3 ≤ (longN (d.val : Int)).length ∧ (longN (d.val : Int)).length ≤ 9 := by decide
  have h2 := this ⟨d.toNat, by omega⟩
  simp only [Int.toNat_of_nonneg h0] at h2
  exact h2
def oldW (a : PS) : PS := if a.bad = true then a else wordP a ((longN a.week).drop 3)
def yearO (now v : Int) : Int := if now + 50 < now - now % 100 + v then now - now % 100 + v - 100 else now - now % 100 + v
def oldP (p : PS) (now : Int) : PS :=
  wordP (clockP (wordP (
    let f := wordP (
      let d := wordP (
        let b := wordP (oldW ({ nameP p daysL with week := nameV p daysL } : PS)) [44, 32]
        ({ digitsP b 2 with day := digitsV b 2 } : PS)) [45]
      ({ nameP d monthsL with month := nameV d monthsL } : PS)) [45]
    ({ digitsP f 2 with year := yearO now (digitsV f 2) } : PS)) [32])) [32, 71, 77, 84]
def bareD (d : PS) : PS :=
  if Lib.hasPrefix d.left [32] = true then (let e := wordP d [32]; ({ digitsP e 1 with day := digitsV e 1 } : PS))
  else { digitsP d 2 with day := digitsV d 2, bad := (digitsP d 2).bad || decide (digitsV d 2 < 10) }
def bareP (p : PS) : PS :=
  let y := wordP (clockP (wordP (bareD (wordP (
    let c := wordP ({ nameP p daysL with week := nameV p daysL } : PS) [32]
    ({ nameP c monthsL with month := nameV c monthsL } : PS)) [32])) [32])) [32]
  { digitsP y 4 with year := digitsV y 4 }
def momNo (p : PS) : Prop := p.bad = true ∨ p.left ≠ [] ∨ p.year < 1970 ∨ p.day < 1 ∨ lenM p.year p.month < p.day ∨ 23 < p.hour ∨ 59 < p.minute ∨ 59 < p.sec
def dayOf (p : PS) : Int := begM p.year + cumM p.year p.month + p.day - 1
structure PS.Fit (p : PS) : Prop where
  y0 : 0 ≤ p.year
  y1 : p.year ≤ 20000
  m0 : 0 ≤ p.month
  m1 : p.month ≤ 11
  d0 : 0 ≤ p.day
  d1 : p.day ≤ 99
  h0 : 0 ≤ p.hour
  h1 : p.hour ≤ 99
  i0 : 0 ≤ p.minute
  i1 : p.minute ≤ 99
  s0 : 0 ≤ p.sec
  s1 : p.sec ≤ 99
end Go.Proofs.Ytnaapoigmihjoaa
