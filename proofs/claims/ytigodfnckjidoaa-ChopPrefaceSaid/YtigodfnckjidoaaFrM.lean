/- Layer 6 in plain Lean: a frame, its bytes, and what stands at the beginning of bytes. No program, no condition. -/
import Derived.Test.YtigodfnckjidoaaOctM
namespace Go.Proofs.Ytigodfnckjidoaa
set_option linter.all false
open Go Go.RowKit

structure Fr where
  (ty fl st : Int)
  data : List UInt8
  pad : Int
  sets : List (Int × Int)
  (code last inc dep wt : Int)
  sole : Bool
def Fr.nil : Fr := ⟨0, 0, 0, [], 0, [], 0, 0, 0, 0, 0, false⟩
/-- A flag. -/
def bitB (fl k : Int) : Bool := decide (fl / k % 2 = 1)
def inB (n m : Int) : Bool := decide (0 ≤ n) && decide (n ≤ m)
/-- Are a frame's numbers within their ranges? -/
def setsB (l : List (Int × Int)) : Bool := l.all fun s => inB s.1 65535 && inB s.2 4294967295
def rangesB (f : Fr) : Bool :=
  inB f.ty 255 && inB f.fl 255 && inB f.pad 255 && inB f.wt 255 && inB f.st 2147483647 && inB f.last 2147483647 && inB f.dep 2147483647 && inB f.inc 2147483647 && setsB f.sets && inB f.code 4294967295
/-- A frame without what its type has. -/
def bareM (f : Fr) : Fr :=
  if f.ty = 0 then { f with pad := if bitB f.fl 8 then 0 else f.pad, data := [] }
  else if f.ty = 1 then { f with dep := if bitB f.fl 32 then 0 else f.dep, wt := if bitB f.fl 32 then 0 else f.wt, sole := if bitB f.fl 32 then false else f.sole, pad := if bitB f.fl 8 then 0 else f.pad, data := [] }
  else if f.ty = 2 then { f with dep := 0, wt := 0, sole := false }
  else if f.ty = 3 then { f with code := 0 }
  else if f.ty = 4 then { f with sets := [] }
  else if f.ty = 8 then { f with inc := 0 }
  else if f.ty = 7 then { f with last := 0, code := 0, data := [] }
  else { f with data := [] }
def emptyB (f : Fr) : Bool :=
  decide (f.data = []) && decide (f.pad = 0) && decide (f.sets = []) && decide (f.code = 0) && decide (f.last = 0) && decide (f.inc = 0) && decide (f.dep = 0) && decide (f.wt = 0) && !f.sole
/-- The same, as the document says it. -/
def shapeB (f : Fr) : Bool :=
  !(decide (f.pad ≠ 0) && !((decide (f.ty = 0) || decide (f.ty = 1)) && bitB f.fl 8)) &&
  !((decide (f.dep ≠ 0) || decide (f.wt ≠ 0) || f.sole) && !(decide (f.ty = 2) || decide (f.ty = 1) && bitB f.fl 32)) &&
  !(decide (f.data ≠ []) && (decide (f.ty = 2) || decide (f.ty = 3) || decide (f.ty = 4) || decide (f.ty = 8))) &&
  (decide (f.sets = []) || decide (f.ty = 4)) && (decide (f.code = 0) || decide (f.ty = 3) || decide (f.ty = 7)) && (decide (f.last = 0) || decide (f.ty = 7)) && (decide (f.inc = 0) || decide (f.ty = 8))
theorem empty_bare (f : Fr) : emptyB (bareM f) = shapeB f := by
  obtain ⟨ty, fl, st, data, pad, sets, code, last, inc, dep, wt, sole⟩ := f
  simp only [bareM]
  by_cases h0 : ty = 0
  · subst h0
    rw [Bool.eq_iff_iff]
    cases e8 : bitB fl 8 <;> simp [emptyB, shapeB, e8] <;> first | (constructor <;> (intro h; simp_all)) | (intros; constructor <;> (intro h; simp_all))
  · rw [if_neg h0]
    by_cases h1 : ty = 1
    · subst h1
      rw [Bool.eq_iff_iff]
      cases e8 : bitB fl 8 <;> cases e32 : bitB fl 32 <;> simp [emptyB, shapeB, e8, e32] <;> first | (constructor <;> (intro h; simp_all)) | (intros; constructor <;> (intro h; simp_all))
    · rw [if_neg h1]
      by_cases h2 : ty = 2
      · subst h2
        rw [Bool.eq_iff_iff]
        simp [emptyB, shapeB] <;> first | (constructor <;> (intro h; simp_all)) | (intros; constructor <;> (intro h; simp_all))
      · rw [if_neg h2]
        by_cases h3 : ty = 3
        · subst h3
          rw [Bool.eq_iff_iff]
          simp [emptyB, shapeB] <;> first | (constructor <;> (intro h; simp_all)) | (intros; constructor <;> (intro h; simp_all))
        · rw [if_neg h3]
          by_cases h4 : ty = 4
          · subst h4
            rw [Bool.eq_iff_iff]
            simp [emptyB, shapeB] <;> first | (constructor <;> (intro h; simp_all)) | (intros; constructor <;> (intro h; simp_all))
          · rw [if_neg h4]
            by_cases h8 : ty = 8
            · subst h8
              rw [Bool.eq_iff_iff]
              simp [emptyB, shapeB] <;> first | (constructor <;> (intro h; simp_all)) | (intros; constructor <;> (intro h; simp_all))
            · rw [if_neg h8]
              by_cases h7 : ty = 7
              · subst h7
                rw [Bool.eq_iff_iff]
                simp [emptyB, shapeB] <;> first | (constructor <;> (intro h; simp_all)) | (intros; constructor <;> (intro h; simp_all))
              · rw [if_neg h7]
                rw [Bool.eq_iff_iff]
                simp [emptyB, shapeB, h0, h1, h2, h3, h4, h7, h8] <;> first | (constructor <;> (intro h; simp_all)) | (intros; constructor <;> (intro h; simp_all))
def mayB (f : Fr) : Bool := rangesB f && shapeB f
/-- What a frame says of its stream's place. -/
def ordL (f : Fr) : List UInt8 := putB 4 (f.dep.toNat + if f.sole then 2147483648 else 0) ++ [UInt8.ofNat f.wt.toNat]
def setL (s : Int × Int) : List UInt8 := putB 2 s.1.toNat ++ putB 4 s.2.toNat
def zeros (n : Int) : List UInt8 := List.replicate n.toNat 0
def padL (f : Fr) : List UInt8 := if bitB f.fl 8 then [UInt8.ofNat f.pad.toNat] else []
def payL (f : Fr) : List UInt8 :=
  if f.ty = 0 then padL f ++ f.data ++ zeros f.pad
  else if f.ty = 1 then padL f ++ (if bitB f.fl 32 then ordL f else []) ++ f.data ++ zeros f.pad
  else if f.ty = 2 then ordL f
  else if f.ty = 3 then putB 4 f.code.toNat
  else if f.ty = 4 then f.sets.flatMap setL
  else if f.ty = 8 then putB 4 f.inc.toNat
  else if f.ty = 7 then putB 4 f.last.toNat ++ putB 4 f.code.toNat ++ f.data
  else f.data
/-- The same, as the document says it. -/
def payR (f : Fr) : List UInt8 :=
  (if f.ty ≤ 1 ∧ bitB f.fl 8 = true then [UInt8.ofNat f.pad.toNat] else []) ++ (if f.ty = 2 ∨ f.ty = 1 ∧ bitB f.fl 32 = true then ordL f else []) ++ f.sets.flatMap setL ++
  (if f.ty = 7 then putB 4 f.last.toNat else []) ++ (if f.ty = 7 ∨ f.ty = 3 then putB 4 f.code.toNat else []) ++ (if f.ty = 8 then putB 4 f.inc.toNat else []) ++ f.data ++ zeros f.pad
theorem pay_ref (f : Fr) (h : mayB f = true) : payR f = payL f := by
  obtain ⟨ty, fl, st, data, pad, sets, code, last, inc, dep, wt, sole⟩ := f
  simp only [mayB, rangesB, shapeB, inB, Bool.and_eq_true, decide_eq_true_eq, Bool.or_eq_true, Bool.not_eq_true', Bool.and_eq_false_iff, decide_eq_false_iff_not, Bool.or_eq_false_iff] at h
  obtain ⟨⟨⟨⟨⟨⟨⟨⟨⟨⟨⟨ht0, ht1⟩, -⟩, hp⟩, -⟩, -⟩, -⟩, -⟩, -⟩, -⟩, -⟩, ⟨⟨⟨⟨⟨⟨s1, s2⟩, s3⟩, s4⟩, s5⟩, s6⟩, s7⟩⟩ := h
  have zz : zeros 0 = [] := rfl
  by_cases h0 : ty = 0
  · subst h0
    obtain rfl : sets = [] := by simpa using s4
    cases e8 : bitB fl 8 <;> simp [payR, payL, padL, e8]
  by_cases h1 : ty = 1
  · subst h1
    obtain rfl : sets = [] := by simpa using s4
    cases e8 : bitB fl 8 <;> cases e32 : bitB fl 32 <;> simp [payR, payL, padL, e8, e32]
  obtain rfl : pad = 0 := by
    rcases s1 with h | h
    · omega
    · simp [h0, h1] at h
  by_cases h2 : ty = 2
  · subst h2
    obtain rfl : sets = [] := by simpa using s4
    obtain rfl : data = [] := by simpa using s3
    simp [payR, payL, zz]
  by_cases h3 : ty = 3
  · subst h3
    obtain rfl : sets = [] := by simpa using s4
    obtain rfl : data = [] := by simpa using s3
    simp [payR, payL, zz]
  by_cases h4 : ty = 4
  · subst h4
    obtain rfl : data = [] := by simpa using s3
    simp [payR, payL, zz]
  obtain rfl : sets = [] := by simpa [h4] using s4
  by_cases h8 : ty = 8
  · subst h8
    obtain rfl : data = [] := by simpa using s3
    simp [payR, payL, zz]
  by_cases h7 : ty = 7
  · subst h7
    simp [payR, payL, zz]
  have : ¬ ty ≤ 1 := by omega
  simp [payR, payL, zz, h0, h1, h2, h3, h4, h7, h8, this]
/-- A frame's bytes. -/
def headL (f : Fr) (n : Nat) : List UInt8 := putB 3 n ++ [UInt8.ofNat f.ty.toNat, UInt8.ofNat f.fl.toNat] ++ putB 4 f.st.toNat
def putE (f : Fr) : Int := if mayB f then (if 16777215 < (payL f).length then 2 else 0) else 1
def putF (f : Fr) : List UInt8 := if putE f = 0 then headL f (payL f).length ++ payL f else []

structure Flt where
  is : Bool
  (code st : Int)
abbrev Flt.no : Flt := ⟨false, 0, 0⟩
abbrev Flt.whole (c : Int) : Flt := ⟨true, c, 0⟩
def misB (ty st : Int) : Bool :=
  if ty = 5 then true else if ty = 4 ∨ ty = 6 ∨ ty = 7 then decide (st ≠ 0) else if ty = 0 ∨ ty = 1 ∨ ty = 2 ∨ ty = 3 ∨ ty = 9 then decide (st = 0) else false
def aheadM (ty fl : Int) : Int := (if bitB fl 8 then 1 else 0) + (if ty = 1 ∧ bitB fl 32 = true then 5 else 0)
def missB (ty fl n : Int) : Bool :=
  if ty = 0 ∨ ty = 1 then decide (n < aheadM ty fl)
  else if ty = 4 then decide (n % 6 ≠ 0) || bitB fl 1 && decide (n ≠ 0)
  else if ty = 7 then decide (n < 8)
  else if ty = 2 then decide (n ≠ 5) else if ty = 3 then decide (n ≠ 4) else if ty = 6 then decide (n ≠ 8) else if ty = 8 then decide (n ≠ 4)
  else false
/-- Four bytes at a place, as a number. -/
def at4 (p : List UInt8) (i : Nat) : Int := beN ((p.drop i).take 4)
def lowM (n : Int) : Int := n % 2147483648
def setsM : Nat → List UInt8 → List (Int × Int)
  | 0, _ => []
  | k + 1, p => ((beN (p.take 2) : Int), (at4 p 2 : Int)) :: setsM k (p.drop 6)
def placeM (f : Fr) (p : List UInt8) : Fr := { f with sole := decide (2147483647 < at4 p 0), dep := lowM (at4 p 0), wt := ((p.getD 4 0).toNat : Int) }
/-- The fields of a payload whose length is right. -/
def openM (f : Fr) (p : List UInt8) : Option Fr :=
  if f.ty = 0 ∨ f.ty = 1 then
    let q := if bitB f.fl 8 then p.drop 1 else p
    let g := if bitB f.fl 8 then { f with pad := ((p.getD 0 0).toNat : Int) } else f
    let k := if f.ty = 1 ∧ bitB f.fl 32 = true then placeM g q else g
    let r := if f.ty = 1 ∧ bitB f.fl 32 = true then q.drop 5 else q
    if (r.length : Int) < k.pad then none else some { k with data := r.take (r.length - k.pad.toNat) }
  else if f.ty = 2 then some (placeM f p)
  else if f.ty = 3 then some { f with code := at4 p 0 }
  else if f.ty = 8 then some { f with inc := lowM (at4 p 0) }
  else if f.ty = 4 then some { f with sets := setsM (p.length / 6) p }
  else if f.ty = 7 then some { f with last := lowM (at4 p 0), code := at4 p 4, data := p.drop 8 }
  else some { f with data := p }
def badSet (s : Int × Int) : Option Int :=
  if s.1 = 2 ∧ 1 < s.2 ∨ s.1 = 5 ∧ (s.2 < 16384 ∨ 16777215 < s.2) then some 1 else if s.1 = 4 ∧ 2147483647 < s.2 then some 3 else none
def unfitM : List (Int × Int) → Flt
  | [] => Flt.no
  | s :: r => match badSet s with | some c => Flt.whole c | none => unfitM r
structure Took where
  f : Fr
  n : Nat
  x : Flt
/-- The frame at the beginning of bytes, and how many it takes; or what is wrong. -/
def takeF (b : List UInt8) (most : Int) : Took :=
  if b.length < 9 then ⟨Fr.nil, 0, Flt.no⟩
  else
    let n := beN (b.take 3)
    if most < n then ⟨Fr.nil, 0, Flt.whole 6⟩
    else if b.length < 9 + n then ⟨Fr.nil, 0, Flt.no⟩
    else
      let ty : Int := (b.getD 3 0).toNat
      let fl : Int := (b.getD 4 0).toNat
      let st : Int := lowM (at4 b 5)
      if misB ty st then ⟨Fr.nil, 0, Flt.whole 1⟩
      else if missB ty fl n then (if ty = 2 then ⟨Fr.nil, 9 + n, ⟨true, 6, st⟩⟩ else ⟨Fr.nil, 0, Flt.whole 6⟩)
      else match openM { Fr.nil with ty := ty, fl := fl, st := st } ((b.drop 9).take n) with
        | none => ⟨Fr.nil, 0, Flt.whole 1⟩
        | some f =>
          if ty = 8 ∧ f.inc = 0 then (if st ≠ 0 then ⟨Fr.nil, 9 + n, ⟨true, 1, st⟩⟩ else ⟨Fr.nil, 0, Flt.whole 1⟩)
          else if (unfitM f.sets).is then ⟨Fr.nil, 0, unfitM f.sets⟩
          else ⟨f, 9 + n, Flt.no⟩

theorem bit_of (fl : Int) (h0 : 0 ≤ fl) (h1 : fl ≤ 255) : bits .and .i64 fl 8 = (if bitB fl 8 then 8 else 0) ∧ bits .and .i64 fl 32 = (if bitB fl 32 then 32 else 0) ∧ bits .and .i64 fl 1 = (if bitB fl 1 then 1 else 0) := by
  obtain ⟨n, rfl⟩ := Int.eq_ofNat_of_zero_le h0
  have : ∀ k : Fin 256, bits .and .i64 (k.val : Int) 8 = (if bitB (k.val : Int) 8 then 8 else 0) ∧ bits .and .i64 (k.val : Int) 32 = (if bitB (k.val : Int) 32 then 32 else 0) ∧ bits .and .i64 (k.val : Int) 1 = (if bitB (k.val : Int) 1 then 1 else 0) := by decide +kernel
  exact this ⟨n, by omega⟩
end Go.Proofs.Ytigodfnckjidoaa
