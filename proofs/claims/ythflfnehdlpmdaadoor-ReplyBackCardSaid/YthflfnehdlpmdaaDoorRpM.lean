/- Chapter 15 in plain Lean: an answer, byte by byte. No program, no condition. -/
import Derived.Test.YthflfnehdlpmdaaDoorHpC
import Derived.Test.YthflfnehdlpmdaaDoorHdL
import Derived.Test.YthflfnehdlpmdaaDoorBhToBk
import Derived.Test.YthflfnehdlpmdaaDoorBn
namespace Go.Proofs.YthflfnehdlpmdaaDoor
set_option linter.all false
open Go Go.RowKit
theorem index_cons (c : UInt8) (l p : List UInt8) : Lib.index (c :: l) p = if p.isPrefixOf (c :: l) then 0 else if Lib.index l p == -1 then -1 else Lib.index l p + 1 := by
  rw [Lib.index]
theorem pre_one (c a : UInt8) (l : List UInt8) : ([c] : List UInt8).isPrefixOf (a :: l) = (a == c) := by
  show ((c == a) && true) = (a == c)
  rw [Bool.and_true, Bool.eq_iff_iff, beq_iff_eq, beq_iff_eq]
  exact ⟨fun h => h.symm, fun h => h.symm⟩
/-- What stands ahead of a byte, and behind it. -/
def cutAt (c : UInt8) : List UInt8 → List UInt8 × Option (List UInt8)
  | [] => ([], none)
  | x :: l => if x = c then ([], some l) else (x :: (cutAt c l).1, (cutAt c l).2)
theorem cutAt_index (c : UInt8) : ∀ s : List UInt8, (∀ m r, cutAt c s = (m, some r) → Lib.index s [c] = (m.length : Int) ∧ s.take m.length = m ∧ s.drop (m.length + 1) = r ∧ s = m ++ c :: r ∧ m.contains c = false) ∧ (∀ m, cutAt c s = (m, none) → Lib.index s [c] = -1 ∧ m = s ∧ s.contains c = false)
  | [] => ⟨fun m r h => by simp [cutAt] at h, fun m h => by simp [cutAt] at h; exact ⟨rfl, h, rfl⟩⟩
  | x :: l => by
    obtain ⟨ih1, ih2⟩ := cutAt_index c l
    have hp := pre_one c x l
    rw [index_cons, hp]
    by_cases h : x = c
    · subst h
      refine ⟨fun m r hm => ?_, fun m hm => ?_⟩
      · simp only [cutAt, if_true] at hm
        injection hm with h1 h2; injection h2 with h2; subst h1 h2
        simp
      · simp only [cutAt, if_true] at hm; injection hm with h1 h2; cases h2
    · have h2 : (x == c) = false := by simpa using h
      have h3 : (c == x) = false := by simpa using fun e => h e.symm
      rw [h2]
      simp only [cutAt, if_neg h, Bool.false_eq_true, if_false]
      cases hq : cutAt c l with
      | mk m0 o =>
        refine ⟨fun m r hm => ?_, fun m hm => ?_⟩
        · injection hm with e1 e2
          subst e1 e2
          obtain ⟨a1, a2, a3, a4, a5⟩ := ih1 m0 r hq
          rw [a1, if_neg (by simp)]
          refine ⟨by simp, by simp [a2], by simpa using a3, by simp [← a4], ?_⟩
          rw [List.contains_cons, h3, a5]; rfl
        · injection hm with e1 e2
          subst e1 e2
          obtain ⟨a1, a2, a3⟩ := ih2 m0 hq
          rw [a1]
          exact ⟨rfl, by rw [a2], by rw [List.contains_cons, h3, a3]; rfl⟩
theorem cut_one (c : UInt8) (s : List UInt8) : Lib.cut s [c] = match cutAt c s with | (m, some r) => (m, r, true) | (_, none) => (s, [], false) := by
  obtain ⟨h1, h2⟩ := cutAt_index c s
  unfold Lib.cut
  cases hq : cutAt c s with
  | mk m o =>
    cases o with
    | none => obtain ⟨a1, -, -⟩ := h2 m hq; rw [a1, if_neg (by decide)]
    | some r =>
      obtain ⟨a1, a2, a3, -, -⟩ := h1 m r hq
      rw [a1, if_pos (by omega), show ((m.length : Nat) : Int).toNat = m.length by omega, a2]
      simp [a3]
theorem cutAt_app {c : UInt8} : ∀ {x : List UInt8} (r : List UInt8), c ∉ x → cutAt c (x ++ c :: r) = (x, some r)
  | [], r, _ => by rw [List.nil_append, cutAt, if_pos rfl]
  | a :: x, r, h => by
    rw [List.mem_cons, not_or] at h
    rw [List.cons_append, cutAt, if_neg (fun e => h.1 e.symm), cutAt_app r h.2]
theorem cutAt_no {c : UInt8} : ∀ {x : List UInt8}, c ∉ x → cutAt c x = (x, none)
  | [], _ => rfl
  | a :: x, h => by
    rw [List.mem_cons, not_or] at h
    rw [cutAt, if_neg (fun e => h.1 e.symm), cutAt_no h.2]
theorem trim_le (l : List UInt8) : (trimM l).length ≤ l.length := by
  rw [trimM_eq']
  have h1 := (List.dropWhile_sublist isBl (l := l)).length_le
  generalize l.dropWhile isBl = m at *
  have h2 : (rdw isBl m).length ≤ m.length := by
    unfold rdw
    have h := (List.dropWhile_sublist isBl (l := m.reverse)).length_le
    rw [List.length_reverse] at h ⊢
    exact h
  omega
/-- A cut: what stands ahead, what stands behind, is it there. -/
def cutM (c : UInt8) (s : List UInt8) : List UInt8 × List UInt8 × Bool := match cutAt c s with | (m, some r) => (m, r, true) | (_, none) => (s, [], false)
theorem cutM_app {c : UInt8} {x : List UInt8} (r : List UInt8) (h : c ∉ x) : cutM c (x ++ c :: r) = (x, r, true) := by unfold cutM; rw [cutAt_app r h]
theorem cutM_no {c : UInt8} {x : List UInt8} (h : c ∉ x) : cutM c x = (x, [], false) := by unfold cutM; rw [cutAt_no h]
theorem cutM_len (c : UInt8) (s : List UInt8) : (cutM c s).1.length ≤ s.length ∧ (cutM c s).2.1.length ≤ s.length := by
  obtain ⟨h1, h2⟩ := cutAt_index c s
  unfold cutM
  cases hq : cutAt c s with
  | mk m o =>
    cases o with
    | none => exact ⟨Nat.le_refl _, by simp⟩
    | some r =>
      obtain ⟨-, -, -, a4, -⟩ := h1 m r hq
      have : s.length = m.length + (r.length + 1) := by rw [a4]; simp
      exact ⟨by dsimp only; omega, by dsimp only; omega⟩
theorem con_cutC {s : List UInt8} {c : UInt8} {a b : List UInt8} {ok : Bool} (hs : s.length < 4294967281) (h : cutM c s = (a, b, ok)) : Con Tryd.prog 24 [.v (.str s), .v (.str [c])] [] 0 (.ret (.tup [.v (.str a), .v (.str b), .v (.bool ok)])) [] := by
  have := con_sCut (s := s) (r := [c]) hs
  rw [cut_one] at this
  change Con _ _ _ _ _ (.ret (.tup [.v (.str (cutM c s).1), .v (.str (cutM c s).2.1), .v (.bool (cutM c s).2.2)])) _ at this
  rw [h] at this; exact this
/-- What a parser waits for. -/
inductive Knd where
  | first | heads | chunk | data | behind | trailer | counted | all
/-- A parser. -/
structure Ps where
  hd : Bool
  k : Knd
  ln : List UInt8
  st : Int
  old : Bool
  fs : List Fd
  many : Int
  need : Int
  ended : Bool
  toEnd : Bool
/-- What is heard. -/
structure Hs where
  head : Bool
  st : Int
  fs : List Fd
  data : List UInt8
  fin : Bool
abbrev h10 : List UInt8 := [72, 84, 84, 80, 47, 49, 46, 48]
abbrev h11 : List UInt8 := [72, 84, 84, 80, 47, 49, 46, 49]
def kTE : List UInt8 := [116, 114, 97, 110, 115, 102, 101, 114, 45, 101, 110, 99, 111, 100, 105, 110, 103]
def kChunked : List UInt8 := [99, 104, 117, 110, 107, 101, 100]
/-- The first line. -/
def firstR (s : List UInt8) : Option (Int × Bool) :=
  if ((cutM 32 s).1 = h10 ∨ (cutM 32 s).1 = h11) ∧ (cutM 32 (cutM 32 s).2.1).1.length = 3 ∧ numE 10 (cutM 32 (cutM 32 s).2.1).1 = 0 ∧ 100 ≤ numV 10 (cutM 32 (cutM 32 s).2.1).1 ∧ valueM (trimM (cutM 32 (cutM 32 s).2.1).2.1) = true then
    some (numV 10 (cutM 32 (cutM 32 s).2.1).1, decide ((cutM 32 s).1 = h10)) else none
/-- A field's line. -/
def fieldR (s : List UInt8) : Option Fd := if (cutM 58 s).2.2 = true ∧ tokenM (cutM 58 s).1 = true ∧ valueM (trimM (cutM 58 s).2.1) = true then some ⟨lowM (cutM 58 s).1, trimM (cutM 58 s).2.1, false⟩ else none
def fieldP (many : Int) (s : List UInt8) : Except Int (Option Fd × Int) :=
  if s = [] then .ok (none, many) else match fieldR s with
    | none => .error 150
    | some f => if 100 < many + 1 then .error 2 else .ok (some f, many + 1)
abbrev Ps.fin (s : Ps) : Ps := { s with ln := [], ended := true }
abbrev Hs.end_ (h : Hs) : Hs := { h with fin := true }
abbrev Ps.line (s : Ps) (l : List UInt8) : Ps := { s with ln := l }
abbrev Hs.heard (h : Hs) (s : Ps) : Hs := { h with head := true, st := s.st, fs := s.fs }
/-- Is a body's length not sure? -/
def badB (s : Ps) : Bool := decide (¬ (lenM s.fs).2.2 = 0) || decide (2147483647 < (lenM s.fs).1) || (decide (0 < (hvM s.fs kTE).length) && ((lenM s.fs).2.1 || s.old || decide (¬ (hallM s.fs kTE).length = 1) || decide (¬ lowM ((hallM s.fs kTE).headD []) = kChunked)))
/-- Where the body ends. -/
def bodyM (s : Ps) (h : Hs) : Except Int (Ps × Hs) :=
  if s.st = 101 then .error 151 else if s.st < 200 then .ok ({ s with k := .first }, h) else if badB s = true then .error 151 else
  if s.hd = true ∨ s.st = 204 ∨ s.st = 304 then .ok (s.fin, (h.heard s).end_) else
  if 0 < (hvM s.fs kTE).length then .ok ({ s with k := .chunk }, h.heard s) else
  if (lenM s.fs).2.1 = true ∧ (lenM s.fs).1 = 0 then .ok (s.fin, (h.heard s).end_) else
  if (lenM s.fs).2.1 = true then .ok ({ s with need := (lenM s.fs).1, k := .counted }, h.heard s) else
  .ok ({ s with toEnd := true, k := .all }, h.heard s)
def onChunk (s : Ps) (h : Hs) (t : List UInt8) : Except Int (Ps × Hs) :=
  if ¬ numE 16 (cutM 59 t).1 = 0 ∨ 2147483647 < numV 16 (cutM 59 t).1 then .error 152 else
    .ok ({ s with ln := [], need := numV 16 (cutM 59 t).1, many := 0, k := if numV 16 (cutM 59 t).1 = 0 then .trailer else .data }, h)
def onFirst (s : Ps) (h : Hs) (t : List UInt8) : Except Int (Ps × Hs) := match firstR t with
  | none => .error 150
  | some (n, o) => .ok ({ s with ln := [], st := n, old := o, fs := [], many := 0, k := .heads }, h)
def onHeads (s : Ps) (h : Hs) (t : List UInt8) : Except Int (Ps × Hs) := match fieldP s.many t with
  | .error e => .error e
  | .ok (some f, m) => .ok ({ s with ln := [], many := m, fs := s.fs ++ [f] }, h)
  | .ok (none, _) => bodyM (s.line []) h
def onTrailer (s : Ps) (h : Hs) (t : List UInt8) : Except Int (Ps × Hs) := match fieldP s.many t with
  | .error e => .error e
  | .ok (some _, m) => .ok ({ s with ln := [], many := m }, h)
  | .ok (none, _) => .ok (s.fin, h.end_)
/-- A line is whole. -/
def onLine (s : Ps) (h : Hs) (t : List UInt8) : Except Int (Ps × Hs) := match s.k with
  | .first => onFirst s h t
  | .heads => onHeads s h t
  | .chunk => onChunk s h t
  | _ => onTrailer s h t
def half (l : List UInt8) : Bool := decide (l.getLast? = some 13)
/-- A line's bytes. -/
inductive Rd1 where
  | more (l : List UInt8)
  | line (t r : List UInt8)
  | err (e : Int)
def rdM : List UInt8 → List UInt8 → Rd1
  | l, [] => .more l
  | l, c :: r => if half l = true ∧ c = 10 then .line l.dropLast r else if half l = true ∨ c = 10 then .err 150 else if ¬ c = 13 ∧ l.length = 4096 then .err 2 else rdM (l ++ [c]) r
def Knd.lined : Knd → Bool
  | .first | .heads | .chunk | .trailer => true
  | _ => false
/-- One byte. -/
def lineB (s : Ps) (h : Hs) (c : UInt8) : Except Int (Ps × Hs) :=
  if half s.ln = true ∧ c = 10 then onLine s h s.ln.dropLast else if half s.ln = true ∨ c = 10 then .error 150 else if ¬ c = 13 ∧ s.ln.length = 4096 then .error 2 else .ok (s.line (s.ln ++ [c]), h)
abbrev Hs.plus (h : Hs) (d : List UInt8) : Hs := { h with data := h.data ++ d }
def byteM (s : Ps) (h : Hs) (c : UInt8) : Except Int (Ps × Hs) := match s.k with
  | .data => .ok ({ s with need := s.need - 1, k := if s.need - 1 = 0 then .behind else .data }, h.plus [c])
  | .counted => .ok (if s.need - 1 = 0 then ({ s with need := s.need - 1, ln := [], ended := true }, (h.plus [c]).end_) else ({ s with need := s.need - 1 }, h.plus [c]))
  | .all => .ok ({ s with need := 0 }, h.plus [c])
  | .behind => if s.ln = [] then (if c = 13 then .ok (s.line [13], h) else .error 152) else (if c = 10 then .ok ({ s with ln := [], k := .chunk }, h) else .error 152)
  | _ => lineB s h c
def runB : Ps → Hs → List UInt8 → Except Int (Ps × Hs × List UInt8)
  | s, h, [] => .ok (s, h, [])
  | s, h, c :: r => if s.ended = true then .ok (s, h, c :: r) else match byteM s h c with
    | .error e => .error e
    | .ok (s', h') => runB s' h' r
/-- One call of what a parser waits for. -/
structure Nx where
  s : Ps
  r : List UInt8
  h : Hs
  more : Bool
def nextL (s : Ps) (h : Hs) (b : List UInt8) : Except Int Nx := match rdM s.ln b with
  | .more l => .ok ⟨s.line l, [], h, false⟩
  | .err e => .error e
  | .line t r => match onLine s h t with
    | .error e => .error e
    | .ok (s', h') => .ok ⟨s', r, h', !s'.ended⟩
def strN (s : Ps) (b : List UInt8) : Nat := min s.need.toNat b.length
def nextM (s : Ps) (h : Hs) (b : List UInt8) : Except Int Nx := match s.k with
  | .data => .ok ⟨{ s with need := s.need - (strN s b : Int), k := if s.need - (strN s b : Int) = 0 then .behind else .data }, b.drop (strN s b), h.plus (b.take (strN s b)), decide (s.need - (strN s b : Int) = 0)⟩
  | .counted => .ok (if s.need - (strN s b : Int) = 0 then ⟨{ s with need := s.need - (strN s b : Int), ln := [], ended := true }, b.drop (strN s b), (h.plus (b.take (strN s b))).end_, false⟩ else ⟨{ s with need := s.need - (strN s b : Int) }, b.drop (strN s b), h.plus (b.take (strN s b)), false⟩)
  | .all => .ok ⟨{ s with need := 0 }, [], h.plus b, false⟩
  | .behind => match b with
    | [] => .error 0
    | c :: r => if s.ln = [] then (if c = 13 then .ok ⟨s.line [13], r, h, true⟩ else .error 152) else (if c = 10 then .ok ⟨{ s with ln := [], k := .chunk }, r, h, true⟩ else .error 152)
  | _ => nextL s h b
/-- What holds of a parser that goes on. -/
structure Ps.ok (s : Ps) : Prop where
  len : s.ln.length ≤ 4097
  last : s.ln.length = 4097 → half s.ln = true
  need : 0 ≤ s.need ∧ s.need ≤ 2147483647
  pos : s.ended = false → (s.k = .data ∨ s.k = .counted) → 1 ≤ s.need
  beh : s.k = .behind → s.ln = [] ∨ s.ln = [13]
  many : 0 ≤ s.many ∧ s.many ≤ 100
  heads : s.k = .heads → (szM s.fs : Int) ≤ 8300 * s.many
  size : szM s.fs ≤ 830000
  dat : s.k = .data → s.ln = []
theorem half_snoc (l : List UInt8) : half (l ++ [13]) = true := by simp [half]
theorem half_snoc' (l : List UInt8) (c : UInt8) (h : ¬ c = 13) : half (l ++ [c]) = false := by simp [half, h]
theorem rd_len : ∀ (b l : List UInt8), l.length ≤ 4097 → (l.length = 4097 → half l = true) → match rdM l b with
    | .more l' => l'.length ≤ 4097 ∧ (l'.length = 4097 → half l' = true)
    | .line t r => t.length ≤ 4096 ∧ r.length < b.length
    | .err _ => True
  | [], l, h1, h2 => ⟨h1, h2⟩
  | c :: b, l, h1, h2 => by
    unfold rdM
    by_cases c1 : half l = true ∧ c = 10
    · rw [if_pos c1]; exact ⟨by simp; omega, by simp⟩
    rw [if_neg c1]
    by_cases c2 : half l = true ∨ c = 10
    · rw [if_pos c2]; trivial
    rw [if_neg c2]
    by_cases c3 : ¬ c = 13 ∧ l.length = 4096
    · rw [if_pos c3]; trivial
    rw [if_neg c3]
    have h3 : l.length ≤ 4096 := by
      rcases Nat.lt_or_ge l.length 4097 with h | h
      · omega
      · exact absurd (.inl (h2 (by omega))) c2
    have ih := rd_len b (l ++ [c]) (by simp; omega) (fun hh => by
      by_cases hc : c = 13
      · subst hc; exact half_snoc l
      · simp at hh; exact absurd ⟨hc, hh⟩ c3)
    revert ih
    cases rdM (l ++ [c]) b with
    | more l' => exact id
    | line t r => exact fun ih => ⟨ih.1, by have := ih.2; simp; omega⟩
    | err e => exact id
theorem onLine_line (s : Ps) (h : Hs) (l t : List UInt8) : onLine (s.line l) h t = onLine s h t := by
  obtain ⟨hd, k, ln, st, old, fs, many, need, ended, toEnd⟩ := s
  cases k <;> rfl
theorem rd_run (h : Hs) : ∀ (b : List UInt8) (s : Ps), s.ended = false → s.k.lined = true → runB s h b = match rdM s.ln b with
    | .more l => .ok (s.line l, h, [])
    | .err e => .error e
    | .line t r => match onLine s h t with
      | .error e => .error e
      | .ok (s', h') => runB s' h' r
  | [], s, _, _ => by
    obtain ⟨hd, k, ln, st, old, fs, many, need, ended, toEnd⟩ := s
    rfl
  | c :: b, s, he, hl => by
    have hb : byteM s h c = lineB s h c := by
      obtain ⟨hd, k, ln, st, old, fs, many, need, ended, toEnd⟩ := s
      cases k <;> first | rfl | cases hl
    rw [runB, rdM, if_neg (by rw [he]; decide), hb]
    unfold lineB
    by_cases c1 : half s.ln = true ∧ c = 10
    · rw [if_pos c1, if_pos c1]
    rw [if_neg c1, if_neg c1]
    by_cases c2 : half s.ln = true ∨ c = 10
    · rw [if_pos c2, if_pos c2]
    rw [if_neg c2, if_neg c2]
    by_cases c3 : ¬ c = 13 ∧ s.ln.length = 4096
    · rw [if_pos c3, if_pos c3]
    rw [if_neg c3, if_neg c3]
    have ih := rd_run h b (s.line (s.ln ++ [c])) he hl
    simp only at ih ⊢
    rw [ih]
    cases rdM (s.ln ++ [c]) b with
    | more l => rfl
    | err e => rfl
    | line t r => simp only [onLine_line]
end Go.Proofs.YthflfnehdlpmdaaDoor
