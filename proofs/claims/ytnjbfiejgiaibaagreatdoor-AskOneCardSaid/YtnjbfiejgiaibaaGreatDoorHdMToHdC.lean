/- Layer 10: plain models of what a list of fields asks or answers. No program, no condition. -/
import Derived.Test.YtnjbfiejgiaibaaGreatDoorFa
import Derived.Test.YtnjbfiejgiaibaaGreatDoorOctC4ToOctM
import Derived.Test.YtnjbfiejgiaibaaGreatDoorOctCMToOctC
import Derived.Test.YtnjbfiejgiaibaaGreatDoorOctDToHdB
namespace Go.Proofs.YtnjbfiejgiaibaaGreatDoor
set_option linter.all false
open Go Go.RowKit
/-- A field. -/
structure Fd where
  n : List UInt8
  v : List UInt8
  s : Bool
theorem Fd.ext' {a b : Fd} (h1 : a.n = b.n) (h2 : a.v = b.v) (h3 : a.s = b.s) : a = b := by cases a; cases b; simp_all
instance fdEq : DecidableEq Fd := fun a b => decidable_of_iff (a.n = b.n ∧ a.v = b.v ∧ a.s = b.s) ⟨fun h => Fd.ext' h.1 h.2.1 h.2.2, fun h => by subst h; exact ⟨rfl, rfl, rfl⟩⟩
abbrev Fd.vs (f : Fd) : List V := [.str f.n, .str f.v, .bool f.s]
abbrev Fd.cs (f : Fd) : List D := [.v (.str f.n), .v (.str f.v), .v (.bool f.s)]
def fdV (l : List Fd) : List (List V) := l.map Fd.vs
@[simp] theorem fdV_len (l : List Fd) : (fdV l).length = l.length := by simp [fdV]
theorem fdV_get {l : List Fd} {i : Nat} (h : i < l.length) : (fdV l)[i]? = some (l[i]).vs := by simp [fdV, h]
theorem fdV_one (l : List Fd) : ∀ e ∈ fdV l, e.length = 3 := by intro e he; obtain ⟨f, _, rfl⟩ := List.mem_map.1 he; rfl
theorem fdV_app (a b : List Fd) : fdV a ++ fdV b = fdV (a ++ b) := by simp [fdV]
theorem fdV_snoc {a : List Fd} {f : Fd} {n : Nat} (h : n = a.length) : (fdV a).take n ++ [[V.str f.n, V.str f.v, V.bool f.s]] = fdV (a ++ [f]) := by
  rw [List.take_of_length_le (by rw [fdV_len]; omega), ← fdV_app]; rfl
/-- Texts, as a slice's row. -/
def stV (l : List (List UInt8)) : List (List V) := l.map fun s => [V.str s]
@[simp] theorem stV_len (l : List (List UInt8)) : (stV l).length = l.length := by simp [stV]
theorem stV_get {l : List (List UInt8)} {i : Nat} (h : i < l.length) : (stV l)[i]? = some [V.str l[i]] := by simp [stV, h]
theorem stV_one (l : List (List UInt8)) : ∀ e ∈ stV l, e.length = 1 := by intro e he; obtain ⟨f, _, rfl⟩ := List.mem_map.1 he; rfl
theorem stV_app (a b : List (List UInt8)) : stV a ++ stV b = stV (a ++ b) := by simp [stV]
theorem stV_snoc {a : List (List UInt8)} {s : List UInt8} {n : Nat} (h : n = a.length) : (stV a).take n ++ [[V.str s]] = stV (a ++ [s]) := by
  rw [List.take_of_length_le (by rw [stV_len]; omega), ← stV_app]; rfl
theorem stV_join {a b : List (List UInt8)} {n : Nat} (h : n = a.length) : (stV a).take n ++ stV b = stV (a ++ b) := by
  rw [List.take_of_length_le (by rw [stV_len]; omega), ← stV_app]
/-- The size of a list, and that it is small. -/
def szM (l : List Fd) : Nat := (l.map fun f => f.n.length + f.v.length + 32).sum
theorem szM_cons (f : Fd) (l : List Fd) : szM (f :: l) = f.n.length + f.v.length + 32 + szM l := by simp [szM]
theorem szM_app (a b : List Fd) : szM (a ++ b) = szM a + szM b := by simp [szM]
theorem szM_len : ∀ l : List Fd, 32 * l.length ≤ szM l
  | [] => by simp [szM]
  | f :: l => by have := szM_len l; rw [szM_cons, List.length_cons]; omega
theorem szM_mem {f : Fd} : ∀ {l : List Fd}, f ∈ l → f.n.length + f.v.length + 32 ≤ szM l
  | g :: l, h => by
    rw [szM_cons]
    rcases List.mem_cons.1 h with rfl | h
    · omega
    · have := szM_mem h; omega
theorem szM_at {l : List Fd} {i : Nat} (h : i < l.length) : (l[i]).n.length + (l[i]).v.length + 32 ≤ szM l := szM_mem (List.getElem_mem h)
theorem szM_filter (p : Fd → Bool) : ∀ l : List Fd, szM (l.filter p) ≤ szM l
  | [] => by simp [szM]
  | f :: l => by
    have := szM_filter p l
    rw [List.filter_cons, szM_cons]
    split
    · rw [szM_cons]; omega
    · omega
theorem szM_take (l : List Fd) (k : Nat) : szM (l.take k) ≤ szM l := by
  have : szM l = szM (l.take k) + szM (l.drop k) := by rw [← szM_app, List.take_append_drop]
  omega
/-- What the document counts of a list: it stops counting above 2^30. -/
def byM : Nat → List Fd → Nat
  | n, [] => n
  | n, f :: l => byM (if n < 1073741824 then n + f.n.length + f.v.length + 32 else n) l
theorem byM_le : ∀ (l : List Fd) (n : Nat), n ≤ byM n l
  | [], n => Nat.le_refl n
  | f :: l, n => by
    have := byM_le l (if n < 1073741824 then n + f.n.length + f.v.length + 32 else n)
    unfold byM
    split at this <;> split <;> omega
theorem byM_sz : ∀ (l : List Fd) (n : Nat), byM n l < 1073741824 → n + szM l = byM n l
  | [], n, _ => by simp [szM, byM]
  | f :: l, n, h => by
    unfold byM at h ⊢
    have h1 := byM_le l (if n < 1073741824 then n + f.n.length + f.v.length + 32 else n)
    split at h
    · rename_i hn
      rw [if_pos hn] at h1 ⊢
      rw [← byM_sz l _ h, szM_cons]; omega
    · rename_i hn
      rw [if_neg hn] at h1
      omega
/-- Does a name begin with a colon? -/
def pseudoM (n : List UInt8) : Bool := n.head? == some 58
def ofConnM (n : List UInt8) : Bool := n == [99, 111, 110, 110, 101, 99, 116, 105, 111, 110] || n == [112, 114, 111, 120, 121, 45, 99, 111, 110, 110, 101, 99, 116, 105, 111, 110] || n == [107, 101, 101, 112, 45, 97, 108, 105, 118, 101] || n == [116, 114, 97, 110, 115, 102, 101, 114, 45, 101, 110, 99, 111, 100, 105, 110, 103] || n == [117, 112, 103, 114, 97, 100, 101]
/-- May a plain field be? -/
def plainM (f : Fd) : Bool := tokenM f.n && (lowM f.n == f.n) && valueM f.v && !ofConnM f.n && (!(f.n == [116, 101]) || f.v == [116, 114, 97, 105, 108, 101, 114, 115])
def pathC (c : UInt8) : Bool := decide (33 ≤ c.toNat ∧ c.toNat ≤ 126 ∧ c.toNat ≠ 35)
def pathM (s m : List UInt8) : Bool := if s = [42] then m == [79, 80, 84, 73, 79, 78, 83] else s.all pathC && (s.head? == some 47)
def authC (c : UInt8) : Bool := decide (97 ≤ c.toNat ∧ c.toNat ≤ 122 ∨ 65 ≤ c.toNat ∧ c.toNat ≤ 90 ∨ 48 ≤ c.toNat ∧ c.toNat ≤ 58 ∨ c.toNat = 46 ∨ c.toNat = 45 ∨ c.toNat = 91 ∨ c.toNat = 93)
def authM (s : List UInt8) : Bool := s.all authC && !s.isEmpty
/-- The values of a name. -/
def valuesM (l : List Fd) (k : List UInt8) : List (List UInt8) := (l.filter (fun f => decide (f.n = k))).map (·.v)
theorem valuesM_app (a b : List Fd) (k : List UInt8) : valuesM (a ++ b) k = valuesM a k ++ valuesM b k := by simp [valuesM]
theorem valuesM_len (l : List Fd) (k : List UInt8) : (valuesM l k).length ≤ l.length := by simp [valuesM]; exact List.length_filter_le _ _
theorem take_succ' {α : Type} {l : List α} {q : Nat} (h : q < l.length) : l.take (q + 1) = l.take q ++ [l[q]] := by rw [List.take_add_one, List.getElem?_eq_getElem h]; rfl
theorem valuesM_one (f : Fd) (k : List UInt8) : valuesM [f] k = if f.n = k then [f.v] else [] := by
  unfold valuesM; by_cases h : f.n = k <;> simp [h]
theorem valuesM_succ {l : List Fd} {q : Nat} (h : q < l.length) (k : List UInt8) : valuesM (l.take (q + 1)) k = valuesM (l.take q) k ++ if (l[q]).n = k then [(l[q]).v] else [] := by
  rw [take_succ' h, valuesM_app, valuesM_one]
theorem valuesM_yes {l : List Fd} {q : Nat} (h : q < l.length) {k : List UInt8} (hk : (l[q]).n = k) : valuesM (l.take (q + 1)) k = valuesM (l.take q) k ++ [(l[q]).v] := by rw [valuesM_succ h, if_pos hk]
theorem valuesM_no {l : List Fd} {q : Nat} (h : q < l.length) {k : List UInt8} (hk : ¬ (l[q]).n = k) : valuesM (l.take (q + 1)) k = valuesM (l.take q) k := by rw [valuesM_succ h, if_neg hk, List.append_nil]
theorem valuesM_mem {l : List Fd} {k v : List UInt8} (h : v ∈ valuesM l k) : ∃ f ∈ l, f.n = k ∧ f.v = v := by
  unfold valuesM at h
  obtain ⟨f, hf, rfl⟩ := List.mem_map.1 h
  rw [List.mem_filter] at hf
  exact ⟨f, hf.1, by simpa using hf.2, rfl⟩
theorem valuesM_sz {l : List Fd} {k v : List UInt8} (h : v ∈ valuesM l k) : v.length + 32 ≤ szM l := by
  obtain ⟨f, hf, -, rfl⟩ := valuesM_mem h
  have := szM_mem hf; omega
/-- What texts say as lengths: the number, is there one, the error. -/
def lenGo : Int → Bool → List (List UInt8) → Int × Bool × Int
  | n, b, [] => (n, b, 0)
  | n, b, x :: r => if ¬ numE 10 x = 0 ∨ b = true ∧ ¬ numV 10 x = n then (0, false, 102) else lenGo (numV 10 x) true r
def lenM (l : List Fd) : Int × Bool × Int := lenGo 0 false (valuesM l [99, 111, 110, 116, 101, 110, 116, 45, 108, 101, 110, 103, 116, 104])
/-- The first error of a list whose pseudo-fields may have these names, each once. -/
def okF (names : List (List UInt8)) (pre : List Fd) (f : Fd) : Int :=
  if pseudoM f.n = true then (if names.contains f.n = true ∧ pre.all (fun g => pseudoM g.n && !(decide (g.n = f.n))) = true then 0 else 100) else if plainM f = true then 0 else 101
def askM (names : List (List UInt8)) : List Fd → List Fd → Int
  | _, [] => 0
  | pre, f :: r => if okF names pre f = 0 then askM names (pre ++ [f]) r else okF names pre f
theorem askM_at {names : List (List UInt8)} {l : List Fd} {q : Nat} (h : q < l.length) : askM names (l.take q) (l.drop q) = if okF names (l.take q) l[q] = 0 then askM names (l.take (q + 1)) (l.drop (q + 1)) else okF names (l.take q) l[q] := by
  rw [List.drop_eq_getElem_cons h, askM, ← take_succ' h]
theorem askM_end (names : List (List UInt8)) (l : List Fd) : askM names (l.take l.length) (l.drop l.length) = 0 := by rw [List.drop_length]; rfl
/-- A request. -/
structure Rq where
  m : List UInt8
  s : List UInt8
  a : List UInt8
  p : List UInt8
  f : List Fd
abbrev Rq.cs (r : Rq) : List D := [.v (.str r.m), .v (.str r.s), .v (.str r.a), .v (.str r.p), .v (.sl (fdV r.f))]
def Rq.nil : Rq := ⟨[], [], [], [], []⟩
theorem Rq.ext' {a b : Rq} (h1 : a.m = b.m) (h2 : a.s = b.s) (h3 : a.a = b.a) (h4 : a.p = b.p) (h5 : a.f = b.f) : a = b := by cases a; cases b; simp_all
/-- Texts joined as cookies. -/
def joinC (a c : List UInt8) : List UInt8 := if ¬ a = [] ∧ ¬ c = [] then a ++ [59, 32] ++ c else a ++ c
def joinM (l : List (List UInt8)) : List UInt8 := l.foldl joinC []
theorem joinM_snoc (l : List (List UInt8)) (c : List UInt8) : joinM (l ++ [c]) = joinC (joinM l) c := by simp [joinM]
theorem joinM_one (c : List UInt8) : joinM [c] = c := by simp [joinM, joinC]
def kC : List UInt8 := [99, 111, 111, 107, 105, 101]
/-- The first cookie with that value, and no other. -/
def ckGo (J : List UInt8) : Bool → List Fd → List Fd
  | _, [] => []
  | met, f :: r => if f.n = kC then (if met = true then ckGo J true r else ⟨f.n, J, f.s⟩ :: ckGo J true r) else f :: ckGo J met r
def hasC (l : List Fd) : Bool := l.any fun f => decide (f.n = kC)
theorem ckGo_app (J : List UInt8) : ∀ (a b : List Fd) (met : Bool), ckGo J met (a ++ b) = ckGo J met a ++ ckGo J (met || hasC a) b
  | [], b, met => by simp [ckGo, hasC]
  | f :: a, b, met => by
    simp only [List.cons_append, ckGo]
    by_cases h : f.n = kC
    · simp only [if_pos h]
      have e : hasC (f :: a) = true := by simp [hasC, h]
      cases met
      · simp [ckGo_app J a b true, e]
      · simp [ckGo_app J a b true]
    · have e : hasC (f :: a) = hasC a := by simp [hasC, h]
      simp only [if_neg h, ckGo_app J a b met, e, List.cons_append]
theorem ckGo_no (J : List UInt8) : ∀ (a : List Fd) (met : Bool), hasC a = false → ckGo J met a = a
  | [], _, _ => rfl
  | f :: a, met, h => by
    have h1 : ¬ f.n = kC := fun e => by simp [hasC, e] at h
    have h2 : hasC a = false := by simp only [hasC, List.any_cons, Bool.or_eq_false_iff] at h ⊢; exact h.2
    simp only [ckGo, if_neg h1, ckGo_no J a met h2]
def keepM (f : Fd) : Bool := !pseudoM f.n && !(decide (f.n = [104, 111, 115, 116]))
def outM (l : List Fd) : List Fd := ckGo (joinM (valuesM l kC)) false (l.filter keepM)
/-- What a request's head asks. -/
def getM (l : List Fd) (k : List UInt8) : List UInt8 := (valuesM l k).headD []
def names4 : List (List UInt8) := [[58, 109, 101, 116, 104, 111, 100], [58, 115, 99, 104, 101, 109, 101], [58, 97, 117, 116, 104, 111, 114, 105, 116, 121], [58, 112, 97, 116, 104]]
def headM (l : List Fd) : Bool := tokenM (getM l [58, 109, 101, 116, 104, 111, 100]) && !(decide (getM l [58, 109, 101, 116, 104, 111, 100] = [67, 79, 78, 78, 69, 67, 84])) && (decide (getM l [58, 115, 99, 104, 101, 109, 101] = [104, 116, 116, 112]) || decide (getM l [58, 115, 99, 104, 101, 109, 101] = [104, 116, 116, 112, 115])) && pathM (getM l [58, 112, 97, 116, 104]) (getM l [58, 109, 101, 116, 104, 111, 100])
def allM (l : List Fd) : List (List UInt8) := valuesM l [58, 97, 117, 116, 104, 111, 114, 105, 116, 121] ++ valuesM l [104, 111, 115, 116]
def placeM (l : List Fd) : Int := if 1 < (valuesM l [104, 111, 115, 116]).length then 101 else if allM l = [] then 100 else if (allM l).all (fun h => authM h && decide (lowM h = lowM ((allM l).headD []))) = true then 0 else 100
def readE (l : List Fd) : Int := if ¬ askM names4 [] l = 0 then askM names4 [] l else if headM l = false then 100 else if ¬ placeM l = 0 then placeM l else (lenM l).2.2
def readR (l : List Fd) : Rq := if readE l = 0 then ⟨getM l [58, 109, 101, 116, 104, 111, 100], getM l [58, 115, 99, 104, 101, 109, 101], lowM ((allM l).headD []), getM l [58, 112, 97, 116, 104], outM l⟩ else Rq.nil
end Go.Proofs.YtnjbfiejgiaibaaGreatDoor

/- Layer 10: contracts of digits and bytes; the greater of two numbers; maps from texts to texts. No condition. -/
namespace Go.Proofs.YtnjbfiejgiaibaaGreatDoor
set_option linter.all false
open Go Go.RowKit
theorem con_Decimal {l : List UInt8} (hl : l.length ≤ maxLen) : Con Tryz.prog 83 [.v (.str l)] [] 0 (.ret (.tup [.v (.int .i64 (numV 10 l)), .v (.int .i64 (numE 10 l))])) [] :=
  con_pure fun G w us _ hA => by
    obtain rfl := es1 hA
    refine (decimal_any (S l) w (by rw [S_size]; exact hl)).mono fun e w' ⟨he, hw⟩ => ?_
    subst hw
    exact ⟨_, he, fun m => by rw [S_toList]; exact .tup _ [.int .i64 (numV 10 l), .int .i64 (numE 10 l)] rfl (RepDs.cons (mk_int _ _) (.cons (mk_int _ _) .nil)).2, Below.refl _ _⟩
theorem con_rDecimal {l : List UInt8} (hl : l.length ≤ maxLen) : Con Tryz.prog 62 [.v (.str l)] [] 0 (.ret (.tup [.v (.int .i64 (numV 10 l)), .v (.int .i64 (numE 10 l))])) [] :=
  con_pure fun G w us _ hA => by
    obtain rfl := es1 hA
    refine (refdecimal_any (S l) w (by rw [S_size]; exact hl)).mono fun e w' ⟨he, hw⟩ => ?_
    subst hw
    exact ⟨_, he, fun m => by rw [S_toList]; exact .tup _ [.int .i64 (numV 10 l), .int .i64 (numE 10 l)] rfl (RepDs.cons (mk_int _ _) (.cons (mk_int _ _) .nil)).2, Below.refl _ _⟩
theorem ei1 {G : Gh} {w : World} {m : Mem} {k : IntKind} {n : Int} {us : List Value} (h : RepDs G w m [.v (.int k n)] us) : us = [.int k n] := by
  match us, h.1 with
  | [u], _ => rw [rep_int (h.2 0 _ u rfl rfl)]
theorem con_Digits {n : Int} (hn : n ≤ 9223372036854775807) : Con Tryz.prog 41 [.v (.int .i64 n)] [] 0 (.ret (.v (.str (digs 10 n)))) [] :=
  con_pure fun G w us _ hA => by
    obtain rfl := ei1 hA
    refine (octDigits_all n hn w).mono fun e w' ⟨he, hw⟩ => ?_
    exact ⟨_, he, fun m => mk_str _, hw⟩
/-- A map from texts to structs of one text. -/
abbrev Wd := List (List UInt8 × List UInt8)
def lk (k : List UInt8) : Wd → Option (List UInt8)
  | [] => none
  | x :: r => if x.1 = k then some x.2 else lk k r
theorem lk_none {k : List UInt8} : ∀ {m : Wd}, lk k m = none ↔ ∀ p ∈ m, ¬ p.1 = k
  | [] => by simp [lk]
  | x :: r => by
    unfold lk
    by_cases h : x.1 = k
    · simp [h]
    · rw [if_neg h, lk_none]; simp [h]
end Go.Proofs.YtnjbfiejgiaibaaGreatDoor
