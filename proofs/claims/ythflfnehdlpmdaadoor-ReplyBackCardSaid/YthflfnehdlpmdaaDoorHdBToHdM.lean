/- Layer 10: octets' contracts as abstract ones. No condition. -/
import Derived.Test.YthflfnehdlpmdaaDoorFa
import Derived.Test.YthflfnehdlpmdaaDoorOctC2ToOctC4
import Derived.Test.YthflfnehdlpmdaaDoorOctToOctD
import Derived.Test.YthflfnehdlpmdaaDoorShelf
import Derived.Test.YthflfnehdlpmdaaDoorOctM
import Derived.Test.YthflfnehdlpmdaaDoorOctCMToOctC
namespace Go.Proofs.YthflfnehdlpmdaaDoor
set_option linter.all false
open Go Go.RowKit
theorem es1 {G : Gh} {w : World} {m : Mem} {l : List UInt8} {us : List Value} (h : RepDs G w m [.v (.str l)] us) : us = [.string (S l)] := by
  match us, h.1 with
  | [u], _ => rw [rep_str (h.2 0 _ u rfl rfl)]
theorem con_Token {l : List UInt8} (hl : l.length ≤ maxLen) : Con Tryd.prog 49 [.v (.str l)] [] 0 (.ret (.v (.bool (tokenM l)))) [] :=
  con_pure fun G w us _ hA => by
    obtain rfl := es1 hA
    refine (Token_any (S l) w (by rw [S_size]; exact hl)).mono fun e w' ⟨he, hw⟩ => ?_
    subst hw
    exact ⟨_, he, fun m => by rw [S_toList]; exact mk_bool _, Below.refl _ _⟩
theorem con_Value {l : List UInt8} (hl : l.length ≤ maxLen) : Con Tryd.prog 26 [.v (.str l)] [] 0 (.ret (.v (.bool (valueM l)))) [] :=
  con_pure fun G w us _ hA => by
    obtain rfl := es1 hA
    refine (Value_any (S l) w (by rw [S_size]; exact hl)).mono fun e w' ⟨he, hw⟩ => ?_
    exact ⟨_, he, fun m => by rw [S_toList]; exact mk_bool _, hw⟩
theorem con_Lower {l : List UInt8} (hl : l.length ≤ 140737488351232) : Con Tryd.prog 39 [.v (.str l)] [] 0 (.ret (.v (.str (lowM l)))) [] :=
  con_pure fun G w us _ hA => by
    obtain rfl := es1 hA
    refine (Lower_any (S l) w (by rw [S_size]; exact hl)).mono fun e w' ⟨he, hw⟩ => ?_
    exact ⟨_, he, fun m => by rw [S_toList]; exact mk_str _, hw⟩
theorem es2 {G : Gh} {w : World} {m : Mem} {l r : List UInt8} {us : List Value} (h : RepDs G w m [.v (.str l), .v (.str r)] us) : us = [.string (S l), .string (S r)] := by
  match us, h.1 with
  | [u, v], _ => rw [rep_str (h.2 0 _ u rfl rfl), rep_str (h.2 1 _ v rfl rfl)]
theorem con_SameO {l r : List UInt8} (hl : l.length ≤ 140737488351232) (hr : r.length ≤ 140737488351232) : Con Tryd.prog 31 [.v (.str l), .v (.str r)] [] 0 (.ret (.v (.bool (decide (lowM l = lowM r))))) [] :=
  con_pure fun G w us _ hA => by
    obtain rfl := es2 hA
    refine (Same_any (S l) (S r) w (by rw [S_size]; exact hl) (by rw [S_size]; exact hr)).mono fun e w' ⟨he, hw⟩ => ?_
    exact ⟨_, he, fun m => by rw [S_toList, S_toList]; exact mk_bool _, hw⟩
end Go.Proofs.YthflfnehdlpmdaaDoor

/- Layer 10: plain models of what a list of fields asks or answers. No program, no condition. -/
namespace Go.Proofs.YthflfnehdlpmdaaDoor
set_option linter.all false
open Go Go.RowKit
/-- A field. -/
structure Fd where
  n : List UInt8
  v : List UInt8
  s : Bool
theorem Fd.ext' {a b : Fd} (h1 : a.n = b.n) (h2 : a.v = b.v) (h3 : a.s = b.s) : a = b := by cases a; cases b; simp_all
instance fdEq : DecidableEq Fd := fun a b => decidable_of_iff (a.n = b.n ∧ a.v = b.v ∧ a.s = b.s) ⟨fun h => Fd.ext' h.1 h.2.1 h.2.2, fun h => by subst h; exact ⟨rfl, rfl, rfl⟩⟩
abbrev Fd.vs (f : Fd) : List V := [.str f.n, .str f.v, .bool f.s]
abbrev Fd.cs (f : Fd) : List D := [.v (.str f.n), .v (.str f.v), .v (.bool f.s)]
def fdV (l : List Fd) : List (List V) := l.map Fd.vs
@[simp] theorem fdV_len (l : List Fd) : (fdV l).length = l.length := by simp [fdV]
theorem fdV_get {l : List Fd} {i : Nat} (h : i < l.length) : (fdV l)[i]? = some (l[i]).vs := by simp [fdV, h]
theorem fdV_one (l : List Fd) : ∀ e ∈ fdV l, e.length = 3 := by intro e he; obtain ⟨f, _, rfl⟩ := List.mem_map.1 he; rfl
theorem fdV_app (a b : List Fd) : fdV a ++ fdV b = fdV (a ++ b) := by simp [fdV]
theorem fdV_snoc {a : List Fd} {f : Fd} {n : Nat} (h : n = a.length) : (fdV a).take n ++ [[V.str f.n, V.str f.v, V.bool f.s]] = fdV (a ++ [f]) := by
  rw [List.take_of_length_le (by rw [fdV_len]; omega), ← fdV_app]; rfl
/-- Texts, as a slice's row. -/
def stV (l : List (List UInt8)) : List (List V) := l.map fun s => [V.str s]
@[simp] theorem stV_len (l : List (List UInt8)) : (stV l).length = l.length := by simp [stV]
theorem stV_get {l : List (List UInt8)} {i : Nat} (h : i < l.length) : (stV l)[i]? = some [V.str l[i]] := by simp [stV, h]
theorem stV_one (l : List (List UInt8)) : ∀ e ∈ stV l, e.length = 1 := by intro e he; obtain ⟨f, _, rfl⟩ := List.mem_map.1 he; rfl
theorem stV_app (a b : List (List UInt8)) : stV a ++ stV b = stV (a ++ b) := by simp [stV]
theorem stV_snoc {a : List (List UInt8)} {s : List UInt8} {n : Nat} (h : n = a.length) : (stV a).take n ++ [[V.str s]] = stV (a ++ [s]) := by
  rw [List.take_of_length_le (by rw [stV_len]; omega), ← stV_app]; rfl
theorem stV_join {a b : List (List UInt8)} {n : Nat} (h : n = a.length) : (stV a).take n ++ stV b = stV (a ++ b) := by
  rw [List.take_of_length_le (by rw [stV_len]; omega), ← stV_app]
/-- The size of a list, and that it is small. -/
def szM (l : List Fd) : Nat := (l.map fun f => f.n.length + f.v.length + 32).sum
theorem szM_cons (f : Fd) (l : List Fd) : szM (f :: l) = f.n.length + f.v.length + 32 + szM l := by simp [szM]
theorem szM_app (a b : List Fd) : szM (a ++ b) = szM a + szM b := by simp [szM]
theorem szM_len : ∀ l : List Fd, 32 * l.length ≤ szM l
  | [] => by simp [szM]
  | f :: l => by have := szM_len l; rw [szM_cons, List.length_cons]; omega
theorem szM_mem {f : Fd} : ∀ {l : List Fd}, f ∈ l → f.n.length + f.v.length + 32 ≤ szM l
  | g :: l, h => by
    rw [szM_cons]
    rcases List.mem_cons.1 h with rfl | h
    · omega
    · have := szM_mem h; omega
theorem szM_at {l : List Fd} {i : Nat} (h : i < l.length) : (l[i]).n.length + (l[i]).v.length + 32 ≤ szM l := szM_mem (List.getElem_mem h)
/-- The values of a name. -/
def valuesM (l : List Fd) (k : List UInt8) : List (List UInt8) := (l.filter (fun f => decide (f.n = k))).map (·.v)
theorem valuesM_app (a b : List Fd) (k : List UInt8) : valuesM (a ++ b) k = valuesM a k ++ valuesM b k := by simp [valuesM]
theorem take_succ' {α : Type} {l : List α} {q : Nat} (h : q < l.length) : l.take (q + 1) = l.take q ++ [l[q]] := by rw [List.take_add_one, List.getElem?_eq_getElem h]; rfl
theorem valuesM_one (f : Fd) (k : List UInt8) : valuesM [f] k = if f.n = k then [f.v] else [] := by
  unfold valuesM; by_cases h : f.n = k <;> simp [h]
/-- What texts say as lengths: the number, is there one, the error. -/
def lenGo : Int → Bool → List (List UInt8) → Int × Bool × Int
  | n, b, [] => (n, b, 0)
  | n, b, x :: r => if ¬ numE 10 x = 0 ∨ b = true ∧ ¬ numV 10 x = n then (0, false, 102) else lenGo (numV 10 x) true r
def lenM (l : List Fd) : Int × Bool × Int := lenGo 0 false (valuesM l [99, 111, 110, 116, 101, 110, 116, 45, 108, 101, 110, 103, 116, 104])
/-- A request. -/
structure Rq where
  m : List UInt8
  s : List UInt8
  a : List UInt8
  p : List UInt8
  f : List Fd
abbrev Rq.cs (r : Rq) : List D := [.v (.str r.m), .v (.str r.s), .v (.str r.a), .v (.str r.p), .v (.sl (fdV r.f))]
def Rq.nil : Rq := ⟨[], [], [], [], []⟩
theorem Rq.ext' {a b : Rq} (h1 : a.m = b.m) (h2 : a.s = b.s) (h3 : a.a = b.a) (h4 : a.p = b.p) (h5 : a.f = b.f) : a = b := by cases a; cases b; simp_all
end Go.Proofs.YthflfnehdlpmdaaDoor
