/- Abstract states, part 1 of three (several texts in one). No program, no condition. -/
import Derived.Test.YthflfnehdlpmdaaDoorMemToGl
import Derived.Below
import Derived.Laws.OwnMore
import Derived.Maps.AppendAt
import Derived.Laws.Rows
import Derived.Tactics
import Derived.Orders
import Derived.IntWalk
import Derived.Laws.Tables
import Derived.RangeFuncLeaves
import Derived.RangeFuncRecord
/- Abstract states: pure values, what a frame's slots and the memory of one's own hold, and what keeps that. No program, no condition. -/
namespace Go.Proofs.YthflfnehdlpmdaaDoor
set_option linter.all false
open Go Go.RowKit

/-- A value that will never change: it holds no place of a memory that may still be written. -/
inductive V where
  | bool (b : Bool)
  | int (k : IntKind) (n : Int)
  | str (l : List UInt8)
  | sl (c : List (List V))
  | lit (v : Value)
/-- What a slot, or a cell, is known to hold. -/
inductive D where
  | v (x : V)
  | agg (cs : List D)
  | tup (ds : List D)
  | ptr (id off : Nat)
  | view (id ver off len : Nat)
  | ref (cs : List V)
  | vptr (id ver i j : Nat)
  | fn (f : Fn) (first caps : List D)
  | mref (id : Nat)
  | cond (b : Bool) (d : D)
  | any
/-- A memory of one's own: a variable's cells, or a slice's row. -/
inductive Ob where
  | box (cs : List D)
  | row (ver n : Nat) (e : TypeId) (c : List (List V))
  | mp (agg : Bool) (l : List (List UInt8 × List V))
/-- Where the own memories lie, what room the rows have, and which blocks are never written again. -/
structure Gh where
  μ : Nat → Option Nat
  cap : Nat → Nat
  S : Nat → Prop
abbrev Mem := Nat → Option Ob
def elem? (c : List (List V)) (i j : Nat) : Option V := (c[i]?).bind (·[j]?)
inductive RepV (Z : Nat → Prop) (w : World) : V → Value → Prop
  | bool (b : Bool) : RepV Z w (.bool b) (.bool b)
  | int (k : IntKind) (n : Int) : RepV Z w (.int k n) (.int k n)
  | str (l : List UInt8) : RepV Z w (.str l) (.string (S l))
  | lit (v : Value) (h : v.oneCell' = true) : RepV Z w (.lit v) v
  | nil (A : Option Addr) (cap : Nat) (hm : cap ≤ maxLen) : RepV Z w (.sl []) (.slice A 0 cap)
  | sl (c : List (List V)) (g o n cap : Nat) (us : Nat → Nat → Value) (hne : 0 < c.length) (hz : Z g) (hn : 0 < n) (hs : ∀ e ∈ c, e.length = n) (hcap : c.length ≤ cap) (hm : cap ≤ maxLen)
      (hc : ∀ i j x, elem? c i j = some x → w.cell? ⟨g, o + (i * n + j), none⟩ = some (us i j)) (hr : ∀ i j x, elem? c i j = some x → RepV Z w x (us i j)) :
      RepV Z w (.sl c) (.slice (some ⟨g, o, none⟩) c.length cap)
theorem RepV.one {Z : Nat → Prop} {w : World} {x : V} {u : Value} (h : RepV Z w x u) : u.oneCell' = true := by
  cases h <;> first | rfl | assumption
theorem RepV.mono {Z Z' : Nat → Prop} {w w' : World} {x : V} {u : Value} (h : RepV Z w x u) (hz : ∀ g, Z g → Z' g ∧ w'.heap[g]? = w.heap[g]?) : RepV Z' w' x u := by
  induction h with
  | bool b => exact .bool b
  | int k n => exact .int k n
  | str l => exact .str l
  | lit v h => exact .lit v h
  | nil A cap hm => exact .nil A cap hm
  | sl c g o n cap us hne hzg hn hs hcap hm hc hr ih =>
    exact .sl c g o n cap us hne (hz g hzg).1 hn hs hcap hm (fun i j x hx => by
      have := hc i j x hx
      rwa [World.cell?_of_block (w := w) (w' := w') (by exact (hz g hzg).2)]) (fun i j x hx => ih i j x hx)
/-- Where a view on a row of one's own lies. -/
def ViewAt (G : Gh) (id n off len : Nat) (u : Value) : Prop :=
  ∃ A cap, u = .slice A len cap ∧ off + cap = G.cap id ∧ len ≤ cap ∧ (A = (G.μ id).map (fun g => ⟨g, off * n, none⟩) ∨ (len = 0 ∧ off ≠ 0))
inductive RepD (G : Gh) (w : World) (ah : Mem) : D → Value → Prop
  | v (x : V) (u : Value) (h : RepV G.S w x u) : RepD G w ah (.v x) u
  | agg (cs : List D) (us : List Value) (hl : us.length = cs.length) (h1 : ∀ u ∈ us, u.oneCell' = true) (h : ∀ (i : Nat) (d : D) (u : Value), cs[i]? = some d → us[i]? = some u → RepD G w ah d u) : RepD G w ah (.agg cs) (.agg us.toArray)
  | tup (ds : List D) (us : List Value) (hl : us.length = ds.length) (h : ∀ (i : Nat) (d : D) (u : Value), ds[i]? = some d → us[i]? = some u → RepD G w ah d u) : RepD G w ah (.tup ds) (.tuple us.toArray)
  | ptr (id off g : Nat) (cs : List D) (h : ah id = some (.box cs)) (hg : G.μ id = some g) : RepD G w ah (.ptr id off) (.pointer (some ⟨g, off, none⟩))
  | view (id ver off len : Nat) (u : Value) (ver' n : Nat) (e : TypeId) (c : List (List V)) (h : ah id = some (.row ver' n e c)) (hv : ver ≤ ver') (h1 : u.oneCell' = true)
      (h2 : ver = ver' → off + len ≤ c.length ∧ ViewAt G id n off len u) : RepD G w ah (.view id ver off len) u
  | ref (cs : List V) (g o : Nat) (us : Nat → Value) (hz : G.S g) (hc : ∀ (j : Nat) (x : V), cs[j]? = some x → w.cell? ⟨g, o + j, none⟩ = some (us j)) (hr : ∀ (j : Nat) (x : V), cs[j]? = some x → RepV G.S w x (us j)) :
      RepD G w ah (.ref cs) (.pointer (some ⟨g, o, none⟩))
  | vptr (id ver i j : Nat) (u : Value) (ver' n : Nat) (e : TypeId) (c : List (List V)) (h : ah id = some (.row ver' n e c)) (hv : ver ≤ ver') (h1 : u.oneCell' = true)
      (h2 : ver = ver' → i < c.length ∧ ∃ g, G.μ id = some g ∧ u = .pointer (some ⟨g, i * n + j, none⟩)) : RepD G w ah (.vptr id ver i j) u
  | fn (f : Fn) (first caps : List D) (us vs : List Value) (hl : us.length = first.length) (hl' : vs.length = caps.length) (h : ∀ (i : Nat) (d : D) (u : Value), first[i]? = some d → us[i]? = some u → RepD G w ah d u)
      (h' : ∀ (i : Nat) (d : D) (u : Value), caps[i]? = some d → vs[i]? = some u → RepD G w ah d u) : RepD G w ah (.fn f first caps) (.func f us.toArray vs.toArray)
  | mref (id g : Nat) (agg : Bool) (l : List (List UInt8 × List V)) (h : ah id = some (.mp agg l)) (hg : G.μ id = some g) : RepD G w ah (.mref id) (.map (some g))
  | cond (b : Bool) (d : D) (u : Value) (h : b = true → RepD G w ah d u) (h0 : b = false → u = undef) : RepD G w ah (.cond b d) u
  | any (u : Value) : RepD G w ah .any u
/-- A value of one cell, whatever it is. -/
def D.one : D → Bool
  | .v _ | .ptr _ _ | .view _ _ _ _ | .ref _ | .vptr _ _ _ _ | .fn _ _ _ | .mref _ => true
  | _ => false
section
variable {G G' : Gh} {w w' : World} {ah ah' : Mem}
theorem RepD.one {d : D} {u : Value} (h : RepD G w ah d u) (hd : d.one = true) : u.oneCell' = true := by
  cases h <;> first | rfl | assumption | (simp [D.one] at hd; done) | (rename_i h; exact h.one)
/-- What is known stays known. -/
structure Ext (G : Gh) (w : World) (ah : Mem) (G' : Gh) (w' : World) (ah' : Mem) : Prop where
  s : ∀ g, G.S g → G'.S g ∧ w'.heap[g]? = w.heap[g]?
  box : ∀ id cs, ah id = some (.box cs) → ∃ cs', ah' id = some (.box cs') ∧ G'.μ id = G.μ id
  row : ∀ id ver n e c, ah id = some (.row ver n e c) → ∃ ver' c', ah' id = some (.row ver' n e c') ∧ ver ≤ ver' ∧ (ver = ver' → c.length ≤ c'.length ∧ G'.μ id = G.μ id ∧ G'.cap id = G.cap id)
  mp : ∀ id a l, ah id = some (.mp a l) → ∃ a' l', ah' id = some (.mp a' l') ∧ G'.μ id = G.μ id
theorem Ext.refl : Ext G w ah G w ah := ⟨fun _ h => ⟨h, rfl⟩, fun _ cs h => ⟨cs, h, rfl⟩, fun _ ver _ _ c h => ⟨ver, c, h, Nat.le_refl _, fun _ => ⟨Nat.le_refl _, rfl, rfl⟩⟩, fun _ a l h => ⟨a, l, h, rfl⟩⟩
theorem Ext.trans {G1 G2 G3 : Gh} {w1 w2 w3 : World} {a1 a2 a3 : Mem} (h : Ext G1 w1 a1 G2 w2 a2) (k : Ext G2 w2 a2 G3 w3 a3) : Ext G1 w1 a1 G3 w3 a3 := by
  refine ⟨fun g hg => ?_, fun id cs hi => ?_, fun id ver n e c hi => ?_, fun id a l hi => ?_⟩
  · obtain ⟨h1, h2⟩ := h.s g hg
    obtain ⟨h3, h4⟩ := k.s g h1
    exact ⟨h3, h4.trans h2⟩
  · obtain ⟨cs1, h1, h2⟩ := h.box id cs hi
    obtain ⟨cs2, h3, h4⟩ := k.box id cs1 h1
    exact ⟨cs2, h3, h4.trans h2⟩
  · obtain ⟨v1, c1, h1, h2, h3⟩ := h.row id ver n e c hi
    obtain ⟨v2, c2, h4, h5, h6⟩ := k.row id v1 n e c1 h1
    refine ⟨v2, c2, h4, Nat.le_trans h2 h5, fun he => ?_⟩
    obtain rfl : ver = v1 := by omega
    obtain ⟨a1, a2, a3⟩ := h3 rfl
    obtain ⟨b1, b2, b3⟩ := h6 he
    exact ⟨Nat.le_trans a1 b1, b2.trans a2, b3.trans a3⟩
  · obtain ⟨a1, l1, h1, h2⟩ := h.mp id a l hi
    obtain ⟨a2, l2, h3, h4⟩ := k.mp id a1 l1 h1
    exact ⟨a2, l2, h3, h4.trans h2⟩
theorem RepV.ext {x : V} {u : Value} (h : RepV G.S w x u) (k : Ext G w ah G' w' ah') : RepV G'.S w' x u := h.mono k.s
theorem RepD.ext {d : D} {u : Value} (h : RepD G w ah d u) (k : Ext G w ah G' w' ah') : RepD G' w' ah' d u := by
  induction h with
  | v x u h => exact .v x u (h.ext k)
  | agg cs us hl h1 h ih => exact .agg cs us hl h1 ih
  | tup ds us hl h ih => exact .tup ds us hl ih
  | ptr id off g cs h hg =>
    obtain ⟨cs', h1, h2⟩ := k.box id cs h
    exact .ptr id off g cs' h1 (h2.trans hg)
  | view id ver off len u ver' n e c h hv h1 h2 =>
    obtain ⟨v1, c1, a1, a2, a3⟩ := k.row id ver' n e c h
    refine .view id ver off len u v1 n e c1 a1 (Nat.le_trans hv a2) h1 fun he => ?_
    obtain rfl : ver = ver' := by omega
    obtain ⟨b1, A, cap, b2, b3, b4, b5⟩ := h2 rfl
    obtain ⟨c1, c2, c3⟩ := a3 he
    exact ⟨by omega, A, cap, b2, by rw [c3]; exact b3, b4, by rw [c2]; exact b5⟩
  | vptr id ver i j u ver' n e c h hv h1 h2 =>
    obtain ⟨v1, c1, a1, a2, a3⟩ := k.row id ver' n e c h
    refine .vptr id ver i j u v1 n e c1 a1 (Nat.le_trans hv a2) h1 fun he => ?_
    obtain rfl : ver = ver' := by omega
    obtain ⟨b1, g, b2, b3⟩ := h2 rfl
    obtain ⟨c1, c2, c3⟩ := a3 he
    exact ⟨by omega, g, c2.trans b2, b3⟩
  | ref cs g o us hz hc hr =>
    refine .ref cs g o us (k.s g hz).1 (fun j x hx => ?_) (fun j x hx => (hr j x hx).ext k)
    rw [World.cell?_of_block (w := w) (w' := w') (by exact (k.s g hz).2)]
    exact hc j x hx
  | fn f first caps us vs hl hl' h h' ih ih' => exact .fn f first caps us vs hl hl' ih ih'
  | mref id g agg l h hg =>
    obtain ⟨a1, l1, h1, h2⟩ := k.mp id agg l h
    exact .mref id g a1 l1 h1 (h2.trans hg)
  | cond b d u h h0 ih => exact .cond b d u ih h0
  | any u => exact .any u
/-- A list of values, each as it is known. -/
def RepDs (G : Gh) (w : World) (ah : Mem) (ds : List D) (us : List Value) : Prop := us.length = ds.length ∧ ∀ (i : Nat) (d : D) (u : Value), ds[i]? = some d → us[i]? = some u → RepD G w ah d u
theorem RepDs.nil : RepDs G w ah [] [] := ⟨rfl, fun _ _ _ h => by simp at h⟩
theorem RepDs.cons {d : D} {u : Value} {ds : List D} {us : List Value} (h : RepD G w ah d u) (k : RepDs G w ah ds us) : RepDs G w ah (d :: ds) (u :: us) :=
  ⟨by simp [k.1], fun i x y hx hy => by
    cases i with
    | zero => simp at hx hy; subst hx hy; exact h
    | succ i => simp at hx hy; exact k.2 i x y hx hy⟩
theorem RepDs.ext {ds : List D} {us : List Value} (h : RepDs G w ah ds us) (k : Ext G w ah G' w' ah') : RepDs G' w' ah' ds us := ⟨h.1, fun i d u a b => (h.2 i d u a b).ext k⟩
/-- A row's type, and its mark: a row that may be marked (behind its last place) has its type told as one above MK. -/
def MK : Nat := 1152921504606846976
def FzOk (e e0 : Nat) (fz : Nat × Nat) (n : Nat) : Prop := (e0 = e ∧ (fz = (0, 0) ∨ (MK ≤ e ∧ n ≤ fz.1))) ∨ (e = e0 + MK ∧ e0 < MK ∧ (fz = (0, 0) ∨ n ≤ fz.1))
theorem FzOk.rfl {e n : Nat} : FzOk e e (0, 0) n := .inl ⟨_root_.rfl, .inl _root_.rfl⟩
/-- The type that a row of elements of a type may be told to have. -/
def EMk (e' e : Nat) : Prop := e' = e ∨ (e' = e + MK ∧ e < MK)
theorem FzOk.of {e' e n : Nat} (h : EMk e' e) : FzOk e' e (0, 0) n := by
  rcases h with h | ⟨h, k⟩
  · exact .inl ⟨h.symm, .inl _root_.rfl⟩
  · exact .inr ⟨h, k, .inl _root_.rfl⟩
theorem FzOk.free {e e0 n : Nat} {fz : Nat × Nat} (h : FzOk e e0 fz n) {w : World} {g i : Nat} {cur : Array Value} {t : TypeId} (hg : w.heap[g]? = some (.cells cur t fz)) (hi : i < n) : w.frozen? ⟨g, i, none⟩ = false := by
  obtain ⟨lo, hi'⟩ := fz
  simp only [World.frozen?, hg, Bool.and_eq_false_iff, decide_eq_false_iff_not]
  have h1 : (lo, hi') = (0, 0) ∨ n ≤ lo := by
    rcases h with ⟨_, h | h⟩ | ⟨_, _, h⟩
    · exact .inl h
    · exact .inr h.2
    · exact h
  rcases h1 with h2 | h2
  · injection h2 with h3 h4; subst h3 h4; right; omega
  · left; omega
/-- What is known of a memory of one's own. -/
def RowAt (G : Gh) (w : World) (id n : Nat) (e : TypeId) (c : List (List V)) : Prop :=
  (∀ x ∈ c, x.length = n) ∧ 0 < n ∧ c.length ≤ G.cap id ∧ G.cap id ≤ maxLen ∧
  ((G.μ id = none ∧ G.cap id = 0) ∨
   ∃ (g : Nat) (cur : Array Value) (us : Nat → Nat → Value) (fz : Nat × Nat) (e0 : TypeId), FzOk e e0 fz cur.size ∧ G.μ id = some g ∧ w.heap[g]? = some (.cells cur e0 fz) ∧ cur.size = G.cap id * n ∧ (∀ i j x, elem? c i j = some x → cur[i * n + j]? = some (us i j)) ∧ ∀ i j x, elem? c i j = some x → RepV G.S w x (us i j))
def BoxAt (G : Gh) (w : World) (ah : Mem) (id : Nat) (cs : List D) : Prop :=
  ∃ g us t, G.μ id = some g ∧ w.heap[g]? = some (.cells us.toArray t (0, 0)) ∧ (∀ u ∈ us, u.oneCell' = true) ∧ RepDs G w ah cs us
/-- What is known of a map of one's own, its keys texts: the entries in their order. -/
def EnAt (Z : Nat → Prop) (w : World) (agg : Bool) (x : List UInt8 × List V) (e : MapEntry) : Prop :=
  e.key = .string (S x.1) ∧ ∃ us : List Value, us.length = x.2.length ∧ e.val = (if agg then .agg us.toArray else us.headD undef) ∧ (∀ u ∈ us, u.oneCell' = true) ∧ ∀ (j : Nat) (y : V) (u : Value), x.2[j]? = some y → us[j]? = some u → RepV Z w y u
def MpAt (G : Gh) (w : World) (id : Nat) (agg : Bool) (l : List (List UInt8 × List V)) : Prop :=
  ∃ g es clk, G.μ id = some g ∧ w.heap[g]? = some (.map es clk) ∧ es.size = l.length ∧ ∀ (i : Nat) x e, l[i]? = some x → es[i]? = some e → EnAt G.S w agg x e
def ObAt (G : Gh) (w : World) (ah : Mem) (id : Nat) : Ob → Prop
  | .box cs => BoxAt G w ah id cs
  | .row _ n e c => RowAt G w id n e c
  | .mp agg l => MpAt G w id agg l
/-- Memories that stay where they are. -/
def Ob.fixed : Ob → Bool
  | .row _ _ _ _ => false
  | _ => true
/-- What a function's body may not touch, and how it found the world. -/
structure Cx where
  P : Program
  nt : Nat
  w0 : World
  K : Nat → Prop
  S0 : Nat → Prop
  np : Nat
  pin : Nat → Option Nat
  df : List Deferred
structure Ok (X : Cx) (G : Gh) (w : World) (ah : Mem) : Prop where
  ob : ∀ id o, ah id = some o → ObAt G w ah id o
  inj : ∀ i j g, ah i ≠ none → ah j ≠ none → G.μ i = some g → G.μ j = some g → i = j
  apart : ∀ i g, ah i ≠ none → G.μ i = some g → ¬ G.S g ∧ ¬ X.K g
  low : ∀ g, G.S g → g < w.heap.size
  keep : ∀ g, X.K g → g < X.w0.heap.size ∧ w.heap[g]? = X.w0.heap[g]?
  os : w.os = X.w0.os
  tape : w.tape = X.w0.tape
  output : w.output = X.w0.output
  size : X.w0.heap.size ≤ w.heap.size
  s0 : ∀ g, X.S0 g → G.S g
  sk : ∀ g, G.S g → X.K g → X.S0 g
  pin : ∀ id o, id < X.np → ah id = some o → o.fixed = true → G.μ id = X.pin id
  shp : Shp X.P X.K X.w0
theorem Ok.shpw {X : Cx} {G : Gh} {w : World} {ah : Mem} (h : Ok X G w ah) : Shp X.P X.K w := h.shp.keep fun g hg => (h.keep g hg).2
end
end Go.Proofs.YthflfnehdlpmdaaDoor
/- Abstract states: what an operation does to one, and how memory is made and written. No program, no condition. -/
namespace Go.Proofs.YthflfnehdlpmdaaDoor
set_option linter.all false
open Go Go.RowKit

abbrev Fm := List (Nat × D)
abbrev AH := List (Nat × Ob)
def look {α : Type} : List (Nat × α) → Nat → Option α
  | [], _ => none
  | (k, x) :: r, t => bif Nat.beq k t then some x else look r t
def Fm.at (fr : Fm) (t : Nat) : D := (look fr t).getD .any
def over (upd : AH) (m : Mem) : Mem := fun id => match look upd id with | some o => some o | none => m id
theorem look_cons_self {α : Type} (k : Nat) (x : α) (r : List (Nat × α)) : look ((k, x) :: r) k = some x := by simp [look]
theorem look_cons_ne {α : Type} {k t : Nat} (x : α) (r : List (Nat × α)) (h : k ≠ t) : look ((k, x) :: r) t = look r t := by
  have : Nat.beq k t = false := by
    cases h' : Nat.beq k t with
    | false => rfl
    | true => exact absurd (Nat.eq_of_beq_eq_true h') h
  simp [look, this]
theorem over_nil (m : Mem) : over [] m = m := rfl
theorem over_cons (id : Nat) (o : Ob) (r : AH) : over [(id, o)] (look r) = look ((id, o) :: r) := by
  funext i
  unfold over
  by_cases h : id = i
  · subst h; simp [look]
  · rw [look_cons_ne _ _ h, look_cons_ne _ _ h]; rfl
theorem over_look (a b : AH) : over a (look b) = look (a ++ b) := by
  funext i
  induction a with
  | nil => rfl
  | cons x a ih =>
    obtain ⟨k, o⟩ := x
    unfold over at ih ⊢
    by_cases h : k = i
    · subst h; simp [look]
    · simp [look_cons_ne _ _ h, ih]
def FrOk (G : Gh) (w : World) (m : Mem) (f : Nat → D) (a : Act) : Prop := ∀ t, RepD G w m (f t) (a.tmps.getD t undef)
theorem FrOk.ext {G G' : Gh} {w w' : World} {m m' : Mem} {f : Nat → D} {a : Act} (h : FrOk G w m f a) (k : Ext G w m G' w' m') : FrOk G' w' m' f a := fun t => (h t).ext k
def fput (f : Nat → D) (dst : Option Tmp) (d : D) : Nat → D := match dst with | some t => fun i => if i = t then d else f i | none => f
theorem FrOk.put {G : Gh} {w : World} {m : Mem} {f : Nat → D} {a : Act} {dst : Option Tmp} {d : D} {u : Value} (h : FrOk G w m f a) (hd : RepD G w m d u) (ht : ∀ t, dst = some t → t < a.tmps.size) : FrOk G w m (fput f dst d) (a.put dst u) := by
  cases dst with
  | none => exact h
  | some t =>
    have hlt := ht t rfl
    intro i
    by_cases hi : i = t
    · subst hi; simpa [fput, Act.put, hlt] using hd
    · have := h i
      simpa [fput, Act.put, hi, Array.getElem?_setIfInBounds_ne (Ne.symm hi)] using this
/-- What an operand is known to be. -/
def Ev (f : Nat → D) (x : Operand) (d : D) : Prop := ∀ f' : Nat → D, (∀ t, x = .tmp t → f' t = f t) → ∀ G w m a, FrOk G w m f' a → RepD G w m d (a.eval x)
theorem Fm.at_eq {fr : Fm} {t : Nat} {d : D} (h : look fr t = some d) : fr.at t = d := by unfold Fm.at; rw [h]; rfl
theorem ev_tmp {fr : Fm} {t : Nat} {d : D} (h : look fr t = some d) : Ev fr.at (.tmp t) d := fun f' hf G w m a hF => by
  have := hF t
  rwa [hf t rfl, Fm.at_eq h] at this
section
variable {f : Nat → D} {x : Operand}
theorem ev_int (k : IntKind) (n : Int) : Ev f (.const (.int k n)) (.v (.int k n)) := fun _ _ _ _ _ _ _ => .v _ _ (.int k n)
theorem ev_bool (b : Bool) : Ev f (.const (.bool b)) (.v (.bool b)) := fun _ _ _ _ _ _ _ => .v _ _ (.bool b)
theorem ev_str {s : ByteArray} {l : List UInt8} (h : s = S l) : Ev f (.const (.string s)) (.v (.str l)) := fun _ _ _ _ _ _ _ => by subst h; exact .v _ _ (.str l)
theorem ev_lit {v : Value} (h : v.oneCell' = true) : Ev f (.const v) (.v (.lit v)) := fun _ _ _ _ _ _ _ => .v _ _ (.lit v h)
theorem ev_func (g : FuncId) : Ev f (.func g) (.fn (.func g) [] []) := fun _ _ _ _ _ _ _ => .fn _ [] [] [] [] rfl rfl (fun _ _ _ h => by simp at h) (fun _ _ _ h => by simp at h)
theorem ev_cond {b : Bool} {d : D} (h : Ev f x (.cond b d)) (hb : b = true) : Ev f x d := fun f' hf G w m a hF => by
  have := h f' hf G w m a hF
  cases this with | cond _ _ _ h _ => exact h hb
theorem ev_nil (h : Ev f x (.v (.lit (.slice none 0 0)))) : Ev f x (.v (.sl [])) := fun f' hf G w m a hF => by
  have := h f' hf G w m a hF
  generalize a.eval x = u at this
  cases this with | v _ _ h => cases h with | lit _ _ => exact .v _ _ (.nil none 0 (by simp [maxLen]))
end
/-- What an operation does, of a state of which it sees its operands and the memories T. -/
def StepU (X : Cx) (o : Oper) (f : Nat → D) (m : Mem) (d : D) (upd : AH) (T : List Nat) : Prop :=
  ∀ (f' : Nat → D) (m' : Mem), (∀ t, .tmp t ∈ o.op.operands → f' t = f t) → (∀ id ∈ T, m' id = m id) → (∀ p ∈ upd, p.1 ∉ T → m' p.1 = none) →
    ∀ G w a, Ok X G w m' → FrOk G w m' f' a → ∀ (K : Act → World → Prop) (Q : Exit → Act → World → Prop),
      (∀ G' w' u, Ok X G' w' (over upd m') → Ext G w m' G' w' (over upd m') → RepD G' w' (over upd m') d u → K (a.put o.dst u) w') → Oper.wp X.P o a w K Q
section
variable {X : Cx} {o : Oper} {f : Nat → D} {m : Mem} {d : D} {T : List Nat}
theorem stepU_pure (h : ∀ (f' : Nat → D) (m' : Mem), (∀ t, .tmp t ∈ o.op.operands → f' t = f t) → (∀ id ∈ T, m' id = m id) → ∀ G w a, Ok X G w m' → FrOk G w m' f' a → ∃ u, (execOp a.eval o).run X.P w = .ok (.value u) w ∧ RepD G w m' d u) : StepU X o f m d [] T :=
  fun f' m' hf hm _ G w a hO hF K Q hK => by
    obtain ⟨u, h1, h2⟩ := h f' m' hf hm G w a hO hF
    unfold Oper.wp
    rw [h1]
    exact hK G w u hO Ext.refl h2
theorem ev_at {f' : Nat → D} {x : Operand} {G : Gh} {w : World} {m' : Mem} {a : Act} {d : D} (hx : Ev f x d) (hin : x ∈ o.op.operands) (hf : ∀ t, .tmp t ∈ o.op.operands → f' t = f t) (hF : FrOk G w m' f' a) : RepD G w m' d (a.eval x) :=
  hx f' (fun t ht => hf t (by subst ht; exact hin)) G w m' a hF
theorem stepU_move {x : Operand} (ho : o.op = .move x) (hx : Ev f x d) : StepU X o f m d [] [] :=
  stepU_pure fun f' m' hf _ G w a _ hF => ⟨a.eval x, by simp [execOp, ho], ev_at hx (by simp [ho, Op.operands]) hf hF⟩
theorem stepU_assign {x : Operand} (ho : o.op = .assign x) (hx : Ev f x d) : StepU X o f m d [] [] :=
  stepU_pure fun f' m' hf _ G w a _ hF => ⟨a.eval x, by simp [execOp, ho], ev_at hx (by simp [ho, Op.operands]) hf hF⟩
theorem rep_int {G : Gh} {w : World} {m : Mem} {k : IntKind} {n : Int} {u : Value} (h : RepD G w m (.v (.int k n)) u) : u = .int k n := by cases h with | v _ _ h => cases h; rfl
theorem rep_bool {G : Gh} {w : World} {m : Mem} {b : Bool} {u : Value} (h : RepD G w m (.v (.bool b)) u) : u = .bool b := by cases h with | v _ _ h => cases h; rfl
theorem rep_str {G : Gh} {w : World} {m : Mem} {l : List UInt8} {u : Value} (h : RepD G w m (.v (.str l)) u) : u = .string (S l) := by cases h with | v _ _ h => cases h; rfl
theorem rep_lit {G : Gh} {w : World} {m : Mem} {v u : Value} (h : RepD G w m (.v (.lit v)) u) : u = v := by cases h with | v _ _ h => cases h; rfl
theorem mk_int {G : Gh} {w : World} {m : Mem} (k : IntKind) (n : Int) : RepD G w m (.v (.int k n)) (.int k n) := .v _ _ (.int k n)
theorem mk_bool {G : Gh} {w : World} {m : Mem} (b : Bool) : RepD G w m (.v (.bool b)) (.bool b) := .v _ _ (.bool b)
theorem mk_str {G : Gh} {w : World} {m : Mem} (l : List UInt8) : RepD G w m (.v (.str l)) (.string (S l)) := .v _ _ (.str l)
/-- a && b -/
theorem stepU_and {c x y : Operand} {B C : Bool} (ho : o.op = .pick c x y) (hc : Ev f c (.v (.bool B))) (hx : B = true → Ev f x (.v (.bool C))) (hy : Ev f y (.v (.bool false))) : StepU X o f m (.v (.bool (B && C))) [] [] :=
  stepU_pure fun f' m' hf _ G w a _ hF => by
    have h1 := rep_bool (ev_at hc (by simp [ho, Op.operands]) hf hF)
    have h3 := rep_bool (ev_at hy (by simp [ho, Op.operands]) hf hF)
    refine ⟨.bool (B && C), ?_, mk_bool _⟩
    cases B with
    | false => simp [execOp, ho, h1, h3, asBool]
    | true =>
      have h2 := rep_bool (ev_at (hx rfl) (by simp [ho, Op.operands]) hf hF)
      simp [execOp, ho, h1, h2, asBool]
/-- a || b -/
theorem stepU_or {c x y : Operand} {B C : Bool} (ho : o.op = .pick c x y) (hc : Ev f c (.v (.bool B))) (hx : Ev f x (.v (.bool true))) (hy : B = false → Ev f y (.v (.bool C))) : StepU X o f m (.v (.bool (B || C))) [] [] :=
  stepU_pure fun f' m' hf _ G w a _ hF => by
    have h1 := rep_bool (ev_at hc (by simp [ho, Op.operands]) hf hF)
    have h3 := rep_bool (ev_at hx (by simp [ho, Op.operands]) hf hF)
    refine ⟨.bool (B || C), ?_, mk_bool _⟩
    cases B with
    | true => simp [execOp, ho, h1, h3, asBool]
    | false =>
      have h2 := rep_bool (ev_at (hy rfl) (by simp [ho, Op.operands]) hf hF)
      simp [execOp, ho, h1, h2, asBool]
theorem eqGuard_int {P : Program} {w : World} (op : BinOp) (t : TypeId) (x y : Operand) (k k' : IntKind) (a b : Int) : (eqGuard op t x y (.int k a) (.int k' b)).run P w = .ok () w := by
  unfold eqGuard; cases op <;> simp
theorem eqGuard_str {P : Program} {w : World} (op : BinOp) (t : TypeId) (x y : Operand) (a b : ByteArray) : (eqGuard op t x y (.string a) (.string b)).run P w = .ok () w := by
  unfold eqGuard; cases op <;> simp
/-- Of two whole numbers. -/
theorem stepU_bin {op : BinOp} {t t' : TypeId} {x y : Operand} {k : IntKind} {p q : Int} {u : V} (ho : o.op = .binOp op t x y t') (hx : Ev f x (.v (.int k p))) (hy : Ev f y (.v (.int k q)))
    (h : ∀ P w, ∃ v, (binOp op t (.int k p) (.int k q)).run P w = .ok v w ∧ ∀ Z, RepV Z w u v) : StepU X o f m (.v u) [] [] :=
  stepU_pure fun f' m' hf _ G w a _ hF => by
    have h1 := rep_int (ev_at hx (by simp [ho, Op.operands]) hf hF)
    have h2 := rep_int (ev_at hy (by simp [ho, Op.operands]) hf hF)
    obtain ⟨v, h3, h4⟩ := h X.P w
    exact ⟨v, by simp [execOp, ho, h1, h2, eqGuard_int, h3], .v _ _ (h4 _)⟩
section
variable {t t' : TypeId} {x y : Operand} {k : IntKind} {p q r : Int}
theorem stepU_add (ho : o.op = .binOp .add t x y t') (hx : Ev f x (.v (.int k p))) (hy : Ev f y (.v (.int k q))) (hr : k.wrap (p + q) = r) : StepU X o f m (.v (.int k r)) [] [] :=
  stepU_bin ho hx hy fun P w => ⟨_, by simp [binOp, Op.intArith, hr], fun _ => .int _ _⟩
theorem stepU_sub (ho : o.op = .binOp .sub t x y t') (hx : Ev f x (.v (.int k p))) (hy : Ev f y (.v (.int k q))) (hr : k.wrap (p - q) = r) : StepU X o f m (.v (.int k r)) [] [] :=
  stepU_bin ho hx hy fun P w => ⟨_, by simp [binOp, Op.intArith, hr], fun _ => .int _ _⟩
theorem stepU_rem (ho : o.op = .binOp .rem t x y t') (hx : Ev f x (.v (.int k p))) (hy : Ev f y (.v (.int k q))) (h0 : q ≠ 0) (hr : p.tmod q = r) : StepU X o f m (.v (.int k r)) [] [] :=
  stepU_bin ho hx hy fun P w => ⟨_, by simp [binOp, Op.intDiv, hr, h0], fun _ => .int _ _⟩
theorem stepU_eql (ho : o.op = .binOp .eql t x y t') (hx : Ev f x (.v (.int k p))) (hy : Ev f y (.v (.int k q))) : StepU X o f m (.v (.bool (p == q))) [] [] :=
  stepU_bin ho hx hy fun P w => ⟨_, by simp [binOp, Op.intCmp], fun _ => .bool _⟩
theorem stepU_neq (ho : o.op = .binOp .neq t x y t') (hx : Ev f x (.v (.int k p))) (hy : Ev f y (.v (.int k q))) : StepU X o f m (.v (.bool (p != q))) [] [] :=
  stepU_bin ho hx hy fun P w => ⟨_, by simp [binOp, Op.intCmp], fun _ => .bool _⟩
theorem stepU_lss (ho : o.op = .binOp .lss t x y t') (hx : Ev f x (.v (.int k p))) (hy : Ev f y (.v (.int k q))) : StepU X o f m (.v (.bool (decide (p < q)))) [] [] :=
  stepU_bin ho hx hy fun P w => ⟨_, by simp [binOp, Op.intCmp], fun _ => .bool _⟩
theorem stepU_leq (ho : o.op = .binOp .leq t x y t') (hx : Ev f x (.v (.int k p))) (hy : Ev f y (.v (.int k q))) : StepU X o f m (.v (.bool (decide (p ≤ q)))) [] [] :=
  stepU_bin ho hx hy fun P w => ⟨_, by simp [binOp, Op.intCmp], fun _ => .bool _⟩
theorem stepU_gtr (ho : o.op = .binOp .gtr t x y t') (hx : Ev f x (.v (.int k p))) (hy : Ev f y (.v (.int k q))) : StepU X o f m (.v (.bool (decide (p > q)))) [] [] :=
  stepU_bin ho hx hy fun P w => ⟨_, by simp [binOp, Op.intCmp], fun _ => .bool _⟩
theorem stepU_geq (ho : o.op = .binOp .geq t x y t') (hx : Ev f x (.v (.int k p))) (hy : Ev f y (.v (.int k q))) : StepU X o f m (.v (.bool (decide (p ≥ q)))) [] [] :=
  stepU_bin ho hx hy fun P w => ⟨_, by simp [binOp, Op.intCmp], fun _ => .bool _⟩
end
end
end Go.Proofs.YthflfnehdlpmdaaDoor
/- Abstract states: memory is made, read, written. No program, no condition. -/
namespace Go.Proofs.YthflfnehdlpmdaaDoor
set_option linter.all false
open Go Go.RowKit

section
variable {X : Cx} {G G' : Gh} {w w' : World} {m : Mem}
theorem BoxAt.ext {m' : Mem} {id : Nat} {cs : List D} (h : BoxAt G w m id cs) (k : Ext G w m G' w' m') (hμ : G'.μ id = G.μ id) (hb : ∀ g, G.μ id = some g → w'.heap[g]? = w.heap[g]?) : BoxAt G' w' m' id cs := by
  obtain ⟨g, us, t, h1, h2, h3, h4⟩ := h
  exact ⟨g, us, t, hμ.trans h1, (hb g h1).trans h2, h3, h4.ext k⟩
theorem RowAt.ext {m' : Mem} {id n : Nat} {e : TypeId} {c : List (List V)} (h : RowAt G w id n e c) (k : Ext G w m G' w' m') (hμ : G'.μ id = G.μ id) (hc : G'.cap id = G.cap id) (hb : ∀ g, G.μ id = some g → w'.heap[g]? = w.heap[g]?) : RowAt G' w' id n e c := by
  obtain ⟨h1, h2, h3, h4, h5⟩ := h
  refine ⟨h1, h2, by rw [hc]; exact h3, by rw [hc]; exact h4, ?_⟩
  rcases h5 with ⟨h6, h7⟩ | ⟨g, cur, us, fz, e0', hz, h6, h7, h8, h10, h11⟩
  · exact .inl ⟨hμ.trans h6, hc.trans h7⟩
  · exact .inr ⟨g, cur, us, fz, e0', hz, hμ.trans h6, (hb g h6).trans h7, by rw [hc]; exact h8, h10, fun i j x hx => (h11 i j x hx).ext k⟩
theorem MpAt.ext {m' : Mem} {id : Nat} {agg : Bool} {l : List (List UInt8 × List V)} (h : MpAt G w id agg l) (k : Ext G w m G' w' m') (hμ : G'.μ id = G.μ id) (hb : ∀ g, G.μ id = some g → w'.heap[g]? = w.heap[g]?) : MpAt G' w' id agg l := by
  obtain ⟨g, es, clk, h1, h2, h3, h4⟩ := h
  refine ⟨g, es, clk, hμ.trans h1, (hb g h1).trans h2, h3, fun i x e hx he => ?_⟩
  obtain ⟨k1, us, k2, k3, k4, k5⟩ := h4 i x e hx he
  exact ⟨k1, us, k2, k3, k4, fun j y u hy hu => (k5 j y u hy hu).ext k⟩
theorem ObAt.ext {m' : Mem} {id : Nat} {o : Ob} (h : ObAt G w m id o) (k : Ext G w m G' w' m') (hμ : G'.μ id = G.μ id) (hc : G'.cap id = G.cap id) (hb : ∀ g, G.μ id = some g → w'.heap[g]? = w.heap[g]?) : ObAt G' w' m' id o := by
  cases o with
  | box cs => exact BoxAt.ext h k hμ hb
  | row ver n e c => exact RowAt.ext h k hμ hc hb
  | mp agg l => exact MpAt.ext h k hμ hb
theorem ObAt.lt {id : Nat} {o : Ob} (h : ObAt G w m id o) {g : Nat} (hg : G.μ id = some g) : g < w.heap.size := by
  cases o with
  | box cs =>
    obtain ⟨g', us, t, h1, h2, _⟩ := h
    obtain rfl : g' = g := by rw [h1] at hg; simpa using hg
    exact (Array.getElem?_eq_some_iff.1 h2).1
  | row ver n e c =>
    obtain ⟨_, _, _, _, h5⟩ := h
    rcases h5 with ⟨h6, _⟩ | ⟨g', cur, us, fz, e0', hz, h6, h7, _⟩
    · rw [h6] at hg; cases hg
    · obtain rfl : g' = g := by rw [h6] at hg; simpa using hg
      exact (Array.getElem?_eq_some_iff.1 h7).1
  | mp agg l =>
    obtain ⟨g', es, clk, h1, h2, _⟩ := h
    obtain rfl : g' = g := by rw [h1] at hg; simpa using hg
    exact (Array.getElem?_eq_some_iff.1 h2).1
/-- One memory is made, or changed. -/
theorem Ok.step (h : Ok X G w m) (id : Nat) (o : Ob) (hS : G'.S = G.S) (hμ : ∀ i, i ≠ id → G'.μ i = G.μ i ∧ G'.cap i = G.cap i)
    (hnew : ∀ g, G'.μ id = some g → w.heap.size ≤ g ∨ (m id ≠ none ∧ G.μ id = some g))
    (hw : ∀ g, g < w.heap.size → (m id ≠ none → G.μ id ≠ some g) → w'.heap[g]? = w.heap[g]?)
    (hsz : w.heap.size ≤ w'.heap.size) (hos : w'.os = w.os) (htp : w'.tape = w.tape) (hou : w'.output = w.output)
    (hrel : ∀ o', m id = some o' → (∀ cs, o' = .box cs → (∃ cs', o = .box cs') ∧ G'.μ id = G.μ id) ∧
      (∀ ver n e c, o' = .row ver n e c → ∃ ver' c', o = .row ver' n e c' ∧ ver ≤ ver' ∧ (ver = ver' → c.length ≤ c'.length ∧ G'.μ id = G.μ id ∧ G'.cap id = G.cap id)))
    (hob : Ext G w m G' w' (over [(id, o)] m) → ObAt G' w' (over [(id, o)] m) id o) (hpin : ∀ cs, id < X.np → o = .box cs → G'.μ id = X.pin id)
    (hmp : ∀ a l, m id = some (.mp a l) → (∃ a' l', o = .mp a' l') ∧ G'.μ id = G.μ id := by intro a l hh; simp [*] at hh) (hpm : ∀ a l, id < X.np → o = .mp a l → G'.μ id = X.pin id := by intro a l _ hh; cases hh) :
    Ok X G' w' (over [(id, o)] m) ∧ Ext G w m G' w' (over [(id, o)] m) := by
  have at_ne : ∀ i, i ≠ id → over [(id, o)] m i = m i := fun i hi => by unfold over; rw [look_cons_ne _ _ (Ne.symm hi)]; rfl
  have at_id : over [(id, o)] m id = some o := by unfold over; rw [look_cons_self]
  have hSw : ∀ g, G.S g → w'.heap[g]? = w.heap[g]? := fun g hg => hw g (h.low g hg) fun hm he => (h.apart id g hm he).1 hg
  have hext : Ext G w m G' w' (over [(id, o)] m) := by
    refine ⟨fun g hg => ⟨by rw [hS]; exact hg, hSw g hg⟩, fun i cs hi => ?_, fun i ver n e c hi => ?_, fun i a l hi => ?_⟩
    · by_cases hd : i = id
      · subst hd
        obtain ⟨⟨cs', rfl⟩, h2⟩ := (hrel _ hi).1 cs rfl
        exact ⟨cs', at_id, h2⟩
      · exact ⟨cs, by rw [at_ne i hd]; exact hi, (hμ i hd).1⟩
    · by_cases hd : i = id
      · subst hd
        obtain ⟨ver', c', rfl, h2, h3⟩ := (hrel _ hi).2 ver n e c rfl
        exact ⟨ver', c', at_id, h2, h3⟩
      · exact ⟨ver, c, by rw [at_ne i hd]; exact hi, Nat.le_refl _, fun _ => ⟨Nat.le_refl _, (hμ i hd).1, (hμ i hd).2⟩⟩
    · by_cases hd : i = id
      · subst hd
        obtain ⟨⟨a', l', rfl⟩, h2⟩ := hmp a l hi
        exact ⟨a', l', at_id, h2⟩
      · exact ⟨a, l, by rw [at_ne i hd]; exact hi, (hμ i hd).1⟩
  refine ⟨⟨fun i o' hi => ?_, fun i j g hi hj hgi hgj => ?_, fun i g hi hgi => ?_, fun g hg => ?_, fun g hg => ?_, hos.trans h.os, htp.trans h.tape, hou.trans h.output, Nat.le_trans h.size hsz, fun g hg => by rw [hS]; exact h.s0 g hg, fun g hg hk => h.sk g (by rwa [hS] at hg) hk, fun i o' hi hm hf => ?_, h.shp⟩, hext⟩
  · by_cases hd : i = id
    · subst hd
      rw [at_id] at hi
      obtain rfl : o = o' := by simpa using hi
      exact hob hext
    · rw [at_ne i hd] at hi
      refine (h.ob i o' hi).ext hext (hμ i hd).1 (hμ i hd).2 fun g hg => hw g ((h.ob i o' hi).lt hg) fun hm he => ?_
      exact hd (h.inj i id g (by rw [hi]; simp) hm hg he)
  · by_cases hdi : i = id
    · by_cases hdj : j = id
      · rw [hdi, hdj]
      · subst hdi
        rw [at_ne j hdj] at hj
        rw [(hμ j hdj).1] at hgj
        cases hj' : m j with
        | none => exact absurd hj' hj
        | some oj =>
          rcases hnew g hgi with h1 | ⟨h1, h2⟩
          · have := (h.ob j oj hj').lt hgj; omega
          · exact (h.inj i j g h1 hj h2 hgj)
    · rw [at_ne i hdi] at hi
      rw [(hμ i hdi).1] at hgi
      by_cases hdj : j = id
      · subst hdj
        cases hi' : m i with
        | none => exact absurd hi' hi
        | some oi =>
          rcases hnew g hgj with h1 | ⟨h1, h2⟩
          · have := (h.ob i oi hi').lt hgi; omega
          · exact (h.inj i j g hi h1 hgi h2)
      · rw [at_ne j hdj] at hj
        rw [(hμ j hdj).1] at hgj
        exact h.inj i j g hi hj hgi hgj
  · rw [hS]
    by_cases hd : i = id
    · subst hd
      rcases hnew g hgi with h1 | ⟨h1, h2⟩
      · refine ⟨fun hs => ?_, fun hk => ?_⟩
        · have := h.low g hs; omega
        · have := (h.keep g hk).1; have := h.size; omega
      · exact h.apart i g h1 h2
    · rw [at_ne i hd] at hi
      rw [(hμ i hd).1] at hgi
      exact h.apart i g hi hgi
  · rw [hS] at hg; have := h.low g hg; omega
  · obtain ⟨h1, h2⟩ := h.keep g hg
    refine ⟨h1, ?_⟩
    rw [hw g (by have := h.size; omega) fun hm he => (h.apart id g hm he).2 hg, h2]
  · by_cases hd : i = id
    · subst hd
      rw [at_id] at hm
      obtain rfl : o = o' := by simpa using hm
      cases o with
      | box cs => exact hpin cs hi rfl
      | row => cases hf
      | mp a l => exact hpm a l hi rfl
    · rw [at_ne i hd] at hm
      rw [(hμ i hd).1]
      exact h.pin i o' hi hm hf
/-- The ghost with a new place. -/
def Gh.at_ (G : Gh) (id : Nat) (p : Option Nat) (c : Nat) : Gh := { G with μ := fun i => if i = id then p else G.μ i, cap := fun i => if i = id then c else G.cap i }
theorem Gh.at_μ (G : Gh) (id : Nat) (p : Option Nat) (c : Nat) : (G.at_ id p c).μ id = p := by simp [Gh.at_]
theorem Gh.at_cap (G : Gh) (id : Nat) (p : Option Nat) (c : Nat) : (G.at_ id p c).cap id = c := by simp [Gh.at_]
theorem Gh.at_ne (G : Gh) {id i : Nat} (p : Option Nat) (c : Nat) (h : i ≠ id) : (G.at_ id p c).μ i = G.μ i ∧ (G.at_ id p c).cap i = G.cap i := by simp [Gh.at_, h]
theorem over_at {id : Nat} {o : Ob} : over [(id, o)] m id = some o := by unfold over; rw [look_cons_self]
/-- A variable is made. -/
theorem Ok.newBox (h : Ok X G w m) {id : Nat} (hid : m id = none) (hnp : X.np ≤ id) (cs : List D) (us : List Value) (t : TypeId) (h1 : ∀ u ∈ us, u.oneCell' = true) (hr : RepDs G w m cs us) :
    let G' := G.at_ id (some w.heap.size) 0
    let w' := w.alloc (.cells us.toArray t)
    Ok X G' w' (over [(id, .box cs)] m) ∧ Ext G w m G' w' (over [(id, .box cs)] m) ∧ RepD G' w' (over [(id, .box cs)] m) (.ptr id 0) (.pointer (some ⟨w.heap.size, 0, none⟩)) := by
  intro G' w'
  obtain ⟨a, b⟩ := h.step (G' := G') (w' := w') id (.box cs) rfl (fun i hi => Gh.at_ne G _ _ hi) (fun g hg => by
      rw [Gh.at_μ] at hg; injection hg with hg; exact .inl (by omega)) (fun g hg _ => Below.heap_alloc w _ g hg) (by show w.heap.size ≤ (w.alloc _).heap.size; rw [World.size_alloc]; omega) rfl rfl rfl
      (fun o' ho' => by rw [hid] at ho'; cases ho') (fun k => ⟨w.heap.size, us, t, Gh.at_μ _ _ _ _, heap_alloc_new w _, h1, hr.ext k⟩) (fun cs hlt _ => by omega)
  exact ⟨a, b, .ptr id 0 _ cs over_at (Gh.at_μ _ _ _ _)⟩
/-- A variable is written. -/
theorem Ok.setBox (h : Ok X G w m) {id g : Nat} {cs cs' : List D} (hid : m id = some (.box cs)) (hg : G.μ id = some g) (us us' : List Value) (t : TypeId) (hh : w.heap[g]? = some (.cells us.toArray t (0, 0)))
    (h1 : ∀ u ∈ us', u.oneCell' = true) (hr : RepDs G w m cs' us') (hh' : w'.heap[g]? = some (.cells us'.toArray t (0, 0))) (hf : ∀ k, k ≠ g → w'.heap[k]? = w.heap[k]?) (hsz : w'.heap.size = w.heap.size)
    (hos : w'.os = w.os) (htp : w'.tape = w.tape) (hou : w'.output = w.output) :
    Ok X G w' (over [(id, .box cs')] m) ∧ Ext G w m G w' (over [(id, .box cs')] m) :=
  h.step (G' := G) (w' := w') id (.box cs') rfl (fun i hi => ⟨rfl, rfl⟩) (fun g' hg' => .inr ⟨by rw [hid]; simp, hg'⟩) (fun k hk hne => hf k fun e => hne (by rw [hid]; simp) (by rw [hg, e])) (by omega) hos htp hou
    (fun o' ho' => by
      rw [hid] at ho'
      injection ho' with ho'
      subst ho'
      exact ⟨fun _ _ => ⟨⟨cs', rfl⟩, rfl⟩, fun _ _ _ _ he => by cases he⟩)
    (fun k => ⟨g, us', t, hg, hh', h1, hr.ext k⟩) (fun cs'' hlt _ => h.pin id _ hlt hid rfl)
theorem cell_box {id g : Nat} {cs : List D} {us : List Value} {t : TypeId} (hh : w.heap[g]? = some (.cells us.toArray t (0, 0))) (i : Nat) : w.cell? ⟨g, i, none⟩ = us[i]? := by
  simp [World.cell?, hh]
theorem addr_add (g o i : Nat) : (⟨g, o, none⟩ : Addr).add i = ⟨g, o + i, none⟩ := by unfold Addr.add; split <;> simp_all
theorem run_loadCells_at {P : Program} (g o : Nat) (us : List Value) (h : ∀ j u, us[j]? = some u → w.cell? ⟨g, o + j, none⟩ = some u) : (loadCells ⟨g, o, none⟩ us.length).run P w = .ok us.toArray w :=
  run_loadCells_list (P := P) w ⟨g, o, none⟩ us (fun j v hv => by rw [addr_add]; exact h j v hv)
/-- A type's size, and whether its values have many cells; where a field lies. -/
def sizeB (P : Program) (t : TypeId) : Option (Bool × Nat) :=
  match P.underlying t, P.info? t with
  | some d, some i => some ((match d with | .struct _ | .array _ _ => true | _ => false), i.size)
  | _, _ => none
def fieldOff (P : Program) (t i : Nat) : Option Nat :=
  match P.underlying t with
  | some (.struct fs) => (fs[i]?).bind fun f => (P.info? f.type).bind fun n => if n.size = 0 then none else some f.offset
  | _ => none
theorem run_sizeB {P : Program} {t : TypeId} {b : Bool} {n : Nat} (h : sizeB P t = some (b, n)) (w : World) : (Go.sizeOf t).run P w = .ok n w ∧ (isAgg t).run P w = .ok b w := by
  unfold sizeB at h
  cases hu : P.underlying t with
  | none => simp [hu] at h
  | some d =>
    cases hi : P.info? t with
    | none => simp [hu, hi] at h
    | some i =>
      simp only [hu, hi, Option.some.injEq, Prod.mk.injEq] at h
      obtain ⟨h1, h2⟩ := h
      refine ⟨by simp [Go.sizeOf, typeInfo, hi, h2], ?_⟩
      unfold Go.isAgg
      simp only [Sem.run_bind, run_underlying hu, Result.andThen_ok]
      cases d <;> first | (subst h1; rfl) | (simp at h1; subst h1; rfl)
/-- A variable is read: its cells are known. -/
theorem run_loadVar_at {P : Program} {t : TypeId} {b : Bool} {n : Nat} (hs : sizeB P t = some (b, n)) (g o : Nat) (us : List Value) (hl : us.length = n) (h : ∀ j u, us[j]? = some u → w.cell? ⟨g, o + j, none⟩ = some u) (h1 : b = false → n = 1) :
    (loadVar t ⟨g, o, none⟩).run P w = .ok (if b then .agg us.toArray else us.headD undef) w := by
  unfold loadVar
  simp only [Sem.run_bind, (run_sizeB hs w).2, Result.andThen_ok]
  cases b with
  | true => simp only [if_true, Sem.run_bind, (run_sizeB hs w).1, Result.andThen_ok]; subst hl; rw [run_loadCells_at g o us h]; simp
  | false =>
    have := h1 rfl
    subst this
    match us, hl with
    | [u], _ =>
      have := h 0 u rfl
      simp only [Nat.add_zero] at this
      simp [run_load, this]
end
/-- What is read of known cells. -/
def rd (agg : Bool) (cs : List D) : D := if agg then .agg cs else cs.headD .any
theorem rep_rd {G : Gh} {w : World} {m : Mem} {b : Bool} {cs : List D} {us : List Value} (h : RepDs G w m cs us) (h1 : ∀ u ∈ us, u.oneCell' = true) : RepD G w m (rd b cs) (if b then .agg us.toArray else us.headD undef) := by
  cases b with
  | true => exact .agg cs us h.1 h1 h.2
  | false =>
    cases cs with
    | nil => exact .any _
    | cons d cs =>
      cases us with
      | nil => have := h.1; simp at this
      | cons u us => exact h.2 0 d u rfl rfl
theorem RepDs.drop {G : Gh} {w : World} {m : Mem} {ds : List D} {us : List Value} (h : RepDs G w m ds us) (k : Nat) : RepDs G w m (ds.drop k) (us.drop k) :=
  ⟨by simp [h.1], fun i d u hd hu => by rw [List.getElem?_drop] at hd hu; exact h.2 _ d u hd hu⟩
theorem RepDs.take {G : Gh} {w : World} {m : Mem} {ds : List D} {us : List Value} (h : RepDs G w m ds us) (k : Nat) : RepDs G w m (ds.take k) (us.take k) :=
  ⟨by simp [h.1], fun i d u hd hu => by
    rw [List.getElem?_take] at hd hu
    split at hd <;> simp_all
    exact h.2 _ d u hd hu⟩
section
variable {X : Cx} {o : Oper} {f : Nat → D} {m : Mem} {d : D} {T : List Nat}
theorem rep_ptr {G : Gh} {w : World} {id off : Nat} {u : Value} (h : RepD G w m (.ptr id off) u) : ∃ g cs, u = .pointer (some ⟨g, off, none⟩) ∧ G.μ id = some g ∧ m id = some (.box cs) := by
  cases h with | ptr _ _ g cs h hg => exact ⟨g, cs, rfl, hg, h⟩
theorem stepU_nilCheck {x : Operand} {id off : Nat} (ho : o.op = .nilCheck x) (hx : Ev f x (.ptr id off)) : StepU X o f m (.ptr id off) [] [] :=
  stepU_pure fun f' m' hf _ G w a _ hF => by
    have h := ev_at hx (by simp [ho, Op.operands]) hf hF
    obtain ⟨g, cs, h1, _, _⟩ := rep_ptr h
    refine ⟨a.eval x, ?_, h⟩
    rw [h1]
    simp [execOp, ho, h1]
theorem run_fieldAt {P : Program} {w : World} {t : TypeId} {i off : Nat} (h : fieldOff P t i = some off) (g o : Nat) : (Instr.fieldAt t (.pointer (some ⟨g, o, none⟩)) i).run P w = .ok (.pointer (some ⟨g, o + off, none⟩)) w := by
  unfold fieldOff at h
  cases hu : P.underlying t with
  | none => simp [hu] at h
  | some d =>
    cases d <;> simp only [hu] at h <;> first | cases h | skip
    rename_i fs
    cases hf : fs[i]? with
    | none => simp [hf] at h
    | some fd =>
      cases hi : P.info? fd.type with
      | none => simp [hf, hi] at h
      | some n =>
        by_cases h0 : n.size = 0
        · simp [hf, hi, h0] at h
        · simp [hf, hi, h0] at h
          simp [Instr.fieldAt, run_underlying hu, hf, Instr.sureAddr, fieldPlace, sizeOf, typeInfo, hi, h0, addr_add, h]
theorem stepU_fieldAddr {t : TypeId} {x : Operand} {i off id k : Nat} (ho : o.op = .fieldAddr t x i) (hx : Ev f x (.ptr id off)) (h : fieldOff X.P t i = some k) : StepU X o f m (.ptr id (off + k)) [] [] :=
  stepU_pure fun f' m' hf _ G w a _ hF => by
    obtain ⟨g, cs, h1, h2, h3⟩ := rep_ptr (ev_at hx (by simp [ho, Op.operands]) hf hF)
    exact ⟨_, by simp only [execOp, ho, h1, Sem.run_bind, run_fieldAt h, Result.andThen_ok, Sem.run_pure], .ptr id _ g cs h3 h2⟩
theorem rep_ref {G : Gh} {w : World} {m : Mem} {cs : List V} {u : Value} (h : RepD G w m (.ref cs) u) : ∃ (g o : Nat) (us : Nat → Value), u = .pointer (some ⟨g, o, none⟩) ∧ G.S g ∧ (∀ (j : Nat) (x : V), cs[j]? = some x → w.cell? ⟨g, o + j, none⟩ = some (us j)) ∧ ∀ (j : Nat) (x : V), cs[j]? = some x → RepV G.S w x (us j) := by
  cases h with | ref _ g o us hz hc hr => exact ⟨g, o, us, rfl, hz, hc, hr⟩
theorem stepU_fieldRef {t : TypeId} {x : Operand} {i k : Nat} {cs : List V} (ho : o.op = .fieldAddr t x i) (hx : Ev f x (.ref cs)) (h : fieldOff X.P t i = some k) : StepU X o f m (.ref (cs.drop k)) [] [] :=
  stepU_pure fun f' m' hf _ G w a _ hF => by
    obtain ⟨g, p, us, h1, hz, hc, hr⟩ := rep_ref (ev_at hx (by simp [ho, Op.operands]) hf hF)
    exact ⟨_, by simp only [execOp, ho, h1, Sem.run_bind, run_fieldAt h, Result.andThen_ok, Sem.run_pure],
      .ref _ g (p + k) (fun j => us (k + j)) hz (fun j x hx => by rw [List.getElem?_drop] at hx; rw [Nat.add_assoc]; exact hc _ x hx) (fun j x hx => by rw [List.getElem?_drop] at hx; exact hr _ x hx)⟩
/-- A read of a variable. -/
theorem stepU_load {t : TypeId} {x : Operand} {id off n : Nat} {b : Bool} {cs : List D} (ho : o.op = .load t x) (hx : Ev f x (.ptr id off)) (hm : m id = some (.box cs)) (hs : sizeB X.P t = some (b, n)) (hn : (b = true ∨ n = 1) ∧ off + n ≤ cs.length) (hd : rd b ((cs.drop off).take n) = d) : StepU X o f m d [] [id] :=
  stepU_pure fun f' m' hf hT G w a hO hF => by
    obtain ⟨g, cs', h1, h2, h3⟩ := rep_ptr (ev_at hx (by simp [ho, Op.operands]) hf hF)
    have hm' := (hT id (by simp)).trans hm
    obtain ⟨g', us, t', h4, h5, h6, h7⟩ := hO.ob id _ hm'
    obtain rfl : g' = g := by rw [h4] at h2; simpa using h2
    have hr := (h7.drop off).take n
    have hl : ((us.drop off).take n).length = n := by have := hr.1; rw [this]; simp; omega
    refine ⟨_, ?_, by rw [← hd]; exact rep_rd hr (fun u hu => h6 u (List.mem_of_mem_drop (List.mem_of_mem_take hu)))⟩
    simp only [execOp, ho, h1, Instr.loadAt, Instr.sureAddr, Sem.run_bind, Sem.run_pure, Result.andThen_ok]
    rw [run_loadVar_at hs g' off _ hl (fun j u hu => by
      rw [cell_box h5 (id := id) (cs := cs)]
      rw [List.getElem?_take] at hu
      split at hu
      · rw [List.getElem?_drop] at hu; exact hu
      · cases hu) (fun hb => by rcases hn.1 with h | h <;> simp_all)]
    simp
/-- A read of what will not change. -/
theorem stepU_loadRef {t : TypeId} {x : Operand} {n : Nat} {b : Bool} {cs : List V} (ho : o.op = .load t x) (hx : Ev f x (.ref cs)) (hs : sizeB X.P t = some (b, n)) (hn : (b = true ∨ n = 1) ∧ n ≤ cs.length) (hd : rd b ((cs.take n).map .v) = d) : StepU X o f m d [] [] :=
  stepU_pure fun f' m' hf _ G w a hO hF => by
    obtain ⟨g, p, us, h1, hz, hc, hr⟩ := rep_ref (ev_at hx (by simp [ho, Op.operands]) hf hF)
    have hl : ((List.range n).map us).length = n := by simp
    have hR : RepDs G w m' ((cs.take n).map .v) ((List.range n).map us) := by
      refine ⟨by simp; omega, fun i d u hd hu => ?_⟩
      rw [List.getElem?_map] at hd hu
      by_cases hi : i < n
      · rw [List.getElem?_range hi] at hu
        rw [List.getElem?_take_of_lt hi] at hd
        cases hc' : cs[i]? with
        | none => simp [hc'] at hd
        | some y => simp [hc'] at hd hu; subst hd hu; exact .v _ _ (hr i y hc')
      · rw [List.getElem?_eq_none (by simp; omega)] at hu; cases hu
    have hO1 : ∀ u ∈ (List.range n).map us, u.oneCell' = true := fun u hu => by
      obtain ⟨j, hj, rfl⟩ := List.mem_map.1 hu
      have hj' := List.mem_range.1 hj
      exact (hr j cs[j] (List.getElem?_eq_getElem (by omega))).one
    refine ⟨_, ?_, by rw [← hd]; exact rep_rd hR hO1⟩
    simp only [execOp, ho, h1, Instr.loadAt, Instr.sureAddr, Sem.run_bind, Sem.run_pure, Result.andThen_ok]
    rw [run_loadVar_at hs g p _ hl (fun j u hu => by
      rw [List.getElem?_map] at hu
      by_cases hi : j < n
      · rw [List.getElem?_range hi] at hu
        simp at hu
        subst hu
        exact hc j cs[j] (List.getElem?_eq_getElem (by omega))
      · rw [List.getElem?_eq_none (by simp; omega)] at hu; cases hu) (fun hb => by rcases hn.1 with h | h <;> simp_all)]
    simp
/-- What a value's cells are. -/
def D.cells : D → List D
  | .agg cs => cs
  | d => [d]
def D.plain : D → Bool
  | .agg _ => true
  | d => d.one
theorem rep_cells {G : Gh} {w : World} {m : Mem} {d : D} {u : Value} (h : RepD G w m d u) (hp : d.plain = true) : RepDs G w m d.cells u.cells.toList ∧ ∀ v ∈ u.cells.toList, v.oneCell' = true := by
  by_cases hd : ∃ cs, d = .agg cs
  · obtain ⟨cs, rfl⟩ := hd
    cases h with | agg _ us hl h1 h => exact ⟨⟨hl, h⟩, h1⟩
  · have h1 : d.one = true := by cases d <;> first | exact hp | exact absurd ⟨_, rfl⟩ hd
    have h2 := h.one h1
    have h3 : d.cells = [d] := by cases d <;> first | rfl | exact absurd ⟨_, rfl⟩ hd
    have h4 : u.cells = #[u] := by cases u <;> first | rfl | (simp [Value.oneCell'] at h2)
    rw [h3, h4]
    exact ⟨.cons h .nil, fun v hv => by simp at hv; subst hv; exact h2⟩
/-- A variable is made: 'zero' tells its cells. -/
def zeroCs (P : Program) (t : TypeId) : Option (List Value) := ((P.info? t).bind (·.zero)).map (·.cells.toList)
/-- Values of the text, as they are known. -/
inductive Lits : List Value → List D → Prop
  | nil : Lits [] []
  | int (k : IntKind) (n : Int) {us ds} (h : Lits us ds) : Lits (.int k n :: us) (.v (.int k n) :: ds)
  | bool (b : Bool) {us ds} (h : Lits us ds) : Lits (.bool b :: us) (.v (.bool b) :: ds)
  | str {us ds} (h : Lits us ds) : Lits (.string ByteArray.empty :: us) (.v (.str []) :: ds)
  | lit (v : Value) {us ds} (hv : v.oneCell' = true) (h : Lits us ds) : Lits (v :: us) (.v (.lit v) :: ds)
theorem Lits.rep {G : Gh} {w : World} {m : Mem} {us : List Value} {ds : List D} (h : Lits us ds) : RepDs G w m ds us ∧ ∀ u ∈ us, u.oneCell' = true := by
  induction h with
  | nil => exact ⟨.nil, fun u h => by simp at h⟩
  | int k n h ih => exact ⟨.cons (mk_int k n) ih.1, fun u hu => by rcases List.mem_cons.1 hu with rfl | hu; exact rfl; exact ih.2 u hu⟩
  | bool b h ih => exact ⟨.cons (mk_bool b) ih.1, fun u hu => by rcases List.mem_cons.1 hu with rfl | hu; exact rfl; exact ih.2 u hu⟩
  | str h ih => exact ⟨.cons (mk_str []) ih.1, fun u hu => by rcases List.mem_cons.1 hu with rfl | hu; exact rfl; exact ih.2 u hu⟩
  | lit v hv h ih => exact ⟨.cons (.v _ _ (.lit v hv)) ih.1, fun u hu => by rcases List.mem_cons.1 hu with rfl | hu; exact hv; exact ih.2 u hu⟩
theorem run_newVar' {P : Program} {w : World} (t : TypeId) (v : Value) : (newVar t v).run P w = .ok ⟨w.heap.size, 0, none⟩ (w.alloc (.cells v.cells t)) := by
  rfl
theorem stepU_alloc {t : TypeId} {us : List Value} {cs : List D} (ho : o.op = .alloc t) (id : Nat) (hnp : X.np ≤ id) (hz : zeroCs X.P t = some us) (hl : Lits us cs) : StepU X o f m (.ptr id 0) [(id, .box cs)] [] :=
  fun f' m' hf _ hn G w a hO hF K Q hK => by
    unfold zeroCs at hz
    cases hi : X.P.info? t with
    | none => simp [hi] at hz
    | some i =>
      cases hzz : i.zero with
      | none => simp [hi, hzz] at hz
      | some z =>
        simp [hi, hzz] at hz
        obtain ⟨h1, h2, h3⟩ := hO.newBox (id := id) (hn (id, Ob.box cs) (List.mem_singleton.2 rfl) List.not_mem_nil) hnp cs us t (Lits.rep (G := G) (w := w) (m := m') hl).2 (Lits.rep hl).1
        have hr : (execOp a.eval o).run X.P w = .ok (.value (.pointer (some ⟨w.heap.size, 0, none⟩))) (w.alloc (.cells us.toArray t)) := by
          simp only [execOp, ho, Instr.alloc, Sem.run_bind, zeroValue, typeInfo, run_program, Result.andThen_ok, hi, hzz, Sem.run_pure, run_newVar']
          rw [← hz]
        unfold Oper.wp
        rw [hr]
        exact hK _ _ _ h1 h2 h3
/-- box: a variable with a value. -/
theorem stepU_box {t : TypeId} {x : Operand} {d : D} (ho : o.op = .box t x) (id : Nat) (hnp : X.np ≤ id) (hx : Ev f x d) (hp : d.plain = true) : StepU X o f m (.ptr id 0) [(id, .box d.cells)] [] :=
  fun f' m' hf _ hn G w a hO hF K Q hK => by
    obtain ⟨h4, h5⟩ := rep_cells (ev_at hx (by simp [ho, Op.operands]) hf hF) hp
    obtain ⟨h1, h2, h3⟩ := hO.newBox (id := id) (hn (id, Ob.box d.cells) (List.mem_singleton.2 rfl) List.not_mem_nil) hnp d.cells (a.eval x).cells.toList t h5 h4
    have hr : (execOp a.eval o).run X.P w = .ok (.value (.pointer (some ⟨w.heap.size, 0, none⟩))) (w.alloc (.cells (a.eval x).cells.toList.toArray t)) := by
      simp only [execOp, ho, Instr.box, Sem.run_bind, run_newVar', Result.andThen_ok, Sem.run_pure, Array.toArray_toList]
    unfold Oper.wp
    rw [hr]
    exact hK _ _ _ h1 h2 h3
/-- Cells overwritten from a place on. -/
def splice (cs : List D) (k : Nat) (ds : List D) : List D := cs.take k ++ ds ++ cs.drop (k + ds.length)
theorem run_storeCells_box {P : Program} (g : Nat) (t : TypeId) : ∀ (vs : List Value) (o i : Nat) (us : List Value) (w : World), w.heap[g]? = some (.cells us.toArray t (0, 0)) → o + i + vs.length ≤ us.length → (∀ v ∈ vs, v.oneCell' = true) →
    ∃ w', (storeCells ⟨g, o, none⟩ vs i).run P w = .ok () w' ∧ w'.heap[g]? = some (.cells (us.take (o + i) ++ vs ++ us.drop (o + i + vs.length)).toArray t (0, 0)) ∧ (∀ k, k ≠ g → w'.heap[k]? = w.heap[k]?) ∧ w'.heap.size = w.heap.size ∧ w'.os = w.os ∧ w'.tape = w.tape ∧ w'.output = w.output
  | [], o, i, us, w, hh, hl, h1 => ⟨w, rfl, by simpa using hh, fun _ _ => rfl, rfl, rfl, rfl, rfl⟩
  | v :: vs, o, i, us, w, hh, hl, h1 => by
    simp only [List.length_cons] at hl
    have hlt : o + i < us.length := by omega
    have hc : w.cell? ⟨g, o + i, none⟩ = some us[o + i] := by simp [World.cell?, hh, hlt]
    have hf : w.frozen? ⟨g, o + i, none⟩ = false := by simp [World.frozen?, hh]
    have hh2 : (w.setCell ⟨g, o + i, none⟩ v).heap[g]? = some (.cells (us.set (o + i) v).toArray t (0, 0)) := by simp [World.setCell, Array.getElem?_modify, hh]
    obtain ⟨w', h2, h3, h4, h5, h6, h7, h8⟩ := run_storeCells_box (P := P) g t vs o (i + 1) (us.set (o + i) v) _ hh2 (by simp; omega) (fun u hu => h1 u (List.mem_cons_of_mem _ hu))
    refine ⟨w', ?_, ?_, fun k hk => (h4 k hk).trans (Below.heap_setCell w ⟨g, o + i, none⟩ v k hk), by rw [h5]; simp [World.setCell], h6, h7, h8⟩
    · simp only [storeCells, Sem.run_bind, addr_add, run_store P w _ v .plain (h1 v List.mem_cons_self), hc, hf, Bool.false_eq_true, if_false, Result.andThen_ok]
      exact h2
    · rw [h3]
      congr 3
      rw [show o + (i + 1) = o + i + 1 from by omega, List.drop_set_of_lt (by omega)]
      simp only [List.length_cons]
      rw [show o + i + (vs.length + 1) = o + i + 1 + vs.length from by omega]
      congr 1
      rw [List.take_succ_eq_append_getElem (by simpa using hlt), List.take_set]
      rw [List.set_eq_of_length_le (by simp; omega)]; simp
/-- A write to a variable. -/
theorem stepU_store {t : TypeId} {x y : Operand} {id off n : Nat} {b : Bool} {cs cs' : List D} {d : D} (ho : o.op = .store t x y) (hx : Ev f x (.ptr id off)) (hy : Ev f y d) (hp : d.plain = true) (hm : m id = some (.box cs)) (hs : sizeB X.P t = some (b, n))
    (hn : d.cells.length = n ∧ off + n ≤ cs.length) (hc : splice cs off d.cells = cs') : StepU X o f m .any [(id, .box cs')] [id] :=
  fun f' m' hf hT hnew G w a hO hF K Q hK => by
    obtain ⟨g, cs0, h1, h2, h3⟩ := rep_ptr (ev_at hx (by simp [ho, Op.operands]) hf hF)
    obtain ⟨h4, h5⟩ := rep_cells (ev_at hy (by simp [ho, Op.operands]) hf hF) hp
    have hm' := (hT id (by simp)).trans hm
    obtain ⟨g', us, t', h6, h7, h8, h9⟩ := hO.ob id _ hm'
    obtain rfl : g' = g := by rw [h6] at h2; simpa using h2
    have hl1 := h4.1
    have hl2 := h9.1
    have hlen : (a.eval y).cells.toList.length = d.cells.length := hl1
    obtain ⟨w', k1, k2, k3, k4, k5, k6, k7⟩ := run_storeCells_box (P := X.P) g' t' (a.eval y).cells.toList off 0 us w h7 (by omega) h5
    rw [Nat.add_zero] at k2
    obtain ⟨e1, e2⟩ := hO.setBox (w' := w') hm' h6 us (us.take off ++ (a.eval y).cells.toList ++ us.drop (off + (a.eval y).cells.toList.length)) t' h7 (cs' := cs') (fun u hu => by
        rcases List.mem_append.1 hu with hu | hu
        · rcases List.mem_append.1 hu with hu | hu
          · exact h8 u (List.mem_of_mem_take hu)
          · exact h5 u hu
        · exact h8 u (List.mem_of_mem_drop hu)) (by
        subst hc
        unfold splice
        rw [hlen]
        refine ⟨by simp only [List.length_append, List.length_take, List.length_drop]; omega, fun i d' u hd hu => ?_⟩
        by_cases hi : i < off
        · rw [List.append_assoc, List.getElem?_append_left (by simp; omega), List.getElem?_take_of_lt hi] at hd hu
          exact h9.2 i d' u hd hu
        · rw [List.append_assoc, List.getElem?_append_right (by simp; omega)] at hd hu
          rw [List.length_take, Nat.min_eq_left (by omega)] at hd hu
          by_cases hi2 : i - off < d.cells.length
          · rw [List.getElem?_append_left (by omega)] at hd hu
            exact h4.2 _ d' u hd hu
          · rw [List.getElem?_append_right (by omega)] at hd hu
            rw [hlen] at hu
            rw [List.getElem?_drop] at hd hu
            exact h9.2 _ d' u hd hu) k2 k3 k4 k5 k6 k7
    have hr : (execOp a.eval o).run X.P w = .ok .skip w' := by
      have hsz : (a.eval y).cells.size = n := by have := hl1; simp at this; omega
      simp only [execOp, ho, h1, Instr.storeAt, Instr.sureAddr, Sem.run_bind, Sem.run_pure, Result.andThen_ok, storeVar, (run_sizeB hs w).1, hsz, ne_eq, not_true_eq_false, if_false, k1]
    unfold Oper.wp
    rw [hr]
    exact hK _ _ _ e1 e2 (.any _)
end
end Go.Proofs.YthflfnehdlpmdaaDoor
/- Abstract states: code walks. No program, no condition. -/
namespace Go.Proofs.YthflfnehdlpmdaaDoor
set_option linter.all false
open Go Go.RowKit

/-- How code ends. -/
inductive AX where
  | normal
  | exit (id : Nat)
  | goto (l : Nat)
  | ret
  | pan (d : D)
/-- The deferred calls: those that are known; ahead of them, behind each range over a function, its mark. -/
abbrev mark (D : Nat) : Deferred := { target := .collected D, args := #[] }
def DfOk (X : Cx) (G : Gh) (w : World) (ds : List Deferred) : Prop :=
  ∃ Ds : List Nat, ds = Ds.map mark ++ X.df ∧ Ds.Nodup ∧ ∀ D ∈ Ds, X.w0.heap.size ≤ D ∧ G.S D ∧ w.heap[D]? = some (.deferred (some [])) ∧ rfN X.nt = true
theorem DfOk.nil {X : Cx} {G : Gh} {w : World} : DfOk X G w X.df := ⟨[], rfl, List.nodup_nil, fun _ h => by cases h⟩
theorem DfOk.ext {X : Cx} {G G' : Gh} {w w' : World} {m m' : Mem} {ds : List Deferred} (h : DfOk X G w ds) (k : Ext G w m G' w' m') : DfOk X G' w' ds := by
  obtain ⟨Ds, h1, h2, h3⟩ := h
  refine ⟨Ds, h1, h2, fun D hD => ?_⟩
  obtain ⟨a1, a2, a3, a4⟩ := h3 D hD
  obtain ⟨k1, k2⟩ := k.s D a2
  exact ⟨a1, k1, k2.trans a3, a4⟩
structure St (X : Cx) (G : Gh) (w : World) (a : Act) (fr : Fm) (ah : AH) : Prop where
  ok : Ok X G w (look ah)
  fr : FrOk G w (look ah) fr.at a
  nt : a.tmps.size = X.nt
  df : DfOk X G w a.defers
def Kont (X : Cx) (K : Fm → AH → Prop) (a : Act) (w : World) : Prop := ∃ G fr ah, St X G w a fr ah ∧ K fr ah
def Rel (X : Cx) (Q : AX → Fm → AH → Prop) : Exit → Act → World → Prop
  | .normal, a, w => Kont X (Q .normal) a w
  | .exit id, a, w => Kont X (Q (.exit id)) a w
  | .goto l, a, w => Kont X (Q (.goto l)) a w
  | .ret, a, w => Kont X (Q .ret) a w
  | .panic chain, a, w => ∃ G fr ah d v, St X G w a fr ah ∧ chain = [{ v, recovered := false }] ∧ RepD G w (look ah) d v ∧ Q (.pan d) fr ah
  | .outgrown, _, _ => False
/-- The walk of code from an abstract state. -/
def aw (X : Cx) (c : Code) (Q : AX → Fm → AH → Prop) (fr : Fm) (ah : AH) : Prop := ∀ G w a, St X G w a fr ah → c.wp X.P (Rel X Q) a w
def thenQ (K : Fm → AH → Prop) (Q : AX → Fm → AH → Prop) : AX → Fm → AH → Prop := fun e => match e with | .normal => K | e => Q e
def blockQ (id : Nat) (Q : AX → Fm → AH → Prop) : AX → Fm → AH → Prop := fun e => match e with | .exit i => bif Nat.beq i id then Q .normal else Q (.exit i) | e => Q e
section
variable {X : Cx} {Q : AX → Fm → AH → Prop} {fr : Fm} {ah : AH}
theorem Kont.mono {K K' : Fm → AH → Prop} {a : Act} {w : World} (h : Kont X K a w) (hk : ∀ fr ah, K fr ah → K' fr ah) : Kont X K' a w := by
  obtain ⟨G, fr, ah, h1, h2⟩ := h
  exact ⟨G, fr, ah, h1, hk _ _ h2⟩
theorem rel_then {x : Code} {K : Fm → AH → Prop} {a : Act} {w : World} {R : Act → World → Prop} (hR : ∀ a w, Kont X K a w → R a w) (h : x.wp X.P (Rel X (thenQ K Q)) a w) : x.wp X.P (Exit.then R (Rel X Q)) a w :=
  wp_mono h fun e a w q => by
    cases e with
    | normal => exact hR a w q
    | exit id => exact q
    | goto l => exact q
    | ret => exact q
    | panic c => exact q
    | outgrown => exact q
theorem aw_seq {x y : Code} (h : ∀ K : Fm → AH → Prop, (∀ fr ah, aw X y Q fr ah → K fr ah) → aw X x (thenQ K Q) fr ah) : aw X (.seq x y) Q fr ah := fun G w a hS =>
  wp_seq (rel_then (K := fun fr ah => aw X y Q fr ah) (fun a w hk => by
    obtain ⟨G, fr, ah, h1, h2⟩ := hk
    exact h2 G w a h1) (h _ (fun _ _ h => h) G w a hS))
theorem aw_skip (h : Q .normal fr ah) : aw X .skip Q fr ah := fun G w a hS => wp_skip ⟨G, fr, ah, hS, h⟩
theorem aw_exit {id : Nat} (h : Q (.exit id) fr ah) : aw X (.exit id) Q fr ah := fun G w a hS => wp_exit ⟨G, fr, ah, hS, h⟩
theorem aw_ret (h : Q .ret fr ah) : aw X .ret Q fr ah := fun G w a hS => wp_ret ⟨G, fr, ah, hS, h⟩
theorem aw_cond {c : Operand} {x y : Code} {t : Bool} (hc : Ev fr.at c (.v (.bool t))) (h1 : t = true → aw X x Q fr ah) (h0 : t = false → aw X y Q fr ah) : aw X (.cond c x y) Q fr ah := fun G w a hS =>
  wp_cond_split (rep_bool (hc fr.at (fun _ _ => rfl) G w _ a hS.fr)) (fun h => h1 h G w a hS) (fun h => h0 h G w a hS)
theorem aw_condT {c : Operand} {x y : Code} {t : Bool} (hc : Ev fr.at c (.v (.bool t))) (ht : t = true) (h : aw X x Q fr ah) : aw X (.cond c x y) Q fr ah := aw_cond hc (fun _ => h) (fun h => by rw [ht] at h; cases h)
theorem aw_block {id : Nat} {c : Code} (h : aw X c (blockQ id Q) fr ah) : aw X (.block id c) Q fr ah := fun G w a hS =>
  wp_block (wp_mono (h G w a hS) fun e a w q => by
    cases e with
    | normal => exact q
    | exit i =>
      by_cases hi : i = id
      · subst hi
        have q' : Kont X (blockQ i Q (.exit i)) a w := q
        have e : blockQ i Q (.exit i) = Q .normal := by show (bif Nat.beq i i then _ else _) = _; rw [Nat.beq_refl]; rfl
        rw [e] at q'
        show (if i = i then _ else _)
        rw [if_pos rfl]; exact q'
      · have q' : Kont X (blockQ id Q (.exit i)) a w := q
        have hb : Nat.beq i id = false := by
          cases h' : Nat.beq i id with
          | false => rfl
          | true => exact absurd (Nat.eq_of_beq_eq_true h') hi
        have e : blockQ id Q (.exit i) = Q (.exit i) := by show (bif Nat.beq i id then _ else _) = _; rw [hb]; rfl
        rw [e] at q'
        show (if i = id then _ else _)
        rw [if_neg hi]; exact q'
    | goto l => exact q
    | ret => exact q
    | panic c => exact q
    | outgrown => exact q)
/-- A state that says less. -/
def Weak (X : Cx) (fr : Fm) (ah : AH) (fr' : Fm) (ah' : AH) : Prop := ∀ G w a, St X G w a fr ah → ∃ G', St X G' w a fr' ah'
theorem aw_weak {c : Code} {fr' : Fm} {ah' : AH} (h : Weak X fr ah fr' ah') (k : aw X c Q fr' ah') : aw X c Q fr ah := fun G w a hS => by
  obtain ⟨G', h'⟩ := h G w a hS
  exact k G' w a h'
theorem Weak.refl : Weak X fr ah fr ah := fun G _ _ h => ⟨G, h⟩
theorem Weak.trans {f1 f2 f3 : Fm} {a1 a2 a3 : AH} (h : Weak X f1 a1 f2 a2) (k : Weak X f2 a2 f3 a3) : Weak X f1 a1 f3 a3 := fun G w a hS => by
  obtain ⟨G', h'⟩ := h G w a hS
  exact k G' w a h'
/-- A loop: its states at the head are st x. -/
theorem aw_loop {α : Type} {c : Code} (st : α → Fm × AH) (μ : α → Nat) (x0 : α) (h0 : Weak X fr ah (st x0).1 (st x0).2)
    (round : ∀ x (K : Fm → AH → Prop), (∀ fr ah y, μ y < μ x → Weak X fr ah (st y).1 (st y).2 → K fr ah) → aw X c (thenQ K Q) (st x).1 (st x).2) : aw X (.loop c) Q fr ah := by
  intro G w a hS b k cs
  have key : ∀ (n : Nat) (x : α), μ x = n → ∀ G w a, St X G w a (st x).1 (st x).2 → ∃ e a' w', Rel X Q e a' w' ∧ Arrives X.P (lone (b.at a (.code c :: .inLoop c :: k)) cs w) b k cs e a' w' := by
    intro n
    induction n using Nat.strongRecOn with
    | ind n ih =>
      intro x hx G w a hS
      obtain ⟨e, a₁, w₁, hq, harr⟩ := round x (fun fr ah => ∃ y, μ y < μ x ∧ Weak X fr ah (st y).1 (st y).2) (fun fr ah y h1 h2 => ⟨y, h1, h2⟩) G w a hS b (.inLoop c :: k) cs
      cases e with
      | normal =>
        obtain ⟨G1, fr1, ah1, hS1, y, hy, hw⟩ := hq
        obtain ⟨G2, hS2⟩ := hw G1 w₁ a₁ hS1
        obtain ⟨e₂, a₂, w₂, hq₂, harr₂⟩ := ih (μ y) (hx ▸ hy) y rfl G2 w₁ a₁ hS2
        exact ⟨e₂, a₂, w₂, hq₂, .of_steps (Steps.trans harr (.one step_inLoop)) harr₂⟩
      | exit id => exact ⟨Exit.exit id, a₁, w₁, hq, .pass (x := .inLoop c) rfl (fun _ _ => .inl (by simp)) harr⟩
      | goto l => exact ⟨Exit.goto l, a₁, w₁, hq, .pass (x := .inLoop c) rfl (fun _ _ => .inl (by simp)) harr⟩
      | ret => exact ⟨Exit.ret, a₁, w₁, hq, .pass (x := .inLoop c) rfl (fun _ _ => .inl (by simp)) harr⟩
      | panic ch => exact ⟨Exit.panic ch, a₁, w₁, hq, .pass (x := .inLoop c) rfl (fun _ _ => .inl (by simp)) harr⟩
      | outgrown => exact hq.elim
  obtain ⟨G', hS'⟩ := h0 G w a hS
  obtain ⟨e, a', w', hq, harr⟩ := key _ x0 rfl G' w a hS'
  exact ⟨e, a', w', hq, .of_steps (.one step_loop) harr⟩
/-- What an operation does, its guard thought of. -/
def Step (X : Cx) (ops : Array Oper) (o : Oper) (f : Nat → D) (m : Mem) (d : D) (upd : AH) (T : List Nat) : Prop :=
  ∀ (f' : Nat → D) (m' : Mem), (∀ t ∈ o.looksAt ops, f' t = f t) → (∀ id ∈ T, m' id = m id) → (∀ p ∈ upd, p.1 ∉ T → m' p.1 = none) →
    ∀ G w a, Ok X G w m' → FrOk G w m' f' a → ∀ (K : Act → World → Prop) (Q : Exit → Act → World → Prop),
      (∀ G' w' u, Ok X G' w' (over upd m') → Ext G w m' G' w' (over upd m') → RepD G' w' (over upd m') d u → K (a.put o.dst u) w') →
      if Region.wanted o (yielded ops a.tmps) = true then Oper.wp X.P o a w K Q else K (a.put o.dst undef) w
theorem looks_op {ops : Array Oper} {o : Oper} {t : Nat} (h : .tmp t ∈ o.op.operands) : t ∈ o.looksAt ops := by
  unfold Oper.looksAt
  exact List.mem_append_left _ (List.mem_filterMap.2 ⟨.tmp t, by simpa using h, rfl⟩)
section
variable {ops : Array Oper} {o : Oper} {f : Nat → D} {m : Mem} {d : D} {upd : AH} {T : List Nat}
theorem step_u (hg : o.guard = none) (h : StepU X o f m d upd T) : Step X ops o f m d upd T := fun f' m' hf hT hn G w a hO hF K Q hK => by
  rw [if_pos (by simp [Region.wanted, hg])]
  exact h f' m' (fun t ht => hf t (looks_op ht)) hT hn G w a hO hF K Q hK
theorem guard_at {j t : Nat} {b B : Bool} {f' : Nat → D} {G : Gh} {w : World} {m' : Mem} {a : Act} (hg : o.guard = some (j, b)) (hd : (ops[j]?).bind (·.dst) = some t) (ht : Ev f (.tmp t) (.v (.bool B))) (hf : ∀ t ∈ o.looksAt ops, f' t = f t) (hF : FrOk G w m' f' a) :
    Region.wanted o (yielded ops a.tmps) = (B == b) := by
  have h1 := rep_bool (ht f' (fun t' ht' => by
    injection ht' with ht'
    subst ht'
    exact hf _ (by unfold Oper.looksAt; rw [hg]; simp [hd])) G w m' a hF)
  have h2 : a.tmps[t]? = some (.bool B) := by
    have h3 : a.tmps.getD t undef = .bool B := h1
    rw [Array.getD_eq_getD_getElem?] at h3
    cases h4 : a.tmps[t]? with
    | none => rw [h4] at h3; simp [undef] at h3
    | some v => rw [h4] at h3; simp at h3; rw [h3]
  simp [Region.wanted, hg, yielded, hd, h2]
/-- A guarded operation that is wanted; that is not. -/
theorem step_yes {j t : Nat} {b : Bool} (hg : o.guard = some (j, b)) (hd : (ops[j]?).bind (·.dst) = some t) (ht : Ev f (.tmp t) (.v (.bool b))) (h : StepU X o f m d upd T) : Step X ops o f m d upd T := fun f' m' hf hT hn G w a hO hF K Q hK => by
  rw [if_pos (by rw [guard_at hg hd ht hf hF]; simp)]
  exact h f' m' (fun t ht => hf t (looks_op ht)) hT hn G w a hO hF K Q hK
/-- A guarded operation whose guard isn't known. -/
theorem step_if {j t : Nat} {b B : Bool} (hg : o.guard = some (j, b)) (hd : (ops[j]?).bind (·.dst) = some t) (ht : Ev f (.tmp t) (.v (.bool B))) (h : (B == b) = true → StepU X o f m d [] T) : Step X ops o f m (.cond (B == b) d) [] T := fun f' m' hf hT hn G w a hO hF K Q hK => by
  cases hB : (B == b) with
  | true =>
    rw [if_pos (by rw [guard_at hg hd ht hf hF, hB])]
    rw [hB] at hK
    exact h hB f' m' (fun t ht => hf t (looks_op ht)) hT (fun p hp => by simp at hp) G w a hO hF K Q (fun G' w' u h1 h2 h3 => hK G' w' u h1 h2 (.cond _ _ _ (fun _ => h3) (fun h => by cases h)))
  | false =>
    rw [if_neg (by rw [guard_at hg hd ht hf hF, hB]; simp)]
    rw [hB] at hK
    exact hK G w undef hO Ext.refl (.cond _ _ _ (fun h => by cases h) (fun _ => rfl))
theorem guard_if {j t : Nat} {b B C : Bool} {f' : Nat → D} {G : Gh} {w : World} {m' : Mem} {a : Act} (hg : o.guard = some (j, b)) (hd : (ops[j]?).bind (·.dst) = some t) (ht : Ev f (.tmp t) (.cond C (.v (.bool B)))) (hf : ∀ t ∈ o.looksAt ops, f' t = f t) (hF : FrOk G w m' f' a) :
    Region.wanted o (yielded ops a.tmps) = (C && (B == b)) := by
  have h1 := ht f' (fun t' ht' => by
    injection ht' with ht'
    subst ht'
    exact hf _ (by unfold Oper.looksAt; rw [hg]; simp [hd])) G w m' a hF
  generalize hu : a.eval (.tmp t) = u at h1
  cases h1 with
  | cond _ _ _ h h0 =>
    have h3 : a.tmps.getD t undef = u := hu
    rw [Array.getD_eq_getD_getElem?] at h3
    cases C with
    | true =>
      obtain rfl := rep_bool (h rfl)
      cases h4 : a.tmps[t]? with
      | none => rw [h4] at h3; simp [undef] at h3
      | some v => rw [h4] at h3; simp at h3; subst h3; simp [Region.wanted, hg, yielded, hd, h4]
    | false =>
      obtain rfl := h0 rfl
      cases h4 : a.tmps[t]? with
      | none => simp [Region.wanted, hg, yielded, hd, h4]
      | some v => rw [h4] at h3; simp at h3; subst h3; simp [Region.wanted, hg, yielded, hd, h4, undef]
/-- A guarded operation whose guard is itself guarded. -/
theorem step_if2 {j t : Nat} {b B C : Bool} (hg : o.guard = some (j, b)) (hd : (ops[j]?).bind (·.dst) = some t) (ht : Ev f (.tmp t) (.cond C (.v (.bool B)))) (h : (C && (B == b)) = true → StepU X o f m d [] T) : Step X ops o f m (.cond (C && (B == b)) d) [] T := fun f' m' hf hT hn G w a hO hF K Q hK => by
  cases hB : (C && (B == b)) with
  | true =>
    rw [if_pos (by rw [guard_if hg hd ht hf hF, hB])]
    rw [hB] at hK
    exact h hB f' m' (fun t ht => hf t (looks_op ht)) hT (fun p hp => by simp at hp) G w a hO hF K Q (fun G' w' u h1 h2 h3 => hK G' w' u h1 h2 (.cond _ _ _ (fun _ => h3) (fun h => by cases h)))
  | false =>
    rw [if_neg (by rw [guard_if hg hd ht hf hF, hB]; simp)]
    rw [hB] at hK
    exact hK G w undef hO Ext.refl (.cond _ _ _ (fun h => by cases h) (fun _ => rfl))
end
def pushF (fr : Fm) (dst : Option Tmp) (d : D) : Fm := match dst with | some t => (t, d) :: fr | none => fr
theorem pushF_at (fr : Fm) (dst : Option Tmp) (d : D) : (pushF fr dst d).at = fput fr.at dst d := by
  funext i
  cases dst with
  | none => rfl
  | some t =>
    unfold pushF fput Fm.at
    by_cases h : i = t
    · subst h; simp [look]
    · simp only [h, if_false]; rw [look_cons_ne _ _ (Ne.symm h)]
def freshB (upd : AH) (T : List Nat) (ah : AH) : Bool := upd.all fun p => T.contains p.1 || (look ah p.1).isNone
def dstB (nt : Nat) : Option Tmp → Bool
  | some t => Nat.blt t nt
  | none => true
/-- Operations in the text's order. -/
def awl (X : Cx) (ops : Array Oper) (K : Fm → AH → Prop) (Q : AX → Fm → AH → Prop) (os : List Oper) (fr : Fm) (ah : AH) : Prop :=
  ∀ G w a, St X G w a fr ah → ∀ R : Exit → Act → World → Prop, (∀ a w, Kont X K a w → R .normal a w) → (∀ c a w, Rel X Q (.panic c) a w → R (.panic c) a w) → wpList X.P ops R os a w
theorem awl_nil {ops : Array Oper} {K : Fm → AH → Prop} (h : K fr ah) : awl X ops K Q [] fr ah := fun G w a hS R hR _ => wpList_nil (hR a w ⟨G, fr, ah, hS, h⟩)
theorem awl_step {ops : Array Oper} {K : Fm → AH → Prop} {o : Oper} {os : List Oper} {d : D} {upd : AH} {T : List Nat} (h : Step X ops o fr.at (look ah) d upd T) (hd : dstB X.nt o.dst = true) (hn : freshB upd T ah = true)
    (k : awl X ops K Q os (pushF fr o.dst d) (upd ++ ah)) : awl X ops K Q (o :: os) fr ah := fun G w a hS R hR hP => by
  have hst := h fr.at (look ah) (fun _ _ => rfl) (fun _ _ => rfl) (fun p hp hT => by
    unfold freshB at hn
    rw [List.all_eq_true] at hn
    have := hn p hp
    simp only [Bool.or_eq_true, List.contains_iff_mem, Option.isNone_iff_eq_none] at this
    rcases this with h | h
    · exact absurd h hT
    · exact h) G w a hS.ok hS.fr (fun a' w' => wpList X.P ops R os a' w') R (fun G' w' u h1 h2 h3 => by
      refine k G' w' _ ⟨by rw [over_look] at h1; exact h1, ?_, ?_, ?_⟩ R hR hP
      · rw [pushF_at, ← over_look]
        refine (hS.fr.ext h2).put h3 fun t ht => ?_
        rw [hS.nt]
        rw [ht] at hd
        simpa [dstB] using hd
      · have : ∀ (dst : Option Tmp), (a.put dst u).tmps.size = a.tmps.size := fun dst => by cases dst <;> simp [Act.put]
        rw [this]; exact hS.nt
      · have : ∀ (dst : Option Tmp), (a.put dst u).defers = a.defers := fun dst => by cases dst <;> rfl
        rw [this]; exact hS.df.ext h2)
  unfold wpList
  by_cases hw : Region.wanted o (yielded ops a.tmps) = true
  · rw [if_pos hw] at hst ⊢; exact .inl hst
  · rw [if_neg hw] at hst ⊢; exact hst
theorem aw_region {id : Nat} {l : List Oper} {rest : Code} (h : ∀ K : Fm → AH → Prop, (∀ fr ah, aw X rest Q fr ah → K fr ah) → awl X l.toArray K Q l fr ah) : aw X (.seq (.region id l.toArray false) rest) Q fr ah := fun G w a hS =>
  wp_seq (wp_region_lit (h (fun fr ah => aw X rest Q fr ah) (fun _ _ h => h) G w a hS _ (fun a w hk => by
    obtain ⟨G, fr, ah, h1, h2⟩ := hk
    exact h2 G w a h1) (fun _ _ _ h => h)))
theorem aw_region_last {id : Nat} {l : List Oper} (h : awl X l.toArray (Q .normal) Q l fr ah) : aw X (.region id l.toArray false) Q fr ah := fun G w a hS =>
  wp_region_lit (h G w a hS _ (fun _ _ h => h) (fun _ _ _ h => h))
end
end Go.Proofs.YthflfnehdlpmdaaDoor
/- Abstract states: functions, their contracts, what is dropped at their end. No program, no condition. -/
namespace Go.Proofs.YthflfnehdlpmdaaDoor
set_option linter.all false
open Go Go.RowKit

mutual
/-- Does a value name only memories that are kept? -/
def D.live (k : Nat → Bool) : D → Bool
  | .v _ | .ref _ | .any => true
  | .agg cs => D.lives k cs
  | .tup ds => D.lives k ds
  | .ptr id _ => k id
  | .view id _ _ _ => k id
  | .vptr id _ _ _ => k id
  | .fn _ a b => D.lives k a && D.lives k b
  | .mref id => k id
  | .cond _ d => D.live k d
def D.lives (k : Nat → Bool) : List D → Bool
  | [] => true
  | d :: ds => D.live k d && D.lives k ds
end
theorem D.lives_get {k : Nat → Bool} : ∀ {ds : List D} {i : Nat} {d : D}, D.lives k ds = true → ds[i]? = some d → d.live k = true
  | [], i, d, _, h => by simp at h
  | e :: ds, 0, d, h, hd => by
    simp only [D.lives, Bool.and_eq_true] at h
    simp at hd; subst hd; exact h.1
  | e :: ds, i + 1, d, h, hd => by
    simp only [D.lives, Bool.and_eq_true] at h
    exact D.lives_get h.2 (by simpa using hd)
section
variable {X : Cx} {G : Gh} {w : World} {m m' : Mem}
theorem RepD.part {d : D} {u : Value} (h : RepD G w m d u) {k : Nat → Bool} (hk : ∀ id, k id = true → m' id = m id) (hl : d.live k = true) : RepD G w m' d u := by
  induction h with
  | v x u h => exact .v x u h
  | agg cs us hl' h1 h ih => exact .agg cs us hl' h1 fun i d u hd hu => ih i d u hd hu (D.lives_get (by simpa [D.live] using hl) hd)
  | tup ds us hl' h ih => exact .tup ds us hl' fun i d u hd hu => ih i d u hd hu (D.lives_get (by simpa [D.live] using hl) hd)
  | ptr id off g cs h hg => exact .ptr id off g cs ((hk id (by simpa [D.live] using hl)).trans h) hg
  | view id ver off len u ver' n e c h hv h1 h2 => exact .view id ver off len u ver' n e c ((hk id (by simpa [D.live] using hl)).trans h) hv h1 h2
  | vptr id ver i j u ver' n e c h hv h1 h2 => exact .vptr id ver i j u ver' n e c ((hk id (by simpa [D.live] using hl)).trans h) hv h1 h2
  | ref cs g o us hz hc hr => exact .ref cs g o us hz hc hr
  | fn f first caps us vs hl1 hl2 h h' ih ih' =>
    simp only [D.live, Bool.and_eq_true] at hl
    exact .fn f first caps us vs hl1 hl2 (fun i d u hd hu => ih i d u hd hu (D.lives_get hl.1 hd)) (fun i d u hd hu => ih' i d u hd hu (D.lives_get hl.2 hd))
  | mref id g agg l h hg => exact .mref id g agg l ((hk id (by simpa [D.live] using hl)).trans h) hg
  | cond b d u h h0 ih => exact .cond b d u (fun hb => ih hb (by simpa [D.live] using hl)) h0
  | any u => exact .any u
theorem RepDs.part {ds : List D} {us : List Value} (h : RepDs G w m ds us) {k : Nat → Bool} (hk : ∀ id, k id = true → m' id = m id) (hl : D.lives k ds = true) : RepDs G w m' ds us :=
  ⟨h.1, fun i d u hd hu => (h.2 i d u hd hu).part hk (D.lives_get hl hd)⟩
def dom (ah : AH) (id : Nat) : Bool := (look ah id).isSome
/-- Only these memories are kept. -/
inductive KeepA (ah : AH) (k : Nat → Bool) : AH → Prop
  | nil : KeepA ah k []
  | box {id : Nat} {cs : List D} {r : AH} (h : look ah id = some (.box cs)) (hl : D.lives k cs = true) (hr : KeepA ah k r) : KeepA ah k ((id, .box cs) :: r)
  | row {id ver n : Nat} {e : TypeId} {c : List (List V)} {r : AH} (h : look ah id = some (.row ver n e c)) (hr : KeepA ah k r) : KeepA ah k ((id, .row ver n e c) :: r)
  | mp {id : Nat} {a : Bool} {l : List (List UInt8 × List V)} {r : AH} (h : look ah id = some (.mp a l)) (hr : KeepA ah k r) : KeepA ah k ((id, .mp a l) :: r)
inductive KeepF (fr : Fm) (k : Nat → Bool) : Fm → Prop
  | nil : KeepF fr k []
  | cons {t : Nat} {d : D} {r : Fm} (h : look fr t = some d) (hl : d.live k = true) (hr : KeepF fr k r) : KeepF fr k ((t, d) :: r)
theorem KeepA.at {ah ah' : AH} {k : Nat → Bool} (h : KeepA ah k ah') : ∀ id o, look ah' id = some o → look ah id = some o ∧ ∀ cs, o = .box cs → D.lives k cs = true := by
  induction h with
  | nil => intro id o h; cases h
  | @box i cs r h hl hr ih =>
    intro id o ho
    by_cases hi : i = id
    · subst hi; rw [look_cons_self] at ho; injection ho with ho; subst ho; exact ⟨h, fun cs' he => by injection he with he; subst he; exact hl⟩
    · rw [look_cons_ne _ _ hi] at ho; exact ih id o ho
  | @row i ver n e c r h hr ih =>
    intro id o ho
    by_cases hi : i = id
    · subst hi; rw [look_cons_self] at ho; injection ho with ho; subst ho; exact ⟨h, fun cs' he => by cases he⟩
    · rw [look_cons_ne _ _ hi] at ho; exact ih id o ho
  | @mp i q l r h hr ih =>
    intro id o ho
    by_cases hi : i = id
    · subst hi; rw [look_cons_self] at ho; injection ho with ho; subst ho; exact ⟨h, fun cs' he => by cases he⟩
    · rw [look_cons_ne _ _ hi] at ho; exact ih id o ho
theorem KeepF.at {fr fr' : Fm} {k : Nat → Bool} (h : KeepF fr k fr') : ∀ t d, look fr' t = some d → look fr t = some d ∧ d.live k = true := by
  induction h with
  | nil => intro id o h; cases h
  | @cons t d r h hl hr ih =>
    intro t' d' hd
    by_cases hi : t = t'
    · subst hi; rw [look_cons_self] at hd; injection hd with hd; subst hd; exact ⟨h, hl⟩
    · rw [look_cons_ne _ _ hi] at hd; exact ih t' d' hd
theorem Ok.keepA {ah ah' : AH} (h : Ok X G w (look ah)) (hk : KeepA ah (dom ah') ah') : Ok X G w (look ah') ∧ ∀ id, dom ah' id = true → look ah' id = look ah id := by
  have hat := hk.at
  have hd : ∀ id, dom ah' id = true → look ah' id = look ah id := fun id hi => by
    unfold dom at hi
    cases ho : look ah' id with
    | none => rw [ho] at hi; cases hi
    | some o => exact (hat id o ho).1.symm
  have hne : ∀ id, look ah' id ≠ none → look ah id ≠ none := fun id hi => by
    cases ho : look ah' id with
    | none => exact absurd ho hi
    | some o => rw [(hat id o ho).1]; simp
  refine ⟨⟨fun id o ho => ?_, fun i j g hi hj => h.inj i j g (hne i hi) (hne j hj), fun i g hi => h.apart i g (hne i hi), h.low, h.keep, h.os, h.tape, h.output, h.size, h.s0, h.sk, fun id o hid ho hf => h.pin id o hid (hat id _ ho).1 hf, h.shp⟩, hd⟩
  have h1 := h.ob id o (hat id o ho).1
  cases o with
  | box cs =>
    obtain ⟨g, us, t, h2, h3, h4, h5⟩ := h1
    exact ⟨g, us, t, h2, h3, h4, h5.part hd ((hat id _ ho).2 cs rfl)⟩
  | row ver n e c => exact h1
  | mp agg l => exact h1
theorem weak_keep {fr fr' : Fm} {ah ah' : AH} (ha : KeepA ah (dom ah') ah') (hf : KeepF fr (dom ah') fr') : Weak X fr ah fr' ah' := fun G w a hS => by
  obtain ⟨h1, h2⟩ := hS.ok.keepA ha
  refine ⟨G, h1, fun t => ?_, hS.nt, hS.df⟩
  cases hl : look fr' t with
  | none => unfold Fm.at; rw [hl]; exact .any _
  | some d =>
    obtain ⟨h3, h4⟩ := hf.at t d hl
    rw [Fm.at_eq hl]
    have := hS.fr t
    rw [Fm.at_eq h3] at this
    exact this.part h2 h4
end
/-- What a call comes to. -/
inductive Out where
  | ret (d : D)
  | pan (d : D)
def OutAt (G : Gh) (w : World) (m : Mem) : Out → Ending → Prop
  | .ret d, .returned v => RepD G w m d v
  | .pan d, .panicked chain => ∃ v, chain = [{ v, recovered := false }] ∧ RepD G w m d v
  | _, _ => False
/-- A function's contract: of arguments and memories known so it comes to this, and leaves the memories so. -/
def Con (P : Program) (f : FuncId) (args : List D) (pre : AH) (np : Nat) (out : Out) (post : AH) : Prop :=
  ∀ (K : Nat → Prop) (G : Gh) (w : World) (us : List Value), (∀ g, G.S g → K g) → Ok ⟨P, 0, w, K, G.S, np, G.μ, []⟩ G w (look pre) → RepDs G w (look pre) args us →
    Calls P f us.toArray w fun e w' => ∃ G', Ok ⟨P, 0, w, K, G.S, np, G.μ, []⟩ G' w' (look post) ∧ OutAt G' w' (look post) out e
/-- The parameters' slots. -/
def argsFr : Nat → List D → Fm
  | _, [] => []
  | t, d :: ds => (t, d) :: argsFr (t + 1) ds
theorem argsFr_look : ∀ (ds : List D) (k t : Nat), look (argsFr k ds) t = if k ≤ t then ds[t - k]? else none
  | [], k, t => by simp [argsFr, look]
  | d :: ds, k, t => by
    unfold argsFr
    by_cases h : k = t
    · subst h; rw [look_cons_self]; simp
    · rw [look_cons_ne _ _ h, argsFr_look ds (k + 1) t]
      by_cases h1 : k ≤ t
      · rw [if_pos (by omega), if_pos h1, show t - k = (t - (k + 1)) + 1 from by omega, List.getElem?_cons_succ]
      · rw [if_neg (by omega), if_neg h1]
theorem Ok.nt {X : Cx} {G : Gh} {w : World} {m : Mem} (h : Ok X G w m) (n : Nat) : Ok { X with nt := n } G w m := ⟨h.ob, h.inj, h.apart, h.low, h.keep, h.os, h.tape, h.output, h.size, h.s0, h.sk, h.pin, h.shp⟩
/-- What the results are. -/
inductive ResIs (P : Program) (fr : Fm) (ah : AH) : List ResultVar → List D → Prop
  | nil : ResIs P fr ah [] []
  | tmp {t : Nat} {d : D} {rs : List ResultVar} {ds : List D} (h : look fr t = some d) (hr : ResIs P fr ah rs ds) : ResIs P fr ah (.tmp t :: rs) (d :: ds)
  | cell {t id n : Nat} {ty : TypeId} {b : Bool} {cs : List D} {d : D} {rs : List ResultVar} {ds : List D} (h : look fr t = some (.ptr id 0)) (hm : look ah id = some (.box cs)) (hs : sizeB P ty = some (b, n)) (hn : (b = true ∨ n = 1) ∧ n ≤ cs.length)
      (hd : rd b (cs.take n) = d) (hr : ResIs P fr ah rs ds) : ResIs P fr ah (.cell t ty :: rs) (d :: ds)
def retD (ds : List D) : D := match ds with | [d] => d | ds => .tup ds
def resOne (tmps : Array Value) : ResultVar → Sem Value
  | .tmp t => pure (tmps.getD t undef)
  | .cell c t => do loadVar t (← asAddr (tmps.getD c undef))
theorem run_results {X : Cx} {G : Gh} {w : World} {fr : Fm} {ah : AH} {a : Act} (hO : Ok X G w (look ah)) (hF : FrOk G w (look ah) fr.at a) : ∀ {rs : List ResultVar} {ds : List D}, ResIs X.P fr ah rs ds →
    ∃ us : List Value, (rs.mapM (resOne a.tmps)).run X.P w = .ok us w ∧ RepDs G w (look ah) ds us := by
  intro rs ds h
  induction h with
  | nil => exact ⟨[], by simp, .nil⟩
  | @tmp t d rs ds h hr ih =>
    obtain ⟨us, h1, h2⟩ := ih
    have h3 := hF t
    rw [Fm.at_eq h] at h3
    exact ⟨a.tmps.getD t undef :: us, by simp only [List.mapM_cons, resOne, Sem.run_bind, Sem.run_pure, Result.andThen_ok, h1], .cons h3 h2⟩
  | @cell t id n ty b cs d rs ds h hm hs hn hd hr ih =>
    obtain ⟨us, h1, h2⟩ := ih
    have h3 := hF t
    rw [Fm.at_eq h] at h3
    obtain ⟨g, cs', h4, h5, h6⟩ := rep_ptr h3
    obtain ⟨g', vs, t', k1, k2, k3, k4⟩ := hO.ob id _ hm
    obtain rfl : g' = g := by rw [k1] at h5; simpa using h5
    have hR := k4.take n
    have hl : (vs.take n).length = n := by have := hR.1; rw [this]; simp; omega
    have hrun := run_loadVar_at (w := w) hs g' 0 (vs.take n) hl (fun j u hu => by
      rw [Nat.zero_add, cell_box k2 (id := id) (cs := cs)]
      rw [List.getElem?_take] at hu
      split at hu
      · exact hu
      · cases hu) (fun hb => by rcases hn.1 with h | h <;> simp_all)
    refine ⟨(if b then .agg (vs.take n).toArray else (vs.take n).headD undef) :: us, ?_, .cons (by rw [← hd]; exact rep_rd hR (fun u hu => k3 u (List.mem_of_mem_take hu))) h2⟩
    simp only [List.mapM_cons, resOne, Sem.run_bind, Sem.run_pure, Result.andThen_ok, h4, asAddr, hrun, h1]
def retV (us : List Value) : Value := match us with | [u] => u | us => .tuple us.toArray
theorem rep_ret {G : Gh} {w : World} {m : Mem} {ds : List D} {us : List Value} (h : RepDs G w m ds us) : RepD G w m (retD ds) (retV us) := by
  match ds, us, h with
  | [], [], h => exact .tup [] [] h.1 h.2
  | [d], [u], h => exact h.2 0 d u rfl rfl
  | d :: d' :: ds, u :: u' :: us, h => exact .tup _ _ h.1 h.2
  | [], u :: us, h => have := h.1; simp at this
  | [d], [], h => have := h.1; simp at this
  | [d], u :: u' :: us, h => have := h.1; simp at this
  | d :: d' :: ds, [], h => have := h.1; simp at this
  | d :: d' :: ds, [u], h => have := h.1; simp at this
theorem run_results_of {P : Program} {fn : Func} {w : World} {tmps : Array Value} {us : List Value}
    (h : (fn.results.toList.mapM (resOne tmps)).run P w = .ok us w) : (results fn tmps).run P w = .ok (retV us) w := by
  have e : results fn tmps = (do let vs ← fn.results.mapM (resOne tmps); pure (if h : vs.size = 1 then vs[0] else .tuple vs)) := by
    unfold results
    congr 1
  rw [e, Array.mapM_eq_mapM_toList]
  simp only [Sem.run_bind, Sem.run_map, h, Result.andThen_ok, Sem.run_pure]
  congr 1
  match us with
  | [] => rfl
  | [u] => rfl
  | u :: u' :: us => rfl
/-- What is known of cells stays known where cells stay. -/
def CellsKept (w w' : World) : Prop := ∀ a v, w.cell? a = some v → w'.cell? a = some v
theorem RepV.cells {Z : Nat → Prop} {w w' : World} {x : V} {u : Value} (h : RepV Z w x u) (k : CellsKept w w') : RepV Z w' x u := by
  induction h with
  | bool b => exact .bool b
  | int k n => exact .int k n
  | str l => exact .str l
  | lit v h => exact .lit v h
  | nil A cap hm => exact .nil A cap hm
  | sl c g o n cap us hne hzg hn hs hcap hm hc hr ih => exact .sl c g o n cap us hne hzg hn hs hcap hm (fun i j x hx => k _ _ (hc i j x hx)) ih
theorem RepD.cells {G : Gh} {w w' : World} {m : Mem} {d : D} {u : Value} (h : RepD G w m d u) (k : CellsKept w w') : RepD G w' m d u := by
  induction h with
  | v x u h => exact .v x u (h.cells k)
  | agg cs us hl h1 h ih => exact .agg cs us hl h1 ih
  | tup ds us hl h ih => exact .tup ds us hl ih
  | ptr id off g cs h hg => exact .ptr id off g cs h hg
  | view id ver off len u ver' n e c h hv h1 h2 => exact .view id ver off len u ver' n e c h hv h1 h2
  | ref cs g o us hz hc hr => exact .ref cs g o us hz (fun j x hx => k _ _ (hc j x hx)) (fun j x hx => (hr j x hx).cells k)
  | vptr id ver i j u ver' n e c h hv h1 h2 => exact .vptr id ver i j u ver' n e c h hv h1 h2
  | fn f first caps us vs hl hl' h h' ih ih' => exact .fn f first caps us vs hl hl' ih ih'
  | mref id g agg l h hg => exact .mref id g agg l h hg
  | cond b d u h h0 ih => exact .cond b d u ih h0
  | any u => exact .any u
theorem kept_put {w : World} {D : Nat} {x : Option (List Deferred)} (h : w.heap[D]? = some (.deferred x)) (o : Obj) : CellsKept w (w.putObj D o) := fun a v hv => by
  have hne : a.block ≠ D := fun he => by
    unfold World.cell? at hv
    rw [he, h] at hv
    simp at hv
  exact (World.cell?_of_block (World.putObj_heap_other hne)).trans hv
theorem Ok.putMark {X : Cx} {G : Gh} {w : World} {m : Mem} (h : Ok X G w m) {D : Nat} {x : Option (List Deferred)} (hD : w.heap[D]? = some (.deferred x)) (hw : X.w0.heap.size ≤ D) (o : Obj) : Ok X G (w.putObj D o) m := by
  have hk := kept_put hD o
  have hne : ∀ {g : Nat} {ob : Obj}, w.heap[g]? = some ob → (∀ y, ob ≠ .deferred y) → (w.putObj D o).heap[g]? = some ob := fun {g ob} hg hb => by
    have : g ≠ D := fun he => by rw [he, hD] at hg; injection hg with hg; exact hb _ hg.symm
    rw [World.putObj_heap_other this]; exact hg
  refine ⟨fun id ob ho => ?_, h.inj, h.apart, fun g hg => by rw [World.putObj_size]; exact h.low g hg, fun g hg => ?_, h.os, h.tape, h.output, by rw [World.putObj_size]; exact h.size, h.s0, h.sk, h.pin, h.shp⟩
  · have h1 := h.ob id ob ho
    cases ob with
    | box cs =>
      obtain ⟨g, us, t, h2, h3, h4, h5⟩ := h1
      exact ⟨g, us, t, h2, hne h3 (fun y hy => by cases hy), h4, h5.1, fun i d u hd hu => (h5.2 i d u hd hu).cells hk⟩
    | row ver n e c =>
      obtain ⟨h2, h3, h4, h5, h6⟩ := h1
      refine ⟨h2, h3, h4, h5, ?_⟩
      rcases h6 with h6 | ⟨g, cur, us, fz, e0', hz, h7, h8, h9, h10, h11⟩
      · exact .inl h6
      · exact .inr ⟨g, cur, us, fz, e0', hz, h7, hne h8 (fun y hy => by cases hy), h9, h10, fun i j x hx => (h11 i j x hx).cells hk⟩
    | mp agg l =>
      obtain ⟨g, es, clk, h2, h3, h4, h5⟩ := h1
      refine ⟨g, es, clk, h2, hne h3 (fun y hy => by cases hy), h4, fun i x e hx he => ?_⟩
      obtain ⟨q1, us, q2, q3, q4, q5⟩ := h5 i x e hx he
      exact ⟨q1, us, q2, q3, q4, fun j y u hy hu => (q5 j y u hy hu).cells hk⟩
  · obtain ⟨k1, k2⟩ := h.keep g hg
    exact ⟨k1, (World.putObj_heap_other (by omega)).trans k2⟩
/-- A function's contract, out of the walk of its body. -/
theorem con_of {P : Program} {f : FuncId} {fn : Func} {c : Code} {args : List D} {pre post : AH} {np : Nat} {out : Out} (hf : P.funcs[f]? = some fn) (hb : fn.body = some c) (hargs : args.length ≤ fn.ntmps)
    (h : ∀ (X : Cx) (Q : AX → Fm → AH → Prop), X.P = P → X.nt = fn.ntmps → X.np = np →
      (∀ fr ah rs ds d, fn.results.toList = rs → ResIs P fr ah rs ds → retD ds = d → out = .ret d → KeepA ah (dom post) post → d.live (dom post) = true → Q .ret fr ah ∧ Q .normal fr ah) →
      (∀ fr ah d, out = .pan d → KeepA ah (dom post) post → d.live (dom post) = true → Q (.pan d) fr ah) → aw X c Q (argsFr 0 args) pre) : Con P f args pre np out post := by
  intro K G w us hSK hO hA
  refine callsIn_wide.1 (callsIn_of_wp_marks (n := 0) hf hb trivial (wpIn_wide.2 ?_) rfl)
  have hsz : (us.toArray ++ Array.replicate (fn.ntmps - us.toArray.size) undef).size = fn.ntmps := by simp; have := hA.1; omega
  let X : Cx := ⟨P, fn.ntmps, w, K, G.S, np, G.μ, []⟩
  let Q : AX → Fm → AH → Prop := fun e fr ah => match e with
    | .ret | .normal => ∃ ds d, ResIs P fr ah fn.results.toList ds ∧ retD ds = d ∧ out = .ret d ∧ KeepA ah (dom post) post ∧ d.live (dom post) = true
    | .pan d => out = .pan d ∧ KeepA ah (dom post) post ∧ d.live (dom post) = true
    | _ => False
  have hw := h X Q rfl rfl rfl (fun fr ah rs ds d e1 e2 e3 e4 e5 e6 => by subst e1; exact ⟨⟨ds, d, e2, e3, e4, e5, e6⟩, ⟨ds, d, e2, e3, e4, e5, e6⟩⟩) (fun fr ah d e1 e2 e3 => ⟨e1, e2, e3⟩)
    G w { tmps := us.toArray ++ Array.replicate (fn.ntmps - us.toArray.size) undef, defers := [] } ⟨hO.nt _, fun t => ?_, hsz, DfOk.nil⟩
  · refine wp_mono hw fun e a w' q => ?_
    have fin0 : ∀ (w' : World) G' fr ah, Ok X G' w' (look ah) → FrOk G' w' (look ah) fr.at a → (∃ ds d, ResIs P fr ah fn.results.toList ds ∧ retD ds = d ∧ out = .ret d ∧ KeepA ah (dom post) post ∧ d.live (dom post) = true) →
        ∃ v, (results fn a.tmps).run P w' = .ok v w' ∧ ∃ G', Ok ⟨P, 0, w, K, G.S, np, G.μ, []⟩ G' w' (look post) ∧ OutAt G' w' (look post) out (.returned v) := by
      intro w' G' fr ah hok hfr ⟨ds, d, e2, e3, e4, e5, e6⟩
      obtain ⟨vs, h1, h2⟩ := run_results (X := X) hok hfr e2
      obtain ⟨h3, h4⟩ := hok.keepA e5
      refine ⟨_, run_results_of h1, G', h3.nt 0, ?_⟩
      subst e4
      have h5 : RepD G' w' (look ah) d (retV vs) := by
        subst e3
        exact rep_ret h2
      exact h5.part h4 e6
    have fin : ∀ G' fr ah, St X G' w' a fr ah → (∃ ds d, ResIs P fr ah fn.results.toList ds ∧ retD ds = d ∧ out = .ret d ∧ KeepA ah (dom post) post ∧ d.live (dom post) = true) →
        LeavesInM Fence.wide 0 P fn a.tmps (fun e w' => ∃ G', Ok ⟨P, 0, w, K, G.S, np, G.μ, []⟩ G' w' (look post) ∧ OutAt G' w' (look post) out e) a.defers .returning w' := by
      intro G' fr ah hS hq
      obtain ⟨Ds, hd, hnd, hDs⟩ := hS.df
      rw [hd]
      show LeavesInM _ _ _ _ _ _ (Ds.map mark ++ []) _ _
      clear hd
      have key : ∀ (Ds : List Nat) (w' : World), Ds.Nodup → (∀ D ∈ Ds, w.heap.size ≤ D ∧ w'.heap[D]? = some (.deferred (some []))) → Ok X G' w' (look ah) → FrOk G' w' (look ah) fr.at a →
          LeavesInM Fence.wide 0 P fn a.tmps (fun e w' => ∃ G', Ok ⟨P, 0, w, K, G.S, np, G.μ, []⟩ G' w' (look post) ∧ OutAt G' w' (look post) out e) (Ds.map mark ++ []) .returning w' := by
        intro Ds
        induction Ds with
        | nil => intro w' _ _ h1 h2; exact fin0 w' G' fr ah h1 h2 hq
        | cons D Ds ih =>
          intro w' hn hD h1 h2
          obtain ⟨d2, d4⟩ := hD D List.mem_cons_self
          refine ⟨(fun h => by cases h), .inl ⟨D, _, rfl, run_takeDeferred d4, ?_⟩⟩
          refine ih _ (List.nodup_cons.1 hn).2 (fun D' hD' => ?_) (h1.putMark d4 d2 _) (fun t => (h2 t).cells (kept_put d4 _))
          obtain ⟨e1, e2⟩ := hD D' (List.mem_cons_of_mem _ hD')
          exact ⟨e1, (World.putObj_heap_other (fun he => (List.nodup_cons.1 hn).1 (by rw [← he]; exact hD'))).trans e2⟩
      exact key Ds w' hnd (fun D hD => ⟨(hDs D hD).1, (hDs D hD).2.2.1⟩) hS.ok hS.fr
    cases e with
    | normal => obtain ⟨G', fr, ah, hS, hq⟩ := q; exact fin G' fr ah hS hq
    | ret => obtain ⟨G', fr, ah, hS, hq⟩ := q; exact fin G' fr ah hS hq
    | exit id => obtain ⟨G', fr, ah, hS, hq⟩ := q; exact hq.elim
    | goto l => obtain ⟨G', fr, ah, hS, hq⟩ := q; exact hq.elim
    | panic chain =>
      obtain ⟨G', fr, ah, d, v, hS, h1, h2, rfl, h4, h5⟩ := q
      have pan : ∀ w' , Ok X G' w' (look ah) → RepD G' w' (look ah) d v → ∃ G', Ok ⟨P, 0, w, K, G.S, np, G.μ, []⟩ G' w' (look post) ∧ OutAt G' w' (look post) (.pan d) (.panicked chain) := fun w' hok hd => by
        obtain ⟨h6, h7⟩ := hok.keepA h4
        exact ⟨G', h6.nt 0, v, h1, hd.part h7 h5⟩
      obtain ⟨Ds, hd, hnd, hDs⟩ := hS.df
      show LeavesInM _ _ _ _ _ _ a.defers _ _
      rw [hd]
      show LeavesInM _ _ _ _ _ _ (Ds.map mark ++ []) _ _
      clear hd
      have key : ∀ (Ds : List Nat) (w' : World), Ds.Nodup → (∀ D ∈ Ds, w.heap.size ≤ D ∧ w'.heap[D]? = some (.deferred (some []))) → Ok X G' w' (look ah) → RepD G' w' (look ah) d v →
          LeavesInM Fence.wide 0 P fn a.tmps (fun e w' => ∃ G', Ok ⟨P, 0, w, K, G.S, np, G.μ, []⟩ G' w' (look post) ∧ OutAt G' w' (look post) (.pan d) e) (Ds.map mark ++ []) (.panicking chain) w' := by
        intro Ds
        induction Ds with
        | nil => intro w' _ _ h1 h2; exact pan w' h1 h2
        | cons D Ds ih =>
          intro w' hn hD h1 h2
          obtain ⟨d2, d4⟩ := hD D List.mem_cons_self
          refine ⟨(fun h => by cases h), .inl ⟨D, _, rfl, run_takeDeferred d4, ?_⟩⟩
          refine ih _ (List.nodup_cons.1 hn).2 (fun D' hD' => ?_) (h1.putMark d4 d2 _) (h2.cells (kept_put d4 _))
          obtain ⟨e1, e2⟩ := hD D' (List.mem_cons_of_mem _ hD')
          exact ⟨e1, (World.putObj_heap_other (fun he => (List.nodup_cons.1 hn).1 (by rw [← he]; exact hD'))).trans e2⟩
      exact key Ds w' hnd (fun D hD => ⟨(hDs D hD).1, (hDs D hD).2.2.1⟩) hS.ok h2
    | outgrown => exact q.elim
  · unfold Fm.at
    rw [argsFr_look]
    simp only [Nat.zero_le, if_true, Nat.sub_zero]
    cases hd : args[t]? with
    | none => exact .any _
    | some d =>
      have hlt : t < us.length := by rw [hA.1]; exact (List.getElem?_eq_some_iff.1 hd).1
      refine hA.2 t d _ hd ?_
      rw [Array.getD_eq_getD_getElem?, Array.getElem?_append_left (by simpa using hlt)]
      simp [hlt]
end Go.Proofs.YthflfnehdlpmdaaDoor
