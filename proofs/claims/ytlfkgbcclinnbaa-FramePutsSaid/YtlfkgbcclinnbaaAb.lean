/- Abstract states: pure values, what a frame's slots and the memory of one's own hold, and what keeps that. No program, no condition. -/
import Derived.Test.YtlfkgbcclinnbaaBase
import Derived.Below
import Derived.Laws.OwnMore
import Derived.Maps.AppendAt
import Derived.Laws.Rows
namespace Go.Proofs.Ytlfkgbcclinnbaa
set_option linter.all false
open Go Go.RowKit

/-- A value that will never change: it holds no place of a memory that may still be written. -/
inductive V where
  | bool (b : Bool)
  | int (k : IntKind) (n : Int)
  | str (l : List UInt8)
  | sl (c : List (List V))
  | lit (v : Value)
/-- What a slot, or a cell, is known to hold. -/
inductive D where
  | v (x : V)
  | agg (cs : List D)
  | tup (ds : List D)
  | ptr (id off : Nat)
  | view (id ver off len : Nat)
  | ref (cs : List V)
  | vptr (id ver i j : Nat)
  | fn (f : Fn) (first caps : List D)
  | cond (b : Bool) (d : D)
  | any
/-- A memory of one's own: a variable's cells, or a slice's row. -/
inductive Ob where
  | box (cs : List D)
  | row (ver n : Nat) (e : TypeId) (c : List (List V))
/-- Where the own memories lie, what room the rows have, and which blocks are never written again. -/
structure Gh where
  μ : Nat → Option Nat
  cap : Nat → Nat
  S : Nat → Prop
abbrev Mem := Nat → Option Ob
def elem? (c : List (List V)) (i j : Nat) : Option V := (c[i]?).bind (·[j]?)
inductive RepV (Z : Nat → Prop) (w : World) : V → Value → Prop
  | bool (b : Bool) : RepV Z w (.bool b) (.bool b)
  | int (k : IntKind) (n : Int) : RepV Z w (.int k n) (.int k n)
  | str (l : List UInt8) : RepV Z w (.str l) (.string (S l))
  | lit (v : Value) (h : v.oneCell' = true) : RepV Z w (.lit v) v
  | nil (A : Option Addr) (cap : Nat) (hm : cap ≤ maxLen) : RepV Z w (.sl []) (.slice A 0 cap)
  | sl (c : List (List V)) (g o n cap : Nat) (us : Nat → Nat → Value) (hne : 0 < c.length) (hz : Z g) (hn : 0 < n) (hs : ∀ e ∈ c, e.length = n) (hcap : c.length ≤ cap) (hm : cap ≤ maxLen)
      (hc : ∀ i j x, elem? c i j = some x → w.cell? ⟨g, o + (i * n + j), none⟩ = some (us i j)) (hr : ∀ i j x, elem? c i j = some x → RepV Z w x (us i j)) :
      RepV Z w (.sl c) (.slice (some ⟨g, o, none⟩) c.length cap)
theorem RepV.one {Z : Nat → Prop} {w : World} {x : V} {u : Value} (h : RepV Z w x u) : u.oneCell' = true := by
  cases h <;> first | rfl | assumption
theorem RepV.mono {Z Z' : Nat → Prop} {w w' : World} {x : V} {u : Value} (h : RepV Z w x u) (hz : ∀ g, Z g → Z' g ∧ w'.heap[g]? = w.heap[g]?) : RepV Z' w' x u := by
  induction h with
  | bool b => exact .bool b
  | int k n => exact .int k n
  | str l => exact .str l
  | lit v h => exact .lit v h
  | nil A cap hm => exact .nil A cap hm
  | sl c g o n cap us hne hzg hn hs hcap hm hc hr ih =>
    exact .sl c g o n cap us hne (hz g hzg).1 hn hs hcap hm (fun i j x hx => by
      have := hc i j x hx
      rwa [World.cell?_of_block (w := w) (w' := w') (by exact (hz g hzg).2)]) (fun i j x hx => ih i j x hx)
/-- Where a view on a row of one's own lies. -/
def ViewAt (G : Gh) (id n off len : Nat) (u : Value) : Prop :=
  ∃ A cap, u = .slice A len cap ∧ off + cap = G.cap id ∧ len ≤ cap ∧ (A = (G.μ id).map (fun g => ⟨g, off * n, none⟩) ∨ (len = 0 ∧ off ≠ 0))
inductive RepD (G : Gh) (w : World) (ah : Mem) : D → Value → Prop
  | v (x : V) (u : Value) (h : RepV G.S w x u) : RepD G w ah (.v x) u
  | agg (cs : List D) (us : List Value) (hl : us.length = cs.length) (h1 : ∀ u ∈ us, u.oneCell' = true) (h : ∀ (i : Nat) (d : D) (u : Value), cs[i]? = some d → us[i]? = some u → RepD G w ah d u) : RepD G w ah (.agg cs) (.agg us.toArray)
  | tup (ds : List D) (us : List Value) (hl : us.length = ds.length) (h : ∀ (i : Nat) (d : D) (u : Value), ds[i]? = some d → us[i]? = some u → RepD G w ah d u) : RepD G w ah (.tup ds) (.tuple us.toArray)
  | ptr (id off g : Nat) (cs : List D) (h : ah id = some (.box cs)) (hg : G.μ id = some g) : RepD G w ah (.ptr id off) (.pointer (some ⟨g, off, none⟩))
  | view (id ver off len : Nat) (u : Value) (ver' n : Nat) (e : TypeId) (c : List (List V)) (h : ah id = some (.row ver' n e c)) (hv : ver ≤ ver') (h1 : u.oneCell' = true)
      (h2 : ver = ver' → off + len ≤ c.length ∧ ViewAt G id n off len u) : RepD G w ah (.view id ver off len) u
  | ref (cs : List V) (g o : Nat) (us : Nat → Value) (hz : G.S g) (hc : ∀ (j : Nat) (x : V), cs[j]? = some x → w.cell? ⟨g, o + j, none⟩ = some (us j)) (hr : ∀ (j : Nat) (x : V), cs[j]? = some x → RepV G.S w x (us j)) :
      RepD G w ah (.ref cs) (.pointer (some ⟨g, o, none⟩))
  | vptr (id ver i j : Nat) (u : Value) (ver' n : Nat) (e : TypeId) (c : List (List V)) (h : ah id = some (.row ver' n e c)) (hv : ver ≤ ver') (h1 : u.oneCell' = true)
      (h2 : ver = ver' → i < c.length ∧ ∃ g, G.μ id = some g ∧ u = .pointer (some ⟨g, i * n + j, none⟩)) : RepD G w ah (.vptr id ver i j) u
  | fn (f : Fn) (first caps : List D) (us vs : List Value) (hl : us.length = first.length) (hl' : vs.length = caps.length) (h : ∀ (i : Nat) (d : D) (u : Value), first[i]? = some d → us[i]? = some u → RepD G w ah d u)
      (h' : ∀ (i : Nat) (d : D) (u : Value), caps[i]? = some d → vs[i]? = some u → RepD G w ah d u) : RepD G w ah (.fn f first caps) (.func f us.toArray vs.toArray)
  | cond (b : Bool) (d : D) (u : Value) (h : b = true → RepD G w ah d u) (h0 : b = false → u = undef) : RepD G w ah (.cond b d) u
  | any (u : Value) : RepD G w ah .any u
/-- A value of one cell, whatever it is. -/
def D.one : D → Bool
  | .v _ | .ptr _ _ | .view _ _ _ _ | .ref _ | .vptr _ _ _ _ | .fn _ _ _ => true
  | _ => false
section
variable {G G' : Gh} {w w' : World} {ah ah' : Mem}
theorem RepD.one {d : D} {u : Value} (h : RepD G w ah d u) (hd : d.one = true) : u.oneCell' = true := by
  cases h <;> first | rfl | assumption | (simp [D.one] at hd; done) | (rename_i h; exact h.one)
/-- What is known stays known. -/
structure Ext (G : Gh) (w : World) (ah : Mem) (G' : Gh) (w' : World) (ah' : Mem) : Prop where
  s : ∀ g, G.S g → G'.S g ∧ w'.heap[g]? = w.heap[g]?
  box : ∀ id cs, ah id = some (.box cs) → ∃ cs', ah' id = some (.box cs') ∧ G'.μ id = G.μ id
  row : ∀ id ver n e c, ah id = some (.row ver n e c) → ∃ ver' c', ah' id = some (.row ver' n e c') ∧ ver ≤ ver' ∧ (ver = ver' → c.length ≤ c'.length ∧ G'.μ id = G.μ id ∧ G'.cap id = G.cap id)
theorem Ext.refl : Ext G w ah G w ah := ⟨fun _ h => ⟨h, rfl⟩, fun _ cs h => ⟨cs, h, rfl⟩, fun _ ver _ _ c h => ⟨ver, c, h, Nat.le_refl _, fun _ => ⟨Nat.le_refl _, rfl, rfl⟩⟩⟩
theorem Ext.trans {G1 G2 G3 : Gh} {w1 w2 w3 : World} {a1 a2 a3 : Mem} (h : Ext G1 w1 a1 G2 w2 a2) (k : Ext G2 w2 a2 G3 w3 a3) : Ext G1 w1 a1 G3 w3 a3 := by
  refine ⟨fun g hg => ?_, fun id cs hi => ?_, fun id ver n e c hi => ?_⟩
  · obtain ⟨h1, h2⟩ := h.s g hg
    obtain ⟨h3, h4⟩ := k.s g h1
    exact ⟨h3, h4.trans h2⟩
  · obtain ⟨cs1, h1, h2⟩ := h.box id cs hi
    obtain ⟨cs2, h3, h4⟩ := k.box id cs1 h1
    exact ⟨cs2, h3, h4.trans h2⟩
  · obtain ⟨v1, c1, h1, h2, h3⟩ := h.row id ver n e c hi
    obtain ⟨v2, c2, h4, h5, h6⟩ := k.row id v1 n e c1 h1
    refine ⟨v2, c2, h4, Nat.le_trans h2 h5, fun he => ?_⟩
    obtain rfl : ver = v1 := by omega
    obtain ⟨a1, a2, a3⟩ := h3 rfl
    obtain ⟨b1, b2, b3⟩ := h6 he
    exact ⟨Nat.le_trans a1 b1, b2.trans a2, b3.trans a3⟩
theorem RepV.ext {x : V} {u : Value} (h : RepV G.S w x u) (k : Ext G w ah G' w' ah') : RepV G'.S w' x u := h.mono k.s
theorem RepD.ext {d : D} {u : Value} (h : RepD G w ah d u) (k : Ext G w ah G' w' ah') : RepD G' w' ah' d u := by
  induction h with
  | v x u h => exact .v x u (h.ext k)
  | agg cs us hl h1 h ih => exact .agg cs us hl h1 ih
  | tup ds us hl h ih => exact .tup ds us hl ih
  | ptr id off g cs h hg =>
    obtain ⟨cs', h1, h2⟩ := k.box id cs h
    exact .ptr id off g cs' h1 (h2.trans hg)
  | view id ver off len u ver' n e c h hv h1 h2 =>
    obtain ⟨v1, c1, a1, a2, a3⟩ := k.row id ver' n e c h
    refine .view id ver off len u v1 n e c1 a1 (Nat.le_trans hv a2) h1 fun he => ?_
    obtain rfl : ver = ver' := by omega
    obtain ⟨b1, A, cap, b2, b3, b4, b5⟩ := h2 rfl
    obtain ⟨c1, c2, c3⟩ := a3 he
    exact ⟨by omega, A, cap, b2, by rw [c3]; exact b3, b4, by rw [c2]; exact b5⟩
  | vptr id ver i j u ver' n e c h hv h1 h2 =>
    obtain ⟨v1, c1, a1, a2, a3⟩ := k.row id ver' n e c h
    refine .vptr id ver i j u v1 n e c1 a1 (Nat.le_trans hv a2) h1 fun he => ?_
    obtain rfl : ver = ver' := by omega
    obtain ⟨b1, g, b2, b3⟩ := h2 rfl
    obtain ⟨c1, c2, c3⟩ := a3 he
    exact ⟨by omega, g, c2.trans b2, b3⟩
  | ref cs g o us hz hc hr =>
    refine .ref cs g o us (k.s g hz).1 (fun j x hx => ?_) (fun j x hx => (hr j x hx).ext k)
    rw [World.cell?_of_block (w := w) (w' := w') (by exact (k.s g hz).2)]
    exact hc j x hx
  | fn f first caps us vs hl hl' h h' ih ih' => exact .fn f first caps us vs hl hl' ih ih'
  | cond b d u h h0 ih => exact .cond b d u ih h0
  | any u => exact .any u
/-- A list of values, each as it is known. -/
def RepDs (G : Gh) (w : World) (ah : Mem) (ds : List D) (us : List Value) : Prop := us.length = ds.length ∧ ∀ (i : Nat) (d : D) (u : Value), ds[i]? = some d → us[i]? = some u → RepD G w ah d u
theorem RepDs.nil : RepDs G w ah [] [] := ⟨rfl, fun _ _ _ h => by simp at h⟩
theorem RepDs.cons {d : D} {u : Value} {ds : List D} {us : List Value} (h : RepD G w ah d u) (k : RepDs G w ah ds us) : RepDs G w ah (d :: ds) (u :: us) :=
  ⟨by simp [k.1], fun i x y hx hy => by
    cases i with
    | zero => simp at hx hy; subst hx hy; exact h
    | succ i => simp at hx hy; exact k.2 i x y hx hy⟩
theorem RepDs.ext {ds : List D} {us : List Value} (h : RepDs G w ah ds us) (k : Ext G w ah G' w' ah') : RepDs G' w' ah' ds us := ⟨h.1, fun i d u a b => (h.2 i d u a b).ext k⟩
/-- What is known of a memory of one's own. -/
def RowAt (G : Gh) (w : World) (id n : Nat) (e : TypeId) (c : List (List V)) : Prop :=
  (∀ x ∈ c, x.length = n) ∧ 0 < n ∧ c.length ≤ G.cap id ∧ G.cap id ≤ maxLen ∧
  ((G.μ id = none ∧ G.cap id = 0) ∨
   ∃ (g : Nat) (cur : Array Value) (us : Nat → Nat → Value), G.μ id = some g ∧ w.heap[g]? = some (.cells cur e (0, 0)) ∧ cur.size = G.cap id * n ∧ (∀ i j x, elem? c i j = some x → cur[i * n + j]? = some (us i j)) ∧ ∀ i j x, elem? c i j = some x → RepV G.S w x (us i j))
def BoxAt (G : Gh) (w : World) (ah : Mem) (id : Nat) (cs : List D) : Prop :=
  ∃ g us t, G.μ id = some g ∧ w.heap[g]? = some (.cells us.toArray t (0, 0)) ∧ (∀ u ∈ us, u.oneCell' = true) ∧ RepDs G w ah cs us
def ObAt (G : Gh) (w : World) (ah : Mem) (id : Nat) : Ob → Prop
  | .box cs => BoxAt G w ah id cs
  | .row _ n e c => RowAt G w id n e c
/-- What a function's body may not touch, and how it found the world. -/
structure Cx where
  P : Program
  nt : Nat
  w0 : World
  K : Nat → Prop
  S0 : Nat → Prop
  np : Nat
  pin : Nat → Option Nat
structure Ok (X : Cx) (G : Gh) (w : World) (ah : Mem) : Prop where
  ob : ∀ id o, ah id = some o → ObAt G w ah id o
  inj : ∀ i j g, ah i ≠ none → ah j ≠ none → G.μ i = some g → G.μ j = some g → i = j
  apart : ∀ i g, ah i ≠ none → G.μ i = some g → ¬ G.S g ∧ ¬ X.K g
  low : ∀ g, G.S g → g < w.heap.size
  keep : ∀ g, X.K g → g < X.w0.heap.size ∧ w.heap[g]? = X.w0.heap[g]?
  os : w.os = X.w0.os
  tape : w.tape = X.w0.tape
  output : w.output = X.w0.output
  size : X.w0.heap.size ≤ w.heap.size
  s0 : ∀ g, X.S0 g → G.S g
  sk : ∀ g, G.S g → X.K g → X.S0 g
  pin : ∀ id cs, id < X.np → ah id = some (.box cs) → G.μ id = X.pin id
end
end Go.Proofs.Ytlfkgbcclinnbaa
