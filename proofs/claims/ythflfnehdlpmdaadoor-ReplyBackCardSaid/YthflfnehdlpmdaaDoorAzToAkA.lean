/- Abstract states: a function's body walked in one world; a region that holds a call of yield. No program, no condition. -/
import Derived.Test.YthflfnehdlpmdaaDoorHdCToAv
import Derived.Test.YthflfnehdlpmdaaDoorAy
import Derived.Lib.BufferAt
import Derived.Lib.BufferKept
namespace Go.Proofs.YthflfnehdlpmdaaDoor
set_option linter.all false
open Go Go.RowKit
/-- What a body that runs in one world knows of it. -/
structure Here (X : Cx) (K : Nat → Prop) (G : Gh) (w : World) : Prop where
  w0 : X.w0 = w
  K : X.K = K
  S0 : X.S0 = G.S
  pin : X.pin = G.μ
section
variable {X : Cx} {Q : AX → Fm → AH → Prop} {fr : Fm} {ah : AH} {r : Option Nat}
end
end Go.Proofs.YthflfnehdlpmdaaDoor

/- Abstract states: a call that is lent a box and the row that it speaks of; a reference beside nil. No program, no condition. -/
namespace Go.Proofs.YthflfnehdlpmdaaDoor
set_option linter.all false
open Go Go.RowKit
section
variable {X : Cx} {o : Oper} {f : Nat → D} {m : Mem} {d : D}
end
end Go.Proofs.YthflfnehdlpmdaaDoor

/- Abstract states: a part of a body behind which all old memory is as it was; what it read may be taken as settled within it. No program, no condition. -/
namespace Go.Proofs.YthflfnehdlpmdaaDoor
set_option linter.all false
open Go Go.RowKit
/-- A context that holds all of a world still. -/
structure Still (Y X : Cx) (w : World) (ds : List Deferred) : Prop where
  P : Y.P = X.P
  nt : Y.nt = X.nt
  w0 : Y.w0 = w
  K : Y.K = fun k => k < w.heap.size
  S0 : Y.S0 = fun k => k < w.heap.size
  np : Y.np = 0
  df : Y.df = ds
section
variable {X Y : Cx} {w : World} {ds : List Deferred}
end
/-- x[i:j] of a view. -/
theorem stepU_sliceV {X : Cx} {o : Oper} {f : Nat → D} {m : Mem} {x : Operand} {lo hi : Option Operand} {t e e' : TypeId} {c : List (List V)} {id ver off len n : Nat} {i j : Option Nat} {b : Bool} (ho : o.op = .slice t x lo hi none) (ht : X.P.underlying t = some (.slice e)) (hs : sizeB X.P e = some (b, n)) (hx : Ev f x (.view id ver off len)) (hm : m id = some (.row ver n e' c)) (hlo : EvO f lo i) (hhi : EvO f hi j)
    (h1 : i.getD 0 ≤ j.getD len) (h2 : j.getD len ≤ len) {off' len' : Nat} (h3 : off' = off + i.getD 0) (h4 : len' = j.getD len - i.getD 0) : StepU X o f m (.view id ver off' len') [] [id] :=
  stepU_pure fun f' m' hf hT G w a hO hF => by
    subst h3 h4
    have hm' := (hT id (by simp)).trans hm
    obtain ⟨v1, A, cap, hu, a2, a3, a4⟩ := rep_view (ev_at hx (by simp [ho, Op.operands]) hf hF) hm'
    obtain ⟨k1, e1⟩ := hlo.at hF (fun t ht => hf t (by subst ht; simp [ho, Op.operands]))
    obtain ⟨k2, e2⟩ := hhi.at hF (fun t ht => hf t (by subst ht; simp [ho, Op.operands]))
    have hb := run_bounds (P := X.P) (w := w) true len cap i j k1 k2 h1 (by omega)
    refine ⟨.slice (if cap = i.getD 0 then A else A.map (·.add (i.getD 0 * n))) (j.getD len - i.getD 0) (cap - i.getD 0), ?_, .view id ver _ _ _ ver n e' c hm' (Nat.le_refl _) rfl fun _ => ⟨by omega, _, _, rfl, by omega, by omega, ?_⟩⟩
    · simp only [execOp, ho, hu, e1, e2, Instr.sliceAt, Sem.run_bind, run_underlying ht, Result.andThen_ok, Instr.slice, Option.map_none, hb, (run_sizeB hs w).1, Sem.run_pure]
    · by_cases hc : cap = i.getD 0
      · rw [if_pos hc]
        by_cases h0 : i.getD 0 = 0
        · rw [h0, Nat.add_zero]
          rcases a4 with a4 | ⟨a4, a5⟩
          · exact .inl a4
          · exact .inr ⟨by omega, a5⟩
        · exact .inr ⟨by omega, by omega⟩
      · rw [if_neg hc]
        rcases a4 with a4 | ⟨a4, a5⟩
        · left
          rw [a4]
          cases G.μ id with
          | none => rfl
          | some g => simp only [Option.map_some, addr_add]; rw [Nat.add_mul]
        · right; exact ⟨by omega, by omega⟩
theorem z_sliceV {X : Cx} {f : Nat → D} {m : Mem} {dst : Option Tmp} {ty : TypeId} {ps : String} {af : Array Edge} {gd : Option (Nat × Bool)} {x : Operand} {lo hi : Option Operand} {t e e' : TypeId} {c : List (List V)} {id ver off len n : Nat} {i j : Option Nat} {b : Bool} (ht : X.P.underlying t = some (.slice e)) (hs : sizeB X.P e = some (b, n)) (hx : Ev f x (.view id ver off len) := by first | exact ev_tmp rfl | exact ev_cond (ev_tmp rfl) (by assumption) | (refine ev_cond (ev_tmp rfl) ?_; simp_all; done)) (hm : m id = some (.row ver n e' c) := by exact rfl) (hlo : EvO f lo i := by first | exact .no | exact .yes (ev_int _ _) rfl | exact .yes (ev_tmp rfl) (by first | rfl | omega)) (hhi : EvO f hi j := by first | exact .no | exact .yes (ev_int _ _) rfl | exact .yes (ev_tmp rfl) (by first | rfl | omega))
    (h1 : i.getD 0 ≤ j.getD len := by first | omega | (simp; done) | (simp; omega)) (h2 : j.getD len ≤ len := by first | omega | (simp; done) | (simp; omega)) {off' len' : Nat} (h3 : off' = off + i.getD 0 := by exact rfl) (h4 : len' = j.getD len - i.getD 0 := by exact rfl) : StepU X ⟨dst, .slice t x lo hi none, ty, ps, af, gd⟩ f m (.view id ver off' len') [] [id] := stepU_sliceV (ho := rfl) (ht := ht) (hs := hs) (hx := hx) (hm := hm) (hlo := hlo) (hhi := hhi) (h1 := h1) (h2 := h2) (h3 := h3) (h4 := h4)
end Go.Proofs.YthflfnehdlpmdaaDoor

/- Abstract states: the rest of a body as if begun anew; what does not speak of settled memory; a buffer that the library writes. No program, no condition. -/
namespace Go.Proofs.YthflfnehdlpmdaaDoor
set_option linter.all false
open Go Go.RowKit
/-- A value that speaks of no memory. -/
def V.free : V → Bool
  | .sl [] => true
  | .sl (_ :: _) => false
  | _ => true
mutual
/-- What speaks of no settled memory. -/
def D.free : D → Bool
  | .v x => x.free
  | .agg cs => D.frees cs
  | .tup ds => D.frees ds
  | .ref _ => false
  | .fn _ a b => D.frees a && D.frees b
  | .cond _ d => d.free
  | _ => true
def D.frees : List D → Bool
  | [] => true
  | d :: ds => d.free && D.frees ds
end
theorem D.frees_at : ∀ {ds : List D} {i : Nat} {d : D}, D.frees ds = true → ds[i]? = some d → d.free = true
  | [], _, _, _, h => by simp at h
  | d :: ds, 0, d', h, hi => by
    injection hi with hi; subst hi
    unfold D.frees at h; rw [Bool.and_eq_true] at h; exact h.1
  | d :: ds, i + 1, d', h, hi => by
    unfold D.frees at h; rw [Bool.and_eq_true] at h
    exact D.frees_at h.2 (by simpa using hi)
theorem RepV.free {Z Z' : Nat → Prop} {w w' : World} {x : V} {u : Value} (h : RepV Z w x u) (hx : x.free = true) : RepV Z' w' x u := by
  cases h with
  | bool b => exact .bool b
  | int k n => exact .int k n
  | str l => exact .str l
  | lit _ h => exact .lit _ h
  | nil A cap hm => exact .nil A cap hm
  | sl c g o n cap us hne hz hn hs hcap hm hc hr =>
    cases c with
    | nil => simp at hne
    | cons a c => cases hx
/-- What is known of one's own memory stays known. -/
structure ExtM (G : Gh) (m : Mem) (G' : Gh) (m' : Mem) : Prop where
  box : ∀ id cs, m id = some (.box cs) → ∃ cs', m' id = some (.box cs') ∧ G'.μ id = G.μ id
  row : ∀ id ver n e c, m id = some (.row ver n e c) → ∃ ver' c', m' id = some (.row ver' n e c') ∧ ver ≤ ver' ∧ (ver = ver' → c.length ≤ c'.length ∧ G'.μ id = G.μ id ∧ G'.cap id = G.cap id)
  mp : ∀ id a l, m id = some (.mp a l) → ∃ a' l', m' id = some (.mp a' l') ∧ G'.μ id = G.μ id
theorem ExtM.refl {G G' : Gh} {m : Mem} (hμ : G'.μ = G.μ) (hc : G'.cap = G.cap) : ExtM G m G' m := ⟨fun id cs h => ⟨cs, h, by rw [hμ]⟩, fun id v n e c h => ⟨v, c, h, Nat.le_refl _, fun _ => ⟨Nat.le_refl _, by rw [hμ], by rw [hc]⟩⟩, fun id a l h => ⟨a, l, h, by rw [hμ]⟩⟩
theorem RepD.free {G G' : Gh} {w w' : World} {m m' : Mem} {d : D} {u : Value} (h : RepD G w m d u) (k : ExtM G m G' m') (hd : d.free = true) : RepD G' w' m' d u := by
  induction h with
  | v x u h => exact .v x u (h.free hd)
  | agg cs us hl h1 h ih => exact .agg cs us hl h1 fun i d u hd' hu => ih i d u hd' hu (D.frees_at hd hd')
  | tup ds us hl h ih => exact .tup ds us hl fun i d u hd' hu => ih i d u hd' hu (D.frees_at hd hd')
  | ptr id off g cs h hg =>
    obtain ⟨cs', h1, h2⟩ := k.box id cs h
    exact .ptr id off g cs' h1 (h2.trans hg)
  | view id ver off len u ver' n e c h hv h1 h2 =>
    obtain ⟨v1, c1, a1, a2, a3⟩ := k.row id ver' n e c h
    refine .view id ver off len u v1 n e c1 a1 (Nat.le_trans hv a2) h1 fun he => ?_
    obtain rfl : ver = ver' := by omega
    obtain ⟨b1, A, cap, b2, b3, b4, b5⟩ := h2 rfl
    obtain ⟨c1, c2, c3⟩ := a3 he
    exact ⟨by omega, A, cap, b2, by rw [c3]; exact b3, b4, by rw [c2]; exact b5⟩
  | ref cs g o us hz hc hr => cases hd
  | vptr id ver i j u ver' n e c h hv h1 h2 =>
    obtain ⟨v1, c1, a1, a2, a3⟩ := k.row id ver' n e c h
    refine .vptr id ver i j u v1 n e c1 a1 (Nat.le_trans hv a2) h1 fun he => ?_
    obtain rfl : ver = ver' := by omega
    obtain ⟨b1, g, b2, b3⟩ := h2 rfl
    obtain ⟨c1, c2, c3⟩ := a3 he
    exact ⟨by omega, g, c2.trans b2, b3⟩
  | fn f a b us vs hl hl' h h' ih ih' =>
    unfold D.free at hd; rw [Bool.and_eq_true] at hd
    exact .fn f a b us vs hl hl' (fun i d u hd' hu => ih i d u hd' hu (D.frees_at hd.1 hd')) (fun i d u hd' hu => ih' i d u hd' hu (D.frees_at hd.2 hd'))
  | mref id g agg l h hg =>
    obtain ⟨a', l', h1, h2⟩ := k.mp id agg l h
    exact .mref id g a' l' h1 (h2.trans hg)
  | cond b d u h h0 ih => exact .cond b d u (fun hb => ih hb hd) h0
  | any u => exact .any u
def Fm.free (fr : Fm) : Bool := fr.all fun p => p.2.free
def Ob.free : Ob → Bool
  | .box cs => D.frees cs
  | .row _ _ _ c => c.all fun e => e.all V.free
  | .mp _ _ => false
def AH.free (ah : AH) : Bool := ah.all fun p => p.2.free
theorem RepDs.free {G G' : Gh} {w w' : World} {m m' : Mem} {ds : List D} {us : List Value} (h : RepDs G w m ds us) (k : ExtM G m G' m') (hd : D.frees ds = true) : RepDs G' w' m' ds us :=
  ⟨h.1, fun i d u hi hu => (h.2 i d u hi hu).free k (D.frees_at hd hi)⟩
theorem ObAt.free {G G' : Gh} {w w' : World} {m m' : Mem} {id : Nat} {o : Ob} (h : ObAt G w m id o) (k : ExtM G m G' m') (hμ : G'.μ id = G.μ id) (hc : G'.cap id = G.cap id) (hb : ∀ g, G.μ id = some g → w'.heap[g]? = w.heap[g]?) (ho : o.free = true) : ObAt G' w' m' id o := by
  cases o with
  | box cs =>
    obtain ⟨g, us, t, h1, h2, h3, h4⟩ := h
    exact ⟨g, us, t, hμ.trans h1, (hb g h1).trans h2, h3, h4.free k ho⟩
  | row ver n e c =>
    obtain ⟨h1, h2, h3, h4, h5⟩ := h
    refine ⟨h1, h2, by rw [hc]; exact h3, by rw [hc]; exact h4, ?_⟩
    rcases h5 with ⟨h6, h7⟩ | ⟨g, cur, us, fz, e0', hfz, h6, h7, h8, h10, h11⟩
    · exact .inl ⟨hμ.trans h6, hc.trans h7⟩
    · refine .inr ⟨g, cur, us, fz, e0', hfz, hμ.trans h6, (hb g h6).trans h7, by rw [hc]; exact h8, h10, fun i j x hx => (h11 i j x hx).free ?_⟩
      unfold elem? at hx
      cases hci : c[i]? with
      | none => rw [hci] at hx; cases hx
      | some q =>
        rw [hci] at hx
        exact (List.all_eq_true.1 ((List.all_eq_true.1 ho) q (List.mem_of_getElem? hci))) x (List.mem_of_getElem? hx)
  | mp agg l => cases ho
end Go.Proofs.YthflfnehdlpmdaaDoor

/- Abstract states: a call of the library that writes a text into a buffer of one's own. No program, no condition. -/
namespace Go.Proofs.YthflfnehdlpmdaaDoor
set_option linter.all false
open Go Go.RowKit
end Go.Proofs.YthflfnehdlpmdaaDoor

/- Layer 14: requests: what may go, and the small functions. No condition. -/
namespace Go.Proofs.YthflfnehdlpmdaaDoor
set_option linter.all false
open Go Go.RowKit
set_option maxRecDepth 10000
set_option maxHeartbeats 4000000
abbrev NIL : D := .v (.lit (.slice none 0 0))
/-- A request. -/
structure Ak where
  m : List UInt8
  t : List UInt8
  fs : List Fd
  b : List UInt8
abbrev Ak.vs (a : Ak) : List V := [.str a.m, .str a.t, .sl (fdV a.fs), .str a.b]
abbrev Ak.csX (a : Ak) (d : D) : List D := [.v (.str a.m), .v (.str a.t), d, .v (.str a.b)]
abbrev Ak.cs (a : Ak) : List D := a.csX (.v (.sl (fdV a.fs)))
def Ak.fits (a : Ak) : Prop := a.m.length ≤ 140737488351232 ∧ a.t.length ≤ 140737488351232 ∧ a.b.length ≤ 140737488351232 ∧ a.fs.length ≤ 4398046511104 ∧ ∀ f ∈ a.fs, f.n.length ≤ 140737488351232 ∧ f.v.length ≤ 140737488351232
end Go.Proofs.YthflfnehdlpmdaaDoor
