/- Abstract states: a part of a body behind which all old memory is as it was; what it read may be taken as settled within it. No program, no condition. -/
import Derived.Test.YtnjbfiejgiaibaaGreatDoorAyToBa
namespace Go.Proofs.YtnjbfiejgiaibaaGreatDoor
set_option linter.all false
open Go Go.RowKit
/-- All that lies in a world, as settled. -/
abbrev gAll (w : World) : Gh := ⟨fun _ => none, fun _ => 0, fun k => k < w.heap.size⟩
/-- A context that holds all of a world still. -/
structure Still (Y X : Cx) (w : World) (ds : List Deferred) : Prop where
  P : Y.P = X.P
  nt : Y.nt = X.nt
  w0 : Y.w0 = w
  K : Y.K = fun k => k < w.heap.size
  S0 : Y.S0 = fun k => k < w.heap.size
  np : Y.np = 0
  df : Y.df = ds
section
variable {X Y : Cx} {w : World} {ds : List Deferred}
theorem still_ext (h : Still Y X w ds) {G2 : Gh} {w2 : World} {m : Mem} (hO : Ok Y G2 w2 m) : Ext (gAll w) w (look []) G2 w2 m :=
  ⟨fun g hg => ⟨hO.s0 g (by rw [h.S0]; exact hg), by have := (hO.keep g (by rw [h.K]; exact hg)).2; rw [h.w0] at this; exact this⟩, fun _ _ h => (by cases h), fun _ _ _ _ _ h => (by cases h), fun _ _ _ h => (by cases h)⟩
/-- A value that is known exactly is what it was when all was held. -/
theorem weak_lit (h : Still Y X w ds) {t : Nat} {u : Value} {d : D} {fr : Fm} {ah : AH} (hd : RepD (gAll w) w (look []) d u) : Weak Y ((t, .v (.lit u)) :: fr) ah ((t, d) :: fr) ah := fun G2 w2 a hS => by
  refine ⟨G2, hS.ok, fun i => ?_, hS.nt, hS.df⟩
  by_cases hi : t = i
  · subst hi
    have h1 := hS.fr t
    rw [Fm.at_eq (look_cons_self _ _ _)] at h1 ⊢
    obtain h2 := rep_lit h1
    rw [h2]
    exact hd.ext (still_ext h hS.ok)
  · have h1 := hS.fr i
    unfold Fm.at at h1 ⊢
    rw [look_cons_ne _ _ hi] at h1 ⊢
    exact h1
end
theorem Ok.grown {X : Cx} {G : Gh} {w w' : World} {m : Mem} (h : Ok X G w m) (hk : ∀ g, g < w.heap.size → w'.heap[g]? = w.heap[g]?) (hs : w.heap.size ≤ w'.heap.size) (ho : w'.os = w.os) (ht : w'.tape = w.tape) (hu : w'.output = w.output) :
    Ok X { G with S := fun g => G.S g ∨ w.heap.size ≤ g ∧ g < w'.heap.size } w' m ∧ Ext G w m { G with S := fun g => G.S g ∨ w.heap.size ≤ g ∧ g < w'.heap.size } w' m := by
  obtain ⟨h1, h2⟩ := h.kept hk hs ho ht hu
  have e1 : Ext G w' m { G with S := fun g => G.S g ∨ w.heap.size ≤ g ∧ g < w'.heap.size } w' m := ⟨fun g hg => ⟨.inl hg, rfl⟩, fun _ cs h => ⟨cs, h, rfl⟩, fun _ ver _ _ c h => ⟨ver, c, h, Nat.le_refl _, fun _ => ⟨Nat.le_refl _, rfl, rfl⟩⟩, fun _ a l h => ⟨a, l, h, rfl⟩⟩
  refine ⟨⟨fun i o ho => (h1.ob i o ho).ext e1 rfl rfl fun _ _ => rfl, h1.inj, fun i g hi hg => ⟨fun hs => ?_, (h1.apart i g hi hg).2⟩, fun g hg => ?_, h1.keep, h1.os, h1.tape, h1.output, h1.size, fun g hg => .inl (h1.s0 g hg), fun g hg hk => ?_, h1.pin, h1.shp⟩, h2.trans e1⟩
  · rcases hs with hs | hs
    · exact (h1.apart i g hi hg).1 hs
    · cases hm : m i with
      | none => exact hi hm
      | some o => have := (h.ob i o hm).lt hg; omega
  · rcases hg with hg | hg
    · exact h1.low g hg
    · exact hg.2
  · rcases hg with hg | hg
    · exact h1.sk g hg hk
    · have := (h1.keep g hk).1; have := h.size; omega
/-- Which slots are as they were. -/
def SameAt (T : List Nat) (a : Act) (fr : Fm) : Prop := ∀ t ∈ T, look fr t = some (.v (.lit (a.tmps.getD t undef)))
def stillQ (T : List Nat) (a : Act) : AX → Fm → AH → Prop := fun e fr _ => match e with | .normal => SameAt T a fr | _ => False
/-- A part of a body that only reads what was there. -/
theorem aw_still {X : Cx} {Q : AX → Fm → AH → Prop} {c : Code} {fr fr1 : Fm} {ah : AH} (T : List Nat) (hT : ∀ t, look fr1 t ≠ none → t ∈ T) (hf : ∀ t d, look fr1 t = some d → look fr t = some d)
    (sub : ∀ (Y : Cx) G w a, St X G w a fr ah → Still Y X w a.defers → ∃ fr0, FrOk (gAll w) w (look []) fr0.at a ∧ aw Y c (stillQ T a) fr0 []) (k : Q .normal fr1 ah) : aw X c Q fr ah := fun G w a hS => by
  let Y : Cx := ⟨X.P, X.nt, w, fun k => k < w.heap.size, fun k => k < w.heap.size, 0, fun _ => none, a.defers⟩
  obtain ⟨fr0, h0, hw⟩ := sub Y G w a hS ⟨rfl, rfl, rfl, rfl, rfl, rfl, rfl⟩
  have hO : Ok Y (gAll w) w (look []) := ⟨fun i o h => (by cases h), fun i j k hi => absurd rfl hi, fun i k hi => absurd rfl hi, fun k hk => hk, fun k hk => ⟨hk, rfl⟩, rfl, rfl, rfl, Nat.le_refl _, fun k hk => hk, fun k hk _ => hk, fun i o hi => absurd hi (Nat.not_lt_zero _), hS.ok.shpw.mono fun k hk => Nat.lt_of_lt_of_le (hS.ok.keep k hk).1 hS.ok.size⟩
  refine wp_mono (hw (gAll w) w a ⟨hO, h0, hS.nt, DfOk.nil⟩) fun e a2 w2 q => ?_
  cases e with
  | normal =>
    obtain ⟨G2, fr2, ah2, hS2, hq⟩ := q
    have hk2 : ∀ g, g < w.heap.size → w2.heap[g]? = w.heap[g]? := fun g hg => (hS2.ok.keep g hg).2
    obtain ⟨g1, g2⟩ := hS.ok.grown hk2 hS2.ok.size hS2.ok.os hS2.ok.tape hS2.ok.output
    refine ⟨_, fr1, ah, ⟨g1, fun t => ?_, hS2.nt, ?_⟩, k⟩
    · unfold Fm.at
      cases ht : look fr1 t with
      | none => exact .any _
      | some d =>
        have h1 := hS2.fr t
        rw [Fm.at_eq (hq t (hT t (by rw [ht]; simp)))] at h1
        rw [rep_lit h1]
        have h2 := hS.fr t
        rw [Fm.at_eq (hf t d ht)] at h2
        exact h2.ext g2
    · obtain ⟨Ds2, d1, d2, d3⟩ := hS2.df
      obtain ⟨Ds, e1, e2, e3⟩ := hS.df
      have d1 : a2.defers = Ds2.map mark ++ a.defers := d1
      refine ⟨Ds2 ++ Ds, by rw [d1, e1, List.map_append, List.append_assoc], ?_, fun D hD => ?_⟩
      · refine List.nodup_append.2 ⟨d2, e2, fun x hx y hy he => ?_⟩
        subst he
        have h1 := (d3 x hx).1
        have h2 := (e3 x hy).2.2.1
        have h1 : w.heap.size ≤ x := h1
        rw [Array.getElem?_eq_none h1] at h2; cases h2
      · rcases List.mem_append.1 hD with h | h
        · obtain ⟨a1, a2, a3, a4⟩ := d3 D h
          have a1 : w.heap.size ≤ D := a1
          refine ⟨Nat.le_trans hS.ok.size a1, .inr ⟨a1, ?_⟩, a3, a4⟩
          rcases Nat.lt_or_ge D w2.heap.size with h' | h'
          · exact h'
          · rw [Array.getElem?_eq_none h'] at a3; cases a3
        · obtain ⟨a1, a2, a3, a4⟩ := e3 D h
          have hlt : D < w.heap.size := hS.ok.low D a2
          exact ⟨a1, .inl a2, (hk2 D hlt).trans a3, a4⟩
  | exit id => obtain ⟨_, _, _, _, hq⟩ := q; exact hq.elim
  | goto l => obtain ⟨_, _, _, _, hq⟩ := q; exact hq.elim
  | ret => obtain ⟨_, _, _, _, hq⟩ := q; exact hq.elim
  | panic ch => obtain ⟨_, _, _, _, _, _, _, _, hq⟩ := q; exact hq.elim
  | outgrown => exact q
/-- What is known of a slot, all held. -/
theorem all_v {X : Cx} {G : Gh} {w : World} {m : Mem} (hO : Ok X G w m) {x : V} {u : Value} (h : RepD G w m (.v x) u) : RepD (gAll w) w (look []) (.v x) u := by
  cases h with
  | v _ _ h => exact .v _ _ (h.mono fun g hg => ⟨hO.low g hg, rfl⟩)
theorem all_view {X : Cx} {G : Gh} {w : World} {m : Mem} (hO : Ok X G w m) {id ver off len n : Nat} {e : TypeId} {c : List (List V)} {u : Value} (h : RepD G w m (.view id ver off len) u) (hm : m id = some (.row ver n e c)) : RepD (gAll w) w (look []) (.v (.sl (cut off (off + len) c))) u := by
  obtain ⟨h1, h2⟩ := rep_view h hm
  exact .v _ _ (repV_view (hO.ob id _ hm) h2 h1 (fun g hg => hO.low g hg) (fun g hg => (show ObAt G w m id (.row ver n e c) from hO.ob id _ hm).lt hg))
theorem all_ref {X : Cx} {G : Gh} {w : World} {m : Mem} (hO : Ok X G w m) {b id v n : Nat} {cs : List D} {ys : List V} {e : TypeId} {c : List (List V)} {u : Value} (h : RepD G w m (.ptr b 0) u) (hb : m b = some (.box cs)) (hm : m id = some (.row v n e c)) (hl : Lent id v c cs (ys.map .v)) : RepD (gAll w) w (look []) (.ref ys) u := by
  have hbox := hO.ob b _ hb
  have hrow := hO.ob id _ hm
  obtain ⟨q, us, t, b1, b2, b3, b4⟩ := hbox
  have hcells := hl.rep (H := gAll w) hm hrow (fun k hk => hO.low k hk) (fun k hk => (show ObAt G w m id (.row v n e c) from hrow).lt hk) b4
  obtain ⟨q', cs', e1, e2, e3⟩ := rep_ptr h
  have e4 : q' = q := by rw [b1] at e2; injection e2 with e2; exact e2.symm
  subst e4
  rw [e1]
  have hlen := hcells.1
  rw [List.length_map] at hlen
  refine .ref ys q' 0 (fun j => us.getD j undef) ((show ObAt G w m b (.box cs) from hO.ob b _ hb).lt b1) (fun j x hj => ?_) (fun j x hj => ?_)
  · have hlt : j < us.length := by rw [hlen]; exact (List.getElem?_eq_some_iff.1 hj).1
    rw [Nat.zero_add, cell_box b2 (id := b) (cs := cs)]
    simp [hlt]
  · have hlt : j < us.length := by rw [hlen]; exact (List.getElem?_eq_some_iff.1 hj).1
    have h5 := hcells.2 j (.v x) us[j] (by rw [List.getElem?_map, hj]; rfl) (List.getElem?_eq_getElem hlt)
    have e6 : us.getD j undef = us[j] := by simp [hlt]
    rw [e6]
    cases h5 with | v _ _ h => exact h
/-- A slot's value, exactly. -/
theorem all_lit {w : World} {u : Value} (h : u.oneCell' = true) : RepD (gAll w) w (look []) (.v (.lit u)) u := .v _ _ (.lit u h)
theorem frok_cons {G : Gh} {w : World} {m : Mem} {t : Nat} {d : D} {fr : Fm} {a : Act} (h : RepD G w m d (a.tmps.getD t undef)) (k : FrOk G w m fr.at a) : FrOk G w m (Fm.at ((t, d) :: fr)) a := fun i => by
  by_cases hi : t = i
  · subst hi; rw [Fm.at_eq (look_cons_self _ _ _)]; exact h
  · have := k i
    unfold Fm.at at this ⊢
    rwa [look_cons_ne _ _ hi]
theorem frok_nil {G : Gh} {w : World} {m : Mem} {a : Act} : FrOk G w m (Fm.at []) a := fun i => .any _
/-- x[i:j] of a view. -/
theorem stepU_sliceV {X : Cx} {o : Oper} {f : Nat → D} {m : Mem} {x : Operand} {lo hi : Option Operand} {t e e' : TypeId} {c : List (List V)} {id ver off len n : Nat} {i j : Option Nat} {b : Bool} (ho : o.op = .slice t x lo hi none) (ht : X.P.underlying t = some (.slice e)) (hs : sizeB X.P e = some (b, n)) (hx : Ev f x (.view id ver off len)) (hm : m id = some (.row ver n e' c)) (hlo : EvO f lo i) (hhi : EvO f hi j)
    (h1 : i.getD 0 ≤ j.getD len) (h2 : j.getD len ≤ len) {off' len' : Nat} (h3 : off' = off + i.getD 0) (h4 : len' = j.getD len - i.getD 0) : StepU X o f m (.view id ver off' len') [] [id] :=
  stepU_pure fun f' m' hf hT G w a hO hF => by
    subst h3 h4
    have hm' := (hT id (by simp)).trans hm
    obtain ⟨v1, A, cap, hu, a2, a3, a4⟩ := rep_view (ev_at hx (by simp [ho, Op.operands]) hf hF) hm'
    obtain ⟨k1, e1⟩ := hlo.at hF (fun t ht => hf t (by subst ht; simp [ho, Op.operands]))
    obtain ⟨k2, e2⟩ := hhi.at hF (fun t ht => hf t (by subst ht; simp [ho, Op.operands]))
    have hb := run_bounds (P := X.P) (w := w) true len cap i j k1 k2 h1 (by omega)
    refine ⟨.slice (if cap = i.getD 0 then A else A.map (·.add (i.getD 0 * n))) (j.getD len - i.getD 0) (cap - i.getD 0), ?_, .view id ver _ _ _ ver n e' c hm' (Nat.le_refl _) rfl fun _ => ⟨by omega, _, _, rfl, by omega, by omega, ?_⟩⟩
    · simp only [execOp, ho, hu, e1, e2, Instr.sliceAt, Sem.run_bind, run_underlying ht, Result.andThen_ok, Instr.slice, Option.map_none, hb, (run_sizeB hs w).1, Sem.run_pure]
    · by_cases hc : cap = i.getD 0
      · rw [if_pos hc]
        by_cases h0 : i.getD 0 = 0
        · rw [h0, Nat.add_zero]
          rcases a4 with a4 | ⟨a4, a5⟩
          · exact .inl a4
          · exact .inr ⟨by omega, a5⟩
        · exact .inr ⟨by omega, by omega⟩
      · rw [if_neg hc]
        rcases a4 with a4 | ⟨a4, a5⟩
        · left
          rw [a4]
          cases G.μ id with
          | none => rfl
          | some g => simp only [Option.map_some, addr_add]; rw [Nat.add_mul]
        · right; exact ⟨by omega, by omega⟩
theorem z_sliceV {X : Cx} {f : Nat → D} {m : Mem} {dst : Option Tmp} {ty : TypeId} {ps : String} {af : Array Edge} {gd : Option (Nat × Bool)} {x : Operand} {lo hi : Option Operand} {t e e' : TypeId} {c : List (List V)} {id ver off len n : Nat} {i j : Option Nat} {b : Bool} (ht : X.P.underlying t = some (.slice e)) (hs : sizeB X.P e = some (b, n)) (hx : Ev f x (.view id ver off len) := by first | exact ev_tmp rfl | exact ev_cond (ev_tmp rfl) (by assumption) | (refine ev_cond (ev_tmp rfl) ?_; simp_all; done)) (hm : m id = some (.row ver n e' c) := by exact rfl) (hlo : EvO f lo i := by first | exact .no | exact .yes (ev_int _ _) rfl | exact .yes (ev_tmp rfl) (by first | rfl | omega)) (hhi : EvO f hi j := by first | exact .no | exact .yes (ev_int _ _) rfl | exact .yes (ev_tmp rfl) (by first | rfl | omega))
    (h1 : i.getD 0 ≤ j.getD len := by first | omega | (simp; done) | (simp; omega)) (h2 : j.getD len ≤ len := by first | omega | (simp; done) | (simp; omega)) {off' len' : Nat} (h3 : off' = off + i.getD 0 := by exact rfl) (h4 : len' = j.getD len - i.getD 0 := by exact rfl) : StepU X ⟨dst, .slice t x lo hi none, ty, ps, af, gd⟩ f m (.view id ver off' len') [] [id] := stepU_sliceV (ho := rfl) (ht := ht) (hs := hs) (hx := hx) (hm := hm) (hlo := hlo) (hhi := hhi) (h1 := h1) (h2 := h2) (h3 := h3) (h4 := h4)
end Go.Proofs.YtnjbfiejgiaibaaGreatDoor

/- Abstract states: a text's bytes as a row of one's own, marked behind its last place. No program, no condition. -/
namespace Go.Proofs.YtnjbfiejgiaibaaGreatDoor
set_option linter.all false
open Go Go.RowKit
section
variable {X : Cx} {G : Gh} {w w' : World} {m : Mem}
theorem Ok.newMark (h : Ok X G w m) {id : Nat} (hid : m id = none) (hnp : X.np ≤ id) (e : TypeId) (he : e < MK) (l : List UInt8) (cur : Array Value) (hl : l.length ≤ cur.size) (hm : cur.size ≤ maxLen) (hc : ∀ i, (hi : i < l.length) → cur[i]? = some (.int .u8 (l[i].toNat : Int))) :
    let G' := G.at_ id (some w.heap.size) cur.size
    let w' := w.alloc (.cells cur e (cur.size, cur.size + 1))
    Ok X G' w' (over [(id, .row 0 1 (e + MK) (bs l))] m) ∧ Ext G w m G' w' (over [(id, .row 0 1 (e + MK) (bs l))] m) ∧ RepD G' w' (over [(id, .row 0 1 (e + MK) (bs l))] m) (.view id 0 0 l.length) (.slice (some ⟨w.heap.size, 0, none⟩) l.length cur.size) := by
  intro G' w'
  have hel : ∀ i j x, elem? (bs l) i j = some x → ∃ v, cur[i * 1 + j]? = some v ∧ RepV G.S w x v := fun i j x hx => by
    unfold elem? bs at hx
    rw [List.getElem?_map] at hx
    cases hk : l[i]? with
    | none => rw [hk] at hx; cases hx
    | some b =>
      rw [hk] at hx
      obtain ⟨hlt, he⟩ := List.getElem?_eq_some_iff.1 hk
      cases j with
      | zero =>
        simp at hx
        subst hx
        exact ⟨_, by rw [Nat.mul_one, Nat.add_zero, hc i hlt], by rw [he]; exact .int _ _⟩
      | succ j => simp at hx
  obtain ⟨a, b⟩ := h.step (G' := G') (w' := w') id (.row 0 1 (e + MK) (bs l)) rfl (fun i hi => Gh.at_ne G _ _ hi) (fun g hg => by
      rw [Gh.at_μ] at hg; injection hg with hg; exact .inl (by omega)) (fun g hg _ => Below.heap_alloc w _ g hg) (by show w.heap.size ≤ (w.alloc _).heap.size; rw [World.size_alloc]; omega) rfl rfl rfl
      (fun o' ho' => by rw [hid] at ho'; cases ho') (fun k => ⟨bs_one l, by decide, by rw [Gh.at_cap, bs_length]; exact hl, by rw [Gh.at_cap]; exact hm, .inr ⟨w.heap.size, cur, fun i j => cur.getD (i * 1 + j) undef, _, e, .inr ⟨rfl, he, .inr (Nat.le_refl _)⟩, Gh.at_μ _ _ _ _, heap_alloc_new w _, by rw [Gh.at_cap, Nat.mul_one], fun i j x hx => by
          obtain ⟨v, h1, h2⟩ := hel i j x hx
          show cur[i * 1 + j]? = some (cur.getD (i * 1 + j) undef)
          rw [Array.getD_eq_getD_getElem?, h1]; rfl, fun i j x hx => by
          obtain ⟨v, h1, h2⟩ := hel i j x hx
          simp only [Array.getD_eq_getD_getElem?, h1, Option.getD_some]; exact h2.ext k⟩⟩) (fun cs _ he => by cases he)
  exact ⟨a, b, .view id 0 0 _ _ 0 1 (e + MK) _ over_at (Nat.le_refl _) rfl fun _ => ⟨by rw [bs_length]; omega, some ⟨w.heap.size, 0, none⟩, cur.size, rfl, by rw [Gh.at_cap]; omega, hl, .inl (by rw [Gh.at_μ]; simp)⟩⟩
end
section
variable {X : Cx} {o : Oper} {f : Nat → D} {m : Mem}
/-- []byte(s), a row of one's own. -/
theorem stepU_convM {s t e : TypeId} {x : Operand} {l : List UInt8} (id : Nat) (hnp : X.np ≤ id) (ho : o.op = .convert s t x) (hs : X.P.underlying s = some .string) (ht : X.P.underlying t = some (.slice e)) (he : X.P.underlying e = some (.int .u8)) (hx : Ev f x (.v (.str l))) (hl : l.length ≤ 9223372036854775807) (hk : e < MK) : StepU X o f m (.view id 0 0 l.length) [(id, .row 0 1 (e + MK) (bs l))] [] :=
  fun f' m' hf _ hnew G w a hO hF K Q hK => by
    have h := rep_str (ev_at hx (by simp [ho, Op.operands]) hf hF)
    have hr := run_bytes_of_string (P := X.P) w s t e (S l) hs ht he
    have hge : (S l).size ≤ grownCap w (S l).size 0 e := grownCap_ge w (S l).size 0 e
    have hm : grownCap w (S l).size 0 e ≤ maxLen := grownCap_le_maxLen w (S l).size 0 e (by rw [S_size]; simpa [maxLen] using hl)
    generalize grownCap w (S l).size 0 e = c at hr hge hm
    rw [S_size] at hr hge
    have hsz : (bytesRow (S l) c).size = c := by simp [bytesRow]; have : (S l).data.size = l.length := by simp [S]
                                                 omega
    have hrun : (execOp a.eval o).run X.P w = .ok (.value (.slice (some ⟨w.heap.size, 0, none⟩) l.length c)) (w.drew.alloc (.cells (bytesRow (S l) c) e ((bytesRow (S l) c).size, (bytesRow (S l) c).size + 1))) := by
      simp only [execOp, ho, h, Sem.run_bind, hr, Result.andThen_ok, Sem.run_pure]
    have hid : m' id = none := hnew (id, Ob.row 0 1 (e + MK) (bs l)) (List.mem_singleton.2 rfl) List.not_mem_nil
    unfold Oper.wp
    rw [hrun]
    obtain ⟨h1, h2⟩ := hO.draw (w.drawn + 1)
    obtain ⟨k1, k2, k3⟩ := h1.newMark hid hnp e hk l (bytesRow (S l) c) (by rw [hsz]; exact hge) (by rw [hsz]; exact hm) (fun i hi => by
      have hsz : (S l).data.size = l.length := by simp [S]
      unfold bytesRow
      rw [Array.getElem?_append_left (by simp [hsz]; exact hi)]
      simp [S, hi])
    have e1 : (Value.slice (some ⟨w.heap.size, 0, none⟩) l.length c) = .slice (some ⟨w.heap.size, 0, none⟩) l.length (bytesRow (S l) c).size := by rw [hsz]
    rw [e1]
    exact hK _ _ _ k1 (h2.trans k2) k3
theorem z_convM {dst : Option Tmp} {ty : TypeId} {ps : String} {af : Array Edge} {gd : Option (Nat × Bool)} {s t e : TypeId} {x : Operand} {l : List UInt8} (id : Nat) (hs : X.P.underlying s = some .string) (ht : X.P.underlying t = some (.slice e)) (he : X.P.underlying e = some (.int .u8)) (hx : Ev f x (.v (.str l)) := by first | exact ev_tmp rfl | exact ev_str rfl | exact ev_cond (ev_tmp rfl) (by assumption) | (refine ev_cond (ev_tmp rfl) ?_; simp_all; done)) (hl : l.length ≤ 9223372036854775807 := by first | decide | omega | (simp; done) | (simp; omega)) (hk : e < MK := by decide) (hnp : X.np ≤ id := by exact Nat.le_of_ble_eq_true rfl) :
    StepU X ⟨dst, .convert s t x, ty, ps, af, gd⟩ f m (.view id 0 0 l.length) [(id, .row 0 1 (e + MK) (bs l))] [] := stepU_convM (id := id) (hnp := hnp) (ho := rfl) (hs := hs) (ht := ht) (he := he) (hx := hx) (hl := hl) (hk := hk)
end
theorem ds2 {G : Gh} {w : World} {m : Mem} {d d' : D} {us : List Value} (h : RepDs G w m [d, d'] us) : ∃ u u', us = [u, u'] ∧ RepD G w m d u ∧ RepD G w m d' u' := by
  match us, h.1 with
  | [u, u'], _ => exact ⟨u, u', rfl, h.2 0 d u rfl rfl, h.2 1 d' u' rfl rfl⟩
end Go.Proofs.YtnjbfiejgiaibaaGreatDoor
