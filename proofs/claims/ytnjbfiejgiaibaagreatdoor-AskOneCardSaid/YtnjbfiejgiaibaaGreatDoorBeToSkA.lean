/- Abstract states: a part of a body behind which all old memory is as it was; what it read may be taken as settled within it. No program, no condition. -/
import Derived.Test.YtnjbfiejgiaibaaGreatDoorArToBa
import Derived.Test.YtnjbfiejgiaibaaGreatDoorHdMToHdC
import Derived.Test.YtnjbfiejgiaibaaGreatDoorShelf
namespace Go.Proofs.YtnjbfiejgiaibaaGreatDoor
set_option linter.all false
open Go Go.RowKit
/-- All that lies in a world, as settled. -/
abbrev gAll (w : World) : Gh := ⟨fun _ => none, fun _ => 0, fun k => k < w.heap.size⟩
/-- A context that holds all of a world still. -/
structure Still (Y X : Cx) (w : World) (ds : List Deferred) : Prop where
  P : Y.P = X.P
  nt : Y.nt = X.nt
  w0 : Y.w0 = w
  K : Y.K = fun k => k < w.heap.size
  S0 : Y.S0 = fun k => k < w.heap.size
  np : Y.np = 0
  df : Y.df = ds
section
variable {X Y : Cx} {w : World} {ds : List Deferred}
theorem still_ext (h : Still Y X w ds) {G2 : Gh} {w2 : World} {m : Mem} (hO : Ok Y G2 w2 m) : Ext (gAll w) w (look []) G2 w2 m :=
  ⟨fun g hg => ⟨hO.s0 g (by rw [h.S0]; exact hg), by have := (hO.keep g (by rw [h.K]; exact hg)).2; rw [h.w0] at this; exact this⟩, fun _ _ h => (by cases h), fun _ _ _ _ _ h => (by cases h), fun _ _ _ h => (by cases h)⟩
end
theorem Ok.grown {X : Cx} {G : Gh} {w w' : World} {m : Mem} (h : Ok X G w m) (hk : ∀ g, g < w.heap.size → w'.heap[g]? = w.heap[g]?) (hs : w.heap.size ≤ w'.heap.size) (ho : w'.os = w.os) (ht : w'.tape = w.tape) (hu : w'.output = w.output) :
    Ok X { G with S := fun g => G.S g ∨ w.heap.size ≤ g ∧ g < w'.heap.size } w' m ∧ Ext G w m { G with S := fun g => G.S g ∨ w.heap.size ≤ g ∧ g < w'.heap.size } w' m := by
  obtain ⟨h1, h2⟩ := h.kept hk hs ho ht hu
  have e1 : Ext G w' m { G with S := fun g => G.S g ∨ w.heap.size ≤ g ∧ g < w'.heap.size } w' m := ⟨fun g hg => ⟨.inl hg, rfl⟩, fun _ cs h => ⟨cs, h, rfl⟩, fun _ ver _ _ c h => ⟨ver, c, h, Nat.le_refl _, fun _ => ⟨Nat.le_refl _, rfl, rfl⟩⟩, fun _ a l h => ⟨a, l, h, rfl⟩⟩
  refine ⟨⟨fun i o ho => (h1.ob i o ho).ext e1 rfl rfl fun _ _ => rfl, h1.inj, fun i g hi hg => ⟨fun hs => ?_, (h1.apart i g hi hg).2⟩, fun g hg => ?_, h1.keep, h1.os, h1.tape, h1.output, h1.size, fun g hg => .inl (h1.s0 g hg), fun g hg hk => ?_, h1.pin, h1.shp⟩, h2.trans e1⟩
  · rcases hs with hs | hs
    · exact (h1.apart i g hi hg).1 hs
    · cases hm : m i with
      | none => exact hi hm
      | some o => have := (h.ob i o hm).lt hg; omega
  · rcases hg with hg | hg
    · exact h1.low g hg
    · exact hg.2
  · rcases hg with hg | hg
    · exact h1.sk g hg hk
    · have := (h1.keep g hk).1; have := h.size; omega
/-- A slot's value, exactly. -/
theorem all_lit {w : World} {u : Value} (h : u.oneCell' = true) : RepD (gAll w) w (look []) (.v (.lit u)) u := .v _ _ (.lit u h)
theorem frok_cons {G : Gh} {w : World} {m : Mem} {t : Nat} {d : D} {fr : Fm} {a : Act} (h : RepD G w m d (a.tmps.getD t undef)) (k : FrOk G w m fr.at a) : FrOk G w m (Fm.at ((t, d) :: fr)) a := fun i => by
  by_cases hi : t = i
  · subst hi; rw [Fm.at_eq (look_cons_self _ _ _)]; exact h
  · have := k i
    unfold Fm.at at this ⊢
    rwa [look_cons_ne _ _ hi]
theorem frok_nil {G : Gh} {w : World} {m : Mem} {a : Act} : FrOk G w m (Fm.at []) a := fun i => .any _
/-- x[i:j] of a view. -/
theorem stepU_sliceV {X : Cx} {o : Oper} {f : Nat → D} {m : Mem} {x : Operand} {lo hi : Option Operand} {t e e' : TypeId} {c : List (List V)} {id ver off len n : Nat} {i j : Option Nat} {b : Bool} (ho : o.op = .slice t x lo hi none) (ht : X.P.underlying t = some (.slice e)) (hs : sizeB X.P e = some (b, n)) (hx : Ev f x (.view id ver off len)) (hm : m id = some (.row ver n e' c)) (hlo : EvO f lo i) (hhi : EvO f hi j)
    (h1 : i.getD 0 ≤ j.getD len) (h2 : j.getD len ≤ len) {off' len' : Nat} (h3 : off' = off + i.getD 0) (h4 : len' = j.getD len - i.getD 0) : StepU X o f m (.view id ver off' len') [] [id] :=
  stepU_pure fun f' m' hf hT G w a hO hF => by
    subst h3 h4
    have hm' := (hT id (by simp)).trans hm
    obtain ⟨v1, A, cap, hu, a2, a3, a4⟩ := rep_view (ev_at hx (by simp [ho, Op.operands]) hf hF) hm'
    obtain ⟨k1, e1⟩ := hlo.at hF (fun t ht => hf t (by subst ht; simp [ho, Op.operands]))
    obtain ⟨k2, e2⟩ := hhi.at hF (fun t ht => hf t (by subst ht; simp [ho, Op.operands]))
    have hb := run_bounds (P := X.P) (w := w) true len cap i j k1 k2 h1 (by omega)
    refine ⟨.slice (if cap = i.getD 0 then A else A.map (·.add (i.getD 0 * n))) (j.getD len - i.getD 0) (cap - i.getD 0), ?_, .view id ver _ _ _ ver n e' c hm' (Nat.le_refl _) rfl fun _ => ⟨by omega, _, _, rfl, by omega, by omega, ?_⟩⟩
    · simp only [execOp, ho, hu, e1, e2, Instr.sliceAt, Sem.run_bind, run_underlying ht, Result.andThen_ok, Instr.slice, Option.map_none, hb, (run_sizeB hs w).1, Sem.run_pure]
    · by_cases hc : cap = i.getD 0
      · rw [if_pos hc]
        by_cases h0 : i.getD 0 = 0
        · rw [h0, Nat.add_zero]
          rcases a4 with a4 | ⟨a4, a5⟩
          · exact .inl a4
          · exact .inr ⟨by omega, a5⟩
        · exact .inr ⟨by omega, by omega⟩
      · rw [if_neg hc]
        rcases a4 with a4 | ⟨a4, a5⟩
        · left
          rw [a4]
          cases G.μ id with
          | none => rfl
          | some g => simp only [Option.map_some, addr_add]; rw [Nat.add_mul]
        · right; exact ⟨by omega, by omega⟩
theorem z_sliceV {X : Cx} {f : Nat → D} {m : Mem} {dst : Option Tmp} {ty : TypeId} {ps : String} {af : Array Edge} {gd : Option (Nat × Bool)} {x : Operand} {lo hi : Option Operand} {t e e' : TypeId} {c : List (List V)} {id ver off len n : Nat} {i j : Option Nat} {b : Bool} (ht : X.P.underlying t = some (.slice e)) (hs : sizeB X.P e = some (b, n)) (hx : Ev f x (.view id ver off len) := by first | exact ev_tmp rfl | exact ev_cond (ev_tmp rfl) (by assumption) | (refine ev_cond (ev_tmp rfl) ?_; simp_all; done)) (hm : m id = some (.row ver n e' c) := by exact rfl) (hlo : EvO f lo i := by first | exact .no | exact .yes (ev_int _ _) rfl | exact .yes (ev_tmp rfl) (by first | rfl | omega)) (hhi : EvO f hi j := by first | exact .no | exact .yes (ev_int _ _) rfl | exact .yes (ev_tmp rfl) (by first | rfl | omega))
    (h1 : i.getD 0 ≤ j.getD len := by first | omega | (simp; done) | (simp; omega)) (h2 : j.getD len ≤ len := by first | omega | (simp; done) | (simp; omega)) {off' len' : Nat} (h3 : off' = off + i.getD 0 := by exact rfl) (h4 : len' = j.getD len - i.getD 0 := by exact rfl) : StepU X ⟨dst, .slice t x lo hi none, ty, ps, af, gd⟩ f m (.view id ver off' len') [] [id] := stepU_sliceV (ho := rfl) (ht := ht) (hs := hs) (hx := hx) (hm := hm) (hlo := hlo) (hhi := hhi) (h1 := h1) (h2 := h2) (h3 := h3) (h4 := h4)
end Go.Proofs.YtnjbfiejgiaibaaGreatDoor

/- Abstract states: a text's bytes as a row of one's own, marked behind its last place. No program, no condition. -/
namespace Go.Proofs.YtnjbfiejgiaibaaGreatDoor
set_option linter.all false
open Go Go.RowKit
section
variable {X : Cx} {G : Gh} {w w' : World} {m : Mem}
end
section
variable {X : Cx} {o : Oper} {f : Nat → D} {m : Mem}
end
theorem ds2 {G : Gh} {w : World} {m : Mem} {d d' : D} {us : List Value} (h : RepDs G w m [d, d'] us) : ∃ u u', us = [u, u'] ∧ RepD G w m d u ∧ RepD G w m d' u' := by
  match us, h.1 with
  | [u, u'], _ => exact ⟨u, u', rfl, h.2 0 d u rfl rfl, h.2 1 d' u' rfl rfl⟩
end Go.Proofs.YtnjbfiejgiaibaaGreatDoor

/- Chapter 14: contracts of the library's searches. No condition but on lengths. -/
namespace Go.Proofs.YtnjbfiejgiaibaaGreatDoor
set_option linter.all false
open Go Go.RowKit
set_option maxRecDepth 10000
theorem con_sContains {s r : List UInt8} (hs : s.length < 4294967281) : Con Tryz.prog 52 [.v (.str s), .v (.str r)] [] 0 (.ret (.v (.bool (Lib.contains s r)))) [] :=
  con_pureS fun K G w us hsh hl hA => by
    obtain rfl := es2 hA
    obtain ⟨m, hm⟩ := hsh.2.1
    refine (Any.strings_Contains Tryz.lays144 (S s) (S r) m w (by rw [S_size]; exact hs) hm).mono fun e w' ⟨he, hw⟩ => ?_
    subst hw
    exact ⟨_, he, fun m => mk_bool _, Below.refl _ _⟩
theorem con_sCut {s r : List UInt8} (hs : s.length < 4294967281) : Con Tryz.prog 53 [.v (.str s), .v (.str r)] [] 0 (.ret (.tup [.v (.str (Lib.cut s r).1), .v (.str (Lib.cut s r).2.1), .v (.bool (Lib.cut s r).2.2)])) [] :=
  con_pureS fun K G w us hsh hl hA => by
    obtain rfl := es2 hA
    obtain ⟨m, hm⟩ := hsh.2.1
    refine (Any.strings_Cut Tryz.lays145 (S s) (S r) m w (by rw [S_size]; exact hs) hm).mono fun e w' ⟨he, q, hw⟩ => ?_
    subst hw
    exact ⟨_, he, fun m => .tup _ [_, _, _] rfl (RepDs.cons (mk_str _) (.cons (mk_str _) (.cons (mk_bool _) .nil))).2, (Below.refl _ _).trans ⟨rfl, rfl, rfl, Nat.le_refl _, fun _ _ => rfl⟩⟩
theorem bytesOf_nat (l : List UInt8) : Lib.bytesOf (l.map fun b => (b.toNat : Int)) = l := by
  unfold Lib.bytesOf
  rw [List.map_map]
  conv => rhs; rw [← List.map_id l]
  exact List.map_congr_left fun b _ => by simp
theorem getD_nat {l : List UInt8} {i : Nat} (h : i < l.length) : (l.map fun b => (b.toNat : Int)).getD i 0 = (l[i].toNat : Int) := by
  rw [List.getD_eq_getElem?_getD, List.getElem?_map, List.getElem?_eq_getElem h]; rfl
theorem range_nat (l : List UInt8) : ∀ x ∈ l.map (fun b => (b.toNat : Int)), 0 ≤ x ∧ x < 256 := fun x hx => by
  obtain ⟨b, _, rfl⟩ := List.mem_map.1 hx
  have := b.toNat_lt
  omega
/-- bytes.Index at a separator of two bytes or more. -/
theorem con_bIndex {s r : List UInt8} (hs : s.length < 4294967281) (hr : 2 ≤ r.length) (hr2 : r.length ≤ 1000) : Con Tryz.prog 49 [.v (.sl (bs s)), .v (.sl (bs r))] [] 0 (.ret (.v (.int .i64 (Lib.index s r)))) [] :=
  con_pureS fun K G w us hsh hl hA => by
    obtain ⟨u, u', rfl, h1, h2⟩ := ds2 hA
    obtain ⟨A, c, rfl, k1, k2, k3⟩ := rd_of (rep_sl h1) hl
    obtain ⟨B, d, rfl, q1, q2, q3⟩ := rd_of (rep_sl h2) hl
    obtain ⟨m, hm⟩ := hsh.2.1
    rcases k3 with rfl | ⟨g, o, rfl, _, k4⟩
    · refine (Any.bytes_Index_longer Tryz.lays185 A B 0 c r.length d w hr (by omega) (by omega)).mono fun e w' ⟨he, hw⟩ => ?_
      subst hw
      refine ⟨_, he, fun m => ?_, Below.refl _ _⟩
      have e1 : Lib.index [] r = -1 := by
        unfold Lib.index
        cases r with
        | nil => simp at hr
        | cons a r => rfl
      rw [e1]
      exact mk_int _ _
    · rcases q3 with rfl | ⟨g', o', rfl, _, q4⟩
      · simp at hr
      refine (Any.bytes_Index_at Tryz.lays185 ⟨g, o, none⟩ ⟨g', o', none⟩ s.length c r.length d (s.map fun b => (b.toNat : Int)) (r.map fun b => (b.toNat : Int)) m w (by simp) (by simp) (range_nat s) (range_nat r) (fun i hi => ?_) (fun i hi => ?_) k1 hs (by omega) hm).mono fun e w' ⟨he, q, hw⟩ => ?_
      · rw [addr_add, getD_nat hi]; exact k4 i hi
      · rw [addr_add, getD_nat hi]; exact q4 i hi
      · subst hw
        rw [bytesOf_nat, bytesOf_nat] at he
        exact ⟨_, he, fun m => mk_int _ _, (Below.refl _ _).trans ⟨rfl, rfl, rfl, Nat.le_refl _, fun _ _ => rfl⟩⟩
/-- Split at a separator that is not empty: a row of texts. -/
theorem splitB_S (sep : List UInt8) (k : Nat) (s : List UInt8) : Lib.splitB (S sep) 0 k (S s) = (Lib.splitK sep 0 k s).map S := by
  have h := Lib.splitB_data (S sep) 0 k (S s)
  have e1 : (S sep).data.toList = sep := rfl
  have e2 : (S s).data.toList = s := rfl
  rw [e1, e2] at h
  rw [← h, List.map_map]
  conv => lhs; rw [← List.map_id (Lib.splitB (S sep) 0 k (S s))]
  refine List.map_congr_left fun b _ => ?_
  cases b
  simp [S]
theorem split_count (sep : List UInt8) : ∀ (f : Nat) (s : List UInt8), (Lib.splitK sep 0 (Lib.countFrom sep f s) s).length = Lib.countFrom sep f s + 1
  | 0, s => rfl
  | f + 1, s => by
    unfold Lib.countFrom
    split
    · rfl
    · rename_i h
      rw [Nat.add_comm 1]
      unfold Lib.splitK
      rw [if_neg h, List.length_cons, split_count sep f]
theorem split_len {s r : List UInt8} (hr : 1 ≤ r.length) : (Lib.split s r).length = Lib.count s r + 1 := by
  unfold Lib.split Lib.count
  exact split_count r _ s
theorem con_sSplit {s r : List UInt8} (hs : s.length < 4294967281) (hr : 1 ≤ r.length) : Con Tryz.prog 46 [.v (.str s), .v (.str r)] [] 0 (.ret (.view 0 0 0 (Lib.split s r).length)) [(0, .row 0 1 9 (stV (Lib.split s r)))] := by
  intro K G w us hSK hO hA
  obtain rfl := es2 hA
  obtain ⟨m, hm⟩ := hO.shp.2.1
  have hlen := split_len (s := s) hr
  have hsp : Lib.splitB (S r) 0 (Lib.countB (S s) (S r)) (S s) = (Lib.split s r).map S := splitB_S r _ s
  have hmx : (Lib.split s r).length ≤ maxLen := by
    rw [hlen]
    have := Lib.count_le s r
    unfold maxLen; omega
  refine (Any.strings_Split Tryz.lays146 (by kernel_rfl) (S s) (S r) m w (by rw [S_size]; exact hs) hm (by rw [S_size]; exact hr)).mono fun e w' ⟨he, hw⟩ => ?_
  subst hw he
  rw [hsp, List.map_map]
  have hfl : ∀ l : List (List UInt8), (stV l).flatten = l.map V.str := fun l => by
    unfold stV
    induction l with
    | nil => rfl
    | cons a l ih => rw [List.map_cons, List.flatten_cons, ih]; rfl
  obtain ⟨k1, k2, k3⟩ := hO.newRow (id := 0) (n := 1) rfl (Nat.le_refl _) 9 (stV (Lib.split s r)) ((Lib.split s r).map (Value.string ∘ S)) (by decide) (stV_one _) (by simp) (by rw [stV_len]; exact hmx) (fun k x hx => by
    rw [hfl, List.getElem?_map] at hx
    cases hk : (Lib.split s r)[k]? with
    | none => rw [hk] at hx; cases hx
    | some b =>
      rw [hk] at hx
      injection hx with hx; subst hx
      exact ⟨.string (S b), by rw [List.getElem?_map, hk]; rfl, .str b⟩)
  rw [over_cons] at k1 k3
  rw [stV_len] at k1 k3
  refine ⟨_, k1, ?_⟩
  show RepD _ _ _ (.view 0 0 0 (Lib.split s r).length) (.slice (some ⟨w.heap.size, 0, none⟩) (Lib.countB (S s) (S r) + 1) (Lib.countB (S s) (S r) + 1))
  have e1 : Lib.countB (S s) (S r) + 1 = (Lib.split s r).length := hlen.symm
  rw [e1]
  exact k3
/-- Without a carriage return at the end. -/
def noCR (l : List UInt8) : List UInt8 := if l.getLast? = some 13 then l.take (l.length - 1) else l
theorem noCR_suffix (l : List UInt8) : Lib.hasSuffix l [13] = true ↔ l.getLast? = some 13 := by
  unfold Lib.hasSuffix
  rw [List.isSuffixOf_iff_suffix]
  constructor
  · rintro ⟨t, rfl⟩; simp
  · intro h
    obtain ⟨t, rfl⟩ := List.getLast?_eq_some_iff.1 h
    exact ⟨t, rfl⟩
theorem con_bTrimCR {s : List UInt8} (hs : s.length < 4294967281) : Con Tryz.prog 51 [.v (.sl (bs s)), .v (.sl (bs [13]))] [] 0 (.ret (.v (.sl (bs (noCR s))))) [] :=
  con_pureS fun K G w us hsh hl hA => by
    obtain ⟨u, u', rfl, h1, h2⟩ := ds2 hA
    have hr := rep_sl h1
    obtain ⟨A, c, rfl, k1, k2, k3⟩ := rd_of (rep_sl h1) hl
    obtain ⟨B, d, rfl, q1, q2, q3⟩ := rd_of (rep_sl h2) hl
    refine (Any.bytes_TrimSuffix_all Tryz.lays140 A B s.length c 1 d (s.map fun b => (b.toNat : Int)) [13] w (by simp) rfl k1 (by omega) (fun hp => ?_) (fun hp => ?_)).mono fun e w' ⟨he, hw⟩ => ?_
    · rcases k3 with rfl | ⟨g, o, rfl, _, k4⟩
      · simp at hp
      · exact ⟨g, o, rfl, fun i hi => by rw [getD_nat hi]; exact k4 i hi⟩
    · rcases q3 with h | ⟨g, o, rfl, _, q4⟩
      · cases h
      · exact ⟨g, o, rfl, fun i hi => by
          obtain rfl : i = 0 := by omega
          exact q4 0 (by decide)⟩
    · subst hw
      refine ⟨_, he, fun m => ?_, Below.refl _ _⟩
      refine .v _ _ ?_
      unfold Lib.trimSuffixV
      rcases k3 with rfl | ⟨g, o, rfl, _, k4⟩
      · have e1 : noCR [] = [] := rfl
        rw [e1]
        cases A with
        | none => exact hr
        | some a =>
          obtain ⟨g, o, sp⟩ := a
          cases sp with
          | none =>
            show RepV _ _ _ (Lib.bytesTrimSuffix g o 0 c [] [13])
            exact hr
          | some q => exact hr
      · show RepV _ _ _ (Lib.bytesTrimSuffix g o s.length c _ [13])
        unfold Lib.bytesTrimSuffix
        rw [bytesOf_nat]
        have e2 : Lib.bytesOf [13] = [13] := rfl
        rw [e2]
        unfold noCR
        by_cases hb : s.getLast? = some 13
        · rw [if_pos ((noCR_suffix s).2 hb), if_pos hb]
          obtain ⟨A', cap', e3, h3, h4⟩ := repV_cut hr 0 (s.length - 1) 1 (Nat.zero_le _) (by rw [bs_length]; omega) (bs_one s)
          rw [bs_length] at e3
          injection e3 with e3 e4 e5
          subst e3 e5
          have hpos : 0 < s.length := by cases s with | nil => cases hb | cons a s => simp
          rw [if_neg (by omega)] at h4
          have e6 : cut 0 (s.length - 1) (bs s) = bs (s.take (s.length - 1)) := by simp [cut, bs]
          rw [e6] at h4
          have h5 : RepV G.S w' (V.sl (bs (List.take (s.length - 1) s))) (Value.slice (some { block := g, off := o }) (s.length - 1) c) := by simpa [Addr.add] using h4
          exact h5
        · rw [if_neg (fun h => hb ((noCR_suffix s).1 h)), if_neg hb]
          exact hr
end Go.Proofs.YtnjbfiejgiaibaaGreatDoor
