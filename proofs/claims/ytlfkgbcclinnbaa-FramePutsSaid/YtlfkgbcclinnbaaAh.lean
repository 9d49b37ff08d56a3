/- Abstract states: values are put together, rows are made and grow. No program, no condition. -/
import Derived.Test.YtlfkgbcclinnbaaAf
namespace Go.Proofs.Ytlfkgbcclinnbaa
set_option linter.all false
open Go Go.RowKit
/-- Where the parts of a struct, or of an array, lie. -/
def placesB (P : Program) (t : TypeId) : Option (List (Nat × Nat)) :=
  match P.underlying t with
  | some (.struct fs) => fs.toList.mapM (fun f => (P.info? f.type).map fun i => (f.offset, i.size))
  | some (.array n e) => (P.info? e).map fun i => (List.range n).map fun k => (k * i.size, i.size)
  | _ => none
theorem fold_set (off : Nat) : ∀ (vs : List Value) (k : Nat) (us : List Value), off + k + vs.length ≤ us.length →
    ((vs.zipIdx k).foldl (fun cs (c, j) => cs.setIfInBounds (off + j) c) us.toArray).toList = us.take (off + k) ++ vs ++ us.drop (off + k + vs.length)
  | [], k, us, h => by simp
  | v :: vs, k, us, h => by
    simp only [List.zipIdx_cons, List.foldl_cons]
    simp only [List.length_cons] at h
    have e : us.toArray.setIfInBounds (off + k) v = (us.set (off + k) v).toArray := by simp
    rw [e, fold_set off vs (k + 1) (us.set (off + k) v) (by simp; omega)]
    rw [show off + (k + 1) = off + k + 1 from by omega, List.drop_set_of_lt (by omega)]
    simp only [List.length_cons]
    rw [show off + k + (vs.length + 1) = off + k + 1 + vs.length from by omega]
    congr 1
    rw [List.take_succ_eq_append_getElem (by simp; omega), List.take_set]
    rw [List.set_eq_of_length_le (by simp; omega)]; simp
/-- The parts of a composite literal: where each lies, and what is known of it. -/
inductive PartsAt (f : Nat → D) (pl : List (Nat × Nat)) (n : Nat) : List (Nat × Operand) → List (Nat × D) → Prop
  | nil : PartsAt f pl n [] []
  | cons {i : Nat} {x : Operand} {off sz : Nat} {d : D} {ps : List (Nat × Operand)} {ds : List (Nat × D)} (hp : pl[i]? = some (off, sz)) (hx : Ev f x d) (hd : d.plain = true) (hs : d.cells.length = sz ∧ off + sz ≤ n) (r : PartsAt f pl n ps ds) : PartsAt f pl n ((i, x) :: ps) ((off, d) :: ds)
def fillD : List D → List (Nat × D) → List D
  | cs, [] => cs
  | cs, (off, d) :: r => fillD (splice cs off d.cells) r
theorem rep_splice {G : Gh} {w : World} {m : Mem} {cs ds : List D} {us vs : List Value} (h : RepDs G w m cs us) (k : RepDs G w m ds vs) (off : Nat) (hl : off + ds.length ≤ cs.length) : RepDs G w m (splice cs off ds) (us.take off ++ vs ++ us.drop (off + vs.length)) := by
  have h1 := h.1
  have h2 := k.1
  unfold splice
  refine ⟨by simp only [List.length_append, List.length_take, List.length_drop]; omega, fun i d u hd hu => ?_⟩
  by_cases hi : i < off
  · rw [List.append_assoc, List.getElem?_append_left (by simp; omega), List.getElem?_take_of_lt hi] at hd hu
    exact h.2 i d u hd hu
  · rw [List.append_assoc, List.getElem?_append_right (by simp; omega)] at hd hu
    rw [List.length_take, Nat.min_eq_left (by omega)] at hd hu
    by_cases hi2 : i - off < ds.length
    · rw [List.getElem?_append_left (by omega)] at hd hu
      exact k.2 _ d u hd hu
    · rw [List.getElem?_append_right (by omega)] at hd hu
      rw [h2] at hu
      rw [List.getElem?_drop] at hd hu
      exact h.2 _ d u hd hu
theorem fill_rep {G : Gh} {w : World} {m : Mem} {f : Nat → D} {a : Act} (hF : FrOk G w m f a) {pl : List (Nat × Nat)} {n : Nat} {place : Nat → Option (Nat × Nat)} (hpl : ∀ i p, pl[i]? = some p → place i = some p) : ∀ {ps : List (Nat × Operand)} {ds : List (Nat × D)}, PartsAt f pl n ps ds → ∀ (cs : List D) (us : List Value), cs.length = n → RepDs G w m cs us → (∀ u ∈ us, u.oneCell' = true) →
    ∃ vs : List Value, Instr.fill place us.toArray (ps.map fun (i, x) => (i, a.eval x)) = some vs.toArray ∧ RepDs G w m (fillD cs ds) vs ∧ ∀ u ∈ vs, u.oneCell' = true := by
  intro ps ds h
  induction h with
  | nil => exact fun cs us _ h h1 => ⟨us, by simp [Instr.fill], h, h1⟩
  | @cons i x off sz d ps ds hp hx hd hs r ih =>
    intro cs us hn h h1
    obtain ⟨k1, k2⟩ := rep_cells (hx f (fun _ _ => rfl) G w m a hF) hd
    have hl : (a.eval x).cells.toList.length = sz := by rw [k1.1]; exact hs.1
    have hl' : (a.eval x).cells.size = sz := by simpa using hl
    have hul := h.1
    obtain ⟨vs, e1, e2, e3⟩ := ih (splice cs off d.cells) (us.take off ++ (a.eval x).cells.toList ++ us.drop (off + (a.eval x).cells.toList.length)) (by unfold splice; simp only [List.length_append, List.length_take, List.length_drop]; omega) (rep_splice h k1 off (by omega)) (fun u hu => by
        rcases List.mem_append.1 hu with hu | hu
        · rcases List.mem_append.1 hu with hu | hu
          · exact h1 u (List.mem_of_mem_take hu)
          · exact k2 u hu
        · exact h1 u (List.mem_of_mem_drop hu))
    refine ⟨vs, ?_, e2, e3⟩
    rw [List.map_cons]
    simp only [Instr.fill, hpl i _ hp]
    rw [if_neg (by simp; omega), ← e1]
    congr 1
    have := fold_set off (a.eval x).cells.toList 0 us (by omega)
    simp only [Nat.add_zero] at this
    apply Array.ext'
    rw [← this, ← Array.foldl_toList, Array.toList_zipIdx]
section
variable {X : Cx} {o : Oper} {f : Nat → D} {m : Mem} {d : D} {T : List Nat}
theorem PartsAt.mono {f' : Nat → D} {pl : List (Nat × Nat)} {n : Nat} {ps : List (Nat × Operand)} {ds : List (Nat × D)} (h : PartsAt f pl n ps ds) (hf : ∀ p ∈ ps, ∀ t, p.2 = .tmp t → f' t = f t) : PartsAt f' pl n ps ds := by
  induction h with
  | nil => exact .nil
  | cons hp hx hd hs r ih => exact .cons hp (fun f'' hf'' => hx f'' fun t ht => (hf'' t ht).trans (hf _ List.mem_cons_self t ht)) hd hs (ih fun p hp' => hf p (List.mem_cons_of_mem _ hp'))
theorem stepU_build {t : TypeId} {parts : Array (Nat × Operand)} {pl : List (Nat × Nat)} {us : List Value} {zs cs : List D} {ds : List (Nat × D)} {n : Nat} (ho : o.op = .build t parts) (hpl : placesB X.P t = some pl) (hz : zeroCs X.P t = some us) (hl : Lits us zs) (hn : zs.length = n) (hp : PartsAt f pl n parts.toList ds) (hc : fillD zs ds = cs) :
    StepU X o f m (.agg cs) [] [] :=
  stepU_pure fun f' m' hf _ G w a _ hF => by
    subst hc
    have hp' := hp.mono (f' := f') (fun p hp t ht => hf t (by
      simp only [ho, Op.operands]
      rw [Array.mem_def]
      simp only [List.mem_map]
      exact ⟨p, hp, ht⟩))
    unfold zeroCs at hz
    cases hi : X.P.info? t with
    | none => simp [hi] at hz
    | some i =>
      cases hzz : i.zero with
      | none => simp [hi, hzz] at hz
      | some z =>
        simp [hi, hzz] at hz
        have hz' : z.cells = us.toArray := by rw [← hz]
        have L := Lits.rep (G := G) (w := w) (m := m') hl
        have hpt : (parts.map fun (i, x) => (i, a.eval x)).toList = parts.toList.map fun (i, x) => (i, a.eval x) := by simp
        unfold placesB at hpl
        cases hu : X.P.underlying t with
        | none => simp [hu] at hpl
        | some dd =>
          cases dd <;> simp only [hu] at hpl <;> first | (cases hpl; done) | skip
          · rename_i k e
            cases hie : X.P.info? e with
            | none => simp [hie] at hpl
            | some ie =>
              simp [hie] at hpl
              subst hpl
              obtain ⟨vs, e1, e2, e3⟩ := fill_rep hF (place := fun i => some (i * ie.size, ie.size)) (fun i p hp => by
                rw [List.getElem?_map] at hp
                cases hr : (List.range k)[i]? with
                | none => rw [hr] at hp; cases hp
                | some j =>
                  rw [hr] at hp
                  have : j = i := by obtain ⟨h1, h2⟩ := List.getElem?_eq_some_iff.1 hr; simp at h2; exact h2.symm
                  subst this
                  simpa using hp) hp' zs us hn L.1 L.2
              refine ⟨.agg vs.toArray, ?_, .agg _ vs e2.1 e3 e2.2⟩
              have := run_build (P := X.P) w t (parts.map fun (i, x) => (i, a.eval x)) vs.toArray (by
                unfold Program.built
                simp only [hi, hu, hzz, hie, hz', hpt]
                exact e1)
              simp only [execOp, ho, Sem.run_bind, this, Result.andThen_ok, Sem.run_pure]
          · rename_i fs
            obtain ⟨vs, e1, e2, e3⟩ := fill_rep hF (place := fun i => pl.toArray[i]?) (fun i p hp => by simpa using hp) hp' zs us hn L.1 L.2
            refine ⟨.agg vs.toArray, ?_, .agg _ vs e2.1 e3 e2.2⟩
            have := run_build (P := X.P) w t (parts.map fun (i, x) => (i, a.eval x)) vs.toArray (by
              unfold Program.built
              simp only [hi, hu, hzz, hpl, hz', hpt]
              exact e1)
            simp only [execOp, ho, Sem.run_bind, this, Result.andThen_ok, Sem.run_pure]
/-- A field of a struct's value. -/
theorem stepU_field {t : TypeId} {x : Operand} {i k n : Nat} {b : Bool} {cs : List D} (ho : o.op = .field t x i) (hx : Ev f x (.agg cs)) (hpl : ∃ fs fd, X.P.underlying t = some (.struct fs) ∧ fs[i]? = some fd ∧ fd.offset = k ∧ sizeB X.P fd.type = some (b, n)) (hn : (b = true ∨ n = 1) ∧ k + n ≤ cs.length) (hd : rd b ((cs.drop k).take n) = d) : StepU X o f m d [] [] :=
  stepU_pure fun f' m' hf _ G w a _ hF => by
    have h := ev_at hx (by simp [ho, Op.operands]) hf hF
    generalize hu : a.eval x = u at h
    obtain ⟨fs, fd, h1, h2, h3, h4⟩ := hpl
    cases h with
    | agg _ us hl h1' h =>
      have hR : RepDs G w m' ((cs.drop k).take n) ((us.drop k).take n) := RepDs.take (RepDs.drop ⟨hl, h⟩ k) n
      have hlen : ((us.drop k).take n).length = n := by have := hR.1; rw [this]; simp; omega
      refine ⟨if b then .agg ((us.drop k).take n).toArray else ((us.drop k).take n).headD undef, ?_, by rw [← hd]; exact rep_rd hR (fun u hu => h1' u (List.mem_of_mem_drop (List.mem_of_mem_take hu)))⟩
      subst h3
      simp only [execOp, ho, hu, Instr.field, Sem.run_bind, run_underlying h1, Result.andThen_ok, h2, asAgg, Sem.run_pure, part, (run_sizeB h4 w).2, (run_sizeB h4 w).1]
      cases b with
      | true =>
        simp only [if_true, Sem.run_bind, (run_sizeB h4 w).1, Result.andThen_ok, Sem.run_pure]
        congr 3
        simp [List.extract_eq_drop_take]
      | false =>
        have hn1 : n = 1 := by rcases hn.1 with h | h <;> simp_all
        subst hn1
        have hk : fd.offset < us.length := by omega
        have : us.toArray[fd.offset]? = some us[fd.offset] := by simp [hk]
        simp only [Bool.false_eq_true, if_false, this, Sem.run_pure, Result.andThen_ok]
        have : ((us.drop fd.offset).take 1).headD undef = us[fd.offset] := by
          rw [List.drop_eq_getElem_cons hk]; rfl
        rw [this]
/-- New memory that will not change. -/
theorem Ok.newS {G : Gh} {w : World} (h : Ok X G w m) (ob : Obj) : Ok X { G with S := fun g => G.S g ∨ g = w.heap.size } (w.alloc ob) m ∧ Ext G w m { G with S := fun g => G.S g ∨ g = w.heap.size } (w.alloc ob) m := by
  have hk : ∀ g, g < w.heap.size → (w.alloc ob).heap[g]? = w.heap[g]? := fun g hg => Below.heap_alloc w ob g hg
  have e : Ext G w m { G with S := fun g => G.S g ∨ g = w.heap.size } (w.alloc ob) m := ⟨fun g hg => ⟨.inl hg, hk g (h.low g hg)⟩, fun _ cs h => ⟨cs, h, rfl⟩, fun _ ver _ _ c h => ⟨ver, c, h, Nat.le_refl _, fun _ => ⟨Nat.le_refl _, rfl, rfl⟩⟩⟩
  have hsz : (w.alloc ob).heap.size = w.heap.size + 1 := World.size_alloc w ob
  refine ⟨⟨fun id o ho => (h.ob id o ho).ext e rfl rfl fun g hg => hk g ((h.ob id o ho).lt hg), h.inj, fun i g hi hg => ⟨fun hs => ?_, (h.apart i g hi hg).2⟩, fun g hg => ?_, fun g hg => ⟨(h.keep g hg).1, (hk g (by have := (h.keep g hg).1; have := h.size; omega)).trans (h.keep g hg).2⟩, h.os, h.tape, h.output, by rw [hsz]; have := h.size; omega, fun g hg => .inl (h.s0 g hg), fun g hg hk' => ?_, h.pin⟩, e⟩
  · rcases hs with hs | hs
    · exact (h.apart i g hi hg).1 hs
    · cases ho : m i with
      | none => exact hi ho
      | some o => have := (h.ob i o ho).lt hg; omega
  · rw [hsz]
    rcases hg with hg | hg
    · have := h.low g hg; omega
    · omega
  · rcases hg with hg | hg
    · exact h.sk g hg hk'
    · have := (h.keep g hk').1; have := h.size; omega
theorem flat_get {n : Nat} : ∀ {c : List (List V)}, (∀ e ∈ c, e.length = n) → ∀ (i j : Nat) x, elem? c i j = some x → c.flatten[i * n + j]? = some x
  | [], _, i, j, x, h => by simp [elem?] at h
  | e :: c, hs, 0, j, x, h => by
    have hj : e[j]? = some x := by simpa [elem?] using h
    have hlt : j < e.length := (List.getElem?_eq_some_iff.1 hj).1
    simp only [List.flatten_cons, Nat.zero_mul, Nat.zero_add]
    rw [List.getElem?_append_left hlt]; exact hj
  | e :: c, hs, i + 1, j, x, h => by
    have he := hs e List.mem_cons_self
    have ih := flat_get (fun e' he' => hs e' (List.mem_cons_of_mem _ he')) i j x (by simpa [elem?] using h)
    simp only [List.flatten_cons]
    rw [List.getElem?_append_right (by rw [he, Nat.add_mul]; omega), he, show (i + 1) * n + j - n = i * n + j from by rw [Nat.add_mul]; omega]
    exact ih
theorem flat_len {n : Nat} : ∀ {c : List (List V)}, (∀ e ∈ c, e.length = n) → c.flatten.length = c.length * n
  | [], _ => by simp
  | e :: c, hs => by
    simp only [List.flatten_cons, List.length_append, List.length_cons]
    rw [hs e List.mem_cons_self, flat_len (fun e' he' => hs e' (List.mem_cons_of_mem _ he')), Nat.add_mul]; omega
/-- A slice of a block whose cells are known. -/
theorem repV_block {Z : Nat → Prop} {w : World} {g n cap : Nat} {us : Array Value} {ty : TypeId} {fz : Nat × Nat} {c : List (List V)} (hg : w.heap[g]? = some (.cells us ty fz)) (hz : Z g) (hn : 0 < n) (hs : ∀ e ∈ c, e.length = n) (hcap : c.length ≤ cap) (hm : cap ≤ maxLen)
    (hr : ∀ (k : Nat) x, c.flatten[k]? = some x → ∃ u, us[k]? = some u ∧ RepV Z w x u) : RepV Z w (.sl c) (.slice (some ⟨g, 0, none⟩) c.length cap) := by
  rcases Nat.eq_zero_or_pos c.length with h0 | h0
  · obtain rfl := List.eq_nil_of_length_eq_zero h0
    exact .nil _ _ hm
  · refine .sl c g 0 n cap (fun i j => us.getD (i * n + j) undef) h0 hz hn hs hcap hm (fun i j x hx => ?_) (fun i j x hx => ?_)
    · obtain ⟨u, h1, _⟩ := hr _ _ (flat_get hs i j x hx)
      simp [World.cell?, hg, h1]
    · obtain ⟨u, h1, h2⟩ := hr _ _ (flat_get hs i j x hx)
      simp only [Array.getD_eq_getD_getElem?, h1, Option.getD_some]; exact h2
theorem bs_flat : ∀ l : List UInt8, (bs l).flatten = l.map fun b => V.int .u8 (b.toNat : Int)
  | [] => rfl
  | b :: l => by
    have ih := bs_flat l
    simp only [bs, List.map_cons, List.flatten_cons] at ih ⊢
    rw [ih]; rfl
/-- []byte(s), for good. -/
theorem stepU_convB {s t e : TypeId} {x : Operand} {l : List UInt8} (ho : o.op = .convert s t x) (hs : X.P.underlying s = some .string) (ht : X.P.underlying t = some (.slice e)) (he : X.P.underlying e = some (.int .u8)) (hx : Ev f x (.v (.str l))) (hl : l.length ≤ 9223372036854775807) : StepU X o f m (.v (.sl (bs l))) [] [] :=
  fun f' m' hf _ _ G w a hO hF K Q hK => by
    have h := rep_str (ev_at hx (by simp [ho, Op.operands]) hf hF)
    have hr := run_bytes_of_string (P := X.P) w s t e (S l) hs ht he
    have hge : (S l).size ≤ grownCap w (S l).size 0 e := grownCap_ge w (S l).size 0 e
    have hm : grownCap w (S l).size 0 e ≤ maxLen := grownCap_le_maxLen w (S l).size 0 e (by rw [S_size]; simpa [maxLen] using hl)
    generalize grownCap w (S l).size 0 e = c at hr hge hm
    rw [S_size] at hr hge
    have hrun : (execOp a.eval o).run X.P w = .ok (.value (.slice (some ⟨w.heap.size, 0, none⟩) l.length c)) (w.drew.alloc (.cells (bytesRow (S l) c) e ((bytesRow (S l) c).size, (bytesRow (S l) c).size + 1))) := by
      simp only [execOp, ho, h, Sem.run_bind, hr, Result.andThen_ok, Sem.run_pure]
    unfold Oper.wp
    rw [hrun]
    obtain ⟨h1, h2⟩ := hO.draw (w.drawn + 1)
    obtain ⟨h3, h4⟩ := h1.newS (.cells (bytesRow (S l) c) e ((bytesRow (S l) c).size, (bytesRow (S l) c).size + 1))
    refine hK _ _ _ h3 (h2.trans h4) (.v _ _ ?_)
    have := repV_block (Z := fun g => G.S g ∨ g = w.heap.size) (w := w.drew.alloc (.cells (bytesRow (S l) c) e ((bytesRow (S l) c).size, (bytesRow (S l) c).size + 1))) (c := bs l) (n := 1) (cap := c) (heap_alloc_new w.drew _) (.inr rfl) (by decide) (bs_one l) (by simpa using hge) hm (fun k x hx => by
      rw [bs_flat, List.getElem?_map] at hx
      cases hk : l[k]? with
      | none => rw [hk] at hx; cases hx
      | some b =>
        rw [hk] at hx
        simp at hx
        subst hx
        have hlt := (List.getElem?_eq_some_iff.1 hk).1
        refine ⟨.int .u8 (b.toNat : Int), ?_, .int _ _⟩
        have hsz : (S l).data.size = l.length := by simp [S]
        unfold bytesRow
        rw [Array.getElem?_append_left (by simp [hsz]; exact hlt)]
        simp [S, hk])
    rw [bs_length] at this
    exact this
theorem run_buildSlice {P : Program} {G : Gh} {w : World} {f : Nat → D} {a : Act} {t e : TypeId} {b : Bool} {n len : Nat} {parts : Array (Nat × Operand)} {zus : List Value} {zs : List D} {ds : List (Nat × D)} (hF : FrOk G w m f a) (ht : P.underlying t = some (.slice e)) (hs : sizeB P e = some (b, n)) (hz : zeroCs P e = some zus) (hl : Lits zus zs) (hzn : zs.length = n) (h24 : len * n ≤ 16777216)
    (hp : PartsAt f ((List.range len).map fun k => (k * n, n)) (len * n) parts.toList ds) :
    ∃ vs : List Value, (Instr.buildSlice t len (parts.map fun (i, x) => (i, a.eval x))).run P w = .ok (.slice (some ⟨w.heap.size, 0, none⟩) len len) (w.alloc (.cells vs.toArray e)) ∧ RepDs G w m (fillD (List.replicate (len * n) .any) ds) vs ∧ (∀ u ∈ vs, u.oneCell' = true) ∧ vs.length = len * n := by
  unfold zeroCs at hz
  cases hi : P.info? e with
  | none => simp [hi] at hz
  | some i =>
    cases hzz : i.zero with
    | none => simp [hi, hzz] at hz
    | some z =>
      simp [hi, hzz] at hz
      have L := Lits.rep (G := G) (w := w) (m := m) hl
      have hzl : zus.length = n := by rw [L.1.1]; exact hzn
      have hpt : (parts.map fun (i, x) => (i, a.eval x)).toList = parts.toList.map fun (i, x) => (i, a.eval x) := by simp
      let zero : Array Value := if len * n = 0 then #[] else z.cells
      let base : List Value := ((Array.range (len * n)).map fun k => zero[k % zero.size]!).toList
      have hb1 : base.length = len * n := by simp [base]
      have hb2 : ∀ u ∈ base, u.oneCell' = true := fun u hu => by
        simp only [base, Array.toList_map, List.mem_map] at hu
        obtain ⟨k, hk, rfl⟩ := hu
        have hk' : k < len * n := by simpa using hk
        have h0 : ¬ len * n = 0 := by omega
        have hne : 0 < n := by rcases Nat.eq_zero_or_pos n with h | h; subst h; simp at h0; exact h
        simp only [zero, if_neg h0]
        have hzs : z.cells.size = n := by rw [← hzl, ← hz]; simp
        have hlt : k % z.cells.size < z.cells.size := Nat.mod_lt _ (by omega)
        rw [getElem!_pos z.cells _ hlt]
        exact L.2 _ (by rw [← hz]; simp)
      obtain ⟨vs, e1, e2, e3⟩ := fill_rep hF (place := fun i => some (i * n, n)) (fun i p hp => by
        rw [List.getElem?_map] at hp
        cases hr : (List.range len)[i]? with
        | none => rw [hr] at hp; cases hp
        | some j =>
          rw [hr] at hp
          have : j = i := by obtain ⟨h1, h2⟩ := List.getElem?_eq_some_iff.1 hr; simp at h2; exact h2.symm
          subst this
          simpa using hp) hp (List.replicate (len * n) .any) base (by simp) ⟨by simp [hb1], fun i d u hd hu => by
            rw [List.getElem?_replicate] at hd
            split at hd <;> simp at hd
            subst hd; exact .any _⟩ hb2
      have hfl : ∀ (ds : List (Nat × D)) (cs : List D), (∃ pl ps, PartsAt f pl cs.length ps ds) → (fillD cs ds).length = cs.length := by
        intro ds
        induction ds with
        | nil => intro cs _; rfl
        | cons p ds ih =>
          intro cs ⟨pl, ps, hpp⟩
          obtain ⟨off, d⟩ := p
          cases hpp with
          | @cons i x _ sz _ ps' _ h1 h2 h3 h4 r =>
            have hspl : (splice cs off d.cells).length = cs.length := by unfold splice; simp only [List.length_append, List.length_take, List.length_drop]; omega
            simp only [fillD]
            rw [ih _ ⟨pl, ps', by rw [hspl]; exact r⟩, hspl]
      have hvl : vs.length = len * n := by
        rw [e2.1, hfl ds _ ⟨_, _, by simpa using hp⟩]; simp
      refine ⟨vs, ?_, e2, e3, hvl⟩
      unfold Instr.buildSlice
      simp only [Sem.run_bind, run_underlying ht, Result.andThen_ok, (run_sizeB hs w).1]
      rw [if_neg (by omega)]
      by_cases h0 : len * n = 0
      · rw [if_pos h0]
        have e1' : Instr.fill (fun i => some (i * n, n)) ((Array.range (len * n)).map fun k => (#[] : Array Value)[k % (#[] : Array Value).size]!) (parts.map fun (i, x) => (i, a.eval x)).toList = some vs.toArray := by
          rw [hpt, ← e1]; congr 1; simp only [base, zero, if_pos h0]
        simp only [Sem.run_pure, Result.andThen_ok, pure_bind]
        rw [e1']
        rfl
      · rw [if_neg h0]
        simp only [Sem.run_bind, zeroValue, typeInfo, run_program, Result.andThen_ok, hi, hzz, Sem.run_pure]
        have e1' : Instr.fill (fun i => some (i * n, n)) ((Array.range (len * n)).map fun k => z.cells[k % z.cells.size]!) (parts.map fun (i, x) => (i, a.eval x)).toList = some vs.toArray := by
          rw [hpt, ← e1]; congr 1; simp only [base, zero, if_neg h0]
        rw [e1']
        rfl
/-- A slice's literal, for good. -/
theorem stepU_lits {t e : TypeId} {b : Bool} {n len : Nat} {parts : Array (Nat × Operand)} {zus : List Value} {zs : List D} {ds : List (Nat × D)} {c : List (List V)} (ho : o.op = .buildSlice t len parts) (ht : X.P.underlying t = some (.slice e)) (hs : sizeB X.P e = some (b, n)) (hz : zeroCs X.P e = some zus) (hl : Lits zus zs) (hzn : zs.length = n ∧ 0 < n ∧ len * n ≤ 16777216)
    (hp : PartsAt f ((List.range len).map fun k => (k * n, n)) (len * n) parts.toList ds) (hc : fillD (List.replicate (len * n) .any) ds = c.flatten.map .v) (hcn : c.length = len ∧ ∀ e ∈ c, e.length = n) : StepU X o f m (.v (.sl c)) [] [] :=
  fun f' m' hf _ _ G w a hO hF K Q hK => by
    have hp' := hp.mono (f' := f') (fun p hp t ht => hf t (by
      simp only [ho, Op.operands]
      rw [Array.mem_def]
      simp only [List.mem_map]
      exact ⟨p, hp, ht⟩))
    obtain ⟨vs, r1, r2, r3, r4⟩ := run_buildSlice hF ht hs hz hl hzn.1 hzn.2.2 hp'
    have hrun : (execOp a.eval o).run X.P w = .ok (.value (.slice (some ⟨w.heap.size, 0, none⟩) len len)) (w.alloc (.cells vs.toArray e)) := by
      simp only [execOp, ho, Sem.run_bind, r1, Result.andThen_ok, Sem.run_pure]
    unfold Oper.wp
    rw [hrun]
    obtain ⟨h3, h4⟩ := hO.newS (.cells vs.toArray e)
    refine hK _ _ _ h3 h4 (.v _ _ ?_)
    have hlm : len ≤ maxLen := by have := hzn.2.2; have := hzn.2.1; simp [maxLen]; have : len * 1 ≤ len * n := Nat.mul_le_mul_left _ (by omega); omega
    have := repV_block (Z := fun g => G.S g ∨ g = w.heap.size) (w := w.alloc (.cells vs.toArray e)) (c := c) (n := n) (cap := len) (heap_alloc_new w _) (.inr rfl) hzn.2.1 hcn.2 (by omega) hlm (fun k x hx => by
      rw [hc] at r2
      have hlt : k < vs.length := by rw [r4, ← hcn.1, ← flat_len hcn.2]; exact (List.getElem?_eq_some_iff.1 hx).1
      have := r2.2 k (.v x) vs[k] (by rw [List.getElem?_map, hx]; rfl) (List.getElem?_eq_getElem hlt)
      refine ⟨vs[k], by simp [hlt], ?_⟩
      cases this with | v _ _ h => exact h.ext h4)
    rw [hcn.1] at this
    exact this
end
end Go.Proofs.Ytlfkgbcclinnbaa
