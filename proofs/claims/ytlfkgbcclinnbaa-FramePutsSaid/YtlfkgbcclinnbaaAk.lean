/- Abstract states: rows out of nothing, rows read and written in place, rows that settle; cuts. No program, no condition. -/
import Derived.Test.YtlfkgbcclinnbaaAj
namespace Go.Proofs.Ytlfkgbcclinnbaa
set_option linter.all false
open Go Go.RowKit Go.Lib

theorem over_over {id : Nat} {a b : Ob} {m : Mem} : over [(id, a)] (over [(id, b)] m) = over [(id, a)] m := by
  funext i
  unfold over
  by_cases h : id = i
  · subst h; rw [look_cons_self]
  · rw [look_cons_ne _ _ h, look_cons_ne _ _ h]; simp [look]
section
variable {X : Cx} {G : Gh} {w w' : World} {m : Mem}
theorem Ok.growNil (h : Ok X G w m) {id n : Nat} {e : TypeId} {c2 : List (List V)} {v' : Value} {news : List Value} (hid : m id = none) (hnp : X.np ≤ id) (hs : ∀ e ∈ c2, e.length = n) (hn : 0 < n) (hr : ∀ i j x, elem? c2 i j = some x → ∃ v, news[i * n + j]? = some v ∧ RepV G.S w x v)
    (hown : w'.ownsRow 0 e n v' (0 + c2.length) ([] ++ news)) (hg : w.grownBy w' none) (hbk : v'.ownBlock = none ∨ v'.ownBlock = some w.heap.size) :
    ∃ G', Ok X G' w' (over [(id, .row 1 n e c2)] m) ∧ Ext G w m G' w' (over [(id, .row 1 n e c2)] m) ∧ RepD G' w' (over [(id, .row 1 n e c2)] m) (.view id 1 0 c2.length) v' := by
  obtain ⟨n1, n2, n3⟩ := h.nilRow hid hnp n hn e
  obtain ⟨G', k1, k2, k3⟩ := n1.grow (id := id) (ver := 0) (len := 0) (c := []) (c2 := c2) (u := .slice none 0 0) (v' := v') (xs := []) (news := news) over_at (by simp) (fun i j x hi => by omega) (by simp) (fun g hg => by simp [Value.ownBlock] at hg) hs hn
    (fun i j x hx => by
      obtain ⟨v, h1, h2⟩ := hr i j x hx
      exact ⟨v, h1, h2⟩) hown hg hbk hown
  rw [over_over] at k1 k2 k3
  simp only [List.take_nil, List.nil_append, Nat.zero_add] at k1 k2 k3
  exact ⟨G', k1, n2.trans k2, k3⟩
theorem own_nil (w : World) (e : TypeId) (n : Nat) : w.ownsRow 0 e n (.slice none 0 0) 0 [] := ⟨by simp, .inl ⟨rfl, rfl⟩⟩
/-- A row is made, of known cells. -/
theorem Ok.newRow (h : Ok X G w m) {id n : Nat} (hid : m id = none) (hnp : X.np ≤ id) (e : TypeId) (c : List (List V)) (vs : List Value) (hn : 0 < n) (hs : ∀ e ∈ c, e.length = n) (hl : vs.length = c.length * n) (hm : c.length ≤ maxLen) (hr : ∀ (k : Nat) x, c.flatten[k]? = some x → ∃ v, vs[k]? = some v ∧ RepV G.S w x v) :
    let G' := G.at_ id (some w.heap.size) c.length
    let w' := w.alloc (.cells vs.toArray e)
    Ok X G' w' (over [(id, .row 0 n e c)] m) ∧ Ext G w m G' w' (over [(id, .row 0 n e c)] m) ∧ RepD G' w' (over [(id, .row 0 n e c)] m) (.view id 0 0 c.length) (.slice (some ⟨w.heap.size, 0, none⟩) c.length c.length) := by
  intro G' w'
  have hel : ∀ i j x, elem? c i j = some x → ∃ v, vs[i * n + j]? = some v ∧ RepV G.S w x v := fun i j x hx => hr _ _ (flat_get hs i j x hx)
  obtain ⟨a, b⟩ := h.step (G' := G') (w' := w') id (.row 0 n e c) rfl (fun i hi => Gh.at_ne G _ _ hi) (fun g hg => by
      rw [Gh.at_μ] at hg; injection hg with hg; exact .inl (by omega)) (fun g hg _ => Below.heap_alloc w _ g hg) (by show w.heap.size ≤ (w.alloc _).heap.size; rw [World.size_alloc]; omega) rfl rfl rfl
      (fun o' ho' => by rw [hid] at ho'; cases ho') (fun k => ⟨hs, hn, by rw [Gh.at_cap]; exact Nat.le_refl _, by rw [Gh.at_cap]; exact hm, .inr ⟨w.heap.size, vs.toArray, fun i j => vs.getD (i * n + j) undef, Gh.at_μ _ _ _ _, heap_alloc_new w _, by rw [Gh.at_cap]; simpa using hl, fun i j x hx => by
          obtain ⟨v, h1, h2⟩ := hel i j x hx
          simp [h1], fun i j x hx => by
          obtain ⟨v, h1, h2⟩ := hel i j x hx
          simp only [List.getD_eq_getElem?_getD, h1, Option.getD_some]; exact h2.ext k⟩⟩) (fun cs _ he => by cases he)
  exact ⟨a, b, .view id 0 0 _ _ 0 n e c over_at (Nat.le_refl _) rfl fun _ => ⟨by omega, some ⟨w.heap.size, 0, none⟩, c.length, rfl, by rw [Gh.at_cap]; omega, Nat.le_refl _, .inl (by rw [Gh.at_μ]; simp)⟩⟩
end
section
variable {X : Cx} {o : Oper} {f : Nat → D} {m : Mem} {d : D} {T : List Nat}
theorem rep_nil {G : Gh} {w : World} {u : Value} (h : RepD G w m (.v (.lit (.slice none 0 0))) u) : u = .slice none 0 0 := rep_lit h
/-- append(nil, x...), x a slice that will not change. -/
theorem stepU_appN {x y : Operand} {t e : TypeId} {n b : Nat} {c2 : List (List V)} (id : Nat) (hnp : X.np ≤ id) (ho : o.op = .call { callee := .builtin .append, args := #[x, y], argTypes := #[t, t] }) (ht : X.P.underlying t = some (.slice e)) (hi : infoB X.P e = some (n, b)) (hx : Ev f x (.v (.lit (.slice none 0 0)))) (hy : Ev f y (.v (.sl c2))) (hs : ∀ e ∈ c2, e.length = n)
    (hb : c2.length * b ≤ 140737488355328 ∧ c2.length ≤ 140737488355328) : StepU X o f m (.view id 1 0 c2.length) [(id, .row 1 n e c2)] [] :=
  fun f' m' hf hT hnew G w a hO hF K Q hK => by
    have hu := rep_nil (ev_at hx (by simp [ho, Op.operands, Call.operands]) hf hF)
    have hsrc := rep_sl (ev_at hy (by simp [ho, Op.operands, Call.operands]) hf hF)
    obtain ⟨i, z, i1, i2, i3, i4, i5, i6⟩ := infoB_at hi
    obtain ⟨A, cap, hv, hne⟩ := src_sl hsrc hs i6
    have hid : m' id = none := hnew (id, Ob.row 1 n e c2) (List.mem_singleton.2 rfl) List.not_mem_nil
    unfold Oper.wp
    rcases Nat.eq_zero_or_pos c2.length with h0 | h0
    · obtain rfl := List.eq_nil_of_length_eq_zero h0
      rw [run_app ho hu hv (run_append_none ht i1 (own_nil w e i.size) A cap)]
      obtain ⟨G', k1, k2, k3⟩ := hO.growNil (c2 := []) (news := []) hid hnp (by simp) i6 (fun i j x h => by simp [elem?] at h) (own_nil w e n) (World.grownBy.refl w _) (.inl rfl)
      exact hK _ _ _ k1 k2 k3
    · obtain ⟨p, rfl, news, n1, n2, n3, n4⟩ := hne h0
      obtain ⟨v', w', r1, r2, r3, _, r5⟩ := run_append_own_at (P := X.P) w 0 t o.type e i z n b ht i1 i2 i3 i4 i5 i6 (.slice none 0 0) 0 [] (own_nil w e n) p c2.length cap news n1 n2 n3 (by simp [maxLen]; omega) (by simpa using hb.1) (Nat.zero_le _)
      rw [run_app ho hu hv r1]
      obtain ⟨G', k1, k2, k3⟩ := hO.growNil hid hnp hs i6 n4 r2 r3 r5
      exact hK _ _ _ k1 k2 k3
/-- append([]byte(nil), s...), s a text. -/
theorem stepU_appNS {x y : Operand} {t t' e : TypeId} {l : List UInt8} (id : Nat) (hnp : X.np ≤ id) (ho : o.op = .call { callee := .builtin .append, args := #[x, y], argTypes := #[t, t'] }) (ht : X.P.underlying t = some (.slice e)) (ht' : X.P.underlying t' = some .string) (hi : byteB X.P e = true) (hx : Ev f x (.v (.lit (.slice none 0 0)))) (hy : Ev f y (.v (.str l)))
    (hb : l.length ≤ 140737488355328) : StepU X o f m (.view id 1 0 l.length) [(id, .row 1 1 e (bs l))] [] :=
  fun f' m' hf hT hnew G w a hO hF K Q hK => by
    have hu := rep_nil (ev_at hx (by simp [ho, Op.operands, Call.operands]) hf hF)
    have hsrc := rep_str (ev_at hy (by simp [ho, Op.operands, Call.operands]) hf hF)
    obtain ⟨i, i1, hz1, i3, i4⟩ := byteB_at hi
    have hid : m' id = none := hnew (id, Ob.row 1 1 e (bs l)) (List.mem_singleton.2 rfl) List.not_mem_nil
    unfold Oper.wp
    obtain ⟨v', w', r1, r2, r3, r5⟩ := append_strA (P := X.P) (ty := o.type) ht ht' ⟨i1, hz1, i3, i4⟩ (own_nil w e 1) l (by omega)
    rw [run_app ho hu hsrc r1]
    obtain ⟨G', k1, k2, k3⟩ := hO.growNil (c2 := bs l) (news := l.map U) hid hnp (bs_one l) (by decide) (bs_news l _ _) (by rw [bs_length]; exact r2) r3 r5
    rw [bs_length] at k3
    exact hK _ _ _ k1 k2 k3
/-- append([]T(nil), x...), x a view on a row of one's own. -/
theorem stepU_appNV {x y : Operand} {t e : TypeId} {n b id2 ver2 off2 len2 : Nat} {e2 : TypeId} {c2 c' : List (List V)} (id : Nat) (hnp : X.np ≤ id) (hne2 : id ≠ id2) (ho : o.op = .call { callee := .builtin .append, args := #[x, y], argTypes := #[t, t] }) (ht : X.P.underlying t = some (.slice e)) (hi : infoB X.P e = some (n, b)) (hx : Ev f x (.v (.lit (.slice none 0 0)))) (hy : Ev f y (.view id2 ver2 off2 len2)) (hm2 : m id2 = some (.row ver2 n e2 c2))
    (hb : off2 + len2 ≤ c2.length ∧ len2 * b ≤ 140737488355328 ∧ len2 ≤ 140737488355328) (hc : cut off2 (off2 + len2) c2 = c') : StepU X o f m (.view id 1 0 len2) [(id, .row 1 n e c')] [id2] :=
  fun f' m' hf hT hnew G w a hO hF K Q hK => by
    subst hc
    have hm2' := (hT id2 (by simp)).trans hm2
    have hu := rep_nil (ev_at hx (by simp [ho, Op.operands, Call.operands]) hf hF)
    obtain ⟨s1, s2⟩ := rep_view (ev_at hy (by simp [ho, Op.operands, Call.operands]) hf hF) hm2'
    obtain ⟨i, z, i1, i2, i3, i4, i5, i6⟩ := infoB_at hi
    have hrow2 := hO.ob id2 _ hm2'
    obtain ⟨A, cap, hv, hne⟩ := src_view hrow2 s2 s1
    have hcl : (cut off2 (off2 + len2) c2).length = len2 := by simp [cut]; omega
    have hcs : ∀ e ∈ cut off2 (off2 + len2) c2, e.length = n := fun e he => hrow2.1 e (List.mem_of_mem_drop (List.mem_of_mem_take he))
    have hid : m' id = none := hnew (id, Ob.row 1 n e (cut off2 (off2 + len2) c2)) (List.mem_singleton.2 rfl) (by simp; exact hne2)
    unfold Oper.wp
    rcases Nat.eq_zero_or_pos len2 with h0 | h0
    · subst h0
      have hc0 : cut off2 (off2 + 0) c2 = [] := List.eq_nil_of_length_eq_zero hcl
      rw [hc0] at hK
      rw [run_app ho hu hv (run_append_none ht i1 (own_nil w e i.size) A cap)]
      obtain ⟨G', k1, k2, k3⟩ := hO.growNil (c2 := []) (news := []) hid hnp (by simp) i6 (fun i j x h => by simp [elem?] at h) (own_nil w e n) (World.grownBy.refl w _) (.inl rfl)
      exact hK _ _ _ k1 k2 k3
    · obtain ⟨p, rfl, news, n1, n2, n3, n4⟩ := hne h0
      obtain ⟨v', w', r1, r2, r3, _, r5⟩ := run_append_own_at (P := X.P) w 0 t o.type e i z n b ht i1 i2 i3 i4 i5 i6 (.slice none 0 0) 0 [] (own_nil w e n) p len2 cap news n1 n2 n3 (by simp [maxLen]; omega) (by simpa using hb.2.1) (Nat.zero_le _)
      rw [run_app ho hu hv r1]
      obtain ⟨G', k1, k2, k3⟩ := hO.growNil (c2 := cut off2 (off2 + len2) c2) hid hnp hcs i6 n4 (by rw [hcl]; exact r2) r3 r5
      rw [hcl] at k3
      exact hK _ _ _ k1 k2 k3
/-- A slice's literal, a row of one's own. -/
theorem stepU_row {t e : TypeId} {b : Bool} {n len : Nat} {parts : Array (Nat × Operand)} {zus : List Value} {zs : List D} {ds : List (Nat × D)} {c : List (List V)} (id : Nat) (hnp : X.np ≤ id) (ho : o.op = .buildSlice t len parts) (ht : X.P.underlying t = some (.slice e)) (hs : sizeB X.P e = some (b, n)) (hz : zeroCs X.P e = some zus) (hl : Lits zus zs) (hzn : zs.length = n ∧ 0 < n ∧ len * n ≤ 16777216)
    (hp : PartsAt f ((List.range len).map fun k => (k * n, n)) (len * n) parts.toList ds) (hc : fillD (List.replicate (len * n) .any) ds = c.flatten.map .v) (hcn : c.length = len ∧ ∀ e ∈ c, e.length = n) : StepU X o f m (.view id 0 0 len) [(id, .row 0 n e c)] [] :=
  fun f' m' hf _ hnew G w a hO hF K Q hK => by
    have hp' := hp.mono (f' := f') (fun p hp t ht => hf t (by
      simp only [ho, Op.operands]
      rw [Array.mem_def]
      simp only [List.mem_map]
      exact ⟨p, hp, ht⟩))
    obtain ⟨vs, r1, r2, r3, r4⟩ := run_buildSlice hF ht hs hz hl hzn.1 hzn.2.2 hp'
    have hrun : (execOp a.eval o).run X.P w = .ok (.value (.slice (some ⟨w.heap.size, 0, none⟩) len len)) (w.alloc (.cells vs.toArray e)) := by
      simp only [execOp, ho, Sem.run_bind, r1, Result.andThen_ok, Sem.run_pure]
    unfold Oper.wp
    rw [hrun]
    have hid : m' id = none := hnew (id, Ob.row 0 n e c) (List.mem_singleton.2 rfl) List.not_mem_nil
    obtain ⟨rfl, hcn2⟩ := hcn
    have hlm : c.length ≤ maxLen := by have := hzn.2.2; have := hzn.2.1; simp [maxLen]; have : c.length * 1 ≤ c.length * n := Nat.mul_le_mul_left _ (by omega); omega
    obtain ⟨k1, k2, k3⟩ := hO.newRow (n := n) hid hnp e c vs hzn.2.1 hcn2 r4 hlm (fun k x hx => by
      rw [hc] at r2
      have hlt : k < vs.length := by rw [r4, ← flat_len hcn2]; exact (List.getElem?_eq_some_iff.1 hx).1
      have := r2.2 k (.v x) vs[k] (by rw [List.getElem?_map, hx]; rfl) (List.getElem?_eq_getElem hlt)
      refine ⟨vs[k], by simp [hlt], ?_⟩
      cases this with | v _ _ h => exact h)
    exact hK _ _ _ k1 k2 k3
/-- &x[i] of a row of one's own. -/
theorem stepU_indexAddrV {x y : Operand} {t e : TypeId} {id ver off len n i : Nat} {e' : TypeId} {c : List (List V)} {k : IntKind} {p : Int} {b : Bool} (ho : o.op = .indexAddr t x y) (ht : X.P.underlying t = some (.slice e)) (hs : sizeB X.P e = some (b, n)) (hx : Ev f x (.view id ver off len)) (hm : m id = some (.row ver n e' c)) (hy : Ev f y (.v (.int k p))) (hp : p = (i : Int)) (hi : i < len) :
    StepU X o f m (.vptr id ver (off + i) 0) [] [id] :=
  stepU_pure fun f' m' hf hT G w a hO hF => by
    subst hp
    have hm' := (hT id (by simp)).trans hm
    obtain ⟨v1, A, cap, hu, a2, a3, a4⟩ := rep_view (ev_at hx (by simp [ho, Op.operands]) hf hF) hm'
    have h2 := rep_int (ev_at hy (by simp [ho, Op.operands]) hf hF)
    have hrow := hO.ob id _ hm'
    obtain ⟨r1, r2, r3, r4, r5⟩ := hrow
    rcases r5 with ⟨r6, r7⟩ | ⟨g, cur, us, r6, r7, r8, r10, r11⟩
    · omega
    · have hA : A = some ⟨g, off * n, none⟩ := by
        rcases a4 with a4 | ⟨a4, _⟩
        · rw [a4, r6]; rfl
        · omega
      subst hA
      refine ⟨.pointer (some ⟨g, off * n + i * n, none⟩), ?_, .vptr id ver _ 0 _ ver n e' c hm' (Nat.le_refl _) rfl fun _ => ⟨by omega, g, r6, by rw [Nat.add_mul]; rfl⟩⟩
      simp [execOp, ho, hu, h2, Instr.indexAt, asIntOf, run_underlying ht, (run_sizeB hs w).1, hi, addr_add]
/-- &x[i] of an array that is a variable. -/
theorem stepU_indexAddrA {x y : Operand} {t e n0 : Nat} {id off n : Nat} (i : Nat) {k : IntKind} {p : Int} {b : Bool} (ho : o.op = .indexAddr t x y) (ht : X.P.underlying t = some (.array n0 e)) (hs : sizeB X.P e = some (b, n)) (hx : Ev f x (.ptr id off)) (hy : Ev f y (.v (.int k p))) (hp : p = (i : Int)) (hi : i < n0) :
    StepU X o f m (.ptr id (off + i * n)) [] [] :=
  stepU_pure fun f' m' hf hT G w a hO hF => by
    subst hp
    obtain ⟨g, cs, h1, h2, h3⟩ := rep_ptr (ev_at hx (by simp [ho, Op.operands]) hf hF)
    have h4 := rep_int (ev_at hy (by simp [ho, Op.operands]) hf hF)
    refine ⟨.pointer (some ⟨g, off + i * n, none⟩), ?_, .ptr id _ g cs h3 h2⟩
    simp [execOp, ho, h1, h4, Instr.indexAt, Instr.sureAddr, asIntOf, run_underlying ht, (run_sizeB hs w).1, hi, addr_add]
theorem rep_vptr {G : Gh} {w : World} {id ver i j n : Nat} {e : TypeId} {c : List (List V)} {u : Value} (h : RepD G w m (.vptr id ver i j) u) (hm : m id = some (.row ver n e c)) : i < c.length ∧ ∃ g, G.μ id = some g ∧ u = .pointer (some ⟨g, i * n + j, none⟩) := by
  cases h with
  | vptr _ _ _ _ _ ver' n' e' c' h hv h1 h2 =>
    rw [hm] at h
    injection h with h
    injection h with h3 h4 h5 h6
    subst h3 h4 h5 h6
    exact h2 rfl
theorem stepU_fieldV {t : TypeId} {x : Operand} {q k id ver i j n : Nat} {e : TypeId} {c : List (List V)} (ho : o.op = .fieldAddr t x q) (hx : Ev f x (.vptr id ver i j)) (hm : m id = some (.row ver n e c)) (h : fieldOff X.P t q = some k) : StepU X o f m (.vptr id ver i (j + k)) [] [id] :=
  stepU_pure fun f' m' hf hT G w a _ hF => by
    have hm' := (hT id (by simp)).trans hm
    obtain ⟨h1, g, h2, h3⟩ := rep_vptr (ev_at hx (by simp [ho, Op.operands]) hf hF) hm'
    exact ⟨.pointer (some ⟨g, i * n + (j + k), none⟩), by simp only [execOp, ho, h3, Sem.run_bind, run_fieldAt h, Result.andThen_ok, Sem.run_pure, Nat.add_assoc], .vptr id ver i _ _ ver n e c hm' (Nat.le_refl _) rfl fun _ => ⟨h1, g, h2, rfl⟩⟩
/-- A read of an element's cells. -/
theorem stepU_loadV {t : TypeId} {x : Operand} {id ver i j n s : Nat} {e : TypeId} {b : Bool} {c : List (List V)} {cs : List V} (ho : o.op = .load t x) (hx : Ev f x (.vptr id ver i j)) (hm : m id = some (.row ver n e c)) (hc : c[i]? = some cs) (hs : sizeB X.P t = some (b, s)) (hn : (b = true ∨ s = 1) ∧ j + s ≤ cs.length) (hd : rd b (((cs.drop j).take s).map .v) = d) : StepU X o f m d [] [id] :=
  stepU_pure fun f' m' hf hT G w a hO hF => by
    have hm' := (hT id (by simp)).trans hm
    obtain ⟨h1, g, h2, h3⟩ := rep_vptr (ev_at hx (by simp [ho, Op.operands]) hf hF) hm'
    obtain ⟨r1, r2, r3, r4, r5⟩ := hO.ob id _ hm'
    rcases r5 with ⟨r6, r7⟩ | ⟨g', cur, us, r6, r7, r8, r10, r11⟩
    · omega
    · obtain rfl : g' = g := by rw [r6] at h2; simpa using h2
      have hel : ∀ q x, cs[q]? = some x → elem? c i q = some x := fun q x hq => by unfold elem?; rw [hc]; exact hq
      have hl : ((List.range s).map fun q => us i (j + q)).length = s := by simp
      have hR : RepDs G w m' (((cs.drop j).take s).map .v) ((List.range s).map fun q => us i (j + q)) := by
        refine ⟨by simp; omega, fun q d u hd hu => ?_⟩
        rw [List.getElem?_map] at hd hu
        by_cases hq : q < s
        · rw [List.getElem?_range hq] at hu
          rw [List.getElem?_take_of_lt hq, List.getElem?_drop] at hd
          cases hcq : cs[j + q]? with
          | none => rw [hcq] at hd; cases hd
          | some y => rw [hcq] at hd; simp at hd hu; subst hd hu; exact .v _ _ (r11 i _ y (hel _ y hcq))
        · rw [List.getElem?_eq_none (by simp; omega)] at hu; cases hu
      have hO1 : ∀ u ∈ (List.range s).map fun q => us i (j + q), u.oneCell' = true := fun u hu => by
        obtain ⟨q, hq, rfl⟩ := List.mem_map.1 hu
        have hq' := List.mem_range.1 hq
        exact (r11 i (j + q) cs[j + q] (hel _ _ (List.getElem?_eq_getElem (by omega)))).one
      refine ⟨_, ?_, by rw [← hd]; exact rep_rd hR hO1⟩
      simp only [execOp, ho, h3, Instr.loadAt, Instr.sureAddr, Sem.run_bind, Sem.run_pure, Result.andThen_ok]
      rw [run_loadVar_at hs g' (i * n + j) _ hl (fun q u hu => by
        rw [List.getElem?_map] at hu
        by_cases hq : q < s
        · rw [List.getElem?_range hq] at hu
          simp at hu
          subst hu
          have := r10 i (j + q) cs[j + q] (hel _ _ (List.getElem?_eq_getElem (by omega)))
          simp only [World.cell?, r7]
          rw [show i * n + j + q = i * n + (j + q) from by omega]
          simpa using this
        · rw [List.getElem?_eq_none (by simp; omega)] at hu; cases hu) (fun hb => by rcases hn.1 with h | h <;> simp_all)]
      simp
end
section
variable {X : Cx} {Q : AX → Fm → AH → Prop} {fr : Fm} {ah : AH}
/-- A cut: what is known there. -/
theorem aw_cut {x y : Code} (st : Fm × AH) (h1 : ∀ K : Fm → AH → Prop, (∀ fr ah, Weak X fr ah st.1 st.2 → K fr ah) → aw X x (thenQ K Q) fr ah) (h2 : aw X y Q st.1 st.2) : aw X (.seq x y) Q fr ah :=
  aw_seq fun K hK => h1 K fun fr ah hw => hK fr ah (aw_weak hw h2)
theorem aw_cutE {α : Type} {x y : Code} (st : α → Fm × AH) (h1 : ∀ K : Fm → AH → Prop, (∀ fr ah z, Weak X fr ah (st z).1 (st z).2 → K fr ah) → aw X x (thenQ K Q) fr ah) (h2 : ∀ z, aw X y Q (st z).1 (st z).2) : aw X (.seq x y) Q fr ah :=
  aw_seq fun K hK => h1 K fun fr ah z hw => hK fr ah (aw_weak hw (h2 z))
theorem weak_front (t : Nat) (d d' : D) (h : d = d') : Weak X ((t, d) :: fr) ah ((t, d') :: fr) ah := by subst h; exact Weak.refl
/-- Nothing is a row of one's own, of nothing. -/
theorem weak_nil {t : Nat} (id n : Nat) (e : TypeId) (hn : 0 < n) (hnp : X.np ≤ id) (hl : look fr t = some (.v (.lit (.slice none 0 0)))) (hid : look ah id = none) : Weak X fr ah ((t, .view id 0 0 0) :: fr) ((id, .row 0 n e []) :: ah) := fun G w a hS => by
  obtain ⟨h1, h2, h3⟩ := hS.ok.nilRow hid hnp n hn e
  rw [over_cons] at h1 h2 h3
  refine ⟨_, h1, fun i => ?_, hS.nt, hS.df⟩
  by_cases hi : t = i
  · subst hi
    have := hS.fr t
    rw [Fm.at_eq hl] at this
    rw [rep_lit this, Fm.at_eq (look_cons_self _ _ _)]
    exact h3
  · have : Fm.at ((t, D.view id 0 0 0) :: fr) i = fr.at i := by unfold Fm.at; rw [look_cons_ne _ _ hi]
    rw [this]
    exact (hS.fr i).ext h2
/-- What a row held is for good; the row is given up. -/
inductive StlF (fr : Fm) (id ver : Nat) (c : List (List V)) (k : Nat → Bool) : Fm → Prop
  | nil : StlF fr id ver c k []
  | keep {t : Nat} {d : D} {r : Fm} (h : look fr t = some d) (hl : d.live k = true) (hr : StlF fr id ver c k r) : StlF fr id ver c k ((t, d) :: r)
  | view {t off len : Nat} {c' : List (List V)} {r : Fm} (h : look fr t = some (.view id ver off len)) (hc : cut off (off + len) c = c') (hr : StlF fr id ver c k r) : StlF fr id ver c k ((t, .v (.sl c')) :: r)
theorem StlF.at {fr fr' : Fm} {id ver : Nat} {c : List (List V)} {k : Nat → Bool} (h : StlF fr id ver c k fr') : ∀ t d, look fr' t = some d → (look fr t = some d ∧ d.live k = true) ∨ ∃ off len, look fr t = some (.view id ver off len) ∧ d = .v (.sl (cut off (off + len) c)) := by
  induction h with
  | nil => intro t d h; cases h
  | @keep t d r h hl hr ih =>
    intro t' d' hd
    by_cases hi : t = t'
    · subst hi; rw [look_cons_self] at hd; injection hd with hd; subst hd; exact .inl ⟨h, hl⟩
    · rw [look_cons_ne _ _ hi] at hd; exact ih t' d' hd
  | @view t off len c' r h hc hr ih =>
    intro t' d' hd
    by_cases hi : t = t'
    · subst hi; rw [look_cons_self] at hd; injection hd with hd; subst hd; exact .inr ⟨off, len, h, by rw [hc]⟩
    · rw [look_cons_ne _ _ hi] at hd; exact ih t' d' hd
theorem repV_view {G : Gh} {w : World} {id n off len : Nat} {e : TypeId} {c : List (List V)} {u : Value} {Z : Nat → Prop} (h : RowAt G w id n e c) (hu : ViewAt G id n off len u) (hl : off + len ≤ c.length) (hZ : ∀ g, G.S g → Z g) (hg : ∀ g, G.μ id = some g → Z g) : RepV Z w (.sl (cut off (off + len) c)) u := by
  have hcl : (cut off (off + len) c).length = len := by simp [cut]; omega
  obtain ⟨h1, h2, h3, h4, h5⟩ := h
  obtain ⟨A, cap, rfl, a2, a3, a4⟩ := hu
  rcases Nat.eq_zero_or_pos len with h0 | h0
  · subst h0
    rw [List.eq_nil_of_length_eq_zero hcl]
    exact .nil _ _ (by omega)
  · have hA : A = (G.μ id).map (fun g => ⟨g, off * n, none⟩) := by rcases a4 with a4 | ⟨a4, _⟩; exact a4; omega
    rcases h5 with ⟨h6, h7⟩ | ⟨g, cur, us, h6, h7, h8, h10, h11⟩
    · omega
    · rw [h6] at hA
      simp at hA
      subst hA
      have hel : ∀ i j x, elem? (cut off (off + len) c) i j = some x → elem? c (off + i) j = some x := fun i j x hx => by
        unfold elem? cut at hx
        unfold elem?
        rw [List.getElem?_take] at hx
        split at hx
        · rw [List.getElem?_drop] at hx; exact hx
        · cases hx
      have := RepV.sl (Z := Z) (w := w) (cut off (off + len) c) g (off * n) n cap (fun i j => us (off + i) j) (by omega) (hg g h6) h2 (fun e he => h1 e (List.mem_of_mem_drop (List.mem_of_mem_take he))) (by omega) (by omega)
        (fun i j x hx => by
          have := h10 _ _ x (hel i j x hx)
          rw [show off * n + (i * n + j) = (off + i) * n + j from by rw [Nat.add_mul]; omega]
          simp [World.cell?, h7, this])
        (fun i j x hx => (h11 _ _ x (hel i j x hx)).mono fun g hg => ⟨hZ g hg, rfl⟩)
      rw [hcl] at this
      exact this
theorem weak_settle {fr' : Fm} {ah' : AH} (id : Nat) {ver n : Nat} {e : TypeId} {c : List (List V)} (hm : look ah id = some (.row ver n e c)) (ha : KeepA ah (dom ah') ah') (hid : dom ah' id = false) (hf : StlF fr id ver c (dom ah') fr') : Weak X fr ah fr' ah' := fun G w a hS => by
  obtain ⟨h1, h2⟩ := hS.ok.keepA ha
  let G1 : Gh := { G with S := fun g => G.S g ∨ G.μ id = some g }
  have e1 : ∀ m', Ext G w m' G1 w m' := fun m' => ⟨fun g hg => ⟨.inl hg, rfl⟩, fun _ cs h => ⟨cs, h, rfl⟩, fun _ ver _ _ c h => ⟨ver, c, h, Nat.le_refl _, fun _ => ⟨Nat.le_refl _, rfl, rfl⟩⟩⟩
  have hne : ∀ i, look ah' i ≠ none → i ≠ id := fun i hi he => by
    subst he
    unfold dom at hid
    cases h : look ah' i with
    | none => exact hi h
    | some o => rw [h] at hid; cases hid
  have hin : ∀ i, look ah' i ≠ none → look ah i ≠ none := fun i hi => by
    rw [← h2 i (by unfold dom; cases h : look ah' i with | none => exact absurd h hi | some _ => rfl)]; exact hi
  have hidn : look ah id ≠ none := by rw [hm]; simp
  have hO1 : Ok X G1 w (look ah') := by
    refine ⟨fun i o ho => (h1.ob i o ho).ext (e1 _) rfl rfl fun _ _ => rfl, h1.inj, fun i g hi hg => ⟨fun hs => ?_, (h1.apart i g hi hg).2⟩, fun g hg => ?_, h1.keep, h1.os, h1.tape, h1.output, h1.size, fun g hg => .inl (h1.s0 g hg), fun g hg hk => ?_, h1.pin⟩
    · rcases hs with hs | hs
      · exact (h1.apart i g hi hg).1 hs
      · exact hne i hi (hS.ok.inj i id g (hin i hi) hidn hg hs)
    · rcases hg with hg | hg
      · exact h1.low g hg
      · exact (hS.ok.ob id _ hm).lt hg
    · rcases hg with hg | hg
      · exact h1.sk g hg hk
      · exact absurd hk (hS.ok.apart id g hidn hg).2
  refine ⟨G1, hO1, fun t => ?_, hS.nt, hS.df⟩
  cases hl : look fr' t with
  | none => unfold Fm.at; rw [hl]; exact .any _
  | some d =>
    rw [Fm.at_eq hl]
    rcases hf.at t d hl with ⟨h3, h4⟩ | ⟨off, len, h3, rfl⟩
    · have := hS.fr t
      rw [Fm.at_eq h3] at this
      exact ((this.ext (e1 _)).part h2 h4)
    · have := hS.fr t
      rw [Fm.at_eq h3] at this
      obtain ⟨v1, v2⟩ := rep_view this hm
      exact .v _ _ (repV_view (hS.ok.ob id _ hm) v2 v1 (fun g hg => .inl hg) (fun g hg => .inr hg))
theorem d_int {k : IntKind} {a b : Int} (h : a = b) : D.v (.int k a) = D.v (.int k b) := by rw [h]
theorem d_bool {a b : Bool} (h : a = b) : D.v (.bool a) = D.v (.bool b) := by rw [h]
theorem d_str {a b : List UInt8} (h : a = b) : D.v (.str a) = D.v (.str b) := by rw [h]
theorem d_sl {a b : List (List V)} (h : a = b) : D.v (.sl a) = D.v (.sl b) := by rw [h]
theorem d_view {id v o l o' l' : Nat} (h : o = o') (k : l = l') : D.view id v o l = D.view id v o' l' := by rw [h, k]
theorem KeepF.cons' {k : Nat → Bool} {t : Nat} {d0 d : D} {r : Fm} (h : look fr t = some d0) (he : d0 = d) (hl : d.live k = true) (hr : KeepF fr k r) : KeepF fr k ((t, d) :: r) := by subst he; exact .cons h hl hr
theorem KeepA.row' {k : Nat → Bool} {id ver n : Nat} {e : TypeId} {c0 c : List (List V)} {r : AH} (h : look ah id = some (.row ver n e c0)) (he : c0 = c) (hr : KeepA ah k r) : KeepA ah k ((id, .row ver n e c) :: r) := by subst he; exact .row h hr
theorem KeepA.box' {k : Nat → Bool} {id : Nat} {cs0 cs : List D} {r : AH} (h : look ah id = some (.box cs0)) (he : cs0 = cs) (hl : D.lives k cs = true) (hr : KeepA ah k r) : KeepA ah k ((id, .box cs) :: r) := by subst he; exact .box h hl hr
end
end Go.Proofs.Ytlfkgbcclinnbaa
