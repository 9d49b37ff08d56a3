/- Abstract states: rows grow by texts, by noughts, out of nothing; values settle. No program, no condition. -/
import Derived.Test.YtlfkgbcclinnbaaAi
import Derived.Test.YtlfkgbcclinnbaaMem
import Derived.Lib.AppendStr
import Derived.Lib.AppendZeros
import Derived.Laws.MakeOwn
namespace Go.Proofs.Ytlfkgbcclinnbaa
set_option linter.all false
open Go Go.RowKit Go.Lib



section
variable {P : Program}
/-- append of whatever, its three roads known. -/
theorem own_append_genA (w : World) (base : Nat) (t u ty e : TypeId) (x : Value) (news : List Value) (m : Nat) (hm : news.length = m)
    (hnil0 : m = 0 → (Builtin.append_ #[t, u] ty #[.slice none 0 0, x]).run P w = .ok (.slice none 0 0) w)
    (hnil : 0 < m → (Builtin.append_ #[t, u] ty #[.slice none 0 0, x]).run P w = .ok (.slice (some ⟨w.heap.size, 0, none⟩) m (grownCap w m 0 e)) (w.drew.alloc (.cells (news.toArray ++ Builtin.zeroCells (Value.int .u8 0).cells (grownCap w m 0 e - m)) e)))
    (hroom : ∀ g n cap (cur : Array Value), w.heap[g]? = some (.cells cur e (0, 0)) → n + m ≤ cap → n + m ≤ cur.size →
      (Builtin.append_ #[t, u] ty #[.slice (some ⟨g, 0, none⟩) n cap, x]).run P w = .ok (.slice (some ⟨g, 0, none⟩) (n + m) cap) (w.setRow g (cur.toList.take n ++ news ++ cur.toList.drop (n + m)).toArray))
    (hgrow : ∀ g n cap (olds : List Value), olds.length = n → (∀ j v, olds[j]? = some v → w.cell? ((⟨g, 0, none⟩ : Addr).add j) = some v) → n ≤ cap → cap < n + m → n + m ≤ 140737488355328 →
      (Builtin.append_ #[t, u] ty #[.slice (some ⟨g, 0, none⟩) n cap, x]).run P w = .ok (.slice (some ⟨w.heap.size, 0, none⟩) (n + m) (grownCap w (n + m) cap e)) (w.drew.alloc (.cells (olds.toArray ++ news.toArray ++ Builtin.zeroCells (Value.int .u8 0).cells (grownCap w (n + m) cap e - (n + m))) e)))
    (v : Value) (n : Nat) (xs : List Value) (hown : w.ownsRow base e 1 v n xs) (hbytes : n + m ≤ 140737488355328) (hbase : base ≤ w.heap.size) :
    ∃ v' w', (Builtin.append_ #[t, u] ty #[v, x]).run P w = .ok v' w' ∧ w'.ownsRow base e 1 v' (n + m) (xs ++ news) ∧ w.grownBy w' v.ownBlock ∧ (v'.ownBlock = v.ownBlock ∨ v'.ownBlock = some w.heap.size) := by
  have h63 : n + m ≤ maxLen := by simp only [maxLen]; omega
  have hxl : xs.length = n := by simpa using hown.1
  have hlen : (xs ++ news).length = (n + m) * 1 := by rw [List.length_append, hxl, hm, Nat.mul_one]
  have grown : ∀ (old : Nat), ∀ (row : Option Nat),
      (w.drew.alloc (.cells (xs.toArray ++ news.toArray ++ Builtin.zeroCells (Value.int .u8 0).cells (grownCap w (n + m) old e - (n + m))) e)).ownsRow base e 1
        (.slice (some ⟨w.heap.size, 0, none⟩) (n + m) (grownCap w (n + m) old e)) (n + m) (xs ++ news) ∧
      w.grownBy (w.drew.alloc (.cells (xs.toArray ++ news.toArray ++ Builtin.zeroCells (Value.int .u8 0).cells (grownCap w (n + m) old e - (n + m))) e)) row := by
    intro old row
    have hge := grownCap_ge w (n + m) old e
    have hcm : grownCap w (n + m) old e ≤ maxLen := grownCap_le_maxLen w (n + m) old e h63
    refine ⟨⟨hlen, .inr ⟨w.heap.size, _, _, rfl, hbase, heap_alloc_new w.drew _, hge, hcm, ?_, ?_⟩⟩, ⟨rfl, rfl, rfl, by simp, fun k hk _ => Below.heap_alloc w.drew _ k hk⟩⟩
    · have hz1 : (Value.int IntKind.u8 0).cells.size = 1 := rfl
      simp only [Array.size_append, List.size_toArray, size_zeroCells, hz1, hxl, hm]
      omega
    · simp only [Array.toList_append, List.append_assoc]
      rw [← List.append_assoc, ← hlen]
      exact List.take_left
  rcases hown.2 with ⟨rfl, rfl⟩ | ⟨g, cap, cur, rfl, hbg, hg, hnc, hcm, hcs, htake⟩
  · have hx : xs = [] := List.eq_nil_of_length_eq_zero hxl
    subst hx
    by_cases h0 : m = 0
    · have hn : news = [] := List.eq_nil_of_length_eq_zero (by omega)
      exact ⟨.slice none 0 0, w, hnil0 h0, by rw [h0, hn]; exact World.ownsRow_nil w base e 1, ⟨rfl, rfl, rfl, Nat.le_refl _, fun _ _ _ => rfl⟩, .inl rfl⟩
    · have hr := hnil (by omega)
      have hgr := grown 0 (Value.ownBlock (.slice none 0 0))
      simp only [Nat.zero_add, List.nil_append, Array.empty_append] at hgr ⊢
      exact ⟨_, _, hr, hgr.1, hgr.2, .inr rfl⟩
  · by_cases hrm : n + m ≤ cap
    · have hcs' : cur.size = cap := by simpa using hcs
      have hr := hroom g n cap cur hg hrm (by omega)
      refine ⟨_, _, hr, ⟨hlen, .inr ⟨g, cap, _, rfl, hbg, setRow_heap w g cur _ e _ hg, hrm, hcm, ?_, ?_⟩⟩, ⟨rfl, rfl, rfl, by simp, fun k _ hk => setRow_other w g k _ (fun e => hk (by simp [Value.ownBlock, e]))⟩, .inl rfl⟩
      · simp only [List.size_toArray, List.length_append, List.length_take, List.length_drop, Array.length_toList, hm]
        omega
      · have ht' : cur.toList.take n = xs := by simpa using htake
        rw [ht', ← hlen]
        exact List.take_left
    · have holds : ∀ j u, xs[j]? = some u → w.cell? ((⟨g, 0, none⟩ : Addr).add j) = some u := hown.cells (g := g) rfl
      have hr := hgrow g n cap xs hxl holds hnc (by omega) hbytes
      have hgr := grown cap (Value.ownBlock (.slice (some ⟨g, 0, none⟩) n cap))
      exact ⟨_, _, hr, hgr.1, hgr.2, .inr rfl⟩
/-- append(v, s...), s a text. -/
theorem append_strA {t u ty e : TypeId} {i : TypeInfo} (ht : P.underlying t = some (.slice e)) (hu : P.underlying u = some .string) (hi : P.info? e = some i ∧ i.zero = some (.int .u8 0) ∧ i.size = 1 ∧ i.bytes = 1)
    {W : World} {v : Value} {n : Nat} {xs : List Value} (h : W.ownsRow 0 e 1 v n xs) (r : List UInt8) (hn : n + r.length ≤ 140737488355328) :
    ∃ v' W', (Builtin.append_ #[t, u] ty #[v, .string (S r)]).run P W = .ok v' W' ∧ W'.ownsRow 0 e 1 v' (n + r.length) (xs ++ r.map U) ∧ W.grownBy W' v.ownBlock ∧ (v'.ownBlock = v.ownBlock ∨ v'.ownBlock = some W.heap.size) := by
  obtain ⟨hi, hz, hs, hb⟩ := hi
  have e1 : strCells (S r) = r.map U := by simp [strCells, S, U]
  have e2 : (S r).size = r.length := S_size r
  obtain ⟨v', w', h1, h2, h3, h4⟩ := own_append_genA (P := P) W 0 t u ty e (.string (S r)) (r.map U) r.length (by simp)
    (fun h0 => by
      have hf := run_firstCells_string (P := P) W 1 (S r)
      rw [e2, h0, e1, List.eq_nil_of_length_eq_zero h0] at hf
      rw [List.eq_nil_of_length_eq_zero h0]
      rw [List.eq_nil_of_length_eq_zero h0] at e2
      simp [Builtin.append_, run_underlying ht, run_underlying hu, sizeOf, typeInfo, hi, hs, Builtin.lenOf, hf])
    (fun h0 => by
      have hr := run_append_nil_string (P := P) W t u ty e i (.int .u8 0) ht hu hi hz (S r) (by rw [e2]; omega) (by rw [e2]; omega) (by rw [e2, hb]; omega)
      have e3 : ((S r).data.map fun b => Value.int .u8 b.toNat) = (r.map U).toArray := by
        apply Array.ext'
        simp [S, U]
      rw [e3, e2] at hr
      exact hr)
    (fun g n cap cur hg hrm hf => by
      have hr := run_append_room_string (P := P) W t u ty e i ht hu hi hs g n cap cur hg (S r) (by rw [e2]; exact hrm) (by rw [e2]; exact hf)
      rw [e1, e2] at hr
      exact hr)
    (fun g n cap olds hlo ho hnc hg hfit => by
      have hr := run_append_grow_string (P := P) W t u ty e i (.int .u8 0) ht hu hi hz ⟨g, 0, none⟩ n cap olds (by rw [hs]; omega) ho (S r) (by rw [e2]; exact hg) (by rw [e2]; omega) (by rw [e2, hb]; exact growslice_fits (by omega) (by omega))
      rw [e1, e2] at hr
      exact hr)
    v n xs h hn (Nat.zero_le _)
  exact ⟨v', w', h1, h2, h3, h4⟩
theorem zero_cellsA (n : Nat) : Builtin.zeroCells (Value.int .u8 0).cells n = ((List.replicate n (0 : UInt8)).map U).toArray := by
  apply Array.ext'
  have : (Value.int IntKind.u8 0).cells = #[Value.int .u8 0] := rfl
  rw [this]
  simp [Builtin.zeroCells, U, Nat.mod_one, List.map_const']
/-- append(v, make([]byte, m)...). -/
theorem append_zerosA {t u ty e : TypeId} {i : TypeInfo} {k : IntKind} (ht : P.underlying t = some (.slice e)) (hu : P.underlying u = some (.int k)) (hi : P.info? e = some i ∧ i.zero = some (.int .u8 0) ∧ i.size = 1 ∧ i.bytes = 1)
    {W : World} {v : Value} {n : Nat} {xs : List Value} (h : W.ownsRow 0 e 1 v n xs) (m : Nat) (hn : n + m ≤ 140737488355328) :
    ∃ v' W', (Builtin.append_ #[t, u] ty #[v, .int .i64 (m : Int)]).run P W = .ok v' W' ∧ W'.ownsRow 0 e 1 v' (n + m) (xs ++ (List.replicate m (0 : UInt8)).map U) ∧ W.grownBy W' v.ownBlock ∧ (v'.ownBlock = v.ownBlock ∨ v'.ownBlock = some W.heap.size) := by
  obtain ⟨hi, hz, hs, hb⟩ := hi
  have hw : IntKind.i64.wrap (m : Int) = m := by rw [IntKind.wrap_i64]; omega
  have h48i : ¬ (281474976710656 < (m : Int)) := by omega
  have hneg : ¬ ((m : Int) < 0) := by omega
  obtain ⟨v', w', h1, h2, h3, h4⟩ := own_append_genA (P := P) W 0 t u ty e (.int .i64 (m : Int)) ((List.replicate m (0 : UInt8)).map U) m (by simp)
    (fun h0 => by
      subst h0
      have hw0 : IntKind.i64.wrap 0 = 0 := rfl
      simp [Builtin.append_, run_underlying ht, run_underlying hu, sizeOf, typeInfo, zeroValue, hi, hz, hs, asInt, asIntOf, hw0])
    (fun h0 => by
      have hr := run_append_nil_zeros (P := P) W t u ty e i (.int .u8 0) .i64 k ht hu hi hz m h0 (by omega) (by omega) (by rw [hb]; omega)
      rw [zero_cellsA m] at hr
      exact hr)
    (fun g n cap cur hg hrm hf => by
      have hst := run_storeCells_at P g n e ((List.replicate m (0 : UInt8)).map U) 0 cur W hg (by simpa using hf) (fun u hu => by obtain ⟨b, _, rfl⟩ := List.mem_map.1 hu; rfl)
      simp only [Nat.add_zero, List.length_map, List.length_replicate, List.map_replicate, List.append_assoc] at hst
      by_cases h0 : m = 0
      · subst h0
        have hw0 : IntKind.i64.wrap 0 = 0 := rfl
        simp at hst
        simp [Builtin.append_, run_underlying ht, run_underlying hu, sizeOf, typeInfo, zeroValue, hi, hz, hs, asInt, asIntOf, hw0, show n ≤ cap from by omega, Addr.add_lit, hst]
      · simp [Builtin.append_, run_underlying ht, run_underlying hu, sizeOf, typeInfo, zeroValue, hi, hz, hs, hb, asInt, asIntOf, hw, h48i, hneg, h0, hrm, Addr.add_lit, zero_cellsA, hst])
    (fun g n cap olds hlo ho hnc hg hfit => by
      have h0 : m ≠ 0 := by omega
      have hnn : ¬ (n + m ≤ cap) := by omega
      have h63' : ¬ (9223372036854775807 < ((n : Int) + (m : Int))) := by omega
      have h48' : ¬ (281474976710656 < Builtin.nextslicecap (n + m) cap) := by have := growslice_fits (old := cap) (need := n + m) (bytes := 1) (by omega) (by omega); omega
      have hfo := run_firstCells_some (P := P) W.drew i.size n ⟨g, 0, none⟩ n cap olds (by rw [hs]; omega) (by simpa using ho)
      rw [hs] at hfo
      simp [Builtin.append_, run_underlying ht, run_underlying hu, sizeOf, typeInfo, zeroValue, hi, hz, hs, hb, asInt, asIntOf, hw, h48i, hneg, h0, hnn, h63', h48', Question.forced, hfo, newRow, grownCap, zero_cellsA]
      )
    v n xs h hn (Nat.zero_le _)
  exact ⟨v', w', h1, h2, h3, h4⟩
end
section
variable {X : Cx} {G : Gh} {w w' : World} {m : Mem}
theorem bs_news (r : List UInt8) (Z : Nat → Prop) (w : World) : ∀ i j x, elem? (bs r) i j = some x → ∃ v, (r.map U)[i * 1 + j]? = some v ∧ RepV Z w x v := fun i j x h => by
  unfold elem? bs at h
  rw [List.getElem?_map] at h
  cases hr : r[i]? with
  | none => rw [hr] at h; cases h
  | some b =>
    rw [hr] at h
    have h' : [V.int .u8 (b.toNat : Int)][j]? = some x := h
    cases j with
    | zero => simp at h'; subst h'; exact ⟨U b, by simp [hr], .int _ _⟩
    | succ j => simp at h'
/-- The cells of a view's elements. -/
theorem src_view {id n off len : Nat} {e : TypeId} {c : List (List V)} {u : Value} (h : RowAt G w id n e c) (hu : ViewAt G id n off len u) (hl : off + len ≤ c.length) : ∃ A cap, u = .slice A len cap ∧ (0 < len → ∃ a, A = some a ∧ ∃ news : List Value, news.length = len * n ∧ (∀ j v, news[j]? = some v → w.cell? (a.add j) = some v) ∧ (∀ v ∈ news, v.oneCell' = true) ∧
    ∀ i j x, elem? (cut off (off + len) c) i j = some x → ∃ v, news[i * n + j]? = some v ∧ RepV G.S w x v) := by
  obtain ⟨h1, h2, h3, h4, h5⟩ := h
  obtain ⟨A, cap, rfl, a2, a3, a4⟩ := hu
  refine ⟨A, cap, rfl, fun hp => ?_⟩
  have hA : A = (G.μ id).map (fun g => ⟨g, off * n, none⟩) := by rcases a4 with a4 | ⟨a4, _⟩; exact a4; omega
  rcases h5 with ⟨h6, h7⟩ | ⟨g, cur, us, h6, h7, h8, h10, h11⟩
  · omega
  · rw [h6] at hA
    simp at hA
    subst hA
    have hel : ∀ k, k < len * n → ∃ x, elem? c (off + k / n) (k % n) = some x := fun k hk => by
      have k1 : k / n < len := (Nat.div_lt_iff_lt_mul h2).2 hk
      have k2 : k % n < n := Nat.mod_lt _ h2
      unfold elem?
      rw [List.getElem?_eq_getElem (by omega)]
      have := h1 _ (List.getElem_mem (show off + k / n < c.length by omega))
      exact ⟨c[off + k / n][k % n]'(by omega), List.getElem?_eq_getElem (by omega)⟩
    refine ⟨_, rfl, (List.range (len * n)).map fun k => us (off + k / n) (k % n), by simp, fun j v hv => ?_, fun v hv => ?_, fun i j x hx => ?_⟩
    · rw [List.getElem?_map] at hv
      by_cases hj : j < len * n
      · rw [List.getElem?_range hj] at hv
        simp at hv
        subst hv
        obtain ⟨x, hx⟩ := hel j hj
        have := h10 _ _ x hx
        rw [addr_add]
        have e1 : (off + j / n) * n + j % n = off * n + j := by
          rw [Nat.add_mul]
          have := Nat.div_add_mod j n
          rw [Nat.mul_comm n] at this
          omega
        rw [e1] at this
        simp [World.cell?, h7, this]
      · rw [List.getElem?_eq_none (by simp; omega)] at hv; cases hv
    · obtain ⟨k, hk, rfl⟩ := List.mem_map.1 hv
      obtain ⟨x, hx⟩ := hel k (List.mem_range.1 hk)
      exact (h11 _ _ x hx).one
    · have hx' : elem? c (off + i) j = some x ∧ i < len := by
        unfold elem? cut at hx
        unfold elem?
        rw [List.getElem?_take] at hx
        split at hx
        · rename_i hlt
          rw [List.getElem?_drop] at hx; exact ⟨hx, by omega⟩
        · cases hx
      obtain ⟨hx1, hi⟩ := hx'
      have hj : j < n := by
        unfold elem? at hx1
        rw [List.getElem?_eq_getElem (show off + i < c.length by omega)] at hx1
        have h1' : (c[off + i]'(by omega))[j]? = some x := hx1
        have h2' := (List.getElem?_eq_some_iff.1 h1').1
        rw [h1 _ (List.getElem_mem _)] at h2'; exact h2'
      have hlt : i * n + j < len * n := by
        have : (i + 1) * n ≤ len * n := Nat.mul_le_mul_right _ (by omega)
        rw [Nat.add_mul] at this; omega
      refine ⟨us (off + i) j, ?_, h11 _ j x hx1⟩
      rw [List.getElem?_map, List.getElem?_range hlt]
      simp only [Option.map_some]
      rw [Nat.mul_comm i n, Nat.mul_add_div h2, Nat.mul_add_mod, Nat.div_eq_of_lt hj, Nat.mod_eq_of_lt hj, Nat.add_zero]
/-- An empty row, of nothing yet. -/
theorem Ok.nilRow (h : Ok X G w m) {id : Nat} (hid : m id = none) (hnp : X.np ≤ id) (n : Nat) (hn : 0 < n) (e : TypeId) : Ok X (G.at_ id none 0) w (over [(id, .row 0 n e [])] m) ∧ Ext G w m (G.at_ id none 0) w (over [(id, .row 0 n e [])] m) ∧ RepD (G.at_ id none 0) w (over [(id, .row 0 n e [])] m) (.view id 0 0 0) (.slice none 0 0) := by
  obtain ⟨a, b⟩ := h.step (G' := G.at_ id none 0) (w' := w) id (.row 0 n e []) rfl (fun i hi => Gh.at_ne G _ _ hi) (fun g hg => by rw [Gh.at_μ] at hg; cases hg) (fun g _ _ => rfl) (Nat.le_refl _) rfl rfl rfl
    (fun o' ho' => by rw [hid] at ho'; cases ho') (fun k => ⟨by simp, hn, by simp, by rw [Gh.at_cap]; simp [maxLen], .inl ⟨Gh.at_μ _ _ _ _, Gh.at_cap _ _ _ _⟩⟩) (fun cs _ he => by cases he)
  exact ⟨a, b, .view id 0 0 0 _ 0 n e [] over_at (Nat.le_refl _) rfl fun _ => ⟨by simp, none, 0, rfl, by rw [Gh.at_cap], by omega, .inl (by rw [Gh.at_μ]; rfl)⟩⟩
end
section
variable {X : Cx} {o : Oper} {f : Nat → D} {m : Mem} {d : D} {T : List Nat}
def byteB (P : Program) (e : TypeId) : Bool := match P.info? e with | some i => (match i.zero with | some (.int .u8 0) => Nat.beq i.size 1 && Nat.beq i.bytes 1 | _ => false) | none => false
theorem byteB_at {P : Program} {e : TypeId} (h : byteB P e = true) : ∃ i, P.info? e = some i ∧ i.zero = some (.int .u8 0) ∧ i.size = 1 ∧ i.bytes = 1 := by
  unfold byteB at h
  cases hi : P.info? e with
  | none => simp [hi] at h
  | some i =>
    simp only [hi] at h
    split at h
    · rename_i hz
      simp only [Bool.and_eq_true] at h
      exact ⟨i, rfl, hz, Nat.eq_of_beq_eq_true h.1, Nat.eq_of_beq_eq_true h.2⟩
    · cases h
/-- append(v, s...), s a text. -/
theorem stepU_appS {x y : Operand} {t t' e : TypeId} {id ver len : Nat} {c c' : List (List V)} {l : List UInt8} (ho : o.op = .call { callee := .builtin .append, args := #[x, y], argTypes := #[t, t'] }) (ht : X.P.underlying t = some (.slice e)) (ht' : X.P.underlying t' = some .string) (hi : byteB X.P e = true)
    (hx : Ev f x (.view id ver 0 len)) (hm : m id = some (.row ver 1 e c)) (hy : Ev f y (.v (.str l))) (hb : len ≤ c.length ∧ len + l.length ≤ 140737488355328) (hc : c.take len ++ bs l = c') : StepU X o f m (.view id (ver + 1) 0 (len + l.length)) [(id, .row (ver + 1) 1 e c')] [id] :=
  fun f' m' hf hT _ G w a hO hF K Q hK => by
    subst hc
    have hm' := (hT id (by simp)).trans hm
    obtain ⟨v1, v2⟩ := rep_view (ev_at hx (by simp [ho, Op.operands, Call.operands]) hf hF) hm'
    have hsrc := rep_str (ev_at hy (by simp [ho, Op.operands, Call.operands]) hf hF)
    obtain ⟨i, i1, hz1, i3, i4⟩ := byteB_at hi
    have i6 : 0 < 1 := by decide
    obtain ⟨xs, hown, hxs, hblk⟩ := own_of_view (ver := ver) (hO.ob id _ hm') v2 hb.1
    unfold Oper.wp
    obtain ⟨v', w', r1, r2, r3, r5⟩ := append_strA (P := X.P) (ty := o.type) ht ht' ⟨i1, hz1, i3, i4⟩ hown l hb.2
    rw [run_app ho rfl hsrc r1]
    obtain ⟨G', k1, k2, k3⟩ := hO.grow (c2 := bs l) (news := l.map U) hm' hb.1 hxs hown.1 hblk (bs_one l) i6 (bs_news l _ _) (by rw [bs_length]; exact r2) r3 r5 (by rw [bs_length]; exact r2)
    rw [bs_length] at k3
    exact hK _ _ _ k1 k2 k3
/-- append(v, make([]byte, n)...). -/
theorem stepU_appZ {x y : Operand} {t t' e : TypeId} {kk : IntKind} {id ver len : Nat} {c c' : List (List V)} {p : Int} {q : Nat} (ho : o.op = .call { callee := .builtin .append, args := #[x, y], argTypes := #[t, t'] }) (ht : X.P.underlying t = some (.slice e)) (ht' : X.P.underlying t' = some (.int kk)) (hi : byteB X.P e = true)
    (hx : Ev f x (.view id ver 0 len)) (hm : m id = some (.row ver 1 e c)) (hy : Ev f y (.v (.int .i64 p))) (hp : p = (q : Int)) (hb : len ≤ c.length ∧ len + q ≤ 140737488355328) (hc : c.take len ++ bs (List.replicate q 0) = c') : StepU X o f m (.view id (ver + 1) 0 (len + q)) [(id, .row (ver + 1) 1 e c')] [id] :=
  fun f' m' hf hT _ G w a hO hF K Q hK => by
    subst hc hp
    have hm' := (hT id (by simp)).trans hm
    obtain ⟨v1, v2⟩ := rep_view (ev_at hx (by simp [ho, Op.operands, Call.operands]) hf hF) hm'
    have hsrc := rep_int (ev_at hy (by simp [ho, Op.operands, Call.operands]) hf hF)
    obtain ⟨i, i1, hz1, i3, i4⟩ := byteB_at hi
    have i6 : 0 < 1 := by decide
    obtain ⟨xs, hown, hxs, hblk⟩ := own_of_view (ver := ver) (hO.ob id _ hm') v2 hb.1
    unfold Oper.wp
    obtain ⟨v', w', r1, r2, r3, r5⟩ := append_zerosA (P := X.P) (ty := o.type) ht ht' ⟨i1, hz1, i3, i4⟩ hown q hb.2
    rw [run_app ho rfl hsrc r1]
    have hl : (bs (List.replicate q 0)).length = q := by simp
    obtain ⟨G', k1, k2, k3⟩ := hO.grow (c2 := bs (List.replicate q 0)) (news := (List.replicate q (0 : UInt8)).map U) hm' hb.1 hxs hown.1 hblk (bs_one _) i6 (bs_news _ _ _) (by rw [hl]; exact r2) r3 r5 (by rw [hl]; exact r2)
    rw [hl] at k3
    exact hK _ _ _ k1 k2 k3
/-- append(v, x...), x a view on another row of one's own. -/
theorem stepU_appV {x y : Operand} {t e : TypeId} {id ver len n b id2 ver2 off2 len2 : Nat} {e2 : TypeId} {c c2 c' : List (List V)} (ho : o.op = .call { callee := .builtin .append, args := #[x, y], argTypes := #[t, t] }) (ht : X.P.underlying t = some (.slice e)) (hi : infoB X.P e = some (n, b)) (hx : Ev f x (.view id ver 0 len)) (hm : m id = some (.row ver n e c)) (hy : Ev f y (.view id2 ver2 off2 len2)) (hm2 : m id2 = some (.row ver2 n e2 c2))
    (hb : len ≤ c.length ∧ (len + len2) * b ≤ 140737488355328 ∧ len + len2 ≤ 140737488355328) (hc : c.take len ++ cut off2 (off2 + len2) c2 = c') : StepU X o f m (.view id (ver + 1) 0 (len + len2)) [(id, .row (ver + 1) n e c')] [id, id2] :=
  fun f' m' hf hT _ G w a hO hF K Q hK => by
    subst hc
    have hm' := (hT id (by simp)).trans hm
    have hm2' := (hT id2 (by simp)).trans hm2
    obtain ⟨v1, v2⟩ := rep_view (ev_at hx (by simp [ho, Op.operands, Call.operands]) hf hF) hm'
    obtain ⟨s1, s2⟩ := rep_view (ev_at hy (by simp [ho, Op.operands, Call.operands]) hf hF) hm2'
    obtain ⟨i, z, i1, i2, i3, i4, i5, i6⟩ := infoB_at hi
    obtain ⟨xs, hown, hxs, hblk⟩ := own_of_view (ver := ver) (hO.ob id _ hm') v2 hb.1
    have hrow2 := hO.ob id2 _ hm2'
    obtain ⟨A, cap, hu, hne⟩ := src_view hrow2 s2 s1
    have big : len + len2 ≤ maxLen := by simp [maxLen]; omega
    have hcl : (cut off2 (off2 + len2) c2).length = len2 := by simp [cut]; omega
    have hcs : ∀ e ∈ cut off2 (off2 + len2) c2, e.length = n := fun e he => hrow2.1 e (List.mem_of_mem_drop (List.mem_of_mem_take he))
    unfold Oper.wp
    rcases Nat.eq_zero_or_pos len2 with h0 | h0
    · subst h0
      have hc0 : cut off2 (off2 + 0) c2 = [] := List.eq_nil_of_length_eq_zero hcl
      rw [hc0] at hK
      rw [run_app ho rfl hu (run_append_none ht i1 (by rw [i3]; exact hown) A cap)]
      obtain ⟨G', k1, k2, k3⟩ := hO.grow (c2 := []) (u := a.eval x) (v' := a.eval x) (news := []) hm' hb.1 hxs hown.1 hblk (by simp) i6 (fun i j x h => by simp [elem?] at h) (by simpa using hown) (World.grownBy.refl w _) (.inl rfl) (by simpa using hown)
      exact hK _ _ _ k1 k2 k3
    · obtain ⟨p, rfl, news, n1, n2, n3, n4⟩ := hne h0
      obtain ⟨v', w', r1, r2, r3, _, r5⟩ := run_append_own_at (P := X.P) w 0 t o.type e i z n b ht i1 i2 i3 i4 i5 i6 (a.eval x) len xs hown p len2 cap news n1 n2 n3 big hb.2.1 (Nat.zero_le _)
      rw [run_app ho rfl hu r1]
      obtain ⟨G', k1, k2, k3⟩ := hO.grow (c2 := cut off2 (off2 + len2) c2) hm' hb.1 hxs hown.1 hblk hcs i6 n4 (by rw [hcl]; exact r2) r3 r5 (by rw [hcl]; exact r2)
      rw [hcl] at k3
      exact hK _ _ _ k1 k2 k3
end
end Go.Proofs.Ytlfkgbcclinnbaa
