/- Appending onto a row of the call's own: bytes, a text, noughts; as one operation. No program, no condition. -/
import Derived.Test.YtlfkgbcclinnbaaMem
import Derived.Test.YtlfkgbcclinnbaaTyp
import Derived.Lib.AppendStr
import Derived.Lib.AppendZeros
namespace Go.Proofs.Ytlfkgbcclinnbaa
set_option linter.all false
open Go Go.RowKit Go.Lib

section
variable {P : Program}
/-- append of whatever, its three roads known. -/
theorem own_append_gen (w : World) (base : Nat) (t u ty e : TypeId) (x : Value) (news : List Value) (m : Nat) (hm : news.length = m)
    (hnil0 : m = 0 → (Builtin.append_ #[t, u] ty #[.slice none 0 0, x]).run P w = .ok (.slice none 0 0) w)
    (hnil : 0 < m → (Builtin.append_ #[t, u] ty #[.slice none 0 0, x]).run P w = .ok (.slice (some ⟨w.heap.size, 0, none⟩) m (grownCap w m 0 e)) (w.drew.alloc (.cells (news.toArray ++ Builtin.zeroCells (Value.int .u8 0).cells (grownCap w m 0 e - m)) e)))
    (hroom : ∀ g n cap (cur : Array Value), w.heap[g]? = some (.cells cur e (0, 0)) → n + m ≤ cap → n + m ≤ cur.size →
      (Builtin.append_ #[t, u] ty #[.slice (some ⟨g, 0, none⟩) n cap, x]).run P w = .ok (.slice (some ⟨g, 0, none⟩) (n + m) cap) (w.setRow g (cur.toList.take n ++ news ++ cur.toList.drop (n + m)).toArray))
    (hgrow : ∀ g n cap (olds : List Value), olds.length = n → (∀ j v, olds[j]? = some v → w.cell? ((⟨g, 0, none⟩ : Addr).add j) = some v) → n ≤ cap → cap < n + m → n + m ≤ 140737488355328 →
      (Builtin.append_ #[t, u] ty #[.slice (some ⟨g, 0, none⟩) n cap, x]).run P w = .ok (.slice (some ⟨w.heap.size, 0, none⟩) (n + m) (grownCap w (n + m) cap e)) (w.drew.alloc (.cells (olds.toArray ++ news.toArray ++ Builtin.zeroCells (Value.int .u8 0).cells (grownCap w (n + m) cap e - (n + m))) e)))
    (v : Value) (n : Nat) (xs : List Value) (hown : w.ownsRow base e 1 v n xs) (hbytes : n + m ≤ 140737488355328) (hbase : base ≤ w.heap.size) :
    ∃ v' w', (Builtin.append_ #[t, u] ty #[v, x]).run P w = .ok v' w' ∧ w'.ownsRow base e 1 v' (n + m) (xs ++ news) ∧ w.grownBy w' v.ownBlock ∧ (v'.ownBlock = v.ownBlock ∨ v'.ownBlock = some w.heap.size) := by
  have h63 : n + m ≤ maxLen := by simp only [maxLen]; omega
  have hxl : xs.length = n := by simpa using hown.1
  have hlen : (xs ++ news).length = (n + m) * 1 := by rw [List.length_append, hxl, hm, Nat.mul_one]
  have grown : ∀ (old : Nat), ∀ (row : Option Nat),
      (w.drew.alloc (.cells (xs.toArray ++ news.toArray ++ Builtin.zeroCells (Value.int .u8 0).cells (grownCap w (n + m) old e - (n + m))) e)).ownsRow base e 1
        (.slice (some ⟨w.heap.size, 0, none⟩) (n + m) (grownCap w (n + m) old e)) (n + m) (xs ++ news) ∧
      w.grownBy (w.drew.alloc (.cells (xs.toArray ++ news.toArray ++ Builtin.zeroCells (Value.int .u8 0).cells (grownCap w (n + m) old e - (n + m))) e)) row := by
    intro old row
    have hge := grownCap_ge w (n + m) old e
    have hcm : grownCap w (n + m) old e ≤ maxLen := grownCap_le_maxLen w (n + m) old e h63
    refine ⟨⟨hlen, .inr ⟨w.heap.size, _, _, rfl, hbase, heap_alloc_new w.drew _, hge, hcm, ?_, ?_⟩⟩, ⟨rfl, rfl, rfl, by simp, fun k hk _ => Below.heap_alloc w.drew _ k hk⟩⟩
    · have hz1 : (Value.int IntKind.u8 0).cells.size = 1 := rfl
      simp only [Array.size_append, List.size_toArray, size_zeroCells, hz1, hxl, hm]
      omega
    · simp only [Array.toList_append, List.append_assoc]
      rw [← List.append_assoc, ← hlen]
      exact List.take_left
  rcases hown.2 with ⟨rfl, rfl⟩ | ⟨g, cap, cur, rfl, hbg, hg, hnc, hcm, hcs, htake⟩
  · have hx : xs = [] := List.eq_nil_of_length_eq_zero hxl
    subst hx
    by_cases h0 : m = 0
    · have hn : news = [] := List.eq_nil_of_length_eq_zero (by omega)
      exact ⟨.slice none 0 0, w, hnil0 h0, by rw [h0, hn]; exact World.ownsRow_nil w base e 1, ⟨rfl, rfl, rfl, Nat.le_refl _, fun _ _ _ => rfl⟩, .inl rfl⟩
    · have hr := hnil (by omega)
      have hgr := grown 0 (Value.ownBlock (.slice none 0 0))
      simp only [Nat.zero_add, List.nil_append, Array.empty_append] at hgr ⊢
      exact ⟨_, _, hr, hgr.1, hgr.2, .inr rfl⟩
  · by_cases hrm : n + m ≤ cap
    · have hcs' : cur.size = cap := by simpa using hcs
      have hr := hroom g n cap cur hg hrm (by omega)
      refine ⟨_, _, hr, ⟨hlen, .inr ⟨g, cap, _, rfl, hbg, setRow_heap w g cur _ e _ hg, hrm, hcm, ?_, ?_⟩⟩, ⟨rfl, rfl, rfl, by simp, fun k _ hk => setRow_other w g k _ (fun e => hk (by simp [Value.ownBlock, e]))⟩, .inl rfl⟩
      · simp only [List.size_toArray, List.length_append, List.length_take, List.length_drop, Array.length_toList, hm]
        omega
      · have ht' : cur.toList.take n = xs := by simpa using htake
        rw [ht', ← hlen]
        exact List.take_left
    · have holds : ∀ j u, xs[j]? = some u → w.cell? ((⟨g, 0, none⟩ : Addr).add j) = some u := hown.cells (g := g) rfl
      have hr := hgrow g n cap xs hxl holds hnc (by omega) hbytes
      have hgr := grown cap (Value.ownBlock (.slice (some ⟨g, 0, none⟩) n cap))
      exact ⟨_, _, hr, hgr.1, hgr.2, .inr rfl⟩
theorem own_fin {w w' : World} {base : Nat} {e : TypeId} {v : Value} {n : Nat} {xs : List Value} (hown : w.ownsRow base e 1 v n xs) (hbase : base ≤ w.heap.size) (hg : w.grownBy w' v.ownBlock) : Below base w w' :=
  (Below.refl base w).grown hg hbase (fun k hk => (World.ownsRow.lt hown k hk).1)
/-- append(v, s...), s a text. -/
theorem append_str {t u ty e : TypeId} {i : TypeInfo} (ht : P.underlying t = some (.slice e)) (hu : P.underlying u = some .string) (hi : P.info? e = some i ∧ i.zero = some (.int .u8 0) ∧ i.size = 1 ∧ i.bytes = 1)
    {W : World} {B : Nat} {v : Value} {l : List UInt8} (h : Own W B e v l) (r : List UInt8) (hn : l.length + r.length ≤ 140737488355328) (hB : B ≤ W.heap.size) :
    ∃ v' W', (Builtin.append_ #[t, u] ty #[v, .string (S r)]).run P W = .ok v' W' ∧ Own W' B e v' (l ++ r) ∧ W.grownBy W' v.ownBlock ∧ (v'.ownBlock = v.ownBlock ∨ v'.ownBlock = some W.heap.size) ∧ Below B W W' := by
  obtain ⟨hi, hz, hs, hb⟩ := hi
  have e1 : strCells (S r) = r.map U := by simp [strCells, S, U]
  have e2 : (S r).size = r.length := S_size r
  obtain ⟨v', w', h1, h2, h3, h4⟩ := own_append_gen (P := P) W B t u ty e (.string (S r)) (r.map U) r.length (by simp)
    (fun h0 => by
      have hf := run_firstCells_string (P := P) W 1 (S r)
      rw [e2, h0, e1, List.eq_nil_of_length_eq_zero h0] at hf
      rw [List.eq_nil_of_length_eq_zero h0]
      rw [List.eq_nil_of_length_eq_zero h0] at e2
      simp [Builtin.append_, run_underlying ht, run_underlying hu, sizeOf, typeInfo, hi, hs, Builtin.lenOf, hf])
    (fun h0 => by
      have hr := run_append_nil_string (P := P) W t u ty e i (.int .u8 0) ht hu hi hz (S r) (by rw [e2]; omega) (by rw [e2]; omega) (by rw [e2, hb]; omega)
      have e3 : ((S r).data.map fun b => Value.int .u8 b.toNat) = (r.map U).toArray := by
        apply Array.ext'
        simp [S, U]
      rw [e3, e2] at hr
      exact hr)
    (fun g n cap cur hg hrm hf => by
      have hr := run_append_room_string (P := P) W t u ty e i ht hu hi hs g n cap cur hg (S r) (by rw [e2]; exact hrm) (by rw [e2]; exact hf)
      rw [e1, e2] at hr
      exact hr)
    (fun g n cap olds hlo ho hnc hg hfit => by
      have hr := run_append_grow_string (P := P) W t u ty e i (.int .u8 0) ht hu hi hz ⟨g, 0, none⟩ n cap olds (by rw [hs]; omega) ho (S r) (by rw [e2]; exact hg) (by rw [e2]; omega) (by rw [e2, hb]; exact growslice_fits (by omega) (by omega))
      rw [e1, e2] at hr
      exact hr)
    v l.length (l.map U) h hn hB
  refine ⟨v', w', h1, ?_, h3, h4, own_fin h hB h3⟩
  unfold Own; rw [List.length_append, List.map_append]; exact h2
theorem zero_cells (n : Nat) : Builtin.zeroCells (Value.int .u8 0).cells n = ((List.replicate n (0 : UInt8)).map U).toArray := by
  apply Array.ext'
  have : (Value.int IntKind.u8 0).cells = #[Value.int .u8 0] := rfl
  rw [this]
  simp [Builtin.zeroCells, U, Nat.mod_one, List.map_const']
/-- append(v, make([]byte, m)...). -/
theorem append_zeros {t u ty e : TypeId} {i : TypeInfo} {k : IntKind} (ht : P.underlying t = some (.slice e)) (hu : P.underlying u = some (.int k)) (hi : P.info? e = some i ∧ i.zero = some (.int .u8 0) ∧ i.size = 1 ∧ i.bytes = 1)
    {W : World} {B : Nat} {v : Value} {l : List UInt8} (h : Own W B e v l) (m : Nat) (hn : l.length + m ≤ 140737488355328) (hB : B ≤ W.heap.size) :
    ∃ v' W', (Builtin.append_ #[t, u] ty #[v, .int .i64 (m : Int)]).run P W = .ok v' W' ∧ Own W' B e v' (l ++ List.replicate m 0) ∧ W.grownBy W' v.ownBlock ∧ (v'.ownBlock = v.ownBlock ∨ v'.ownBlock = some W.heap.size) ∧ Below B W W' := by
  obtain ⟨hi, hz, hs, hb⟩ := hi
  have hw : IntKind.i64.wrap (m : Int) = m := by rw [IntKind.wrap_i64]; omega
  have h48i : ¬ (281474976710656 < (m : Int)) := by omega
  have hneg : ¬ ((m : Int) < 0) := by omega
  obtain ⟨v', w', h1, h2, h3, h4⟩ := own_append_gen (P := P) W B t u ty e (.int .i64 (m : Int)) ((List.replicate m (0 : UInt8)).map U) m (by simp)
    (fun h0 => by
      subst h0
      have hw0 : IntKind.i64.wrap 0 = 0 := rfl
      simp [Builtin.append_, run_underlying ht, run_underlying hu, sizeOf, typeInfo, zeroValue, hi, hz, hs, asInt, asIntOf, hw0])
    (fun h0 => by
      have hr := run_append_nil_zeros (P := P) W t u ty e i (.int .u8 0) .i64 k ht hu hi hz m h0 (by omega) (by omega) (by rw [hb]; omega)
      rw [zero_cells m] at hr
      exact hr)
    (fun g n cap cur hg hrm hf => by
      have hst := run_storeCells_at P g n e ((List.replicate m (0 : UInt8)).map U) 0 cur W hg (by simpa using hf) (U_one _)
      simp only [Nat.add_zero, List.length_map, List.length_replicate, List.map_replicate, List.append_assoc] at hst
      by_cases h0 : m = 0
      · subst h0
        have hw0 : IntKind.i64.wrap 0 = 0 := rfl
        simp at hst
        simp [Builtin.append_, run_underlying ht, run_underlying hu, sizeOf, typeInfo, zeroValue, hi, hz, hs, asInt, asIntOf, hw0, show n ≤ cap from by omega, Addr.add_lit, hst]
      · simp [Builtin.append_, run_underlying ht, run_underlying hu, sizeOf, typeInfo, zeroValue, hi, hz, hs, hb, asInt, asIntOf, hw, h48i, hneg, h0, hrm, Addr.add_lit, zero_cells, hst])
    (fun g n cap olds hlo ho hnc hg hfit => by
      have h0 : m ≠ 0 := by omega
      have hnn : ¬ (n + m ≤ cap) := by omega
      have h63' : ¬ (9223372036854775807 < ((n : Int) + (m : Int))) := by omega
      have h48' : ¬ (281474976710656 < Builtin.nextslicecap (n + m) cap) := by have := growslice_fits (old := cap) (need := n + m) (bytes := 1) (by omega) (by omega); omega
      have hfo := run_firstCells_some (P := P) W.drew i.size n ⟨g, 0, none⟩ n cap olds (by rw [hs]; omega) (by simpa using ho)
      rw [hs] at hfo
      simp [Builtin.append_, run_underlying ht, run_underlying hu, sizeOf, typeInfo, zeroValue, hi, hz, hs, hb, asInt, asIntOf, hw, h48i, hneg, h0, hnn, h63', h48', Question.forced, hfo, newRow, grownCap, zero_cells]
      )
    v l.length (l.map U) h hn hB
  refine ⟨v', w', h1, ?_, h3, h4, own_fin h hB h3⟩
  unfold Own; rw [List.length_append, List.map_append, List.length_replicate]; exact h2
/-- One operation: an append whose run is known. -/
theorem op_append {W W' : World} {o : Oper} {a : Act} {K : Act → World → Prop} {Q : Exit → Act → World → Prop} (s x : Operand) (t u : TypeId) {v vx v' : Value}
    (ho : o.op = .call { callee := .builtin .append, args := #[s, x], argTypes := #[t, u] }) (hv : a.eval s = v) (hx : a.eval x = vx)
    (hr : (Builtin.append_ #[t, u] o.type #[v, vx]).run P W = .ok v' W') (hk : K (a.put o.dst v') W') : o.wp P a W K Q := by
  unfold Oper.wp execOp
  simp only [ho, resolve, invoke, builtin, Sem.run_bind, Sem.run_pure, Result.andThen_ok, List.map_toArray, List.map_cons, List.map_nil, hv, hx, hr]
  exact hk
section
variable {W : World} {B B' : Nat} {e t u : TypeId} {i : TypeInfo} {v : Value} {l r : List UInt8} {o : Oper} {a : Act} {K : Act → World → Prop} {Q : Exit → Act → World → Prop} {ops : Array Oper} {rest : List Oper}
theorem op_append_bytes (s x : Operand) (ho : o.op = .call { callee := .builtin .append, args := #[s, x], argTypes := #[t, t] })
    (ht : P.underlying t = some (.slice e)) (hi : P.info? e = some i ∧ i.zero = some (.int .u8 0) ∧ i.size = 1 ∧ i.bytes = 1) (B B' : Nat) (v : Value) (l r : List UInt8) (hv : a.eval s = v) (A : Option Addr) (n c : Nat) (hx : a.eval x = .slice A n c)
    (k : ∀ v' W', Own W' B e v' (l ++ r) → W.grownBy W' v.ownBlock → (v'.ownBlock = v.ownBlock ∨ v'.ownBlock = some W.heap.size) → Below B W W' → K (a.put o.dst v') W')
    (h : Own W B e v l) (hr : Rd W B' A r) (hnr : n = r.length) (hn : l.length + r.length ≤ 140737488355328) (hB : B ≤ W.heap.size) : o.wp P a W K Q := by
  subst hnr
  obtain ⟨v', W', hrun, h2, h3, h4, h5⟩ := append_bytes (P := P) (ty := o.type) ht hi h A c hr hn hB
  exact op_append s x t t ho hv hx hrun (k v' W' h2 h3 h4 h5)
theorem op_append_str (s x : Operand) (ho : o.op = .call { callee := .builtin .append, args := #[s, x], argTypes := #[t, u] })
    (ht : P.underlying t = some (.slice e)) (hu : P.underlying u = some .string) (hi : P.info? e = some i ∧ i.zero = some (.int .u8 0) ∧ i.size = 1 ∧ i.bytes = 1) (B : Nat) (v : Value) (l r : List UInt8) (hv : a.eval s = v) (hx : a.eval x = .string (S r))
    (k : ∀ v' W', Own W' B e v' (l ++ r) → W.grownBy W' v.ownBlock → (v'.ownBlock = v.ownBlock ∨ v'.ownBlock = some W.heap.size) → Below B W W' → K (a.put o.dst v') W')
    (h : Own W B e v l) (hn : l.length + r.length ≤ 140737488355328) (hB : B ≤ W.heap.size) : o.wp P a W K Q := by
  obtain ⟨v', W', hrun, h2, h3, h4, h5⟩ := append_str (P := P) (ty := o.type) ht hu hi h r hn hB
  exact op_append s x t u ho hv hx hrun (k v' W' h2 h3 h4 h5)
theorem op_append_zeros {q : IntKind} (s x : Operand) (ho : o.op = .call { callee := .builtin .append, args := #[s, x], argTypes := #[t, u] })
    (ht : P.underlying t = some (.slice e)) (hu : P.underlying u = some (.int q)) (hi : P.info? e = some i ∧ i.zero = some (.int .u8 0) ∧ i.size = 1 ∧ i.bytes = 1) (B : Nat) (v : Value) (l : List UInt8) (m : Nat) (hv : a.eval s = v) (hx : a.eval x = .int .i64 (m : Int))
    (k : ∀ v' W', Own W' B e v' (l ++ List.replicate m 0) → W.grownBy W' v.ownBlock → (v'.ownBlock = v.ownBlock ∨ v'.ownBlock = some W.heap.size) → Below B W W' → K (a.put o.dst v') W')
    (h : Own W B e v l) (hn : l.length + m ≤ 140737488355328) (hB : B ≤ W.heap.size) : o.wp P a W K Q := by
  obtain ⟨v', W', hrun, h2, h3, h4, h5⟩ := append_zeros (P := P) (ty := o.type) ht hu hi h m hn hB
  exact op_append s x t u ho hv hx hrun (k v' W' h2 h3 h4 h5)
theorem wpList_append_str {a : Act} {Q : Exit → Act → World → Prop} (hgd : o.guard = none) (s x : Operand) (ho : o.op = .call { callee := .builtin .append, args := #[s, x], argTypes := #[t, u] })
    (ht : P.underlying t = some (.slice e)) (hu : P.underlying u = some .string) (hi : P.info? e = some i ∧ i.zero = some (.int .u8 0) ∧ i.size = 1 ∧ i.bytes = 1) (B : Nat) (v : Value) (l r : List UInt8) (hv : a.eval s = v) (hx : a.eval x = .string (S r))
    (k : ∀ v' W', Own W' B e v' (l ++ r) → W.grownBy W' v.ownBlock → (v'.ownBlock = v.ownBlock ∨ v'.ownBlock = some W.heap.size) → Below B W W' → wpList P ops Q rest (a.put o.dst v') W')
    (h : Own W B e v l) (hn : l.length + r.length ≤ 140737488355328) (hB : B ≤ W.heap.size) : wpList P ops Q (o :: rest) a W :=
  wpList_plain hgd fun _ hK => op_append_str s x ho ht hu hi B v l r hv hx (fun v' W' h1 h2 h3 h4 => hK _ _ (k v' W' h1 h2 h3 h4)) h hn hB
end
end
/-- An append as an operation of a region. -/
theorem exec_append {P : Program} {W W' : World} {o : Oper} {a : Act} (s x : Operand) {t u : TypeId} {v vx v' : Value} (ho : o.op = .call { callee := .builtin .append, args := #[s, x], argTypes := #[t, u] }) (hv : a.eval s = v) (hx : a.eval x = vx)
    (hr : (Builtin.append_ #[t, u] o.type #[v, vx]).run P W = .ok v' W') : (execOp a.eval o).run P W = .ok (.value v') W' := by
  unfold execOp
  simp only [ho, resolve, invoke, builtin, Sem.run_bind, Sem.run_pure, Result.andThen_ok, List.map_toArray, List.map_cons, List.map_nil, hv, hx, hr]
/-- A region's steps: operations number ks may write into blocks from B on; all else only makes new blocks. -/
def StepIn (ks : List Nat) (B : Nat) (k : Nat) (x y : World) : Prop := if k ∈ ks then Below B x y else Below x.heap.size x y
theorem StepIn.refl (ks : List Nat) (B k : Nat) (w : World) : StepIn ks B k w w := by
  unfold StepIn; split <;> exact Below.refl _ _
theorem StepIn.row {ks : List Nat} {B k : Nat} {x y : World} (hk : k ∈ ks) (h : Below B x y) : StepIn ks B k x y := by
  unfold StepIn; rw [if_pos hk]; exact h
theorem StepIn.new {ks : List Nat} {B k : Nat} {x y : World} (hk : k ∉ ks) (h : Below x.heap.size x y) : StepIn ks B k x y := by
  unfold StepIn; rw [if_neg hk]; exact h
theorem StepIn.out {ks : List Nat} {B k : Nat} {x y : World} (h : StepIn ks B k x y) (hk : k ∉ ks) : Below x.heap.size x y := by
  unfold StepIn at h; rwa [if_neg hk] at h
theorem StepIn.outr {ks : List Nat} {B k j : Nat} {x y : World} {l : List Oper} {use : Nat → Option Nat} (h : StepIn ks B k x y) (hk : k ∈ rivals l use j) (hr : ((rivals l use j).all fun k => !ks.contains k) = true) : Below x.heap.size x y := by
  refine h.out (fun hm => ?_)
  have := List.all_eq_true.1 hr k hk
  simp [hm] at this
theorem StepIn.outr0 {ks : List Nat} {B k : Nat} {x y : World} {l : List Oper} {c0 : Option Nat} (h : StepIn ks B k x y) (hk : k ∈ rivals0 l c0) (hr : ((rivals0 l c0).all fun k => !ks.contains k) = true) : Below x.heap.size x y := by
  refine h.out (fun hm => ?_)
  have := List.all_eq_true.1 hr k hk
  simp [hm] at this
theorem own_drew {w : World} {B : Nat} {e : TypeId} {v : Value} {l : List UInt8} (h : Own w B e v l) : Own w.drew B e v l := own_keep h (Below.refl _ _).drew
/-- A row's block. -/
def OwnIn (w : World) (B : Nat) (e : TypeId) (v : Value) (l : List UInt8) : Prop := Own w B e v l
/-- A slice, as a value, that reads as bytes below the heap's end. -/
def Reads (w : World) (B : Nat) (v : Value) (l : List UInt8) : Prop := ∃ A c, v = .slice A l.length c ∧ Rd w w.heap.size A l ∧ (l = [] ∨ ∀ a, A = some a → B ≤ a.block)
theorem Reads.keep {w w' : World} {B : Nat} {v : Value} {l : List UInt8} (h : Reads w B v l) (hb : Below w.heap.size w w') : Reads w' B v l := by
  obtain ⟨A, c, hv, hr, hB⟩ := h
  exact ⟨A, c, hv, (hr.keep hb).more hb.size, hB⟩
theorem Own.reads {w : World} {B : Nat} {e : TypeId} {v : Value} {l : List UInt8} (h : Own w B e v l) : Reads w B v l := by
  obtain ⟨A, c, hv, _, _, hr, hB⟩ := h.open_
  exact ⟨A, c, hv, hr, .inr hB⟩
theorem Reads.new (w : World) (B : Nat) (t : TypeId) (l : List UInt8) (hB : B ≤ w.heap.size) : Reads (w.alloc (.cells (l.map U).toArray t)) B (.slice (some ⟨w.heap.size, 0, none⟩) l.length l.length) l :=
  ⟨_, _, rfl, Rd.of_whole (Whole.new w t (l.map U)) 0 (by simp) (fun i hi => by simp [hi]), .inr fun a h => by cases h; exact hB⟩
/-- A write into a row below that of what is read. -/
theorem Reads.row {w w' : World} {B B' : Nat} {v u : Value} {l : List UInt8} (h : Reads w B v l) (hg : w.grownBy w' u.ownBlock) (hu : ∀ k, u.ownBlock = some k → k < B) : Reads w' B v l := by
  obtain ⟨A, c, hv, hr, hB⟩ := h
  refine ⟨A, c, hv, ?_, hB⟩
  rcases hr with hr | ⟨g, o, e, hlt, hc⟩
  · exact .inl hr
  · refine .inr ⟨g, o, e, Nat.lt_of_lt_of_le hlt hg.size, fun i hi => ?_⟩
    rw [← hc i hi]
    have hb := hg.block g hlt (fun he => by
      rcases hB with hB | hB
      · subst hB; simp at hi
      · have h1 := hB _ e
        have h2 := hu g he.symm
        simp at h1; omega)
    simp [World.cell?, hb]
/-- The same, operation r writing into one row alone. -/
def StepRow (r : Nat) (row : Option Nat) (ks : List Nat) (B k : Nat) (x y : World) : Prop := if k = r then x.grownBy y row else StepIn ks B k x y
section
variable {r : Nat} {row : Option Nat} {ks : List Nat} {B B0 k j : Nat} {x y : World} {l : List Oper} {use : Nat → Option Nat} {c0 : Option Nat} {v : Value} {t : List UInt8}
theorem StepRow.refl (r : Nat) (row : Option Nat) (ks : List Nat) (B k : Nat) (w : World) : StepRow r row ks B k w w := by
  unfold StepRow; split
  · exact World.grownBy.refl w _
  · exact StepIn.refl _ _ _ _
theorem StepRow.one (h : x.grownBy y row) (hk : k = r) : StepRow r row ks B k x y := by unfold StepRow; rw [if_pos hk]; exact h
theorem StepRow.many (hk : k ∈ ks) (hr : k ≠ r) (h : Below B x y) : StepRow r row ks B k x y := by unfold StepRow; rw [if_neg hr]; exact StepIn.row hk h
theorem StepRow.new (hk : k ∉ ks) (hr : k ≠ r) (h : Below x.heap.size x y) : StepRow r row ks B k x y := by unfold StepRow; rw [if_neg hr]; exact StepIn.new hk h
theorem StepRow.outr (h : StepRow r row ks B k x y) (hk : k ∈ rivals l use j) (hr : ((rivals l use j).all fun k => k != r && !ks.contains k) = true) : Below x.heap.size x y := by
  have h1 := List.all_eq_true.1 hr k hk
  simp at h1
  unfold StepRow at h
  rw [if_neg h1.1] at h
  exact h.out h1.2
theorem StepRow.outr0 (h : StepRow r row ks B k x y) (hk : k ∈ rivals0 l c0) (hr : ((rivals0 l c0).all fun k => k != r && !ks.contains k) = true) : Below x.heap.size x y := by
  have h1 := List.all_eq_true.1 hr k hk
  simp at h1
  unfold StepRow at h
  rw [if_neg h1.1] at h
  exact h.out h1.2
theorem StepRow.reads (h : StepRow r row ks B k x y) (hk : k ∈ rivals l use j) (hr : ((rivals l use j).all fun k => !ks.contains k) = true) (hR : Reads x B0 v t) (hu : ∀ k, row = some k → k < B0) : Reads y B0 v t := by
  have h1 := List.all_eq_true.1 hr k hk
  simp at h1
  unfold StepRow at h
  split at h
  · obtain ⟨A, c, hv, hrd, hB⟩ := hR
    refine ⟨A, c, hv, ?_, hB⟩
    rcases hrd with hr | ⟨g, o, e, hlt, hc⟩
    · exact .inl hr
    · refine .inr ⟨g, o, e, Nat.lt_of_lt_of_le hlt h.size, fun i hi => ?_⟩
      rw [← hc i hi]
      have hb := h.block g hlt (fun he => by
        rcases hB with hB | hB
        · subst hB; simp at hi
        · have h1 := hB _ e
          have h2 := hu g he.symm
          simp at h1; omega)
      simp [World.cell?, hb]
  · exact hR.keep (h.out h1)
end
theorem own_lt {w : World} {B : Nat} {e : TypeId} {v : Value} {l : List UInt8} (h : Own w B e v l) : ∀ k, v.ownBlock = some k → k < w.heap.size := fun k hk => (World.ownsRow.lt h k hk).2
theorem own_ge {w : World} {B : Nat} {e : TypeId} {v : Value} {l : List UInt8} (h : Own w B e v l) : ∀ k, v.ownBlock = some k → B ≤ k := fun k hk => (World.ownsRow.lt h k hk).1
end Go.Proofs.Ytlfkgbcclinnbaa
