/- Abstract states, part 3 of three (several texts in one). No program, no condition. -/
import Derived.Test.YthflfnehdlpmdaaDoorA2
import Derived.Test.YthflfnehdlpmdaaDoorMemToGl
import Derived.Lib.AppendStr
import Derived.Lib.AppendZeros
import Derived.Laws.MakeOwn
import Derived.ChangeKeysEq
/- Abstract states: rows grow. No program, no condition. -/
namespace Go.Proofs.YthflfnehdlpmdaaDoor
set_option linter.all false
open Go Go.RowKit
def infoB (P : Program) (e : TypeId) : Option (Nat × Nat) := match P.info? e with | some i => (match i.zero with | some z => if z.cells.size = i.size ∧ 0 < i.size then some (i.size, i.bytes) else none | none => none) | none => none
theorem infoB_at {P : Program} {e : TypeId} {n b : Nat} (h : infoB P e = some (n, b)) : ∃ i z, P.info? e = some i ∧ i.zero = some z ∧ i.size = n ∧ i.bytes = b ∧ z.cells.size = n ∧ 0 < n := by
  unfold infoB at h
  cases hi : P.info? e with
  | none => simp [hi] at h
  | some i =>
    cases hz : i.zero with
    | none => simp [hi, hz] at h
    | some z =>
      simp only [hi, hz] at h
      split at h
      · rename_i hc
        simp at h
        exact ⟨i, z, rfl, hz, h.1, h.2, by omega, by omega⟩
      · cases h
/-- A row of one's own, marked or not. -/
def OwnsM (w : World) (e' : TypeId) (size : Nat) (v : Value) (n : Nat) (xs : List Value) : Prop :=
  xs.length = n * size ∧
  ((v = .slice none 0 0 ∧ n = 0) ∨
   ∃ g cap cur fz e0, FzOk e' e0 fz cur.size ∧ v = .slice (some ⟨g, 0, none⟩) n cap ∧ w.heap[g]? = some (.cells cur e0 fz) ∧ n ≤ cap ∧ cap ≤ maxLen ∧ cur.size = cap * size ∧ cur.toList.take (n * size) = xs)
theorem OwnsM.of {w : World} {e' e : TypeId} {size : Nat} {v : Value} {n : Nat} {xs : List Value} (he : EMk e' e) (h : w.ownsRow 0 e size v n xs) : OwnsM w e' size v n xs := by
  refine ⟨h.1, ?_⟩
  rcases h.2 with h2 | ⟨g, cap, cur, h1, _, h2, h3, h4, h5, h6⟩
  · exact .inl h2
  · exact .inr ⟨g, cap, cur, _, e, .of he, h1, h2, h3, h4, h5, h6⟩
theorem OwnsM.own {w : World} {e : TypeId} {size : Nat} {v : Value} {n : Nat} {xs : List Value} (h : OwnsM w e size v n xs) (hk : e < MK) : w.ownsRow 0 e size v n xs := by
  refine ⟨h.1, ?_⟩
  rcases h.2 with h2 | ⟨g, cap, cur, fz, e0, hz, h1, h2, h3, h4, h5, h6⟩
  · exact .inl h2
  · rcases hz with ⟨rfl, rfl | hq⟩ | ⟨hz, _⟩
    · exact .inr ⟨g, cap, cur, h1, Nat.zero_le _, h2, h3, h4, h5, h6⟩
    · exact absurd hk (Nat.not_lt.2 hq.1)
    · rw [hz] at hk; exact absurd hk (Nat.not_lt.2 (Nat.le_add_left _ _))
theorem OwnsM.cells {w : World} {e' : TypeId} {size : Nat} {n : Nat} {xs : List Value} {g cap : Nat} (h : OwnsM w e' size (.slice (some ⟨g, 0, none⟩) n cap) n xs) : ∀ j u, xs[j]? = some u → w.cell? ((⟨g, 0, none⟩ : Addr).add j) = some u := by
  rcases h.2 with ⟨h2, _⟩ | ⟨g', cap', cur, fz, e0, hz, h1, h2, h3, h4, h5, h6⟩
  · cases h2
  · injection h1 with h1 _ h7; injection h1 with h1; injection h1 with h1; subst h1
    intro j u hj
    subst h6
    have hlt := (List.getElem?_eq_some_iff.1 hj).1
    rw [List.length_take] at hlt
    rw [List.getElem?_take_of_lt (by omega)] at hj
    rw [addr_add, Nat.zero_add]
    simpa [World.cell?, h2] using hj
theorem run_storeCells_atM (P : Program) (g o : Nat) (t : TypeId) (k : TypeId) (fz : Nat × Nat) : ∀ (vs : List Value) (i : Nat) (cur : Array Value) (w : World), w.heap[g]? = some (.cells cur t fz) → FzOk k t fz cur.size → o + i + vs.length ≤ cur.size → (∀ v ∈ vs, v.oneCell' = true) →
    (storeCells ⟨g, o, none⟩ vs i).run P w = .ok () (w.setRow g (cur.toList.take (o + i) ++ vs ++ cur.toList.drop (o + i + vs.length)).toArray)
  | [], i, cur, w, hg, _, _, _ => by
    simp only [storeCells, List.append_nil, List.length_nil, Nat.add_zero, List.take_append_drop, Array.toArray_toList]
    rw [setRow_self w g cur t fz hg]
    rfl
  | v :: rest, i, cur, w, hg, hfz, hl, h1 => by
    have hi : o + i < cur.size := by simp at hl; omega
    have hadd : (⟨g, o, none⟩ : Addr).add i = ⟨g, o + i, none⟩ := by unfold Addr.add; split <;> simp_all
    have hcell : w.cell? ⟨g, o + i, none⟩ = some cur[o + i] := by simp [World.cell?, hg, hi]
    have hfro : w.frozen? ⟨g, o + i, none⟩ = false := hfz.free hg hi
    have hst : (store ((⟨g, o, none⟩ : Addr).add i) v).run P w = .ok () (w.setRow g (cur.setIfInBounds (o + i) v)) := by
      rw [hadd, run_store P w _ v _ (h1 v (by simp)), hcell]
      simp [hfro, setCell_eq_setRow w g (o + i) cur t fz v hg]
    have ih := run_storeCells_atM P g o t k fz rest (i + 1) (cur.setIfInBounds (o + i) v) (w.setRow g (cur.setIfInBounds (o + i) v)) (setRow_heap w g cur _ t _ hg) (by simpa using hfz) (by simp at hl ⊢; omega) (fun x hx => h1 x (by simp [hx]))
    simp only [storeCells, Sem.run_bind, hst, Result.andThen_ok, ih, setRow_setRow]
    congr 3
    have e := list_seg_step cur.toList (o + i) v rest (by simp at hl ⊢; omega)
    simpa [Array.toList_setIfInBounds, Nat.add_assoc] using e
/-- append(v, news...), v a row of one's own, marked or not. -/
theorem run_append_own_atM {P : Program} (w : World) {e' : TypeId} (t ty e : TypeId) (he : EMk e' e) (i : TypeInfo) (z : Value) (size bytes : Nat) (ht : P.underlying t = some (.slice e)) (hi : P.info? e = some i) (hz : i.zero = some z)
    (hsize : i.size = size) (hby : i.bytes = bytes) (hzs : z.cells.size = size) (hsz : 0 < size)
    (v : Value) (n : Nat) (xs : List Value) (hown : OwnsM w e' size v n xs)
    (a : Addr) (m c : Nat) (news : List Value) (hl : news.length = m * size) (hnews : ∀ j u, news[j]? = some u → w.cell? (a.add j) = some u) (h1 : ∀ u ∈ news, u.oneCell' = true)
    (h63 : n + m ≤ maxLen) (hbytes : (n + m) * bytes ≤ 140737488355328) :
    ∃ v' w', (Builtin.append_ #[t, t] ty #[v, .slice (some a) m c]).run P w = .ok v' w' ∧ OwnsM w' e' size v' (n + m) (xs ++ news) ∧ w.grownBy w' v.ownBlock ∧
      (v'.ownBlock = v.ownBlock ∨ v'.ownBlock = some w.heap.size) := by
  rcases hown.2 with h2 | ⟨g, cap, cur, fz, e0, hfz, rfl, hg, hnc, hcm, hcs, htake⟩
  · obtain ⟨v', w', r1, r2, r3, _, r5⟩ := run_append_own_at (P := P) w 0 t ty e i z size bytes ht hi hz hsize hby hzs hsz v n xs ⟨hown.1, .inl h2⟩ a m c news hl hnews h1 h63 hbytes (Nat.zero_le _)
    exact ⟨v', w', r1, OwnsM.of he r2, r3, r5⟩
  · subst hsize hby
    have hsmall : n + m ≤ 9223372036854775807 := by simp only [maxLen] at h63; omega
    have hlen : (xs ++ news).length = (n + m) * i.size := by rw [List.length_append, hown.1, hl, Nat.add_mul]
    by_cases hroom : n + m ≤ cap
    · have hfit : n * i.size + news.length ≤ cur.size := by rw [hl, hcs, ← Nat.add_mul]; exact Nat.mul_le_mul_right _ hroom
      have hr : (Builtin.append_ #[t, t] ty #[.slice (some ⟨g, 0, none⟩) n cap, .slice (some a) m c]).run P w =
          .ok (.slice (some ⟨g, 0, none⟩) (n + m) cap) (w.setRow g (cur.toList.take (n * i.size) ++ news ++ cur.toList.drop (n * i.size + news.length)).toArray) := by
        have hf := run_firstCells_some (P := P) w i.size m a m c news hl hnews
        have hst := run_storeCells_atM P g (n * i.size) e0 e' fz news 0 cur w hg hfz (by simpa using hfit) h1
        simp only [Nat.add_zero] at hst
        simp [Builtin.append_, run_underlying ht, sizeOf, typeInfo, hi, Builtin.lenOf, hroom, hf, Addr.add_lit, hst]
      have hsz2 : (cur.toList.take (n * i.size) ++ news ++ cur.toList.drop (n * i.size + news.length)).toArray.size = cur.size := by
        simp only [List.size_toArray, List.length_append, List.length_take, List.length_drop, Array.length_toList]
        omega
      refine ⟨_, _, hr, ⟨hlen, .inr ⟨g, cap, _, fz, e0, by rw [hsz2]; exact hfz, rfl, setRow_heap w g cur _ e0 _ hg, hroom, hcm, by rw [hsz2]; exact hcs, ?_⟩⟩, ⟨rfl, rfl, rfl, by simp, fun k _ hk => setRow_other w g k _ (fun e => hk (by simp [Value.ownBlock, e]))⟩, Or.inl rfl⟩
      rw [htake, ← hlen]
      exact List.take_left
    · have holds : ∀ j u, xs[j]? = some u → w.cell? ((⟨g, 0, none⟩ : Addr).add j) = some u := hown.cells
      obtain ⟨hr, hge, hcm2⟩ : (Builtin.append_ #[t, t] ty #[.slice (some ⟨g, 0, none⟩) n cap, .slice (some a) m c]).run P w = .ok (.slice (some ⟨w.heap.size, 0, none⟩) (n + m) (grownCap w (n + m) cap e)) (w.drew.alloc (.cells (xs.toArray ++ news.toArray ++ Builtin.zeroCells z.cells (grownCap w (n + m) cap e - (n + m))) e)) ∧ n + m ≤ grownCap w (n + m) cap e ∧ grownCap w (n + m) cap e ≤ maxLen :=
        ⟨run_append_grow (P := P) w t ty e i z ht hi hz ⟨g, 0, none⟩ n cap xs hown.1 holds a m c news hl hnews (by omega) (by omega) (growslice_fits (by omega) hbytes), grownCap_ge w (n + m) cap e, grownCap_le_maxLen w (n + m) cap e h63⟩
      refine ⟨_, _, hr, ⟨hlen, .inr ⟨w.heap.size, _, _, _, e, .of he, rfl, heap_alloc_new w.drew _, hge, hcm2, ?_, ?_⟩⟩, ⟨rfl, rfl, rfl, by simp, fun k hk _ => Below.heap_alloc w.drew _ k hk⟩, Or.inr rfl⟩
      · simp only [Array.size_append, List.size_toArray, size_zeroCells, hzs, hown.1, hl, ← Nat.add_mul]
        congr 1
        omega
      · simp only [Array.toList_append, List.append_assoc]
        rw [← List.append_assoc, ← hlen]
        exact List.take_left
section
variable {X : Cx} {G : Gh} {w w' : World} {m : Mem}
/-- The values of a row's first elements. -/
theorem own_of_view {id ver n len : Nat} {e : TypeId} {c : List (List V)} {u : Value} (h : RowAt G w id n e c) (hu : ViewAt G id n 0 len u) (hl : len ≤ c.length) :
    ∃ xs : List Value, OwnsM w e n u len xs ∧ (∀ i j x, i < len → elem? c i j = some x → ∃ v, xs[i * n + j]? = some v ∧ RepV G.S w x v) ∧ (∀ g, u.ownBlock = some g → G.μ id = some g) := by
  obtain ⟨h1, h2, h3, h4, h5⟩ := h
  obtain ⟨A, cap, rfl, a2, a3, a4⟩ := hu
  have hA : A = (G.μ id).map (fun g => ⟨g, 0, none⟩) := by
    rcases a4 with a4 | ⟨_, a4⟩
    · rw [a4]; simp
    · exact absurd rfl a4
  rcases h5 with ⟨h6, h7⟩ | ⟨g, cur, us, fz, e0', hz, h6, h7, h8, h10, h11⟩
  · rw [h6] at hA
    simp at hA
    subst hA
    obtain rfl : cap = 0 := by omega
    obtain rfl : len = 0 := by omega
    exact ⟨[], ⟨by simp, .inl ⟨rfl, rfl⟩⟩, fun i j x hi => by omega, fun g hg => by simp [Value.ownBlock] at hg⟩
  · rw [h6] at hA
    simp at hA
    subst hA
    have hcap : cap = G.cap id := by omega
    have hle : len * n ≤ cur.size := by rw [h8]; exact Nat.mul_le_mul_right _ (by omega)
    refine ⟨cur.toList.take (len * n), ⟨by simp; exact Nat.min_eq_left hle, .inr ⟨g, cap, cur, fz, e0', hz, rfl, h7, a3, by omega, by rw [hcap]; exact h8, rfl⟩⟩, fun i j x hi hx => ?_, fun g' hg' => by simp [Value.ownBlock] at hg'; rw [← hg']; exact h6⟩
    have hj : j < n := by
      unfold elem? at hx
      cases hci : c[i]? with
      | none => rw [hci] at hx; cases hx
      | some e0 =>
        rw [hci] at hx
        have := h1 e0 (List.mem_of_getElem? hci)
        have hx' : e0[j]? = some x := hx
        have := (List.getElem?_eq_some_iff.1 hx').1
        omega
    have hlt : i * n + j < len * n := by
      have : (i + 1) * n ≤ len * n := Nat.mul_le_mul_right _ (by omega)
      rw [Nat.add_mul] at this; omega
    refine ⟨us i j, ?_, h11 i j x hx⟩
    rw [List.getElem?_take_of_lt hlt]
    simpa using h10 i j x hx
theorem Ok.grow (h : Ok X G w m) {id ver n len : Nat} {e : TypeId} {c c2 : List (List V)} {u v' : Value} {xs news : List Value} (hm : m id = some (.row ver n e c)) (hl : len ≤ c.length)
    (hx : ∀ i j x, i < len → elem? c i j = some x → ∃ v, xs[i * n + j]? = some v ∧ RepV G.S w x v) (hxl : xs.length = len * n) (hb : ∀ g, u.ownBlock = some g → G.μ id = some g)
    (hs : ∀ e ∈ c2, e.length = n) (hn : 0 < n) (hr : ∀ i j x, elem? c2 i j = some x → ∃ v, news[i * n + j]? = some v ∧ RepV G.S w x v)
    (hown : OwnsM w' e n v' (len + c2.length) (xs ++ news)) (hg : w.grownBy w' u.ownBlock) (hbk : v'.ownBlock = u.ownBlock ∨ v'.ownBlock = some w.heap.size) :
    ∃ G', Ok X G' w' (over [(id, .row (ver + 1) n e (c.take len ++ c2))] m) ∧ Ext G w m G' w' (over [(id, .row (ver + 1) n e (c.take len ++ c2))] m) ∧ RepD G' w' (over [(id, .row (ver + 1) n e (c.take len ++ c2))] m) (.view id (ver + 1) 0 (len + c2.length)) v' := by
  have hrow := h.ob id _ hm
  have hc1 : ∀ x ∈ c.take len ++ c2, x.length = n := fun x hx => by
    rcases List.mem_append.1 hx with hx | hx
    · exact hrow.1 x (List.mem_of_mem_take hx)
    · exact hs x hx
  have hcl : (c.take len ++ c2).length = len + c2.length := by simp; omega
  have hel : ∀ i j x, elem? (c.take len ++ c2) i j = some x → ∃ v, (xs ++ news)[i * n + j]? = some v ∧ RepV G.S w x v := fun i j x hx' => by
    unfold elem? at hx'
    by_cases hi : i < len
    · rw [List.getElem?_append_left (by simp; omega), List.getElem?_take_of_lt hi] at hx'
      obtain ⟨v, h1, h2⟩ := hx i j x hi hx'
      exact ⟨v, by rw [List.getElem?_append_left (List.getElem?_eq_some_iff.1 h1).1]; exact h1, h2⟩
    · rw [List.getElem?_append_right (by simp; omega), List.length_take, Nat.min_eq_left hl] at hx'
      obtain ⟨v, h1, h2⟩ := hr (i - len) j x hx'
      refine ⟨v, ?_, h2⟩
      have : (i - len) * n + len * n = i * n := by rw [← Nat.add_mul]; congr 1; omega
      rw [List.getElem?_append_right (by omega), hxl, show i * n + j - len * n = (i - len) * n + j from by omega]
      exact h1
  obtain ⟨o1, o2⟩ := hown
  rcases o2 with ⟨rfl, h0⟩ | ⟨g, cap, cur, fz, e0', hz, rfl, hgc, hnc, hcm, hcs, hct⟩
  · -- nothing was there and nothing came
    have hcn : c.take len ++ c2 = [] := List.eq_nil_of_length_eq_zero (by omega)
    rw [hcn] at hel ⊢
    obtain ⟨k1, k2⟩ := h.step (G' := G.at_ id none 0) (w' := w') id (.row (ver + 1) n e []) rfl (fun i hi => Gh.at_ne G _ _ hi) (fun g hg => by rw [Gh.at_μ] at hg; cases hg)
      (fun g hgl hne => hg.block g hgl fun he => hne (by rw [hm]; simp) (hb g he.symm)) hg.size hg.os hg.tape hg.output
      (fun o' ho' => by
        rw [hm] at ho'; injection ho' with ho'; subst ho'
        exact ⟨fun _ he => (by cases he), fun v0 n0 e0 c0 he => by
          injection he with a1 a2 a3 a4; subst a1 a2 a3 a4
          exact ⟨ver + 1, [], rfl, by omega, fun he => by omega⟩⟩)
      (fun k => ⟨by simp, hn, by simp, by rw [Gh.at_cap]; simp [maxLen], .inl ⟨Gh.at_μ _ _ _ _, Gh.at_cap _ _ _ _⟩⟩) (fun cs _ he => by cases he)
    refine ⟨_, k1, k2, .view id (ver + 1) 0 _ _ (ver + 1) n e [] over_at (Nat.le_refl _) rfl fun _ => ⟨by simp only [List.length_nil]; omega, none, 0, ?_, by rw [Gh.at_cap], by omega, .inl (by rw [Gh.at_μ]; rfl)⟩⟩
    rw [show len + c2.length = 0 from h0]
  · have hnew : w.heap.size ≤ g ∨ (m id ≠ none ∧ G.μ id = some g) := by
      rcases hbk with hk | hk
      · refine .inr ⟨by rw [hm]; simp, hb g ?_⟩
        rw [← hk]; rfl
      · simp [Value.ownBlock] at hk; exact .inl (by omega)
    obtain ⟨k1, k2⟩ := h.step (G' := G.at_ id (some g) cap) (w' := w') id (.row (ver + 1) n e (c.take len ++ c2)) rfl (fun i hi => Gh.at_ne G _ _ hi) (fun g' hg' => by
        rw [Gh.at_μ] at hg'; injection hg' with hg'; subst hg'; exact hnew)
      (fun g' hgl hne => hg.block g' hgl fun he => hne (by rw [hm]; simp) (hb g' he.symm)) hg.size hg.os hg.tape hg.output
      (fun o' ho' => by
        rw [hm] at ho'; injection ho' with ho'; subst ho'
        exact ⟨fun _ he => (by cases he), fun v0 n0 e0 c0 he => by
          injection he with a1 a2 a3 a4; subst a1 a2 a3 a4
          exact ⟨ver + 1, _, rfl, by omega, fun he => by omega⟩⟩)
      (fun k => by
        refine ⟨hc1, hn, by rw [Gh.at_cap, hcl]; exact hnc, by rw [Gh.at_cap]; exact hcm, .inr ⟨g, cur, fun i j => cur.getD (i * n + j) undef, fz, e0', hz, Gh.at_μ _ _ _ _, hgc, by rw [Gh.at_cap]; exact hcs, fun i j x hx' => ?_, fun i j x hx' => ?_⟩⟩
        all_goals
          obtain ⟨v, h1, h2⟩ := hel i j x hx'
          have hlt := (List.getElem?_eq_some_iff.1 h1).1
          rw [o1] at hlt
          have hcu : cur[i * n + j]? = some v := by
            have h3 : (cur.toList.take ((len + c2.length) * n))[i * n + j]? = some v := by rw [hct]; exact h1
            rw [List.getElem?_take_of_lt hlt] at h3
            simpa using h3
        · rw [hcu]; simp [hcu]
        · simp only [Array.getD_eq_getD_getElem?, hcu, Option.getD_some]; exact h2.ext k) (fun cs _ he => by cases he)
    exact ⟨_, k1, k2, .view id (ver + 1) 0 _ _ (ver + 1) n e _ over_at (Nat.le_refl _) rfl fun _ => ⟨by rw [hcl]; omega, some ⟨g, 0, none⟩, cap, rfl, by rw [Gh.at_cap]; omega, hnc, .inl (by rw [Gh.at_μ]; simp)⟩⟩
/-- The cells of a slice's elements. -/
theorem src_sl {c2 : List (List V)} {u : Value} {n : Nat} (h : RepV G.S w (.sl c2) u) (hs : ∀ e ∈ c2, e.length = n) (hn : 0 < n) : ∃ A cap, u = .slice A c2.length cap ∧ (0 < c2.length → ∃ a, A = some a ∧ ∃ news : List Value, news.length = c2.length * n ∧ (∀ j v, news[j]? = some v → w.cell? (a.add j) = some v) ∧ (∀ v ∈ news, v.oneCell' = true) ∧
    ∀ i j x, elem? c2 i j = some x → ∃ v, news[i * n + j]? = some v ∧ RepV G.S w x v) := by
  cases h with
  | nil A cap hm => exact ⟨A, cap, rfl, fun h => by simp at h⟩
  | sl _ g o n' cap us hne hz hn' hs' hcap hm hc hr =>
    refine ⟨_, cap, rfl, fun _ => ⟨_, rfl, ?_⟩⟩
    obtain rfl : n' = n := by rw [← hs _ (List.getElem_mem hne)]; exact (hs' _ (List.getElem_mem hne)).symm
    have hel : ∀ k, k < c2.length * n' → ∃ x, elem? c2 (k / n') (k % n') = some x := fun k hk => by
      have h1 : k / n' < c2.length := (Nat.div_lt_iff_lt_mul hn).2 hk
      have h2 : k % n' < n' := Nat.mod_lt _ hn
      unfold elem?
      rw [List.getElem?_eq_getElem h1]
      have := hs _ (List.getElem_mem h1)
      exact ⟨c2[k / n'][k % n']'(by omega), List.getElem?_eq_getElem (by omega)⟩
    refine ⟨(List.range (c2.length * n')).map fun k => us (k / n') (k % n'), by simp, fun j v hv => ?_, fun v hv => ?_, fun i j x hx => ?_⟩
    · rw [List.getElem?_map] at hv
      by_cases hj : j < c2.length * n'
      · rw [List.getElem?_range hj] at hv
        simp at hv
        subst hv
        obtain ⟨x, hx⟩ := hel j hj
        have := hc _ _ x hx
        rw [addr_add]
        rwa [show j / n' * n' + j % n' = j from by have := Nat.div_add_mod j n'; rw [Nat.mul_comm]; exact this] at this
      · rw [List.getElem?_eq_none (by simp; omega)] at hv; cases hv
    · obtain ⟨k, hk, rfl⟩ := List.mem_map.1 hv
      obtain ⟨x, hx⟩ := hel k (List.mem_range.1 hk)
      exact (hr _ _ x hx).one
    · have hi : i < c2.length := by
        unfold elem? at hx
        cases hci : c2[i]? with
        | none => rw [hci] at hx; cases hx
        | some e0 => exact (List.getElem?_eq_some_iff.1 hci).1
      have hj : j < n' := by
        unfold elem? at hx
        rw [List.getElem?_eq_getElem hi] at hx
        have h1 : (c2[i])[j]? = some x := hx
        have h2 := (List.getElem?_eq_some_iff.1 h1).1
        rw [hs _ (List.getElem_mem hi)] at h2; exact h2
      have hlt : i * n' + j < c2.length * n' := by
        have : (i + 1) * n' ≤ c2.length * n' := Nat.mul_le_mul_right _ (by omega)
        rw [Nat.add_mul] at this; omega
      refine ⟨us i j, ?_, hr i j x hx⟩
      rw [List.getElem?_map, List.getElem?_range hlt]
      simp only [Option.map_some]
      rw [Nat.mul_comm i n', Nat.mul_add_div hn, Nat.mul_add_mod, Nat.div_eq_of_lt hj, Nat.mod_eq_of_lt hj, Nat.add_zero]
theorem run_append_none {P : Program} {t ty e : TypeId} {i : TypeInfo} (ht : P.underlying t = some (.slice e)) (hi : P.info? e = some i) {n : Nat} {v : Value} {xs : List Value} {e' : TypeId} (hown : OwnsM w e' i.size v n xs) (A : Option Addr) (c : Nat) : (Builtin.append_ #[t, t] ty #[v, .slice A 0 c]).run P w = .ok v w := by
  rcases hown.2 with ⟨rfl, h0⟩ | ⟨g, cap, cur, fz, e0', hz, rfl, _, hnc, _⟩
  · rcases A with _ | a <;> simp [Builtin.append_, run_underlying ht, sizeOf, typeInfo, hi, Builtin.lenOf, Builtin.firstCells, loadCells, loadCellsFrom, storeCells]
  · rcases A with _ | a <;> simp [Builtin.append_, run_underlying ht, sizeOf, typeInfo, hi, Builtin.lenOf, Builtin.firstCells, hnc, loadCells, loadCellsFrom, storeCells]
end
section
variable {X : Cx} {o : Oper} {f : Nat → D} {m : Mem} {d : D} {T : List Nat}
theorem rep_view {G : Gh} {w : World} {id ver off len n : Nat} {e : TypeId} {c : List (List V)} {u : Value} (h : RepD G w m (.view id ver off len) u) (hm : m id = some (.row ver n e c)) : off + len ≤ c.length ∧ ViewAt G id n off len u := by
  cases h with
  | view _ _ _ _ _ ver' n' e' c' h hv h1 h2 =>
    rw [hm] at h
    injection h with h
    injection h with h3 h4 h5 h6
    subst h3 h4 h5 h6
    exact h2 rfl
theorem run_app {P : Program} {w : World} {a : Act} {x y : Operand} {t t' : TypeId} (ho : o.op = .call { callee := .builtin .append, args := #[x, y], argTypes := #[t, t'] }) {v v' : Value} {w' : World} (hx : a.eval x = v) {z : Value} (hy : a.eval y = z) (hr : (Builtin.append_ #[t, t'] o.type #[v, z]).run P w = .ok v' w') :
    (execOp a.eval o).run P w = .ok (.value v') w' := by
  simp only [execOp, ho, resolve, invoke, builtin, Sem.run_bind, Sem.run_pure, Result.andThen_ok, List.map_toArray, List.map_cons, List.map_nil, hx, hy, hr]
/-- append(v, x...), v a row of one's own, x a slice that will not change. -/
theorem stepU_app {x y : Operand} {t e e' : TypeId} {id ver len n b : Nat} {c c2 c' : List (List V)} (ho : o.op = .call { callee := .builtin .append, args := #[x, y], argTypes := #[t, t] }) (ht : X.P.underlying t = some (.slice e)) (hi : infoB X.P e = some (n, b)) (hx : Ev f x (.view id ver 0 len)) (hm : m id = some (.row ver n e' c)) (hy : Ev f y (.v (.sl c2))) (hs : ∀ e ∈ c2, e.length = n)
    (hb : len ≤ c.length ∧ (len + c2.length) * b ≤ 140737488355328 ∧ len + c2.length ≤ 140737488355328) (hc : c.take len ++ c2 = c') (he : EMk e' e) : StepU X o f m (.view id (ver + 1) 0 (len + c2.length)) [(id, .row (ver + 1) n e' c')] [id] :=
  fun f' m' hf hT _ G w a hO hF K Q hK => by
    subst hc
    have hm' := (hT id (by simp)).trans hm
    obtain ⟨v1, v2⟩ := rep_view (ev_at hx (by simp [ho, Op.operands, Call.operands]) hf hF) hm'
    have hsrc := rep_sl (ev_at hy (by simp [ho, Op.operands, Call.operands]) hf hF)
    obtain ⟨i, z, i1, i2, i3, i4, i5, i6⟩ := infoB_at hi
    obtain ⟨xs, hown, hxs, hblk⟩ := own_of_view (ver := ver) (hO.ob id _ hm') v2 hb.1
    obtain ⟨A, cap, hu, hne⟩ := src_sl hsrc hs i6
    have big : len + c2.length ≤ maxLen := by simp [maxLen]; omega
    unfold Oper.wp
    rcases Nat.eq_zero_or_pos c2.length with h0 | h0
    · obtain rfl := List.eq_nil_of_length_eq_zero h0
      rw [run_app ho rfl hu (run_append_none ht i1 (by rw [i3]; exact hown) A cap)]
      obtain ⟨G', k1, k2, k3⟩ := hO.grow (c2 := []) (u := a.eval x) (v' := a.eval x) (news := []) hm' hb.1 hxs hown.1 hblk (by simp) i6 (fun i j x h => by simp [elem?] at h) (by simpa using hown) (World.grownBy.refl w _) (.inl rfl)
      exact hK _ _ _ k1 k2 k3
    · obtain ⟨p, rfl, news, n1, n2, n3, n4⟩ := hne h0
      obtain ⟨v', w', r1, r2, r3, r5⟩ := run_append_own_atM (P := X.P) w t o.type e he i z n b ht i1 i2 i3 i4 i5 i6 (a.eval x) len xs hown p c2.length cap news n1 n2 n3 big hb.2.1
      rw [run_app ho rfl hu r1]
      obtain ⟨G', k1, k2, k3⟩ := hO.grow hm' hb.1 hxs hown.1 hblk hs i6 n4 r2 r3 r5
      exact hK _ _ _ k1 k2 k3
end
end Go.Proofs.YthflfnehdlpmdaaDoor
/- Abstract states: rows grow by texts, by noughts, out of nothing; values settle. No program, no condition. -/
namespace Go.Proofs.YthflfnehdlpmdaaDoor
set_option linter.all false
open Go Go.RowKit Go.Lib



section
variable {P : Program}
end
section
variable {X : Cx} {G : Gh} {w w' : World} {m : Mem}
/-- An empty row, of nothing yet. -/
theorem Ok.nilRow (h : Ok X G w m) {id : Nat} (hid : m id = none) (hnp : X.np ≤ id) (n : Nat) (hn : 0 < n) (e : TypeId) : Ok X (G.at_ id none 0) w (over [(id, .row 0 n e [])] m) ∧ Ext G w m (G.at_ id none 0) w (over [(id, .row 0 n e [])] m) ∧ RepD (G.at_ id none 0) w (over [(id, .row 0 n e [])] m) (.view id 0 0 0) (.slice none 0 0) := by
  obtain ⟨a, b⟩ := h.step (G' := G.at_ id none 0) (w' := w) id (.row 0 n e []) rfl (fun i hi => Gh.at_ne G _ _ hi) (fun g hg => by rw [Gh.at_μ] at hg; cases hg) (fun g _ _ => rfl) (Nat.le_refl _) rfl rfl rfl
    (fun o' ho' => by rw [hid] at ho'; cases ho') (fun k => ⟨by simp, hn, by simp, by rw [Gh.at_cap]; simp [maxLen], .inl ⟨Gh.at_μ _ _ _ _, Gh.at_cap _ _ _ _⟩⟩) (fun cs _ he => by cases he)
  exact ⟨a, b, .view id 0 0 0 _ 0 n e [] over_at (Nat.le_refl _) rfl fun _ => ⟨by simp, none, 0, rfl, by rw [Gh.at_cap], by omega, .inl (by rw [Gh.at_μ]; rfl)⟩⟩
end
section
variable {X : Cx} {o : Oper} {f : Nat → D} {m : Mem} {d : D} {T : List Nat}
end
end Go.Proofs.YthflfnehdlpmdaaDoor
/- Abstract states: rows out of nothing, rows read and written in place, rows that settle; cuts. No program, no condition. -/
namespace Go.Proofs.YthflfnehdlpmdaaDoor
set_option linter.all false
open Go Go.RowKit Go.Lib

theorem over_over {id : Nat} {a b : Ob} {m : Mem} : over [(id, a)] (over [(id, b)] m) = over [(id, a)] m := by
  funext i
  unfold over
  by_cases h : id = i
  · subst h; rw [look_cons_self]
  · rw [look_cons_ne _ _ h, look_cons_ne _ _ h]; simp [look]
section
variable {X : Cx} {G : Gh} {w w' : World} {m : Mem}
theorem own_nil (w : World) (e : TypeId) (n : Nat) : w.ownsRow 0 e n (.slice none 0 0) 0 [] := ⟨by simp, .inl ⟨rfl, rfl⟩⟩
end
section
variable {X : Cx} {o : Oper} {f : Nat → D} {m : Mem} {d : D} {T : List Nat}
theorem rep_nil {G : Gh} {w : World} {u : Value} (h : RepD G w m (.v (.lit (.slice none 0 0))) u) : u = .slice none 0 0 := rep_lit h
/-- &x[i] of a row of one's own. -/
theorem stepU_indexAddrV {x y : Operand} {t e : TypeId} {id ver off len n i : Nat} {e' : TypeId} {c : List (List V)} {k : IntKind} {p : Int} {b : Bool} (ho : o.op = .indexAddr t x y) (ht : X.P.underlying t = some (.slice e)) (hs : sizeB X.P e = some (b, n)) (hx : Ev f x (.view id ver off len)) (hm : m id = some (.row ver n e' c)) (hy : Ev f y (.v (.int k p))) (hp : p = (i : Int)) (hi : i < len) :
    StepU X o f m (.vptr id ver (off + i) 0) [] [id] :=
  stepU_pure fun f' m' hf hT G w a hO hF => by
    subst hp
    have hm' := (hT id (by simp)).trans hm
    obtain ⟨v1, A, cap, hu, a2, a3, a4⟩ := rep_view (ev_at hx (by simp [ho, Op.operands]) hf hF) hm'
    have h2 := rep_int (ev_at hy (by simp [ho, Op.operands]) hf hF)
    have hrow := hO.ob id _ hm'
    obtain ⟨r1, r2, r3, r4, r5⟩ := hrow
    rcases r5 with ⟨r6, r7⟩ | ⟨g, cur, us, fz, e0', hfz, r6, r7, r8, r10, r11⟩
    · omega
    · have hA : A = some ⟨g, off * n, none⟩ := by
        rcases a4 with a4 | ⟨a4, _⟩
        · rw [a4, r6]; rfl
        · omega
      subst hA
      refine ⟨.pointer (some ⟨g, off * n + i * n, none⟩), ?_, .vptr id ver _ 0 _ ver n e' c hm' (Nat.le_refl _) rfl fun _ => ⟨by omega, g, r6, by rw [Nat.add_mul]; rfl⟩⟩
      simp [execOp, ho, hu, h2, Instr.indexAt, asIntOf, run_underlying ht, (run_sizeB hs w).1, hi, addr_add]
theorem rep_vptr {G : Gh} {w : World} {id ver i j n : Nat} {e : TypeId} {c : List (List V)} {u : Value} (h : RepD G w m (.vptr id ver i j) u) (hm : m id = some (.row ver n e c)) : i < c.length ∧ ∃ g, G.μ id = some g ∧ u = .pointer (some ⟨g, i * n + j, none⟩) := by
  cases h with
  | vptr _ _ _ _ _ ver' n' e' c' h hv h1 h2 =>
    rw [hm] at h
    injection h with h
    injection h with h3 h4 h5 h6
    subst h3 h4 h5 h6
    exact h2 rfl
theorem stepU_fieldV {t : TypeId} {x : Operand} {q k id ver i j n : Nat} {e : TypeId} {c : List (List V)} (ho : o.op = .fieldAddr t x q) (hx : Ev f x (.vptr id ver i j)) (hm : m id = some (.row ver n e c)) (h : fieldOff X.P t q = some k) : StepU X o f m (.vptr id ver i (j + k)) [] [id] :=
  stepU_pure fun f' m' hf hT G w a _ hF => by
    have hm' := (hT id (by simp)).trans hm
    obtain ⟨h1, g, h2, h3⟩ := rep_vptr (ev_at hx (by simp [ho, Op.operands]) hf hF) hm'
    exact ⟨.pointer (some ⟨g, i * n + (j + k), none⟩), by simp only [execOp, ho, h3, Sem.run_bind, run_fieldAt h, Result.andThen_ok, Sem.run_pure, Nat.add_assoc], .vptr id ver i _ _ ver n e c hm' (Nat.le_refl _) rfl fun _ => ⟨h1, g, h2, rfl⟩⟩
/-- A read of an element's cells. -/
theorem stepU_loadV {t : TypeId} {x : Operand} {id ver i j n s : Nat} {e : TypeId} {b : Bool} {c : List (List V)} {cs : List V} (ho : o.op = .load t x) (hx : Ev f x (.vptr id ver i j)) (hm : m id = some (.row ver n e c)) (hc : c[i]? = some cs) (hs : sizeB X.P t = some (b, s)) (hn : (b = true ∨ s = 1) ∧ j + s ≤ cs.length) (hd : rd b (((cs.drop j).take s).map .v) = d) : StepU X o f m d [] [id] :=
  stepU_pure fun f' m' hf hT G w a hO hF => by
    have hm' := (hT id (by simp)).trans hm
    obtain ⟨h1, g, h2, h3⟩ := rep_vptr (ev_at hx (by simp [ho, Op.operands]) hf hF) hm'
    obtain ⟨r1, r2, r3, r4, r5⟩ := hO.ob id _ hm'
    rcases r5 with ⟨r6, r7⟩ | ⟨g', cur, us, fz, e0', hfz, r6, r7, r8, r10, r11⟩
    · omega
    · obtain rfl : g' = g := by rw [r6] at h2; simpa using h2
      have hel : ∀ q x, cs[q]? = some x → elem? c i q = some x := fun q x hq => by unfold elem?; rw [hc]; exact hq
      have hl : ((List.range s).map fun q => us i (j + q)).length = s := by simp
      have hR : RepDs G w m' (((cs.drop j).take s).map .v) ((List.range s).map fun q => us i (j + q)) := by
        refine ⟨by simp; omega, fun q d u hd hu => ?_⟩
        rw [List.getElem?_map] at hd hu
        by_cases hq : q < s
        · rw [List.getElem?_range hq] at hu
          rw [List.getElem?_take_of_lt hq, List.getElem?_drop] at hd
          cases hcq : cs[j + q]? with
          | none => rw [hcq] at hd; cases hd
          | some y => rw [hcq] at hd; simp at hd hu; subst hd hu; exact .v _ _ (r11 i _ y (hel _ y hcq))
        · rw [List.getElem?_eq_none (by simp; omega)] at hu; cases hu
      have hO1 : ∀ u ∈ (List.range s).map fun q => us i (j + q), u.oneCell' = true := fun u hu => by
        obtain ⟨q, hq, rfl⟩ := List.mem_map.1 hu
        have hq' := List.mem_range.1 hq
        exact (r11 i (j + q) cs[j + q] (hel _ _ (List.getElem?_eq_getElem (by omega)))).one
      refine ⟨_, ?_, by rw [← hd]; exact rep_rd hR hO1⟩
      simp only [execOp, ho, h3, Instr.loadAt, Instr.sureAddr, Sem.run_bind, Sem.run_pure, Result.andThen_ok]
      rw [run_loadVar_at hs g' (i * n + j) _ hl (fun q u hu => by
        rw [List.getElem?_map] at hu
        by_cases hq : q < s
        · rw [List.getElem?_range hq] at hu
          simp at hu
          subst hu
          have := r10 i (j + q) cs[j + q] (hel _ _ (List.getElem?_eq_getElem (by omega)))
          simp only [World.cell?, r7]
          rw [show i * n + j + q = i * n + (j + q) from by omega]
          simpa using this
        · rw [List.getElem?_eq_none (by simp; omega)] at hu; cases hu) (fun hb => by rcases hn.1 with h | h <;> simp_all)]
      simp
end
section
variable {X : Cx} {Q : AX → Fm → AH → Prop} {fr : Fm} {ah : AH}
/-- Nothing is a row of one's own, of nothing. -/
theorem weak_nil {t : Nat} (id n : Nat) (e : TypeId) (hn : 0 < n) (hnp : X.np ≤ id) (hl : look fr t = some (.v (.lit (.slice none 0 0)))) (hid : look ah id = none) : Weak X fr ah ((t, .view id 0 0 0) :: fr) ((id, .row 0 n e []) :: ah) := fun G w a hS => by
  obtain ⟨h1, h2, h3⟩ := hS.ok.nilRow hid hnp n hn e
  rw [over_cons] at h1 h2 h3
  refine ⟨_, h1, fun i => ?_, hS.nt, hS.df.ext h2⟩
  by_cases hi : t = i
  · subst hi
    have := hS.fr t
    rw [Fm.at_eq hl] at this
    rw [rep_lit this, Fm.at_eq (look_cons_self _ _ _)]
    exact h3
  · have : Fm.at ((t, D.view id 0 0 0) :: fr) i = fr.at i := by unfold Fm.at; rw [look_cons_ne _ _ hi]
    rw [this]
    exact (hS.fr i).ext h2
/-- What a row held is for good; the row is given up. -/
inductive StlF (fr : Fm) (id ver : Nat) (c : List (List V)) (k : Nat → Bool) : Fm → Prop
  | nil : StlF fr id ver c k []
  | keep {t : Nat} {d : D} {r : Fm} (h : look fr t = some d) (hl : d.live k = true) (hr : StlF fr id ver c k r) : StlF fr id ver c k ((t, d) :: r)
  | view {t off len : Nat} {c' : List (List V)} {r : Fm} (h : look fr t = some (.view id ver off len)) (hc : cut off (off + len) c = c') (hr : StlF fr id ver c k r) : StlF fr id ver c k ((t, .v (.sl c')) :: r)
theorem StlF.at {fr fr' : Fm} {id ver : Nat} {c : List (List V)} {k : Nat → Bool} (h : StlF fr id ver c k fr') : ∀ t d, look fr' t = some d → (look fr t = some d ∧ d.live k = true) ∨ ∃ off len, look fr t = some (.view id ver off len) ∧ d = .v (.sl (cut off (off + len) c)) := by
  induction h with
  | nil => intro t d h; cases h
  | @keep t d r h hl hr ih =>
    intro t' d' hd
    by_cases hi : t = t'
    · subst hi; rw [look_cons_self] at hd; injection hd with hd; subst hd; exact .inl ⟨h, hl⟩
    · rw [look_cons_ne _ _ hi] at hd; exact ih t' d' hd
  | @view t off len c' r h hc hr ih =>
    intro t' d' hd
    by_cases hi : t = t'
    · subst hi; rw [look_cons_self] at hd; injection hd with hd; subst hd; exact .inr ⟨off, len, h, by rw [hc]⟩
    · rw [look_cons_ne _ _ hi] at hd; exact ih t' d' hd
theorem repV_view {G : Gh} {w : World} {id n off len : Nat} {e : TypeId} {c : List (List V)} {u : Value} {Z : Nat → Prop} (h : RowAt G w id n e c) (hu : ViewAt G id n off len u) (hl : off + len ≤ c.length) (hZ : ∀ g, G.S g → Z g) (hg : ∀ g, G.μ id = some g → Z g) : RepV Z w (.sl (cut off (off + len) c)) u := by
  have hcl : (cut off (off + len) c).length = len := by simp [cut]; omega
  obtain ⟨h1, h2, h3, h4, h5⟩ := h
  obtain ⟨A, cap, rfl, a2, a3, a4⟩ := hu
  rcases Nat.eq_zero_or_pos len with h0 | h0
  · subst h0
    rw [List.eq_nil_of_length_eq_zero hcl]
    exact .nil _ _ (by omega)
  · have hA : A = (G.μ id).map (fun g => ⟨g, off * n, none⟩) := by rcases a4 with a4 | ⟨a4, _⟩; exact a4; omega
    rcases h5 with ⟨h6, h7⟩ | ⟨g, cur, us, fz, e0', hz, h6, h7, h8, h10, h11⟩
    · omega
    · rw [h6] at hA
      simp at hA
      subst hA
      have hel : ∀ i j x, elem? (cut off (off + len) c) i j = some x → elem? c (off + i) j = some x := fun i j x hx => by
        unfold elem? cut at hx
        unfold elem?
        rw [List.getElem?_take] at hx
        split at hx
        · rw [List.getElem?_drop] at hx; exact hx
        · cases hx
      have := RepV.sl (Z := Z) (w := w) (cut off (off + len) c) g (off * n) n cap (fun i j => us (off + i) j) (by omega) (hg g h6) h2 (fun e he => h1 e (List.mem_of_mem_drop (List.mem_of_mem_take he))) (by omega) (by omega)
        (fun i j x hx => by
          have := h10 _ _ x (hel i j x hx)
          rw [show off * n + (i * n + j) = (off + i) * n + j from by rw [Nat.add_mul]; omega]
          simp [World.cell?, h7, this])
        (fun i j x hx => (h11 _ _ x (hel i j x hx)).mono fun g hg => ⟨hZ g hg, rfl⟩)
      rw [hcl] at this
      exact this
theorem d_int {k : IntKind} {a b : Int} (h : a = b) : D.v (.int k a) = D.v (.int k b) := by rw [h]
theorem d_bool {a b : Bool} (h : a = b) : D.v (.bool a) = D.v (.bool b) := by rw [h]
theorem d_str {a b : List UInt8} (h : a = b) : D.v (.str a) = D.v (.str b) := by rw [h]
theorem d_sl {a b : List (List V)} (h : a = b) : D.v (.sl a) = D.v (.sl b) := by rw [h]
theorem d_view {id v o l o' l' : Nat} (h : o = o') (k : l = l') : D.view id v o l = D.view id v o' l' := by rw [h, k]
end
end Go.Proofs.YthflfnehdlpmdaaDoor
/- Abstract states: contracts that were proved over worlds, as contracts over abstract states; and the other way round. No program, no condition. -/
namespace Go.Proofs.YthflfnehdlpmdaaDoor
set_option linter.all false
open Go Go.RowKit Go.Lib

theorem rd_of {G : Gh} {w : World} {l : List UInt8} {u : Value} (h : RepV G.S w (.sl (bs l)) u) (hl : ∀ g, G.S g → g < w.heap.size) : ∃ A c, u = .slice A l.length c ∧ l.length ≤ c ∧ c ≤ maxLen ∧ Rd w w.heap.size A l := by
  generalize hc : bs l = c at h
  cases h with
  | nil A cap hm =>
    obtain rfl : l = [] := by cases l <;> simp [bs] at hc ⊢
    exact ⟨A, cap, rfl, Nat.zero_le _, hm, .inl rfl⟩
  | sl _ g o n cap us hne hz hn hs hcap hm hcc hr =>
    subst hc
    obtain rfl : n = 1 := by rw [← hs _ (List.getElem_mem hne)]; exact bs_one l _ (List.getElem_mem hne)
    refine ⟨_, cap, by rw [bs_length], by simpa using hcap, hm, .inr ⟨g, o, rfl, hl g hz, fun i hi => ?_⟩⟩
    have he0 : elem? (bs l) i 0 = some (.int .u8 (l[i].toNat : Int)) := by simp [elem?, bs, hi]
    have h1 := hcc i 0 _ he0
    have h2 := hr i 0 _ he0
    generalize us i 0 = v at h1 h2
    cases h2
    rw [Nat.mul_one, Nat.add_zero] at h1
    exact h1
/-- Below the heap's size nothing has changed. -/
theorem Ok.below {X : Cx} {G : Gh} {w w' : World} (h : Ok X G w (look [])) (hb : Below w.heap.size w w') : Ok X G w' (look []) := by
  refine ⟨fun id o ho => (by cases ho), fun i j g hi => absurd rfl hi, fun i g hi => absurd rfl hi, fun g hg => Nat.lt_of_lt_of_le (h.low g hg) hb.size, fun g hg => ⟨(h.keep g hg).1, (hb.block g (by have := (h.keep g hg).1; have := h.size; omega)).trans (h.keep g hg).2⟩, hb.os.trans h.os, hb.tape.trans h.tape, hb.output.trans h.output, Nat.le_trans h.size hb.size, h.s0, h.sk, fun id cs _ ho => (by cases ho), h.shp⟩
theorem con_pureS {P : Program} {f : FuncId} {args : List D} {d : D} (h : ∀ (K : Nat → Prop) (G : Gh) (w : World) (us : List Value), Shp P K w → (∀ g, G.S g → g < w.heap.size) → RepDs G w (look []) args us → Calls P f us.toArray w fun e w' => ∃ v, e = .returned v ∧ (∀ (m : Mem), RepD G w' m d v) ∧ Below w.heap.size w w') : Con P f args [] 0 (.ret d) [] := by
  intro K G w us hSK hO hA
  refine (h K G w us hO.shp hO.low hA).mono fun e w' ⟨v, he, hd, hb⟩ => ?_
  subst he
  exact ⟨G, hO.below hb, hd _⟩
theorem con_pure {P : Program} {f : FuncId} {args : List D} {d : D} (h : ∀ (G : Gh) (w : World) (us : List Value), (∀ g, G.S g → g < w.heap.size) → RepDs G w (look []) args us → Calls P f us.toArray w fun e w' => ∃ v, e = .returned v ∧ (∀ (m : Mem), RepD G w' m d v) ∧ Below w.heap.size w w') : Con P f args [] 0 (.ret d) [] := by
  intro K G w us hSK hO hA
  refine (h G w us hO.low hA).mono fun e w' ⟨v, he, hd, hb⟩ => ?_
  subst he
  exact ⟨G, hO.below hb, hd _⟩
/-- A contract over worlds. -/
theorem Con.calls {P : Program} {f : FuncId} {args : List D} {d : D} (h : Con P f args [] 0 (.ret d) []) (w : World) (us : List Value) (hA : RepDs ⟨fun _ => none, fun _ => 0, fun g => g < w.heap.size⟩ w (look []) args us) (hsh : Shp P (fun g => g < w.heap.size) w := by first | exact Shp.any | assumption) : Calls P f us.toArray w fun e w' => ∃ v Z, e = .returned v ∧ RepD ⟨fun _ => none, fun _ => 0, Z⟩ w' (look []) d v ∧ Below w.heap.size w w' := by
  refine (h (fun g => g < w.heap.size) ⟨fun _ => none, fun _ => 0, fun g => g < w.heap.size⟩ w us (fun _ h => h) ⟨fun id o ho => (by cases ho), fun i j g hi => absurd rfl hi, fun i g hi => absurd rfl hi, fun g hg => hg, fun g hg => ⟨hg, rfl⟩, rfl, rfl, rfl, Nat.le_refl _, fun g hg => hg, fun g hg _ => hg, fun _ _ _ _ _ => rfl, hsh⟩ hA).mono fun e w' ⟨G', hO, ho⟩ => ?_
  cases e with
  | returned v =>
    refine ⟨v, G'.S, rfl, ?_, hO.os, hO.tape, hO.output, hO.size, fun g hg => (hO.keep g hg).2⟩
    have hr : RepD G' w' (look []) d v := ho
    have dead : ∀ (d : D) (v : Value), RepD G' w' (look []) d v → RepD ⟨fun _ => none, fun _ => 0, G'.S⟩ w' (look []) d v := by
      intro d v hr
      induction hr with
      | v x u h => exact .v x u h
      | agg cs us hl h1 h ih => exact .agg cs us hl h1 ih
      | tup ds us hl h ih => exact .tup ds us hl ih
      | ptr id off g cs h hg => cases h
      | view id ver off len u ver' n e c h hv h1 h2 => cases h
      | vptr id ver i j u ver' n e c h hv h1 h2 => cases h
      | mref id g a l h hg => cases h
      | ref cs g o us hz hc hr => exact .ref cs g o us hz hc hr
      | fn f first caps us vs hl hl' h h' ih ih' => exact .fn f first caps us vs hl hl' ih ih'
      | cond b d u h h0 ih => exact .cond b d u ih h0
      | any u => exact .any u
    exact dead d v hr
  | panicked c => exact ho.elim
  | outgrown => exact ho.elim
end Go.Proofs.YthflfnehdlpmdaaDoor
/- Abstract states: a state that says less, in general. No program, no condition. -/
namespace Go.Proofs.YthflfnehdlpmdaaDoor
set_option linter.all false
open Go Go.RowKit

/-- What settles: a row's number, its version, its elements. -/
abbrev Sid := Option (Nat × Nat × List (List V))
mutual
/-- What is known of a value, said otherwise, or less. -/
inductive DW (s : Sid) (k : Nat → Bool) : D → D → Prop
  | keep {d : D} (hl : d.live k = true) : DW s k d d
  | nil : DW s k (.v (.lit (.slice none 0 0))) (.v (.sl []))
  | view {id ver off len : Nat} {c c' : List (List V)} (h : s = some (id, ver, c)) (hc : cut off (off + len) c = c') : DW s k (.view id ver off len) (.v (.sl c'))
  | any {d : D} : DW s k d .any
  | agg {cs cs' : List D} (h : DWs s k cs cs') : DW s k (.agg cs) (.agg cs')
  | tup {cs cs' : List D} (h : DWs s k cs cs') : DW s k (.tup cs) (.tup cs')
  | eq {d d' e : D} (he : d = d') (h : DW s k d' e) : DW s k d e
  | eq' {d e e' : D} (h : DW s k d e) (he : e = e') : DW s k d e'
inductive DWs (s : Sid) (k : Nat → Bool) : List D → List D → Prop
  | nil : DWs s k [] []
  | cons {d d' : D} {ds ds' : List D} (h : DW s k d d') (hr : DWs s k ds ds') : DWs s k (d :: ds) (d' :: ds')
  | same {ds : List D} (hl : D.lives k ds = true) : DWs s k ds ds
  | eq {ds ds' es : List D} (he : ds = ds') (h : DWs s k ds' es) : DWs s k ds es
end
inductive FW (fr : Fm) (s : Sid) (k : Nat → Bool) : Fm → Prop
  | nil : FW fr s k []
  | cons {t : Nat} {d d' : D} {r : Fm} (h : look fr t = some d) (hd : DW s k d d') (hr : FW fr s k r) : FW fr s k ((t, d') :: r)
inductive AW (ah : AH) (s : Sid) (k : Nat → Bool) : AH → Prop
  | nil : AW ah s k []
  | box {id : Nat} {cs cs' : List D} {r : AH} (h : look ah id = some (.box cs)) (hd : DWs s k cs cs') (hr : AW ah s k r) : AW ah s k ((id, .box cs') :: r)
  | row {id ver n : Nat} {e : TypeId} {c c' : List (List V)} {r : AH} (h : look ah id = some (.row ver n e c)) (hc : c = c') (hr : AW ah s k r) : AW ah s k ((id, .row ver n e c') :: r)
  | mp {id : Nat} {a : Bool} {l l' : List (List UInt8 × List V)} {r : AH} (h : look ah id = some (.mp a l)) (hc : l = l') (hr : AW ah s k r) : AW ah s k ((id, .mp a l') :: r)
theorem FW.at {fr fr' : Fm} {s : Sid} {k : Nat → Bool} (h : FW fr s k fr') : ∀ t d', look fr' t = some d' → ∃ d, look fr t = some d ∧ DW s k d d' := by
  induction h with
  | nil => intro t d h; cases h
  | @cons t d d' r h hd hr ih =>
    intro t' e he
    by_cases hi : t = t'
    · subst hi; rw [look_cons_self] at he; injection he with he; subst he; exact ⟨d, h, hd⟩
    · rw [look_cons_ne _ _ hi] at he; exact ih t' e he
theorem AW.at {ah ah' : AH} {s : Sid} {k : Nat → Bool} (h : AW ah s k ah') : ∀ id o, look ah' id = some o → (∃ cs cs', o = .box cs' ∧ look ah id = some (.box cs) ∧ DWs s k cs cs') ∨ (look ah id = some o ∧ ∀ cs, o ≠ .box cs) := by
  induction h with
  | nil => intro id o h; cases h
  | @box i cs cs' r h hd hr ih =>
    intro id o ho
    by_cases hi : i = id
    · subst hi; rw [look_cons_self] at ho; injection ho with ho; subst ho; exact .inl ⟨cs, cs', rfl, h, hd⟩
    · rw [look_cons_ne _ _ hi] at ho; exact ih id o ho
  | @row i ver n e c c' r h hc hr ih =>
    intro id o ho
    subst hc
    by_cases hi : i = id
    · subst hi; rw [look_cons_self] at ho; injection ho with ho; subst ho; exact .inr ⟨h, fun _ he => by cases he⟩
    · rw [look_cons_ne _ _ hi] at ho; exact ih id o ho
  | @mp i a l l' r h hc hr ih =>
    intro id o ho
    subst hc
    by_cases hi : i = id
    · subst hi; rw [look_cons_self] at ho; injection ho with ho; subst ho; exact .inr ⟨h, fun _ he => by cases he⟩
    · rw [look_cons_ne _ _ hi] at ho; exact ih id o ho
theorem of_dom' {ah : AH} {i : Nat} (h : dom ah i = true) : ∃ o, look ah i = some o := of_dom h
section
variable {X : Cx} {fr fr' : Fm} {ah ah' : AH}
/-- What settles, settles rightly. -/
def SidOk (ah ah' : AH) : Sid → Prop
  | none => True
  | some (id, ver, c) => dom ah' id = false ∧ ∃ n e, look ah id = some (.row ver n e c)
theorem weak_all (s : Sid) (hs : SidOk ah ah' s) (ha : AW ah s (dom ah') ah') (hf : FW fr s (dom ah') fr') : Weak X fr ah fr' ah' := fun G w a hS => by
  let gone : Nat → Prop := fun g => ∃ id ver c, s = some (id, ver, c) ∧ G.μ id = some g
  let G1 : Gh := { G with S := fun g => G.S g ∨ gone g }
  have hO := hS.ok
  have hin : ∀ i o, look ah' i = some o → look ah i ≠ none := fun i o ho => by
    rcases ha.at i o ho with ⟨cs, cs', _, h, _⟩ | ⟨h, _⟩ <;> rw [h] <;> simp
  have hsid : ∀ id ver c, s = some (id, ver, c) → dom ah' id = false ∧ ∃ n e, look ah id = some (.row ver n e c) := fun id ver c h => by subst h; exact hs
  have e1 : ∀ m', Ext G w m' G1 w m' := fun m' => ⟨fun g hg => ⟨.inl hg, rfl⟩, fun _ cs h => ⟨cs, h, rfl⟩, fun _ ver _ _ c h => ⟨ver, c, h, Nat.le_refl _, fun _ => ⟨Nat.le_refl _, rfl, rfl⟩⟩, fun _ a l h => ⟨a, l, h, rfl⟩⟩
  -- the kinds are kept
  have hkind : ∀ i, dom ah' i = true → (∃ cs cs', look ah' i = some (.box cs') ∧ look ah i = some (.box cs)) ∨ look ah' i = look ah i := fun i hi => by
    obtain ⟨o, ho⟩ := of_dom' hi
    rcases ha.at i o ho with ⟨cs, cs', rfl, h, _⟩ | ⟨h, _⟩
    · exact .inl ⟨cs, cs', ho, h⟩
    · exact .inr (ho.trans h.symm)
  have conv : ∀ {d : D} {u : Value}, RepD G w (look ah) d u → d.live (dom ah') = true → RepD G1 w (look ah') d u := by
    intro d u h
    induction h with
    | v x u h => intro _; exact .v x u (h.mono fun g hg => ⟨.inl hg, rfl⟩)
    | agg cs us hl' h1 h ih => intro hl; exact .agg cs us hl' h1 fun i d u hd hu => ih i d u hd hu (D.lives_get (by simpa [D.live] using hl) hd)
    | tup ds us hl' h ih => intro hl; exact .tup ds us hl' fun i d u hd hu => ih i d u hd hu (D.lives_get (by simpa [D.live] using hl) hd)
    | ptr id off g cs h hg =>
      intro hl
      rcases hkind id (by simpa [D.live] using hl) with ⟨c0, c1, h1, h2⟩ | h1
      · exact .ptr id off g c1 h1 hg
      · exact .ptr id off g cs (h1.trans h) hg
    | view id ver off len u ver' n e c h hv h1 h2 =>
      intro hl
      rcases hkind id (by simpa [D.live] using hl) with ⟨c0, c1, h3, h4⟩ | h3
      · rw [h] at h4; cases h4
      · exact .view id ver off len u ver' n e c (h3.trans h) hv h1 h2
    | vptr id ver i j u ver' n e c h hv h1 h2 =>
      intro hl
      rcases hkind id (by simpa [D.live] using hl) with ⟨c0, c1, h3, h4⟩ | h3
      · rw [h] at h4; cases h4
      · exact .vptr id ver i j u ver' n e c (h3.trans h) hv h1 h2
    | mref id g a l h hg =>
      intro hl
      rcases hkind id (by simpa [D.live] using hl) with ⟨c0, c1, h3, h4⟩ | h3
      · rw [h] at h4; cases h4
      · exact .mref id g a l (h3.trans h) hg
    | ref cs g o us hz hc hr => intro _; exact .ref cs g o us (.inl hz) hc fun j x hx => (hr j x hx).mono fun g hg => ⟨.inl hg, rfl⟩
    | fn f first caps us vs hl1 hl2 h h' ih ih' =>
      intro hl
      simp only [D.live, Bool.and_eq_true] at hl
      exact .fn f first caps us vs hl1 hl2 (fun i d u hd hu => ih i d u hd hu (D.lives_get hl.1 hd)) (fun i d u hd hu => ih' i d u hd hu (D.lives_get hl.2 hd))
    | cond b d u h h0 ih => intro hl; exact .cond b d u (fun hb => ih hb (by simpa [D.live] using hl)) h0
    | any u => intro _; exact .any u
  have convs : ∀ {ds : List D} {us : List Value}, RepDs G w (look ah) ds us → D.lives (dom ah') ds = true → RepDs G1 w (look ah') ds us := fun h hl => ⟨h.1, fun i d u hd hu => conv (h.2 i d u hd hu) (D.lives_get hl hd)⟩
  have wk : ∀ {d d' : D}, DW s (dom ah') d d' → ∀ {u : Value}, RepD G w (look ah) d u → RepD G1 w (look ah') d' u := by
    intro d d' h
    refine DW.rec (motive_1 := fun d d' _ => ∀ {u : Value}, RepD G w (look ah) d u → RepD G1 w (look ah') d' u) (motive_2 := fun ds ds' _ => ∀ {us : List Value}, RepDs G w (look ah) ds us → RepDs G1 w (look ah') ds' us) ?_ ?_ ?_ ?_ ?_ ?_ ?_ ?_ ?_ ?_ ?_ ?_ h
    · intro d hl u hu; exact conv hu hl
    · intro u hu; rw [rep_lit hu]; exact .v _ _ (.nil none 0 (by simp [maxLen]))
    · intro id ver off len c c' h hc u hu
      subst hc
      obtain ⟨h1, n, e, h2⟩ := hsid id ver c h
      obtain ⟨v1, v2⟩ := rep_view hu h2
      exact .v _ _ (repV_view (hO.ob id _ h2) v2 v1 (fun g hg => .inl hg) (fun g hg => .inr ⟨id, ver, c, h, hg⟩))
    · intro d u hu; exact .any u
    · intro cs cs' h ih u hu
      cases hu with
      | agg _ us hl h1 h => obtain ⟨a1, a2⟩ := ih ⟨hl, h⟩; exact .agg cs' us a1 h1 a2
    · intro cs cs' h ih u hu
      cases hu with
      | tup _ us hl h => obtain ⟨a1, a2⟩ := ih ⟨hl, h⟩; exact .tup cs' us a1 a2
    · intro d d' e he h ih u hu; subst he; exact ih hu
    · intro d e e' h he ih u hu; subst he; exact ih hu
    · intro us hu; exact ⟨hu.1, fun i d u hd => by simp at hd⟩
    · intro d d' ds ds' h hr ih ihr us hu
      match us, hu.1 with
      | u :: us, hl =>
        exact .cons (ih (hu.2 0 d u rfl rfl)) (ihr ⟨by simpa using hl, fun i d u hd hu' => hu.2 (i + 1) d u (by simpa using hd) (by simpa using hu')⟩)
    · intro ds hl us hu; exact convs hu hl
    · intro ds ds' es he h ih us hu; subst he; exact ih hu
  have wks : ∀ {ds ds' : List D}, DWs s (dom ah') ds ds' → ∀ {us : List Value}, RepDs G w (look ah) ds us → RepDs G1 w (look ah') ds' us := by
    intro ds ds' h us hu
    have key : ∀ {ds ds' : List D}, DWs s (dom ah') ds ds' → ds.length = ds'.length ∧ ∀ (i : Nat) d', ds'[i]? = some d' → ∃ d, ds[i]? = some d ∧ DW s (dom ah') d d' := by
      intro ds ds' h
      refine DWs.rec (motive_1 := fun d d' _ => True) (motive_2 := fun ds ds' _ => ds.length = ds'.length ∧ ∀ (i : Nat) d', ds'[i]? = some d' → ∃ d, ds[i]? = some d ∧ DW s (dom ah') d d') (by intros; trivial) (by intros; trivial) (by intros; trivial) (by intros; trivial) (by intros; trivial) (by intros; trivial) (by intros; trivial) (by intros; trivial) ?_ ?_ ?_ ?_ h
      · exact ⟨rfl, fun i d hd => by simp at hd⟩
      · intro d d' ds ds' h hr _ ih
        refine ⟨by simp [ih.1], fun i e he => ?_⟩
        cases i with
        | zero => simp at he; subst he; exact ⟨d, rfl, h⟩
        | succ i => exact ih.2 i e (by simpa using he)
      · intro ds hl; exact ⟨rfl, fun i d hd => ⟨d, hd, .keep (D.lives_get hl hd)⟩⟩
      · intro ds ds' es he h ih; subst he; exact ih
    obtain ⟨k1, k2⟩ := key h
    refine ⟨by rw [hu.1, k1], fun i d u hd hu' => ?_⟩
    obtain ⟨d0, h1, h2⟩ := k2 i d hd
    exact wk h2 (hu.2 i d0 u h1 hu')
  have hnone : ∀ i, look ah' i ≠ none → ∀ g, G.μ i = some g → ¬ gone g := fun i hi g hg ⟨id, ver, c, h1, h2⟩ => by
    obtain ⟨h3, n, e, h4⟩ := hsid id ver c h1
    cases ho : look ah' i with
    | none => exact hi ho
    | some o =>
      have := hO.inj i id g (hin i o ho) (by rw [h4]; simp) hg h2
      subst this
      unfold dom at h3
      rw [ho] at h3; cases h3
  have hin' : ∀ i, look ah' i ≠ none → look ah i ≠ none := fun i hi => by
    cases ho : look ah' i with
    | none => exact absurd ho hi
    | some o => exact hin i o ho
  refine ⟨G1, ⟨fun i o ho => ?_, fun i j g hi hj => hO.inj i j g (hin' i hi) (hin' j hj), fun i g hi hg => ⟨fun hs' => ?_, (hO.apart i g (hin' i hi) hg).2⟩, fun g hg => ?_, hO.keep, hO.os, hO.tape, hO.output, hO.size, fun g hg => .inl (hO.s0 g hg), fun g hg hk => ?_, fun i oo hi ho hfx => ?_, hO.shp⟩, fun t => ?_, hS.nt, hS.df.ext (e1 (look ah))⟩
  · rcases ha.at i o ho with ⟨cs, cs', rfl, h, hd⟩ | ⟨h, hb⟩
    · obtain ⟨g, us, t, b1, b2, b3, b4⟩ := hO.ob i _ h
      exact ⟨g, us, t, b1, b2, b3, wks hd b4⟩
    · cases o with
      | box cs => exact absurd rfl (hb cs)
      | row ver n e c => exact RowAt.ext (hO.ob i _ h) (e1 (look ah)) rfl rfl fun _ _ => rfl
      | mp a l => exact MpAt.ext (m' := look ah) (hO.ob i _ h) (e1 (look ah)) rfl fun _ _ => rfl
  · rcases hs' with hs' | hs'
    · exact (hO.apart i g (hin' i hi) hg).1 hs'
    · exact hnone i hi g hg hs'
  · rcases hg with hg | ⟨id, ver, c, h1, h2⟩
    · exact hO.low g hg
    · obtain ⟨_, n, e, h4⟩ := hsid id ver c h1
      exact (hO.ob id _ h4).lt h2
  · rcases hg with hg | ⟨id, ver, c, h1, h2⟩
    · exact hO.sk g hg hk
    · obtain ⟨_, n, e, h4⟩ := hsid id ver c h1
      exact absurd hk (hO.apart id g (by rw [h4]; simp) h2).2
  · rcases ha.at i _ ho with ⟨c0, c1, _, h, _⟩ | ⟨h, _⟩
    · exact hO.pin i _ hi h rfl
    · exact hO.pin i _ hi h hfx
  · cases hl : look fr' t with
    | none => unfold Fm.at; rw [hl]; exact .any _
    | some d' =>
      obtain ⟨d, h1, h2⟩ := hf.at t d' hl
      rw [Fm.at_eq hl]
      have := hS.fr t
      rw [Fm.at_eq h1] at this
      exact wk h2 this
/-- A variable's nil is a row of one's own, of nothing. -/
theorem weak_nilB (b i id n : Nat) (e : TypeId) {cs cs' : List D} (hb : look ah b = some (.box cs)) (hi : cs[i]? = some (.v (.lit (.slice none 0 0)))) (hc : cs.set i (.view id 0 0 0) = cs') (hn : 0 < n) (hnp : X.np ≤ id) (hid : look ah id = none) :
    Weak X fr ah fr ((b, .box cs') :: (id, .row 0 n e []) :: ah) := fun G w a hS => by
  subst hc
  obtain ⟨h1, h2, h3⟩ := hS.ok.nilRow hid hnp n hn e
  rw [over_cons] at h1 h2 h3
  have hne : id ≠ b := fun he => by subst he; rw [hid] at hb; cases hb
  have hb' : look ((id, Ob.row 0 n e []) :: ah) b = some (.box cs) := by rw [look_cons_ne _ _ hne]; exact hb
  obtain ⟨g, us, t, b1, b2, b3, b4⟩ := h1.ob b _ hb'
  have hlt : i < us.length := by rw [b4.1]; exact (List.getElem?_eq_some_iff.1 hi).1
  have hui : us[i] = .slice none 0 0 := rep_lit (b4.2 i _ us[i] hi (List.getElem?_eq_getElem hlt))
  obtain ⟨k1, k2⟩ := h1.setBox (cs' := cs.set i (.view id 0 0 0)) (w' := w) hb' b1 us us t b2 b3 ⟨by simp [b4.1], fun j d u hd hu => by
      rw [List.getElem?_set] at hd
      by_cases hj : i = j
      · subst hj
        rw [List.getElem?_eq_getElem hlt, hui] at hu
        injection hu with hu
        subst hu
        rw [if_pos rfl] at hd
        split at hd
        · injection hd with hd; subst hd; exact h3
        · cases hd
      · rw [if_neg hj] at hd; exact b4.2 j d u hd hu⟩ b2 (fun _ _ => rfl) rfl rfl rfl rfl
  rw [over_cons] at k1 k2
  exact ⟨_, k1, (hS.fr.ext h2).ext k2, hS.nt, (hS.df.ext h2).ext k2⟩
end
end Go.Proofs.YthflfnehdlpmdaaDoor
/- Abstract states: a call that is given one's own box. No program, no condition. -/
namespace Go.Proofs.YthflfnehdlpmdaaDoor
set_option linter.all false
open Go Go.RowKit
attribute [simp] bs_cut bs_append
@[simp] theorem take_drop_len {α : Type} (l : List α) (k : Nat) : (l.drop k).take (l.length - k) = l.drop k := by rw [List.take_of_length_le (by simp)]
@[simp] theorem take_tail_len {α : Type} (l : List α) : l.tail.take (l.length - 1) = l.tail := by rw [List.take_of_length_le (by simp)]
mutual
theorem D.live_of (k : Nat → Bool) : ∀ d : D, d.live (fun _ => false) = true → d.live k = true
  | .v x, _ => rfl
  | .agg cs, h => by simp only [D.live] at h ⊢; exact D.lives_of k cs h
  | .tup cs, h => by simp only [D.live] at h ⊢; exact D.lives_of k cs h
  | .ptr id off, h => by simp [D.live] at h
  | .view id _ _ _, h => by simp [D.live] at h
  | .vptr id _ _ _, h => by simp [D.live] at h
  | .mref id, h => by simp [D.live] at h
  | .ref cs, _ => rfl
  | .fn f a b, h => by
    simp only [D.live, Bool.and_eq_true] at h ⊢
    exact ⟨D.lives_of k a h.1, D.lives_of k b h.2⟩
  | .cond b d, h => by simp only [D.live] at h ⊢; exact D.live_of k d h
  | .any, _ => rfl
theorem D.lives_of (k : Nat → Bool) : ∀ ds : List D, D.lives (fun _ => false) ds = true → D.lives k ds = true
  | [], _ => rfl
  | d :: ds, h => by
    simp only [D.lives, Bool.and_eq_true] at h ⊢
    exact ⟨D.live_of k d h.1, D.lives_of k ds h.2⟩
end
section
variable {X : Cx} {o : Oper} {f : Nat → D} {m : Mem} {d : D} {T : List Nat}
theorem stepU_lenB {x : Operand} {t e : TypeId} {l : List UInt8} (ho : o.op = .call { callee := .builtin .len, args := #[x], argTypes := #[t] }) (ht : X.P.underlying t = some (.slice e)) (hx : Ev f x (.v (.sl (bs l)))) : StepU X o f m (.v (.int .i64 (l.length : Int))) [] [] := by
  have := stepU_len (X := X) (m := m) ho ht hx
  rwa [bs_length] at this
end
end Go.Proofs.YthflfnehdlpmdaaDoor
/- Abstract states: structs compared; a contract that says less. No program, no condition. -/
namespace Go.Proofs.YthflfnehdlpmdaaDoor
set_option linter.all false
open Go Go.RowKit
/-- The kinds of one-cell fields. -/
inductive Kd where
  | int (k : IntKind)
  | bool
  | str
def kdOf (P : Program) (t : TypeId) : Option Kd := match P.underlying t with
  | some (.int k) => some (.int k)
  | some .bool => some .bool
  | some .string => some .str
  | _ => none
def kdsGo (P : Program) : Nat → List Field → Option (List Kd)
  | _, [] => some []
  | k, f :: fs => if Nat.beq f.offset k && f.name != "_" then (match kdOf P f.type, kdsGo P (k + 1) fs with | some d, some ds => some (d :: ds) | _, _ => none) else none
def structK (P : Program) (t : TypeId) : Option (List Kd) := match P.underlying t with
  | some (.struct fs) => if P.stoodInHeld t || P.eqGuardType P.depth t then none else kdsGo P 0 fs.toList
  | _ => none
def Kd.fits : Kd → V → Bool
  | .int k, .int k' _ => decide (k = k')
  | .bool, .bool _ => true
  | .str, .str _ => true
  | _, _ => false
def fitsB : List Kd → List V → Bool
  | [], [] => true
  | k :: ks, x :: xs => k.fits x && fitsB ks xs
  | _, _ => false
def eqX : V → V → Bool
  | .int _ a, .int _ b => a == b
  | .bool a, .bool b => a == b
  | .str a, .str b => a == b
  | _, _ => false
def eqXs : List V → List V → Bool
  | x :: xs, y :: ys => eqX x y && eqXs xs ys
  | _, _ => true
def pureD : D → Option V
  | .v x => some x
  | _ => none
def pures : List D → Option (List V)
  | [] => some []
  | d :: ds => match pureD d, pures ds with | some x, some xs => some (x :: xs) | _, _ => none
theorem pures_at : ∀ {ds : List D} {xs : List V}, pures ds = some xs → ds = xs.map .v
  | [], xs, h => by simp [pures] at h; subst h; rfl
  | d :: ds, xs, h => by
    cases d <;> simp only [pures, pureD] at h <;> try (cases h; done)
    cases h2 : pures ds with
    | none => rw [h2] at h; cases h
    | some ys => rw [h2] at h; injection h with h; subst h; rw [pures_at h2]; rfl
section
variable {P : Program} (w : World)
theorem kd_eq {G : Gh} {m : Mem} {d : Nat} {t : TypeId} {k : Kd} {x y : V} {u v : Value} (hk : kdOf P t = some k) (hx : k.fits x = true) (hy : k.fits y = true) (hu : RepD G w m (.v x) u) (hv : RepD G w m (.v y) v) : (Op.equalIn (d + 1) t u v).run P w = .ok (eqX x y) w ∧ P.plainKey t = true := by
  unfold kdOf at hk
  cases hd : P.underlying t with
  | none => rw [hd] at hk; cases hk
  | some ty =>
    rw [hd] at hk
    cases ty <;> simp only at hk <;> try (cases hk; done)
    · injection hk with hk; subst hk
      cases x <;> simp [Kd.fits] at hx
      cases y <;> simp [Kd.fits] at hy
      obtain rfl := rep_bool hu
      obtain rfl := rep_bool hv
      exact ⟨run_equalIn_bool w d t _ _ hd, by simp [Program.plainKey, hd]⟩
    · injection hk with hk; subst hk
      cases x <;> simp [Kd.fits] at hx
      cases y <;> simp [Kd.fits] at hy
      subst hx hy
      obtain rfl := rep_int hu
      obtain rfl := rep_int hv
      exact ⟨run_equalIn_int w d t _ _ _ _ hd, by simp [Program.plainKey, hd]⟩
    · injection hk with hk; subst hk
      cases x <;> simp [Kd.fits] at hx
      cases y <;> simp [Kd.fits] at hy
      have h1 := rep_str hu
      have h2 := rep_str hv
      subst h1 h2
      refine ⟨?_, by simp [Program.plainKey, hd]⟩
      rw [run_equalIn_string w d t _ _ hd]
      simp [eqX, S_toList]
theorem kds_eq {G : Gh} {m : Mem} {d : Nat} (us vs : List Value) : ∀ (fs : List Field) (k : Nat) (ks : List Kd) (xs ys : List V), kdsGo P k fs = some ks → fitsB ks xs = true → fitsB ks ys = true → us.length = k + xs.length → vs.length = k + ys.length →
    (∀ i x u, xs[i]? = some x → us[k + i]? = some u → RepD G w m (.v x) u) → (∀ i x u, ys[i]? = some x → vs[k + i]? = some u → RepD G w m (.v x) u) → (Op.eqFields (d + 1) us.toArray vs.toArray fs).run P w = .ok (eqXs xs ys) w
  | [], k, ks, xs, ys, hk, h1, h2, _, _, _, _ => by
    simp only [kdsGo] at hk; injection hk with hk; subst hk
    cases xs <;> simp [fitsB] at h1
    simp [Op.eqFields, eqXs]
  | f :: fs, k, ks, xs, ys, hk, h1, h2, hl, hl2, hx, hy => by
    simp only [kdsGo] at hk
    split at hk
    · rename_i hc
      simp only [Bool.and_eq_true, bne_iff_ne, ne_eq] at hc
      have ho : f.offset = k := Nat.eq_of_beq_eq_true hc.1
      cases hd : kdOf P f.type with
      | none => rw [hd] at hk; cases hk
      | some kd =>
        cases hg : kdsGo P (k + 1) fs with
        | none => rw [hd, hg] at hk; cases hk
        | some ks' =>
          rw [hd, hg] at hk; injection hk with hk; subst hk
          cases xs with
          | nil => simp [fitsB] at h1
          | cons x xs =>
            cases ys with
            | nil => simp [fitsB] at h2
            | cons y ys =>
              simp only [fitsB, Bool.and_eq_true] at h1 h2
              simp only [List.length_cons] at hl hl2
              have e1 : us[k]? = some (us[k]'(by omega)) := List.getElem?_eq_getElem (by omega)
              have e2 : vs[k]? = some (vs[k]'(by omega)) := List.getElem?_eq_getElem (by omega)
              obtain ⟨q1, q2⟩ := kd_eq (P := P) w (d := d) hd h1.1 h2.1 (hx 0 x _ rfl e1) (hy 0 y _ rfl e2)
              have p1 : (part f.type us.toArray f.offset).run P w = .ok (us[k]'(by omega)) w := run_part_plain w q2 (by rw [ho, List.getElem?_toArray]; exact e1)
              have p2 : (part f.type vs.toArray f.offset).run P w = .ok (vs[k]'(by omega)) w := run_part_plain w q2 (by rw [ho, List.getElem?_toArray]; exact e2)
              have ih := kds_eq (d := d) us vs fs (k + 1) ks' xs ys hg h1.2 h2.2 (by omega) (by omega) (fun i z u h h' => hx (i + 1) z u (by simpa using h) (by rw [← h']; congr 1; omega)) (fun i z u h h' => hy (i + 1) z u (by simpa using h) (by rw [← h']; congr 1; omega))
              simp only [Op.eqFields, hc.2, ne_eq, not_false_eq_true, if_true, Sem.run_bind, p1, p2, q1, Result.andThen_ok]
              cases he : eqX x y
              · simp [eqXs, he]
              · simp [eqXs, he, ih]
    · cases hk
end
section
variable {X : Cx} {o : Oper} {f : Nat → D} {m : Mem} {d : D} {T : List Nat}
theorem rep_aggV {G : Gh} {w : World} {m : Mem} {ds : List D} {xs : List V} {u : Value} (hp : pures ds = some xs) (h : RepD G w m (.agg ds) u) : ∃ us : List Value, u = .agg us.toArray ∧ us.length = xs.length ∧ ∀ (i : Nat) x v, xs[i]? = some x → us[i]? = some v → RepD G w m (.v x) v := by
  obtain rfl := pures_at hp
  cases h with
  | agg _ us hlen h1 h => exact ⟨us, rfl, by simpa using hlen, fun i x v hx hv => h i (.v x) v (by simp [hx]) hv⟩
theorem run_eqA {G : Gh} {w : World} {t : TypeId} {ks : List Kd} {ds es : List D} {xs ys : List V} {u v : Value} (ht : structK X.P t = some ks) (hp : pures ds = some xs) (hq : pures es = some ys) (h1 : fitsB ks xs = true) (h2 : fitsB ks ys = true) (hu : RepD G w m (.agg ds) u) (hv : RepD G w m (.agg es) v) :
    ∃ us vs : Array Value, u = .agg us ∧ v = .agg vs ∧ (Op.equalIn 10000 t (.agg us) (.agg vs)).run X.P w = .ok (eqXs xs ys) w ∧ X.P.eqGuardType X.P.depth t = false := by
  obtain ⟨us, rfl, l1, r1⟩ := rep_aggV hp hu
  obtain ⟨vs, rfl, l2, r2⟩ := rep_aggV hq hv
  unfold structK at ht
  cases hd : X.P.underlying t with
  | none => rw [hd] at ht; cases ht
  | some ty =>
    rw [hd] at ht
    cases ty <;> simp only at ht <;> try (cases ht; done)
    rename_i fs
    split at ht
    · cases ht
    · rename_i hc
      simp only [Bool.or_eq_true, not_or, Bool.not_eq_true] at hc
      have hfs : X.P.fieldsOf t = fs := by simp [Program.fieldsOf, hd]
      refine ⟨us.toArray, vs.toArray, rfl, rfl, ?_, hc.2⟩
      rw [show (10000 : Nat) = 9999 + 1 from rfl, run_equalIn_struct w 9999 t _ _ (by rw [hfs]; exact hd) hc.1, hfs]
      exact kds_eq (d := 9998) w us vs fs.toList 0 ks xs ys ht h1 h2 (by omega) (by omega) (fun i x v hx hv => r1 i x v hx (by simpa using hv)) (fun i x v hx hv => r2 i x v hx (by simpa using hv))
theorem stepU_neqA {t t' : TypeId} {x y : Operand} {ks : List Kd} {ds es : List D} {xs ys : List V} (ho : o.op = .binOp .neq t x y t') (ht : structK X.P t = some ks) (hx : Ev f x (.agg ds)) (hy : Ev f y (.agg es)) (hp : pures ds = some xs) (hq : pures es = some ys) (h1 : fitsB ks xs = true) (h2 : fitsB ks ys = true) : StepU X o f m (.v (.bool (!eqXs xs ys))) [] [] :=
  stepU_pure fun f' m' hf _ G w a _ hF => by
    obtain ⟨us, vs, e1, e2, h, hg⟩ := run_eqA (X := X) ht hp hq h1 h2 (ev_at hx (by simp [ho, Op.operands]) hf hF) (ev_at hy (by simp [ho, Op.operands]) hf hF)
    refine ⟨_, ?_, mk_bool _⟩
    simp only [execOp, ho, e1, e2, Sem.run_bind, run_eqGuard_agg w .neq t x y us vs hg, Result.andThen_ok, run_neq_struct, h, Sem.run_pure]
end
end Go.Proofs.YthflfnehdlpmdaaDoor
