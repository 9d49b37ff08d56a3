/- Abstract states: rows grow. No program, no condition. -/
import Derived.Test.YtlfkgbcclinnbaaAh
namespace Go.Proofs.Ytlfkgbcclinnbaa
set_option linter.all false
open Go Go.RowKit
def infoB (P : Program) (e : TypeId) : Option (Nat × Nat) := match P.info? e with | some i => (match i.zero with | some z => if z.cells.size = i.size ∧ 0 < i.size then some (i.size, i.bytes) else none | none => none) | none => none
theorem infoB_at {P : Program} {e : TypeId} {n b : Nat} (h : infoB P e = some (n, b)) : ∃ i z, P.info? e = some i ∧ i.zero = some z ∧ i.size = n ∧ i.bytes = b ∧ z.cells.size = n ∧ 0 < n := by
  unfold infoB at h
  cases hi : P.info? e with
  | none => simp [hi] at h
  | some i =>
    cases hz : i.zero with
    | none => simp [hi, hz] at h
    | some z =>
      simp only [hi, hz] at h
      split at h
      · rename_i hc
        simp at h
        exact ⟨i, z, rfl, hz, h.1, h.2, by omega, by omega⟩
      · cases h
section
variable {X : Cx} {G : Gh} {w w' : World} {m : Mem}
/-- The values of a row's first elements. -/
theorem own_of_view {id ver n len : Nat} {e : TypeId} {c : List (List V)} {u : Value} (h : RowAt G w id n e c) (hu : ViewAt G id n 0 len u) (hl : len ≤ c.length) :
    ∃ xs : List Value, w.ownsRow 0 e n u len xs ∧ (∀ i j x, i < len → elem? c i j = some x → ∃ v, xs[i * n + j]? = some v ∧ RepV G.S w x v) ∧ (∀ g, u.ownBlock = some g → G.μ id = some g) := by
  obtain ⟨h1, h2, h3, h4, h5⟩ := h
  obtain ⟨A, cap, rfl, a2, a3, a4⟩ := hu
  have hA : A = (G.μ id).map (fun g => ⟨g, 0, none⟩) := by
    rcases a4 with a4 | ⟨_, a4⟩
    · rw [a4]; simp
    · exact absurd rfl a4
  rcases h5 with ⟨h6, h7⟩ | ⟨g, cur, us, h6, h7, h8, h10, h11⟩
  · rw [h6] at hA
    simp at hA
    subst hA
    obtain rfl : cap = 0 := by omega
    obtain rfl : len = 0 := by omega
    exact ⟨[], ⟨by simp, .inl ⟨rfl, rfl⟩⟩, fun i j x hi => by omega, fun g hg => by simp [Value.ownBlock] at hg⟩
  · rw [h6] at hA
    simp at hA
    subst hA
    have hcap : cap = G.cap id := by omega
    have hle : len * n ≤ cur.size := by rw [h8]; exact Nat.mul_le_mul_right _ (by omega)
    refine ⟨cur.toList.take (len * n), ⟨by simp; exact Nat.min_eq_left hle, .inr ⟨g, cap, cur, rfl, Nat.zero_le _, h7, a3, by omega, by rw [hcap]; exact h8, rfl⟩⟩, fun i j x hi hx => ?_, fun g' hg' => by simp [Value.ownBlock] at hg'; rw [← hg']; exact h6⟩
    have hj : j < n := by
      unfold elem? at hx
      cases hci : c[i]? with
      | none => rw [hci] at hx; cases hx
      | some e0 =>
        rw [hci] at hx
        have := h1 e0 (List.mem_of_getElem? hci)
        have hx' : e0[j]? = some x := hx
        have := (List.getElem?_eq_some_iff.1 hx').1
        omega
    have hlt : i * n + j < len * n := by
      have : (i + 1) * n ≤ len * n := Nat.mul_le_mul_right _ (by omega)
      rw [Nat.add_mul] at this; omega
    refine ⟨us i j, ?_, h11 i j x hx⟩
    rw [List.getElem?_take_of_lt hlt]
    simpa using h10 i j x hx
theorem Ok.grow (h : Ok X G w m) {id ver n len : Nat} {e : TypeId} {c c2 : List (List V)} {u v' : Value} {xs news : List Value} (hm : m id = some (.row ver n e c)) (hl : len ≤ c.length)
    (hx : ∀ i j x, i < len → elem? c i j = some x → ∃ v, xs[i * n + j]? = some v ∧ RepV G.S w x v) (hxl : xs.length = len * n) (hb : ∀ g, u.ownBlock = some g → G.μ id = some g)
    (hs : ∀ e ∈ c2, e.length = n) (hn : 0 < n) (hr : ∀ i j x, elem? c2 i j = some x → ∃ v, news[i * n + j]? = some v ∧ RepV G.S w x v)
    (hown : w'.ownsRow 0 e n v' (len + c2.length) (xs ++ news)) (hg : w.grownBy w' u.ownBlock) (hbk : v'.ownBlock = u.ownBlock ∨ v'.ownBlock = some w.heap.size) (hmod : w'.ownsRow 0 e n v' (len + c2.length) (xs ++ news)) :
    ∃ G', Ok X G' w' (over [(id, .row (ver + 1) n e (c.take len ++ c2))] m) ∧ Ext G w m G' w' (over [(id, .row (ver + 1) n e (c.take len ++ c2))] m) ∧ RepD G' w' (over [(id, .row (ver + 1) n e (c.take len ++ c2))] m) (.view id (ver + 1) 0 (len + c2.length)) v' := by
  have hrow := h.ob id _ hm
  have hc1 : ∀ x ∈ c.take len ++ c2, x.length = n := fun x hx => by
    rcases List.mem_append.1 hx with hx | hx
    · exact hrow.1 x (List.mem_of_mem_take hx)
    · exact hs x hx
  have hcl : (c.take len ++ c2).length = len + c2.length := by simp; omega
  have hel : ∀ i j x, elem? (c.take len ++ c2) i j = some x → ∃ v, (xs ++ news)[i * n + j]? = some v ∧ RepV G.S w x v := fun i j x hx' => by
    unfold elem? at hx'
    by_cases hi : i < len
    · rw [List.getElem?_append_left (by simp; omega), List.getElem?_take_of_lt hi] at hx'
      obtain ⟨v, h1, h2⟩ := hx i j x hi hx'
      exact ⟨v, by rw [List.getElem?_append_left (List.getElem?_eq_some_iff.1 h1).1]; exact h1, h2⟩
    · rw [List.getElem?_append_right (by simp; omega), List.length_take, Nat.min_eq_left hl] at hx'
      obtain ⟨v, h1, h2⟩ := hr (i - len) j x hx'
      refine ⟨v, ?_, h2⟩
      have : (i - len) * n + len * n = i * n := by rw [← Nat.add_mul]; congr 1; omega
      rw [List.getElem?_append_right (by omega), hxl, show i * n + j - len * n = (i - len) * n + j from by omega]
      exact h1
  obtain ⟨o1, o2⟩ := hown
  rcases o2 with ⟨rfl, h0⟩ | ⟨g, cap, cur, rfl, _, hgc, hnc, hcm, hcs, hct⟩
  · -- nothing was there and nothing came
    have hcn : c.take len ++ c2 = [] := List.eq_nil_of_length_eq_zero (by omega)
    rw [hcn] at hel ⊢
    obtain ⟨k1, k2⟩ := h.step (G' := G.at_ id none 0) (w' := w') id (.row (ver + 1) n e []) rfl (fun i hi => Gh.at_ne G _ _ hi) (fun g hg => by rw [Gh.at_μ] at hg; cases hg)
      (fun g hgl hne => hg.block g hgl fun he => hne (by rw [hm]; simp) (hb g he.symm)) hg.size hg.os hg.tape hg.output
      (fun o' ho' => by
        rw [hm] at ho'; injection ho' with ho'; subst ho'
        exact ⟨fun _ he => (by cases he), fun v0 n0 e0 c0 he => by
          injection he with a1 a2 a3 a4; subst a1 a2 a3 a4
          exact ⟨ver + 1, [], rfl, by omega, fun he => by omega⟩⟩)
      (fun k => ⟨by simp, hn, by simp, by rw [Gh.at_cap]; simp [maxLen], .inl ⟨Gh.at_μ _ _ _ _, Gh.at_cap _ _ _ _⟩⟩) (fun cs _ he => by cases he)
    refine ⟨_, k1, k2, .view id (ver + 1) 0 _ _ (ver + 1) n e [] over_at (Nat.le_refl _) rfl fun _ => ⟨by simp only [List.length_nil]; omega, none, 0, ?_, by rw [Gh.at_cap], by omega, .inl (by rw [Gh.at_μ]; rfl)⟩⟩
    rw [show len + c2.length = 0 from h0]
  · have hnew : w.heap.size ≤ g ∨ (m id ≠ none ∧ G.μ id = some g) := by
      rcases hbk with hk | hk
      · refine .inr ⟨by rw [hm]; simp, hb g ?_⟩
        rw [← hk]; rfl
      · simp [Value.ownBlock] at hk; exact .inl (by omega)
    obtain ⟨k1, k2⟩ := h.step (G' := G.at_ id (some g) cap) (w' := w') id (.row (ver + 1) n e (c.take len ++ c2)) rfl (fun i hi => Gh.at_ne G _ _ hi) (fun g' hg' => by
        rw [Gh.at_μ] at hg'; injection hg' with hg'; subst hg'; exact hnew)
      (fun g' hgl hne => hg.block g' hgl fun he => hne (by rw [hm]; simp) (hb g' he.symm)) hg.size hg.os hg.tape hg.output
      (fun o' ho' => by
        rw [hm] at ho'; injection ho' with ho'; subst ho'
        exact ⟨fun _ he => (by cases he), fun v0 n0 e0 c0 he => by
          injection he with a1 a2 a3 a4; subst a1 a2 a3 a4
          exact ⟨ver + 1, _, rfl, by omega, fun he => by omega⟩⟩)
      (fun k => by
        refine ⟨hc1, hn, by rw [Gh.at_cap, hcl]; exact hnc, by rw [Gh.at_cap]; exact hcm, .inr ⟨g, cur, fun i j => cur.getD (i * n + j) undef, Gh.at_μ _ _ _ _, hgc, by rw [Gh.at_cap]; exact hcs, fun i j x hx' => ?_, fun i j x hx' => ?_⟩⟩
        all_goals
          obtain ⟨v, h1, h2⟩ := hel i j x hx'
          have hlt := (List.getElem?_eq_some_iff.1 h1).1
          rw [o1] at hlt
          have hcu : cur[i * n + j]? = some v := by
            have h3 : (cur.toList.take ((len + c2.length) * n))[i * n + j]? = some v := by rw [hct]; exact h1
            rw [List.getElem?_take_of_lt hlt] at h3
            simpa using h3
        · rw [hcu]; simp [hcu]
        · simp only [Array.getD_eq_getD_getElem?, hcu, Option.getD_some]; exact h2.ext k) (fun cs _ he => by cases he)
    exact ⟨_, k1, k2, .view id (ver + 1) 0 _ _ (ver + 1) n e _ over_at (Nat.le_refl _) rfl fun _ => ⟨by rw [hcl]; omega, some ⟨g, 0, none⟩, cap, rfl, by rw [Gh.at_cap]; omega, hnc, .inl (by rw [Gh.at_μ]; simp)⟩⟩
/-- The cells of a slice's elements. -/
theorem src_sl {c2 : List (List V)} {u : Value} {n : Nat} (h : RepV G.S w (.sl c2) u) (hs : ∀ e ∈ c2, e.length = n) (hn : 0 < n) : ∃ A cap, u = .slice A c2.length cap ∧ (0 < c2.length → ∃ a, A = some a ∧ ∃ news : List Value, news.length = c2.length * n ∧ (∀ j v, news[j]? = some v → w.cell? (a.add j) = some v) ∧ (∀ v ∈ news, v.oneCell' = true) ∧
    ∀ i j x, elem? c2 i j = some x → ∃ v, news[i * n + j]? = some v ∧ RepV G.S w x v) := by
  cases h with
  | nil A cap hm => exact ⟨A, cap, rfl, fun h => by simp at h⟩
  | sl _ g o n' cap us hne hz hn' hs' hcap hm hc hr =>
    refine ⟨_, cap, rfl, fun _ => ⟨_, rfl, ?_⟩⟩
    obtain rfl : n' = n := by rw [← hs _ (List.getElem_mem hne)]; exact (hs' _ (List.getElem_mem hne)).symm
    have hel : ∀ k, k < c2.length * n' → ∃ x, elem? c2 (k / n') (k % n') = some x := fun k hk => by
      have h1 : k / n' < c2.length := (Nat.div_lt_iff_lt_mul hn).2 hk
      have h2 : k % n' < n' := Nat.mod_lt _ hn
      unfold elem?
      rw [List.getElem?_eq_getElem h1]
      have := hs _ (List.getElem_mem h1)
      exact ⟨c2[k / n'][k % n']'(by omega), List.getElem?_eq_getElem (by omega)⟩
    refine ⟨(List.range (c2.length * n')).map fun k => us (k / n') (k % n'), by simp, fun j v hv => ?_, fun v hv => ?_, fun i j x hx => ?_⟩
    · rw [List.getElem?_map] at hv
      by_cases hj : j < c2.length * n'
      · rw [List.getElem?_range hj] at hv
        simp at hv
        subst hv
        obtain ⟨x, hx⟩ := hel j hj
        have := hc _ _ x hx
        rw [addr_add]
        rwa [show j / n' * n' + j % n' = j from by have := Nat.div_add_mod j n'; rw [Nat.mul_comm]; exact this] at this
      · rw [List.getElem?_eq_none (by simp; omega)] at hv; cases hv
    · obtain ⟨k, hk, rfl⟩ := List.mem_map.1 hv
      obtain ⟨x, hx⟩ := hel k (List.mem_range.1 hk)
      exact (hr _ _ x hx).one
    · have hi : i < c2.length := by
        unfold elem? at hx
        cases hci : c2[i]? with
        | none => rw [hci] at hx; cases hx
        | some e0 => exact (List.getElem?_eq_some_iff.1 hci).1
      have hj : j < n' := by
        unfold elem? at hx
        rw [List.getElem?_eq_getElem hi] at hx
        have h1 : (c2[i])[j]? = some x := hx
        have h2 := (List.getElem?_eq_some_iff.1 h1).1
        rw [hs _ (List.getElem_mem hi)] at h2; exact h2
      have hlt : i * n' + j < c2.length * n' := by
        have : (i + 1) * n' ≤ c2.length * n' := Nat.mul_le_mul_right _ (by omega)
        rw [Nat.add_mul] at this; omega
      refine ⟨us i j, ?_, hr i j x hx⟩
      rw [List.getElem?_map, List.getElem?_range hlt]
      simp only [Option.map_some]
      rw [Nat.mul_comm i n', Nat.mul_add_div hn, Nat.mul_add_mod, Nat.div_eq_of_lt hj, Nat.mod_eq_of_lt hj, Nat.add_zero]
theorem run_append_none {P : Program} {t ty e : TypeId} {i : TypeInfo} (ht : P.underlying t = some (.slice e)) (hi : P.info? e = some i) {n : Nat} {v : Value} {xs : List Value} (hown : w.ownsRow 0 e i.size v n xs) (A : Option Addr) (c : Nat) : (Builtin.append_ #[t, t] ty #[v, .slice A 0 c]).run P w = .ok v w := by
  rcases hown.2 with ⟨rfl, h0⟩ | ⟨g, cap, cur, rfl, _, _, hnc, _⟩
  · rcases A with _ | a <;> simp [Builtin.append_, run_underlying ht, sizeOf, typeInfo, hi, Builtin.lenOf, Builtin.firstCells, loadCells, loadCellsFrom, storeCells]
  · rcases A with _ | a <;> simp [Builtin.append_, run_underlying ht, sizeOf, typeInfo, hi, Builtin.lenOf, Builtin.firstCells, hnc, loadCells, loadCellsFrom, storeCells]
end
section
variable {X : Cx} {o : Oper} {f : Nat → D} {m : Mem} {d : D} {T : List Nat}
theorem rep_view {G : Gh} {w : World} {id ver off len n : Nat} {e : TypeId} {c : List (List V)} {u : Value} (h : RepD G w m (.view id ver off len) u) (hm : m id = some (.row ver n e c)) : off + len ≤ c.length ∧ ViewAt G id n off len u := by
  cases h with
  | view _ _ _ _ _ ver' n' e' c' h hv h1 h2 =>
    rw [hm] at h
    injection h with h
    injection h with h3 h4 h5 h6
    subst h3 h4 h5 h6
    exact h2 rfl
theorem run_app {P : Program} {w : World} {a : Act} {x y : Operand} {t t' : TypeId} (ho : o.op = .call { callee := .builtin .append, args := #[x, y], argTypes := #[t, t'] }) {v v' : Value} {w' : World} (hx : a.eval x = v) {z : Value} (hy : a.eval y = z) (hr : (Builtin.append_ #[t, t'] o.type #[v, z]).run P w = .ok v' w') :
    (execOp a.eval o).run P w = .ok (.value v') w' := by
  simp only [execOp, ho, resolve, invoke, builtin, Sem.run_bind, Sem.run_pure, Result.andThen_ok, List.map_toArray, List.map_cons, List.map_nil, hx, hy, hr]
/-- append(v, x...), v a row of one's own, x a slice that will not change. -/
theorem stepU_app {x y : Operand} {t e : TypeId} {id ver len n b : Nat} {c c2 c' : List (List V)} (ho : o.op = .call { callee := .builtin .append, args := #[x, y], argTypes := #[t, t] }) (ht : X.P.underlying t = some (.slice e)) (hi : infoB X.P e = some (n, b)) (hx : Ev f x (.view id ver 0 len)) (hm : m id = some (.row ver n e c)) (hy : Ev f y (.v (.sl c2))) (hs : ∀ e ∈ c2, e.length = n)
    (hb : len ≤ c.length ∧ (len + c2.length) * b ≤ 140737488355328 ∧ len + c2.length ≤ 140737488355328) (hc : c.take len ++ c2 = c') : StepU X o f m (.view id (ver + 1) 0 (len + c2.length)) [(id, .row (ver + 1) n e c')] [id] :=
  fun f' m' hf hT _ G w a hO hF K Q hK => by
    subst hc
    have hm' := (hT id (by simp)).trans hm
    obtain ⟨v1, v2⟩ := rep_view (ev_at hx (by simp [ho, Op.operands, Call.operands]) hf hF) hm'
    have hsrc := rep_sl (ev_at hy (by simp [ho, Op.operands, Call.operands]) hf hF)
    obtain ⟨i, z, i1, i2, i3, i4, i5, i6⟩ := infoB_at hi
    obtain ⟨xs, hown, hxs, hblk⟩ := own_of_view (ver := ver) (hO.ob id _ hm') v2 hb.1
    obtain ⟨A, cap, hu, hne⟩ := src_sl hsrc hs i6
    have big : len + c2.length ≤ maxLen := by simp [maxLen]; omega
    unfold Oper.wp
    rcases Nat.eq_zero_or_pos c2.length with h0 | h0
    · obtain rfl := List.eq_nil_of_length_eq_zero h0
      rw [run_app ho rfl hu (run_append_none ht i1 (by rw [i3]; exact hown) A cap)]
      obtain ⟨G', k1, k2, k3⟩ := hO.grow (c2 := []) (u := a.eval x) (v' := a.eval x) (news := []) hm' hb.1 hxs hown.1 hblk (by simp) i6 (fun i j x h => by simp [elem?] at h) (by simpa using hown) (World.grownBy.refl w _) (.inl rfl) (by simpa using hown)
      exact hK _ _ _ k1 k2 k3
    · obtain ⟨p, rfl, news, n1, n2, n3, n4⟩ := hne h0
      obtain ⟨v', w', r1, r2, r3, _, r5⟩ := run_append_own_at (P := X.P) w 0 t o.type e i z n b ht i1 i2 i3 i4 i5 i6 (a.eval x) len xs hown p c2.length cap news n1 n2 n3 big hb.2.1 (Nat.zero_le _)
      rw [run_app ho rfl hu r1]
      obtain ⟨G', k1, k2, k3⟩ := hO.grow hm' hb.1 hxs hown.1 hblk hs i6 n4 r2 r3 r5 r2
      exact hK _ _ _ k1 k2 k3
end
end Go.Proofs.Ytlfkgbcclinnbaa
