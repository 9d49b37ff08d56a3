/- Layer 6: the contract of Put that was proved over worlds. No condition. -/
import Derived.Test.YtlfkgbcclinnbaaFrB0
import Derived.Test.YtlfkgbcclinnbaaFr6
namespace Go.Proofs.Ytlfkgbcclinnbaa
set_option linter.all false
open Go Go.RowKit

theorem rdc_of {G : Gh} {w : World} {l : List (Int × Int)} {u : Value} (h : RepV G.S w (.sl (setV l)) u) (hl : ∀ g, G.S g → g < w.heap.size) : ∃ A c, u = .slice A l.length c ∧ l.length ≤ c ∧ c ≤ maxLen ∧ RdC w w.heap.size A (setC l) := by
  generalize hc : setV l = c at h
  cases h with
  | nil A cap hm =>
    obtain rfl : l = [] := by cases l <;> simp [setV] at hc ⊢
    exact ⟨A, cap, rfl, Nat.zero_le _, hm, .inl rfl⟩
  | sl _ g o n cap us hne hz hn hs hcap hm hcc hr =>
    subst hc
    have h2 : ∀ e ∈ setV l, e.length = 2 := by intro e he; obtain ⟨s, _, rfl⟩ := List.mem_map.1 he; rfl
    obtain rfl : n = 2 := by rw [← hs _ (List.getElem_mem hne)]; exact h2 _ (List.getElem_mem hne)
    have hln : (setV l).length = l.length := by simp [setV]
    refine ⟨_, cap, by rw [hln], by omega, hm, .inr ⟨g, o, rfl, hl g hz, fun i hi => ?_⟩⟩
    have hsl : (setC l).length = l.length * 2 := by rw [setC_len]; omega
    have hi2 : i / 2 < l.length := by omega
    have key : ∀ j, j < 2 → w.cell? ⟨g, o + (i / 2 * 2 + j), none⟩ = some (if j = 0 then I (l[i / 2]).1 else I (l[i / 2]).2) := fun j hj => by
      have he0 : elem? (setV l) (i / 2) j = some (if j = 0 then .int .i64 (l[i / 2]).1 else .int .i64 (l[i / 2]).2) := by
        rcases (by omega : j = 0 ∨ j = 1) with rfl | rfl <;> simp [elem?, setV, hi2]
      have h1 := hcc _ _ _ he0
      have h2 := hr _ _ _ he0
      rw [h1]
      generalize us (i / 2) j = v at h2
      rcases (by omega : j = 0 ∨ j = 1) with rfl | rfl <;> simp at h2 ⊢ <;> cases h2 <;> rfl
    have hk := key (i % 2) (Nat.mod_lt _ (by decide))
    rw [show i / 2 * 2 + i % 2 = i from by omega] at hk
    rw [hk]
    congr 1
    have fl : ∀ (l : List (Int × Int)) (i : Nat) (h : i < l.length * 2) (h' : i < (setC l).length), (setC l)[i] = if i % 2 = 0 then I (l[i / 2]'(by omega)).1 else I (l[i / 2]'(by omega)).2 := by
      intro l
      induction l with
      | nil => intro i h; simp at h
      | cons s l ih =>
        intro i h h'
        have e : setC (s :: l) = I s.1 :: I s.2 :: setC l := by simp [setC]
        match i with
        | 0 => simp [e]
        | 1 => simp [e]
        | i + 2 =>
          have := ih i (by simp at h; omega) (by rw [e] at h'; simp at h'; omega)
          simp only [e, List.getElem_cons_succ]
          rw [this]
          have e1 : (i + 2) % 2 = i % 2 := by omega
          have e2 : (i + 2) / 2 = i / 2 + 1 := by omega
          simp [e1, e2]
    exact (fl l i (by omega) hi).symm
theorem fr_of {G : Gh} {w : World} {m : Mem} {f : Fr} {u : Value} (h : RepD G w m (.agg f.cs) u) (hl : ∀ g, G.S g → g < w.heap.size) : ∃ A c, u = f.v A c ∧ RdC w w.heap.size A (setC f.sets) := by
  cases h with
  | agg _ us hlen h1 h =>
    match us, hlen with
    | [u0, u1, u2, u3, u4, u5, u6, u7, u8, u9, u10, u11], _ =>
      obtain rfl := rep_int (h 0 _ u0 rfl rfl)
      obtain rfl := rep_int (h 1 _ u1 rfl rfl)
      obtain rfl := rep_int (h 2 _ u2 rfl rfl)
      obtain rfl := rep_str (h 3 _ u3 rfl rfl)
      obtain rfl := rep_int (h 4 _ u4 rfl rfl)
      obtain ⟨A, c, rfl, _, _, hr⟩ := rdc_of (rep_sl (h 5 _ u5 rfl rfl)) hl
      obtain rfl := rep_int (h 6 _ u6 rfl rfl)
      obtain rfl := rep_int (h 7 _ u7 rfl rfl)
      obtain rfl := rep_int (h 8 _ u8 rfl rfl)
      obtain rfl := rep_int (h 9 _ u9 rfl rfl)
      obtain rfl := rep_int (h 10 _ u10 rfl rfl)
      obtain rfl := rep_bool (h 11 _ u11 rfl rfl)
      exact ⟨A, c, rfl, hr⟩
theorem con_putFrame {f : Fr} (hd : f.data.length ≤ 1000000) (hn : f.sets.length ≤ 1000000) : Con Try.prog 11 [.agg f.cs] [] 0 (.ret (.tup [.view 0 0 0 (putF f).length, .v (.int .i64 (putE f))])) [(0, .row 0 1 5 (bs (putF f)))] :=
  con_bytesF (fun v => .tuple #[v, I (putE f)]) _ (fun G w m v h => rep_tup2 h (mk_int _ _)) fun G w us hl hA => by
    obtain ⟨u, rfl, h1⟩ := ds1 hA
    obtain ⟨A, c, rfl, hr⟩ := fr_of h1 hl
    exact put_frame f A c hd hn w hr
end Go.Proofs.Ytlfkgbcclinnbaa
