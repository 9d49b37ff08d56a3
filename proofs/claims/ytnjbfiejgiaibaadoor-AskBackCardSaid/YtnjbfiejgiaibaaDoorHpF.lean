/- Layers 11 and 14: the document's elements, Strip, Of. No condition. -/
import Derived.Test.YtnjbfiejgiaibaaDoorHpE
namespace Go.Proofs.YtnjbfiejgiaibaaDoor
set_option linter.all false
open Go Go.RowKit
set_option maxRecDepth 10000
set_option maxHeartbeats 4000000
theorem one_at {v : List UInt8} {i : Nat} (h : i < v.length) : (v.drop i).take (i + 1 - i) = [v[i]] := by
  rw [Nat.add_sub_cancel_left, List.drop_eq_getElem_cons h]; rfl
theorem one_at' {v : List UInt8} {i : Nat} (h : i < v.length) : (v.drop ((some i).getD 0)).take ((some (i + 1)).getD v.length - (some i).getD 0) = [v[i]] := one_at h
/-- What the document's walk over a value keeps. -/
def rE (v : List UInt8) (i : Nat) (s : List UInt8) (out : List (List UInt8)) : Prop := if i ≤ v.length then out ++ elF (splG false false (v.drop i) s) = elM v else out = elM v
def rQ (v : List UInt8) (i : Nat) (s : List UInt8) (out : List (List UInt8)) : Prop := out ++ elF (splG true false (v.drop i) s) = elM v
theorem rE_end {v s : List UInt8} {out : List (List UInt8)} {i : Nat} (hi : i = v.length) (h : rE v i s out) : rE v (i + 1) [] (out ++ elF [s]) := by
  subst hi
  unfold rE at h ⊢
  rw [if_pos (Nat.le_refl _), List.drop_length, splG] at h
  rw [if_neg (by omega)]; exact h
theorem rE_com {v s : List UInt8} {out : List (List UInt8)} {i : Nat} (hi : i < v.length) (hc : v[i] = 44) (h : rE v i s out) : rE v (i + 1) [] (out ++ elF [s]) := by
  unfold rE at h ⊢
  rw [if_pos (by omega), List.drop_eq_getElem_cons hi, splG, if_neg (by decide), if_neg (by simp), if_neg (by rw [hc]; decide), if_pos ⟨hc, rfl⟩, elF_cons, ← List.append_assoc] at h
  rw [if_pos (by omega)]; exact h
theorem rE_oth {v s : List UInt8} {out : List (List UInt8)} {i : Nat} (hi : i < v.length) (hc : ¬ v[i] = 44) (hq : ¬ v[i] = 34) (h : rE v i s out) : rE v (i + 1) (s ++ [v[i]]) out := by
  unfold rE at h ⊢
  rw [if_pos (by omega), List.drop_eq_getElem_cons hi, splG, if_neg (by decide), if_neg (by simp), if_neg hq, if_neg (by simp [hc])] at h
  rw [if_pos (by omega)]; exact h
theorem rE_quo {v s : List UInt8} {out : List (List UInt8)} {i : Nat} (hi : i < v.length) (hq : v[i] = 34) (h : rE v i s out) : rQ v (i + 1) (s ++ [v[i]]) out := by
  unfold rE at h
  unfold rQ
  rw [if_pos (by omega), List.drop_eq_getElem_cons hi, splG, if_neg (by decide), if_neg (by simp), if_pos hq] at h
  exact h
theorem rQ_end {v s : List UInt8} {out : List (List UInt8)} {i : Nat} (hi : v.length ≤ i + 1) (hl : i < v.length) (h : rQ v (i + 1) s out) : rE v (i + 1) s out := by
  unfold rQ at h
  unfold rE
  rw [List.drop_of_length_le hi, splG] at h
  rw [if_pos (by omega), List.drop_of_length_le hi, splG]; exact h
theorem rQ_quo {v s : List UInt8} {out : List (List UInt8)} {i : Nat} (hi : i < v.length) (hq : v[i] = 34) (h : rQ v i s out) : rE v (i + 1) (s ++ [v[i]]) out := by
  unfold rQ at h
  unfold rE
  rw [List.drop_eq_getElem_cons hi, splG, if_neg (by decide), if_neg (by rw [hq]; decide), if_pos hq] at h
  rw [if_pos (by omega)]; exact h
theorem rQ_esc {v s : List UInt8} {out : List (List UInt8)} {i : Nat} (h0 : i < v.length) (hi : i + 1 < v.length) (hq : v[i] = 92) (h : rQ v i s out) : rQ v (i + 1 + 1) (s ++ [v[i]] ++ [v[i + 1]]) out := by
  unfold rQ at h ⊢
  rw [List.drop_eq_getElem_cons h0, splG, if_neg (by decide), if_pos ⟨rfl, hq⟩, List.drop_eq_getElem_cons hi, splG, if_pos rfl] at h
  exact h
theorem rQ_oth {v s : List UInt8} {out : List (List UInt8)} {i : Nat} (hi : i < v.length) (hq : ¬ v[i] = 34) (hn : ¬ (v[i] = 92 ∧ i + 1 < v.length)) (h : rQ v i s out) : rQ v (i + 1) (s ++ [v[i]]) out := by
  unfold rQ at h ⊢
  rw [List.drop_eq_getElem_cons hi, splG, if_neg (by decide)] at h
  by_cases hb : v[i] = 92
  · have hnl : ¬ i + 1 < v.length := fun h => hn ⟨hb, h⟩
    rw [if_pos ⟨rfl, hb⟩, List.drop_of_length_le (by omega), splG] at h
    rw [List.drop_of_length_le (by omega), splG]; exact h
  · rw [if_neg (by simp [hb]), if_neg hq, if_neg (by simp)] at h; exact h
theorem con_rElements {v : List UInt8} (hv : v.length ≤ 1000000000) : Con Tryd.prog 72 [.v (.str v)] [] 0 (.ret (.v (.sl (stV (elM v))))) [] := by
  refine con_of Tryd.func72 rfl (by show _ ≤ 80; simp) fun X Q hP hnt hnp hret hpan => ?_
  obtain ⟨P0, nt0, w0, K0, S0, np0, pin0, df0⟩ := X
  simp only at hP hnt hnp
  subst hP hnp
  obtain rfl : nt0 = 80 := hnt
  refine aw_region fun K1 hK1 => ?_
  refine aL z_assign ?_
  refine awl_nil (hK1 _ _ ?_)
  clear hK1 K1
  refine aw_region fun K2 hK2 => ?_
  refine aL z_assign ?_
  refine awl_nil (hK2 _ _ ?_)
  clear hK2 K2
  refine aw_region fun K3 hK3 => ?_
  refine aL z_assign ?_
  refine awl_nil (hK3 _ _ ?_)
  clear hK3 K3
  refine aw_seq fun K4 hK4 => ?_
  refine aw_region fun K5 hK5 => ?_
  refine aL z_assign ?_
  refine awl_nil (hK5 _ _ ?_)
  clear hK5 K5
  refine aw_block ?_
  refine aw_loop (α := {x : Nat × List UInt8 × List (List UInt8) // x.1 ≤ v.length + 1 ∧ x.2.1.length ≤ x.1 ∧ x.2.2.length ≤ x.1 ∧ rE v x.1 x.2.1 x.2.2}) (fun x => ([(0, .v (.str v)), (3, .view 2 0 0 x.1.2.2.length), (4, .v (.str x.1.2.1)), (5, .v (.int .i64 (x.1.1 : Int)))], [(2, .row 0 1 9 (stV x.1.2.2))])) (fun x => v.length + 1 - x.1.1) ⟨(0, [], []), Nat.zero_le _, Nat.le_refl _, Nat.le_refl _, by unfold rE; rw [if_pos (Nat.zero_le _)]; rfl⟩ ?_ ?_
  · dsimp only
    refine Weak.trans (weak_nil (t := 3) 2 1 9 (by decide) (Nat.zero_le _) rfl rfl) ?_
    exact wK
  · rintro ⟨⟨i, s, out⟩, hi1, hsl, hou, hE⟩ K6 hK6
    dsimp only
    dsimp only at hi1 hsl hou hE
    refine aw_seq fun K7 hK7 => ?_
    refine aw_region fun K8 hK8 => ?_
    refine aL z_move ?_
    refine aL z_move ?_
    refine aL (z_lenS Tryd.underlying9) ?_
    refine aL z_leq ?_
    refine awl_nil (hK8 _ _ ?_)
    clear hK8 K8
    refine aC (fun r1 c1 => ?_) (fun r1 c1 => ?_)
    · refine aw_skip ?_
      refine hK7 _ _ ?_
      clear hK7
      refine aw_seq fun K9 hK9 => ?_
      refine aw_block ?_
      refine aw_seq fun K10 hK10 => ?_
      refine aw_region fun K11 hK11 => ?_
      have hi : i < v.length → v[i]? = some (v.getD i 0) := fun h => by rw [List.getD_eq_getElem?_getD, List.getElem?_eq_getElem h]; rfl
      refine aL z_move ?_
      refine aL z_move ?_
      refine aL (z_lenS Tryd.underlying9) ?_
      refine aL z_eql ?_
      refine aL z_move ?_
      first
        | refine gL rfl rfl (ev_tmp rfl) (fun hg => z_move) ?_
        | refine hL rfl rfl (ev_tmp rfl) (fun hg => z_move) ?_
      first
        | refine gL rfl rfl (ev_tmp rfl) (fun hg => z_move) ?_
        | refine hL rfl rfl (ev_tmp rfl) (fun hg => z_move) ?_
      first
        | refine gL rfl rfl (ev_tmp rfl) (fun hg => z_indexS Tryd.underlying9 (hb := hi (by have h9 : ¬ (i : Int) = (v.length : Int) := (by simpa using hg); omega))) ?_
        | refine hL rfl rfl (ev_tmp rfl) (fun hg => z_indexS Tryd.underlying9 (hb := hi (by have h9 : ¬ (i : Int) = (v.length : Int) := (by simpa using hg); omega))) ?_
      first
        | refine gL rfl rfl (ev_tmp rfl) (fun hg => z_eql) ?_
        | refine hL rfl rfl (ev_tmp rfl) (fun hg => z_eql) ?_
      refine aL z_or ?_
      refine awl_nil (hK11 _ _ ?_)
      clear hK11 K11
      refine aC (fun r2 c2 => ?_) (fun r2 c2 => ?_)
      · refine aw_region fun K12 hK12 => ?_
        refine aL z_move ?_
        refine aL (z_call0 (eC .nil) en_89 (con_rTrim (l := s) (by unfold maxLen; omega))) ?_
        refine aL z_assign ?_
        refine awl_nil (hK12 _ _ ?_)
        clear hK12 K12
        refine aw_seq fun K13 hK13 => ?_
        refine aw_region fun K14 hK14 => ?_
        refine aL z_move ?_
        refine aL z_neqS ?_
        refine awl_nil (hK14 _ _ ?_)
        clear hK14 K14
        refine aC (fun r3 c3 => ?_) (fun r3 c3 => ?_)
        · refine aw_region_last ?_
          refine aL z_move ?_
          refine aL z_move ?_
          refine aL (z_lits (pC .nil) Tryd.underlying64 sz_9 zc_9 zl_9 (c := [[_]])) ?_
          refine aL (z_app Tryd.underlying64 zi_9 (c' := stV (out ++ [trimM s])) (hc := stV_snoc rfl) (hb := by simp; omega)) ?_
          refine aL z_assign ?_
          refine awl_nil ?_
          refine hK13 _ _ ?_
          clear hK13
          refine aw_region fun K15 hK15 => ?_
          refine aL z_assign ?_
          refine awl_nil (hK15 _ _ ?_)
          clear hK15 K15
          refine aw_exit ?_
          refine hK9 _ _ ?_
          clear hK9
          refine aw_region_last ?_
          refine aL z_move ?_
          refine aL z_add ?_
          refine aL z_assign ?_
          refine awl_nil ?_
          first
            | (have hE2 : rE v (i + 1) [] (out ++ elF [s]) := (by
                 by_cases hl : i = v.length
                 · exact rE_end hl hE
                 · have hlt : i < v.length := (by omega)
                   have hgd : v.getD i 0 = v[i] := (by rw [List.getD_eq_getElem?_getD, List.getElem?_eq_getElem hlt]; rfl)
                   rw [hgd] at c2
                   exact rE_com hlt (u8eq (by rcases c2 with h | h; omega; exact h)) hE)
               first
                 | (rw [elF_yes c3] at hE2
                    refine hK6 _ _ ⟨(i + 1, [], out ++ [trimM s]), by dsimp only; omega, Nat.zero_le _, by dsimp only; rw [List.length_append]; simp only [List.length_cons, List.length_nil]; omega, hE2⟩ (by dsimp only; omega) ?_
                    exact Weak.trans (weak_rever 2 0 rfl) wK)
                 | (rw [elF_no c3, List.append_nil] at hE2
                    refine hK6 _ _ ⟨(i + 1, [], out), by dsimp only; omega, Nat.zero_le _, by dsimp only; omega, hE2⟩ (by dsimp only; omega) ?_
                    exact wK))
            | (have hE2 := rE_oth hlt (u8ne (by rw [hgd] at c2; exact c2.2)) (u8ne c4) hE
               refine hK6 _ _ ⟨(i + 1, s ++ [v[i]], out), by dsimp only; omega, by dsimp only; rw [List.length_append]; simp only [List.length_cons, List.length_nil]; omega, by dsimp only; omega, hE2⟩ (by dsimp only; omega) ?_
               exact wK)
            | (have hE2 := rQ_quo hlt2 (u8eq c6) hQ
               refine hK6 _ _ ⟨(j + 1 + 1, z ++ [v[j + 1]], out), by dsimp only; omega, by dsimp only; rw [List.length_append]; simp only [List.length_cons, List.length_nil]; omega, by dsimp only; omega, hE2⟩ (by dsimp only; omega) ?_
               exact wK)
            | (have hE2 := rQ_end (by omega) hj hQ
               refine hK6 _ _ ⟨(j + 1, z, out), by dsimp only; omega, by dsimp only; omega, by dsimp only; omega, hE2⟩ (by dsimp only; omega) ?_
               exact wK)
        · refine aw_skip ?_
          refine hK13 _ _ ?_
          clear hK13
          refine aw_region fun K16 hK16 => ?_
          refine aL z_assign ?_
          refine awl_nil (hK16 _ _ ?_)
          clear hK16 K16
          refine aw_exit ?_
          refine hK9 _ _ ?_
          clear hK9
          refine aw_region_last ?_
          refine aL z_move ?_
          refine aL z_add ?_
          refine aL z_assign ?_
          refine awl_nil ?_
          first
            | (have hE2 : rE v (i + 1) [] (out ++ elF [s]) := (by
                 by_cases hl : i = v.length
                 · exact rE_end hl hE
                 · have hlt : i < v.length := (by omega)
                   have hgd : v.getD i 0 = v[i] := (by rw [List.getD_eq_getElem?_getD, List.getElem?_eq_getElem hlt]; rfl)
                   rw [hgd] at c2
                   exact rE_com hlt (u8eq (by rcases c2 with h | h; omega; exact h)) hE)
               first
                 | (rw [elF_yes c3] at hE2
                    refine hK6 _ _ ⟨(i + 1, [], out ++ [trimM s]), by dsimp only; omega, Nat.zero_le _, by dsimp only; rw [List.length_append]; simp only [List.length_cons, List.length_nil]; omega, hE2⟩ (by dsimp only; omega) ?_
                    exact Weak.trans (weak_rever 2 0 rfl) wK)
                 | (rw [elF_no c3, List.append_nil] at hE2
                    refine hK6 _ _ ⟨(i + 1, [], out), by dsimp only; omega, Nat.zero_le _, by dsimp only; omega, hE2⟩ (by dsimp only; omega) ?_
                    exact wK))
            | (have hE2 := rE_oth hlt (u8ne (by rw [hgd] at c2; exact c2.2)) (u8ne c4) hE
               refine hK6 _ _ ⟨(i + 1, s ++ [v[i]], out), by dsimp only; omega, by dsimp only; rw [List.length_append]; simp only [List.length_cons, List.length_nil]; omega, by dsimp only; omega, hE2⟩ (by dsimp only; omega) ?_
               exact wK)
            | (have hE2 := rQ_quo hlt2 (u8eq c6) hQ
               refine hK6 _ _ ⟨(j + 1 + 1, z ++ [v[j + 1]], out), by dsimp only; omega, by dsimp only; rw [List.length_append]; simp only [List.length_cons, List.length_nil]; omega, by dsimp only; omega, hE2⟩ (by dsimp only; omega) ?_
               exact wK)
            | (have hE2 := rQ_end (by omega) hj hQ
               refine hK6 _ _ ⟨(j + 1, z, out), by dsimp only; omega, by dsimp only; omega, by dsimp only; omega, hE2⟩ (by dsimp only; omega) ?_
               exact wK)
      · refine aw_skip ?_
        refine hK10 _ _ ?_
        clear hK10
        refine aw_region fun K17 hK17 => ?_
        have hlt : i < v.length := by omega
        have hiE : v[i]? = some v[i] := List.getElem?_eq_getElem hlt
        have hgd : v.getD i 0 = v[i] := by rw [List.getD_eq_getElem?_getD, hiE]; rfl
        refine aL z_move ?_
        refine aL z_move ?_
        refine aL z_move ?_
        refine aL z_move ?_
        refine aL z_add ?_
        refine aL (z_sliceS Tryd.underlying9) ?_
        rw [one_at' hlt]
        refine aL z_addS ?_
        refine aL z_assign ?_
        refine awl_nil (hK17 _ _ ?_)
        clear hK17 K17
        refine aw_seq fun K18 hK18 => ?_
        refine aw_region fun K19 hK19 => ?_
        refine aL z_move ?_
        refine aL z_move ?_
        refine aL (z_indexS Tryd.underlying9) ?_
        refine aL z_neq ?_
        refine awl_nil (hK19 _ _ ?_)
        clear hK19 K19
        refine aC (fun r4 c4 => ?_) (fun r4 c4 => ?_)
        · refine aw_exit ?_
          refine hK9 _ _ ?_
          clear hK9
          refine aw_region_last ?_
          refine aL z_move ?_
          refine aL z_add ?_
          refine aL z_assign ?_
          refine awl_nil ?_
          first
            | (have hE2 : rE v (i + 1) [] (out ++ elF [s]) := (by
                 by_cases hl : i = v.length
                 · exact rE_end hl hE
                 · have hlt : i < v.length := (by omega)
                   have hgd : v.getD i 0 = v[i] := (by rw [List.getD_eq_getElem?_getD, List.getElem?_eq_getElem hlt]; rfl)
                   rw [hgd] at c2
                   exact rE_com hlt (u8eq (by rcases c2 with h | h; omega; exact h)) hE)
               first
                 | (rw [elF_yes c3] at hE2
                    refine hK6 _ _ ⟨(i + 1, [], out ++ [trimM s]), by dsimp only; omega, Nat.zero_le _, by dsimp only; rw [List.length_append]; simp only [List.length_cons, List.length_nil]; omega, hE2⟩ (by dsimp only; omega) ?_
                    exact Weak.trans (weak_rever 2 0 rfl) wK)
                 | (rw [elF_no c3, List.append_nil] at hE2
                    refine hK6 _ _ ⟨(i + 1, [], out), by dsimp only; omega, Nat.zero_le _, by dsimp only; omega, hE2⟩ (by dsimp only; omega) ?_
                    exact wK))
            | (have hE2 := rE_oth hlt (u8ne (by rw [hgd] at c2; exact c2.2)) (u8ne c4) hE
               refine hK6 _ _ ⟨(i + 1, s ++ [v[i]], out), by dsimp only; omega, by dsimp only; rw [List.length_append]; simp only [List.length_cons, List.length_nil]; omega, by dsimp only; omega, hE2⟩ (by dsimp only; omega) ?_
               exact wK)
            | (have hE2 := rQ_quo hlt2 (u8eq c6) hQ
               refine hK6 _ _ ⟨(j + 1 + 1, z ++ [v[j + 1]], out), by dsimp only; omega, by dsimp only; rw [List.length_append]; simp only [List.length_cons, List.length_nil]; omega, by dsimp only; omega, hE2⟩ (by dsimp only; omega) ?_
               exact wK)
            | (have hE2 := rQ_end (by omega) hj hQ
               refine hK6 _ _ ⟨(j + 1, z, out), by dsimp only; omega, by dsimp only; omega, by dsimp only; omega, hE2⟩ (by dsimp only; omega) ?_
               exact wK)
        · refine aw_skip ?_
          refine hK18 _ _ ?_
          clear hK18
          refine aw_block ?_
          refine aw_loop (α := {x : Nat × List UInt8 // x.1 < v.length ∧ x.2.length ≤ x.1 + 1 ∧ i ≤ x.1 ∧ rQ v (x.1 + 1) x.2 out}) (fun x => ([(0, .v (.str v)), (3, .view 2 0 0 out.length), (4, .v (.str x.1.2)), (5, .v (.int .i64 (x.1.1 : Int)))], [(2, .row 0 1 9 (stV out))])) (fun x => v.length - x.1.1) ⟨(i, s ++ [v[i]]), hlt, by simp; omega, Nat.le_refl _, rE_quo hlt (u8eq (by assumption)) hE⟩ ?_ ?_
          · dsimp only
            exact wK
          · rintro ⟨⟨j, z⟩, hj, hzl, hij, hQ⟩ K20 hK20
            dsimp only
            dsimp only at hj hzl hij hQ
            refine aw_seq fun K21 hK21 => ?_
            refine aw_region fun K22 hK22 => ?_
            refine aL z_move ?_
            refine aL z_add ?_
            refine aL z_move ?_
            refine aL (z_lenS Tryd.underlying9) ?_
            refine aL z_lss ?_
            refine awl_nil (hK22 _ _ ?_)
            clear hK22 K22
            refine aC (fun r5 c5 => ?_) (fun r5 c5 => ?_)
            · refine aw_skip ?_
              refine hK21 _ _ ?_
              clear hK21
              refine aw_block ?_
              refine aw_region fun K23 hK23 => ?_
              have hlt2 : j + 1 < v.length := by omega
              have hj2 : v[j + 1]? = some v[j + 1] := List.getElem?_eq_getElem hlt2
              refine aL z_move ?_
              refine aL z_add ?_
              refine aL z_assign ?_
              refine awl_nil (hK23 _ _ ?_)
              clear hK23 K23
              refine aw_region fun K24 hK24 => ?_
              refine aL z_move ?_
              refine aL z_move ?_
              refine aL z_move ?_
              refine aL z_move ?_
              refine aL z_add ?_
              refine aL (z_sliceS Tryd.underlying9) ?_
              rw [one_at' hlt2]
              refine aL z_addS ?_
              refine aL z_assign ?_
              refine awl_nil (hK24 _ _ ?_)
              clear hK24 K24
              refine aw_seq fun K25 hK25 => ?_
              refine aw_region fun K26 hK26 => ?_
              refine aL z_move ?_
              refine aL z_move ?_
              refine aL (z_indexS Tryd.underlying9) ?_
              refine aL z_eql ?_
              refine awl_nil (hK26 _ _ ?_)
              clear hK26 K26
              refine aC (fun r6 c6 => ?_) (fun r6 c6 => ?_)
              · refine aw_exit ?_
                refine hK9 _ _ ?_
                clear hK9
                refine aw_region_last ?_
                refine aL z_move ?_
                refine aL z_add ?_
                refine aL z_assign ?_
                refine awl_nil ?_
                first
                  | (have hE2 : rE v (i + 1) [] (out ++ elF [s]) := (by
                       by_cases hl : i = v.length
                       · exact rE_end hl hE
                       · have hlt : i < v.length := (by omega)
                         have hgd : v.getD i 0 = v[i] := (by rw [List.getD_eq_getElem?_getD, List.getElem?_eq_getElem hlt]; rfl)
                         rw [hgd] at c2
                         exact rE_com hlt (u8eq (by rcases c2 with h | h; omega; exact h)) hE)
                     first
                       | (rw [elF_yes c3] at hE2
                          refine hK6 _ _ ⟨(i + 1, [], out ++ [trimM s]), by dsimp only; omega, Nat.zero_le _, by dsimp only; rw [List.length_append]; simp only [List.length_cons, List.length_nil]; omega, hE2⟩ (by dsimp only; omega) ?_
                          exact Weak.trans (weak_rever 2 0 rfl) wK)
                       | (rw [elF_no c3, List.append_nil] at hE2
                          refine hK6 _ _ ⟨(i + 1, [], out), by dsimp only; omega, Nat.zero_le _, by dsimp only; omega, hE2⟩ (by dsimp only; omega) ?_
                          exact wK))
                  | (have hE2 := rE_oth hlt (u8ne (by rw [hgd] at c2; exact c2.2)) (u8ne c4) hE
                     refine hK6 _ _ ⟨(i + 1, s ++ [v[i]], out), by dsimp only; omega, by dsimp only; rw [List.length_append]; simp only [List.length_cons, List.length_nil]; omega, by dsimp only; omega, hE2⟩ (by dsimp only; omega) ?_
                     exact wK)
                  | (have hE2 := rQ_quo hlt2 (u8eq c6) hQ
                     refine hK6 _ _ ⟨(j + 1 + 1, z ++ [v[j + 1]], out), by dsimp only; omega, by dsimp only; rw [List.length_append]; simp only [List.length_cons, List.length_nil]; omega, by dsimp only; omega, hE2⟩ (by dsimp only; omega) ?_
                     exact wK)
                  | (have hE2 := rQ_end (by omega) hj hQ
                     refine hK6 _ _ ⟨(j + 1, z, out), by dsimp only; omega, by dsimp only; omega, by dsimp only; omega, hE2⟩ (by dsimp only; omega) ?_
                     exact wK)
              · refine aw_skip ?_
                refine hK25 _ _ ?_
                clear hK25
                refine aw_region fun K27 hK27 => ?_
                refine aL z_move ?_
                refine aL z_move ?_
                refine aL (z_indexS Tryd.underlying9) ?_
                refine aL z_eql ?_
                refine aL z_move ?_
                first
                  | refine gL rfl rfl (ev_tmp rfl) (fun hg => z_move) ?_
                  | refine hL rfl rfl (ev_tmp rfl) (fun hg => z_move) ?_
                first
                  | refine gL rfl rfl (ev_tmp rfl) (fun hg => z_add) ?_
                  | refine hL rfl rfl (ev_tmp rfl) (fun hg => z_add) ?_
                first
                  | refine gL rfl rfl (ev_tmp rfl) (fun hg => z_move) ?_
                  | refine hL rfl rfl (ev_tmp rfl) (fun hg => z_move) ?_
                first
                  | refine gL rfl rfl (ev_tmp rfl) (fun hg => z_lenS Tryd.underlying9) ?_
                  | refine hL rfl rfl (ev_tmp rfl) (fun hg => z_lenS Tryd.underlying9) ?_
                first
                  | refine gL rfl rfl (ev_tmp rfl) (fun hg => z_lss) ?_
                  | refine hL rfl rfl (ev_tmp rfl) (fun hg => z_lss) ?_
                refine aL z_and ?_
                refine awl_nil (hK27 _ _ ?_)
                clear hK27 K27
                refine aC (fun r7 c7 => ?_) (fun r7 c7 => ?_)
                · refine aw_region fun K28 hK28 => ?_
                  refine aL z_move ?_
                  refine aL z_add ?_
                  refine aL z_assign ?_
                  refine awl_nil (hK28 _ _ ?_)
                  clear hK28 K28
                  refine aw_region_last ?_
                  have hlt3 : j + 1 + 1 < v.length := by omega
                  refine aL z_move ?_
                  refine aL z_move ?_
                  refine aL z_move ?_
                  refine aL z_move ?_
                  refine aL z_add ?_
                  refine aL (z_sliceS Tryd.underlying9) ?_
                  rw [one_at' hlt3]
                  refine aL z_addS ?_
                  refine aL z_assign ?_
                  refine awl_nil ?_
                  first
                    | (have hQ2 := rQ_esc hlt2 (by omega) (u8eq c7.1) hQ
                       refine hK20 _ _ ⟨(j + 1 + 1, z ++ [v[j + 1]] ++ [v[j + 1 + 1]'(by omega)]), by dsimp only; omega, by dsimp only; rw [List.length_append, List.length_append]; simp only [List.length_cons, List.length_nil]; omega, by dsimp only; omega, hQ2⟩ (by dsimp only; omega) ?_
                       exact wK)
                    | (have hQ2 := rQ_oth hlt2 (u8ne c6) (fun h => by rcases c7 with h7 | h7; exact h7 (by rw [h.1]; rfl); omega) hQ
                       refine hK20 _ _ ⟨(j + 1, z ++ [v[j + 1]]), by dsimp only; omega, by dsimp only; rw [List.length_append]; simp only [List.length_cons, List.length_nil]; omega, by dsimp only; omega, hQ2⟩ (by dsimp only; omega) ?_
                       exact wK)
                · refine aw_skip ?_
                  first
                    | (have hQ2 := rQ_esc hlt2 (by omega) (u8eq c7.1) hQ
                       refine hK20 _ _ ⟨(j + 1 + 1, z ++ [v[j + 1]] ++ [v[j + 1 + 1]'(by omega)]), by dsimp only; omega, by dsimp only; rw [List.length_append, List.length_append]; simp only [List.length_cons, List.length_nil]; omega, by dsimp only; omega, hQ2⟩ (by dsimp only; omega) ?_
                       exact wK)
                    | (have hQ2 := rQ_oth hlt2 (u8ne c6) (fun h => by rcases c7 with h7 | h7; exact h7 (by rw [h.1]; rfl); omega) hQ
                       refine hK20 _ _ ⟨(j + 1, z ++ [v[j + 1]]), by dsimp only; omega, by dsimp only; rw [List.length_append]; simp only [List.length_cons, List.length_nil]; omega, by dsimp only; omega, hQ2⟩ (by dsimp only; omega) ?_
                       exact wK)
            · refine aw_exit ?_
              refine hK9 _ _ ?_
              clear hK9
              refine aw_region_last ?_
              refine aL z_move ?_
              refine aL z_add ?_
              refine aL z_assign ?_
              refine awl_nil ?_
              first
                | (have hE2 : rE v (i + 1) [] (out ++ elF [s]) := (by
                     by_cases hl : i = v.length
                     · exact rE_end hl hE
                     · have hlt : i < v.length := (by omega)
                       have hgd : v.getD i 0 = v[i] := (by rw [List.getD_eq_getElem?_getD, List.getElem?_eq_getElem hlt]; rfl)
                       rw [hgd] at c2
                       exact rE_com hlt (u8eq (by rcases c2 with h | h; omega; exact h)) hE)
                   first
                     | (rw [elF_yes c3] at hE2
                        refine hK6 _ _ ⟨(i + 1, [], out ++ [trimM s]), by dsimp only; omega, Nat.zero_le _, by dsimp only; rw [List.length_append]; simp only [List.length_cons, List.length_nil]; omega, hE2⟩ (by dsimp only; omega) ?_
                        exact Weak.trans (weak_rever 2 0 rfl) wK)
                     | (rw [elF_no c3, List.append_nil] at hE2
                        refine hK6 _ _ ⟨(i + 1, [], out), by dsimp only; omega, Nat.zero_le _, by dsimp only; omega, hE2⟩ (by dsimp only; omega) ?_
                        exact wK))
                | (have hE2 := rE_oth hlt (u8ne (by rw [hgd] at c2; exact c2.2)) (u8ne c4) hE
                   refine hK6 _ _ ⟨(i + 1, s ++ [v[i]], out), by dsimp only; omega, by dsimp only; rw [List.length_append]; simp only [List.length_cons, List.length_nil]; omega, by dsimp only; omega, hE2⟩ (by dsimp only; omega) ?_
                   exact wK)
                | (have hE2 := rQ_quo hlt2 (u8eq c6) hQ
                   refine hK6 _ _ ⟨(j + 1 + 1, z ++ [v[j + 1]], out), by dsimp only; omega, by dsimp only; rw [List.length_append]; simp only [List.length_cons, List.length_nil]; omega, by dsimp only; omega, hE2⟩ (by dsimp only; omega) ?_
                   exact wK)
                | (have hE2 := rQ_end (by omega) hj hQ
                   refine hK6 _ _ ⟨(j + 1, z, out), by dsimp only; omega, by dsimp only; omega, by dsimp only; omega, hE2⟩ (by dsimp only; omega) ?_
                   exact wK)
    · refine aw_exit ?_
      refine hK4 _ _ ?_
      clear hK4
      refine aw_region fun K29 hK29 => ?_
      refine aL z_move ?_
      refine aL z_assign ?_
      refine awl_nil (hK29 _ _ ?_)
      clear hK29 K29
      unfold rE at hE
      rw [if_neg (by omega)] at hE
      rw [hE]
      refine aw_weak (weak_all (fr' := [(2, .v (.sl (stV (elM v))))]) (ah' := []) (some (2, 0, stV (elM v))) ⟨rfl, _, _, rfl⟩ .nil (.cons rfl (.view rfl (cutW (by simp))) .nil)) ?_
      refine aw_ret ?_
      refine (hret _ _ _ _ _ rfl (.tmp rfl .nil) rfl ?_ .nil rfl).1
      rfl
end Go.Proofs.YtnjbfiejgiaibaaDoor
