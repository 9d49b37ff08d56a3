/- Layer 11: the document's: elements, values, Without, Strip. No condition. -/
import Derived.Test.YtnjbfiejgiaibaaGreatDoorHpCToHpD
namespace Go.Proofs.YtnjbfiejgiaibaaGreatDoor
set_option linter.all false
open Go Go.RowKit
set_option maxRecDepth 10000
set_option maxHeartbeats 4000000
theorem con_rSame11 {a b : List UInt8} (ha : a.length ≤ 140737488351232) (hb : b.length ≤ 140737488351232) : Con Tryz.prog 63 [.v (.str a), .v (.str b)] [] 0 (.ret (.v (.bool (lowM a == lowM b)))) [] := by
  refine con_of Tryz.func63 rfl (by show _ ≤ 10; simp) fun X Q hP hnt hnp hret hpan => ?_
  obtain ⟨P0, nt0, w0, K0, S0, np0, pin0, df0⟩ := X
  simp only at hP hnt hnp
  subst hP hnp
  obtain rfl : nt0 = 10 := hnt
  refine aw_region fun K1 hK1 => ?_
  refine aL z_assign ?_
  refine awl_nil (hK1 _ _ ?_)
  clear hK1 K1
  refine aw_region fun K2 hK2 => ?_
  refine aL z_move ?_
  first
    | refine aL (z_call0 (eC .nil) en_36 (con_rLower (l := a) ha)) ?_
    | refine aL (z_call0 (eC .nil) en_36 (con_rLower (l := b) hb)) ?_
  refine aL z_move ?_
  first
    | refine aL (z_call0 (eC .nil) en_36 (con_rLower (l := a) ha)) ?_
    | refine aL (z_call0 (eC .nil) en_36 (con_rLower (l := b) hb)) ?_
  refine aL z_eqlS ?_
  refine aL z_assign ?_
  refine awl_nil (hK2 _ _ ?_)
  clear hK2 K2
  refine aw_ret ?_
  refine (hret _ _ _ _ _ rfl (.tmp rfl .nil) rfl ?_ .nil rfl).1
  rfl
theorem amI {ks : List (List UInt8)} {n : List UInt8} {q : Nat} (h : q < ks.length) (ha : ((ks.take q).map lowM).contains n = false) (hn : ¬ n = lowM ks[q]) : ((ks.take (q + 1)).map lowM).contains n = false := by
  rw [Bool.eq_false_iff] at ha ⊢
  intro h2
  rw [List.contains_iff_mem, List.take_add_one, List.getElem?_eq_getElem h, List.map_append, List.mem_append] at h2
  rcases h2 with h2 | h2
  · exact ha (List.contains_iff_mem.2 h2)
  · simp at h2; exact hn h2
theorem am_yes {ks : List (List UInt8)} {n : List UInt8} {q : Nat} (h : q < ks.length) (hn : n = lowM ks[q]) : (ks.map lowM).contains n = true := by
  rw [List.contains_iff_mem, hn]; exact List.mem_map.2 ⟨_, List.getElem_mem h, rfl⟩
theorem con_Among {n : List UInt8} {ks : List (List UInt8)} (hn : n.length ≤ 140737488351232) (hl : ks.length ≤ 1099511627776) (hk : ∀ k ∈ ks, k.length ≤ 140737488351232) :
    Con Tryz.prog 27 [.v (.str n), .v (.sl (stV ks))] [] 0 (.ret (.v (.bool ((ks.map lowM).contains (lowM n))))) [] := by
  have hsl := stV_len ks
  refine con_of Tryz.func27 rfl (by show _ ≤ 18; simp) fun X Q hP hnt hnp hret hpan => ?_
  obtain ⟨P0, nt0, w0, K0, S0, np0, pin0, df0⟩ := X
  simp only at hP hnt hnp
  subst hP hnp
  obtain rfl : nt0 = 18 := hnt
  refine aw_region fun K1 hK1 => ?_
  refine aL z_assign ?_
  refine awl_nil (hK1 _ _ ?_)
  clear hK1 K1
  refine aw_seq fun K2 hK2 => ?_
  refine aw_region fun K3 hK3 => ?_
  refine aL z_assign ?_
  refine awl_nil (hK3 _ _ ?_)
  clear hK3 K3
  refine aw_block ?_
  refine aw_loop (α := {q : Nat // q ≤ ks.length ∧ ((ks.take q).map lowM).contains (lowM n) = false}) (fun x => ([(0, .v (.str n)), (1, .v (.sl (stV ks))), (5, .v (.int .i64 (x.1 : Int)))], [])) (fun x => ks.length - x.1) ⟨0, Nat.zero_le _, rfl⟩ ?_ ?_
  · dsimp only
    exact wK
  · rintro ⟨q, hq, ha⟩ K4 hK4
    dsimp only
    refine aw_seq fun K5 hK5 => ?_
    refine aw_region fun K6 hK6 => ?_
    refine aL z_move ?_
    refine aL z_move ?_
    first
      | refine aL (z_lenB Tryz.underlying68) ?_
      | refine aL (z_len Tryz.underlying68) ?_
      | refine aL (z_lenV Tryz.underlying68) ?_
    refine aL z_lss ?_
    refine awl_nil (hK6 _ _ ?_)
    clear hK6 K6
    refine aC (fun r1 c1 => ?_) (fun r1 c1 => ?_)
    · refine aw_skip ?_
      refine hK5 _ _ ?_
      clear hK5
      refine aw_seq fun K7 hK7 => ?_
      refine aw_block ?_
      refine aw_region fun K8 hK8 => ?_
      have hlt : q < ks.length := by omega
      have hi := stV_get hlt
      refine aL z_move ?_
      refine aL z_move ?_
      refine aL z_move ?_
      first
        | refine aL (z_indexAddr Tryz.underlying68 sz_9) ?_
        | refine aL (z_indexAddrV Tryz.underlying68 sz_9) ?_
      first
        | refine aL (z_load sz_9) ?_
        | refine aL (z_loadRef sz_9) ?_
        | refine aL (z_loadV sz_9) ?_
      refine aL (z_call0 (eC (eC .nil)) en_63 (con_rSame11 (a := n) (b := ks[q]) hn (hk _ (List.getElem_mem hlt)))) ?_
      refine awl_nil (hK8 _ _ ?_)
      clear hK8 K8
      refine aC (fun r2 c2 => ?_) (fun r2 c2 => ?_)
      · refine aw_region fun K9 hK9 => ?_
        refine aL z_assign ?_
        refine awl_nil (hK9 _ _ ?_)
        clear hK9 K9
        refine aw_ret ?_
        refine (hret _ _ _ _ _ rfl (.tmp rfl .nil) rfl ?_ .nil rfl).1
        first
          | (have hc : lowM n = lowM ks[q] := by simpa using r2
             rw [am_yes hlt hc]; rfl)
          | (obtain rfl : q = ks.length := (by omega)
             rw [List.take_length] at ha
             rw [ha]; rfl)
      · refine aw_skip ?_
        refine hK7 _ _ ?_
        clear hK7
        refine aw_region_last ?_
        refine aL z_move ?_
        refine aL z_add ?_
        refine aL z_assign ?_
        refine awl_nil ?_
        have hc : ¬ lowM n = lowM ks[q] := by simpa using r2
        refine hK4 _ _ ⟨q + 1, by omega, amI hlt ha hc⟩ (by dsimp only; omega) ?_
        exact wK
    · refine aw_exit ?_
      refine hK2 _ _ ?_
      clear hK2
      refine aw_region fun K10 hK10 => ?_
      refine aL z_assign ?_
      refine awl_nil (hK10 _ _ ?_)
      clear hK10 K10
      refine aw_ret ?_
      refine (hret _ _ _ _ _ rfl (.tmp rfl .nil) rfl ?_ .nil rfl).1
      first
        | (have hc : lowM n = lowM ks[q] := by simpa using r2
           rw [am_yes hlt hc]; rfl)
        | (obtain rfl : q = ks.length := (by omega)
           rw [List.take_length] at ha
           rw [ha]; rfl)
theorem con_rWithout {l : List Fd} {names : List (List UInt8)} (hl : l.length ≤ 1099511627776) (hf : ∀ f ∈ l, f.n.length ≤ 140737488351232) (hn : names.length ≤ 1099511627776) (hk : ∀ k ∈ names, k.length ≤ 140737488351232) :
    Con Tryz.prog 29 [.v (.sl (fdV l)), .v (.sl (stV names))] [] 0 (.ret (.v (.sl (fdV (noM l names))))) [] := by
  have hfl := fdV_len l
  refine con_of Tryz.func29 rfl (by show _ ≤ 29; simp) fun X Q hP hnt hnp hret hpan => ?_
  obtain ⟨P0, nt0, w0, K0, S0, np0, pin0, df0⟩ := X
  simp only at hP hnt hnp
  subst hP hnp
  obtain rfl : nt0 = 29 := hnt
  refine aw_region fun K1 hK1 => ?_
  refine aL z_assign ?_
  refine awl_nil (hK1 _ _ ?_)
  clear hK1 K1
  refine aw_region fun K2 hK2 => ?_
  refine aL z_assign ?_
  refine awl_nil (hK2 _ _ ?_)
  clear hK2 K2
  refine aw_seq fun K3 hK3 => ?_
  refine aw_region fun K4 hK4 => ?_
  refine aL z_assign ?_
  refine awl_nil (hK4 _ _ ?_)
  clear hK4 K4
  refine aw_block ?_
  refine aw_loop (α := {q : Nat // q ≤ l.length}) (fun x => ([(0, .v (.sl (fdV l))), (1, .v (.sl (stV names))), (5, .view 2 0 0 (noM (l.take x.1) names).length), (6, .v (.int .i64 (x.1 : Int)))], [(2, .row 0 3 46 (fdV (noM (l.take x.1) names)))])) (fun x => l.length - x.1) ⟨0, Nat.zero_le _⟩ ?_ ?_
  · dsimp only
    refine Weak.trans (weak_nil (t := 5) 2 3 46 (by decide) (Nat.zero_le _) rfl rfl) ?_
    exact wK
  · rintro ⟨q, hq⟩ K5 hK5
    dsimp only
    have hno : (noM (l.take q) names).length ≤ l.length := Nat.le_trans (noM_le _ _) (by simp; omega)
    refine aw_seq fun K6 hK6 => ?_
    refine aw_region fun K7 hK7 => ?_
    refine aL z_move ?_
    refine aL z_move ?_
    first
      | refine aL (z_lenB Tryz.underlying24) ?_
      | refine aL (z_len Tryz.underlying24) ?_
      | refine aL (z_lenV Tryz.underlying24) ?_
    refine aL z_lss ?_
    refine awl_nil (hK7 _ _ ?_)
    clear hK7 K7
    refine aC (fun r1 c1 => ?_) (fun r1 c1 => ?_)
    · refine aw_skip ?_
      refine hK6 _ _ ?_
      clear hK6
      refine aw_seq fun K8 hK8 => ?_
      refine aw_block ?_
      refine aw_region fun K9 hK9 => ?_
      have hlt : q < l.length := by omega
      have hi := fdV_get hlt
      refine aL z_move ?_
      refine aL z_move ?_
      first
        | refine aL (z_indexAddr Tryz.underlying24 sz_46) ?_
        | refine aL (z_indexAddrV Tryz.underlying24 sz_46) ?_
      first
        | refine aL (z_fieldAddr fo_46_0) ?_
        | refine aL (z_fieldRef fo_46_0) ?_
        | refine aL (z_fieldV fo_46_0) ?_
      first
        | refine aL (z_load sz_9) ?_
        | refine aL (z_loadRef sz_9) ?_
        | refine aL (z_loadV sz_9) ?_
      refine aL z_move ?_
      refine aL (z_call0 (eC (eC .nil)) en_27 (con_Among (n := l[q].n) (ks := names) (hf _ (List.getElem_mem hlt)) hn hk)) ?_
      refine aL z_not ?_
      refine awl_nil (hK9 _ _ ?_)
      clear hK9 K9
      refine aC (fun r2 c2 => ?_) (fun r2 c2 => ?_)
      · refine aw_region_last ?_
        refine aL z_move ?_
        refine aL z_move ?_
        refine aL z_move ?_
        first
          | refine aL (z_indexAddr Tryz.underlying24 sz_46) ?_
          | refine aL (z_indexAddrV Tryz.underlying24 sz_46) ?_
        first
          | refine aL (z_load sz_46) ?_
          | refine aL (z_loadRef sz_46) ?_
          | refine aL (z_loadV sz_46) ?_
        refine aL (z_lits (pC .nil) Tryz.underlying24 sz_46 zc_46 zl_46 (c := [[_, _, _]])) ?_
        refine aL (z_app Tryz.underlying24 zi_46 (c' := fdV (noM (l.take q) names ++ [l[q]])) (hc := fdV_snoc rfl) (hb := by simp; omega)) ?_
        refine aL z_assign ?_
        refine awl_nil ?_
        refine hK8 _ _ ?_
        clear hK8
        refine aw_region_last ?_
        refine aL z_move ?_
        refine aL z_add ?_
        refine aL z_assign ?_
        refine awl_nil ?_
        refine hK5 _ _ ⟨q + 1, by omega⟩ (by dsimp only; omega) ?_
        dsimp only
        first
          | (have hc : (names.map lowM).contains (lowM l[q].n) = false := by simpa using r2
             rw [noM_yes hlt hc]
             exact Weak.trans (weak_rever 2 0 rfl) wK)
          | (have hc : (names.map lowM).contains (lowM l[q].n) = true := by simpa using r2
             rw [noM_no hlt hc]
             exact wK)
      · refine aw_skip ?_
        refine hK8 _ _ ?_
        clear hK8
        refine aw_region_last ?_
        refine aL z_move ?_
        refine aL z_add ?_
        refine aL z_assign ?_
        refine awl_nil ?_
        refine hK5 _ _ ⟨q + 1, by omega⟩ (by dsimp only; omega) ?_
        dsimp only
        first
          | (have hc : (names.map lowM).contains (lowM l[q].n) = false := by simpa using r2
             rw [noM_yes hlt hc]
             exact Weak.trans (weak_rever 2 0 rfl) wK)
          | (have hc : (names.map lowM).contains (lowM l[q].n) = true := by simpa using r2
             rw [noM_no hlt hc]
             exact wK)
    · refine aw_exit ?_
      refine hK3 _ _ ?_
      clear hK3
      refine aw_region fun K10 hK10 => ?_
      refine aL z_move ?_
      refine aL z_assign ?_
      refine awl_nil (hK10 _ _ ?_)
      clear hK10 K10
      obtain rfl : q = l.length := (by omega)
      rw [List.take_length]
      refine aw_weak (weak_all (fr' := [(4, .v (.sl (fdV (noM l names))))]) (ah' := []) (some (2, 0, fdV (noM l names))) ⟨rfl, _, _, rfl⟩ .nil (.cons rfl (.view rfl (cutW (by simp))) .nil)) ?_
      refine aw_ret ?_
      refine (hret _ _ _ _ _ rfl (.tmp rfl .nil) rfl ?_ .nil rfl).1
      rfl
end Go.Proofs.YtnjbfiejgiaibaaGreatDoor

/- Layers 11 and 14: the document's elements, Strip, Of. No condition. -/
namespace Go.Proofs.YtnjbfiejgiaibaaGreatDoor
set_option linter.all false
open Go Go.RowKit
set_option maxRecDepth 10000
set_option maxHeartbeats 4000000
theorem one_at {v : List UInt8} {i : Nat} (h : i < v.length) : (v.drop i).take (i + 1 - i) = [v[i]] := by
  rw [Nat.add_sub_cancel_left, List.drop_eq_getElem_cons h]; rfl
theorem one_at' {v : List UInt8} {i : Nat} (h : i < v.length) : (v.drop ((some i).getD 0)).take ((some (i + 1)).getD v.length - (some i).getD 0) = [v[i]] := one_at h
/-- What the document's walk over a value keeps. -/
def rE (v : List UInt8) (i : Nat) (s : List UInt8) (out : List (List UInt8)) : Prop := if i ≤ v.length then out ++ elF (splG false false (v.drop i) s) = elM v else out = elM v
def rQ (v : List UInt8) (i : Nat) (s : List UInt8) (out : List (List UInt8)) : Prop := out ++ elF (splG true false (v.drop i) s) = elM v
theorem rE_end {v s : List UInt8} {out : List (List UInt8)} {i : Nat} (hi : i = v.length) (h : rE v i s out) : rE v (i + 1) [] (out ++ elF [s]) := by
  subst hi
  unfold rE at h ⊢
  rw [if_pos (Nat.le_refl _), List.drop_length, splG] at h
  rw [if_neg (by omega)]; exact h
theorem rE_com {v s : List UInt8} {out : List (List UInt8)} {i : Nat} (hi : i < v.length) (hc : v[i] = 44) (h : rE v i s out) : rE v (i + 1) [] (out ++ elF [s]) := by
  unfold rE at h ⊢
  rw [if_pos (by omega), List.drop_eq_getElem_cons hi, splG, if_neg (by decide), if_neg (by simp), if_neg (by rw [hc]; decide), if_pos ⟨hc, rfl⟩, elF_cons, ← List.append_assoc] at h
  rw [if_pos (by omega)]; exact h
theorem rE_oth {v s : List UInt8} {out : List (List UInt8)} {i : Nat} (hi : i < v.length) (hc : ¬ v[i] = 44) (hq : ¬ v[i] = 34) (h : rE v i s out) : rE v (i + 1) (s ++ [v[i]]) out := by
  unfold rE at h ⊢
  rw [if_pos (by omega), List.drop_eq_getElem_cons hi, splG, if_neg (by decide), if_neg (by simp), if_neg hq, if_neg (by simp [hc])] at h
  rw [if_pos (by omega)]; exact h
theorem rE_quo {v s : List UInt8} {out : List (List UInt8)} {i : Nat} (hi : i < v.length) (hq : v[i] = 34) (h : rE v i s out) : rQ v (i + 1) (s ++ [v[i]]) out := by
  unfold rE at h
  unfold rQ
  rw [if_pos (by omega), List.drop_eq_getElem_cons hi, splG, if_neg (by decide), if_neg (by simp), if_pos hq] at h
  exact h
theorem rQ_end {v s : List UInt8} {out : List (List UInt8)} {i : Nat} (hi : v.length ≤ i + 1) (hl : i < v.length) (h : rQ v (i + 1) s out) : rE v (i + 1) s out := by
  unfold rQ at h
  unfold rE
  rw [List.drop_of_length_le hi, splG] at h
  rw [if_pos (by omega), List.drop_of_length_le hi, splG]; exact h
theorem rQ_quo {v s : List UInt8} {out : List (List UInt8)} {i : Nat} (hi : i < v.length) (hq : v[i] = 34) (h : rQ v i s out) : rE v (i + 1) (s ++ [v[i]]) out := by
  unfold rQ at h
  unfold rE
  rw [List.drop_eq_getElem_cons hi, splG, if_neg (by decide), if_neg (by rw [hq]; decide), if_pos hq] at h
  rw [if_pos (by omega)]; exact h
theorem rQ_esc {v s : List UInt8} {out : List (List UInt8)} {i : Nat} (h0 : i < v.length) (hi : i + 1 < v.length) (hq : v[i] = 92) (h : rQ v i s out) : rQ v (i + 1 + 1) (s ++ [v[i]] ++ [v[i + 1]]) out := by
  unfold rQ at h ⊢
  rw [List.drop_eq_getElem_cons h0, splG, if_neg (by decide), if_pos ⟨rfl, hq⟩, List.drop_eq_getElem_cons hi, splG, if_pos rfl] at h
  exact h
theorem rQ_oth {v s : List UInt8} {out : List (List UInt8)} {i : Nat} (hi : i < v.length) (hq : ¬ v[i] = 34) (hn : ¬ (v[i] = 92 ∧ i + 1 < v.length)) (h : rQ v i s out) : rQ v (i + 1) (s ++ [v[i]]) out := by
  unfold rQ at h ⊢
  rw [List.drop_eq_getElem_cons hi, splG, if_neg (by decide)] at h
  by_cases hb : v[i] = 92
  · have hnl : ¬ i + 1 < v.length := fun h => hn ⟨hb, h⟩
    rw [if_pos ⟨rfl, hb⟩, List.drop_of_length_le (by omega), splG] at h
    rw [List.drop_of_length_le (by omega), splG]; exact h
  · rw [if_neg (by simp [hb]), if_neg hq, if_neg (by simp)] at h; exact h
end Go.Proofs.YtnjbfiejgiaibaaGreatDoor
