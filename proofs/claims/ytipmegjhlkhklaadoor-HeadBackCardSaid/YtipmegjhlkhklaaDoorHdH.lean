/- Layer 10: hosts, place, the length. No condition. -/
import Derived.Test.YtipmegjhlkhklaaDoorHdG
namespace Go.Proofs.YtipmegjhlkhklaaDoor
set_option linter.all false
open Go Go.RowKit
set_option maxRecDepth 10000
set_option maxHeartbeats 4000000
def kH : List UInt8 := [104, 111, 115, 116]
def nohM (l : List Fd) : List Fd := l.filter fun f => !(decide (f.n = kH))
theorem noh_yes {l : List Fd} {q : Nat} (h : q < l.length) (hk : (l[q]).n = kH) : nohM (l.take (q + 1)) = nohM (l.take q) := by
  rw [take_succ' h]; unfold nohM; rw [List.filter_append]; simp [hk]
theorem noh_no {l : List Fd} {q : Nat} (h : q < l.length) (hk : ¬ (l[q]).n = kH) : nohM (l.take (q + 1)) = nohM (l.take q) ++ [l[q]] := by
  rw [take_succ' h]; unfold nohM; rw [List.filter_append]; simp [hk]
theorem noh_le (l : List Fd) : (nohM l).length ≤ l.length := List.length_filter_le _ _
theorem take_le' {α : Type} (l : List α) (q : Nat) : (l.take q).length ≤ q := by simp; omega
theorem con_hosts {l : List Fd} (hs : szM l ≤ 1099511627776) : Con Tryd.prog 28 [.v (.sl (fdV l))] [] 0
    (.ret (.tup [.view 0 0 0 (valuesM l kH).length, .v (.sl (fdV (nohM l)))])) [(0, .row 0 1 9 (stV (valuesM l kH)))] := by
  have hll := szM_len l
  refine con_of Tryd.func28 rfl (by show _ ≤ 29; simp) fun X Q hP hnt hnp hret hpan => ?_
  obtain ⟨P0, nt0, w0, K0, S0, np0, pin0⟩ := X
  simp only at hP hnt hnp
  subst hP hnp
  obtain rfl : nt0 = 29 := hnt
  refine aw_region fun K1 hK1 => ?_
  refine aL z_assign ?_
  refine aL z_assign ?_
  refine awl_nil (hK1 _ _ ?_)
  clear hK1 K1
  refine aw_region fun K2 hK2 => ?_
  refine aL z_assign ?_
  refine awl_nil (hK2 _ _ ?_)
  clear hK2 K2
  refine aw_region fun K3 hK3 => ?_
  refine aL z_assign ?_
  refine awl_nil (hK3 _ _ ?_)
  clear hK3 K3
  refine aw_seq fun K4 hK4 => ?_
  refine aw_region fun K5 hK5 => ?_
  refine aL z_move ?_
  refine aL (z_len Tryd.underlying22) ?_
  refine aL z_move ?_
  refine awl_nil (hK5 _ _ ?_)
  clear hK5 K5
  refine aw_block ?_
  refine aw_loop (α := {x : Nat // x ≤ l.length}) (fun x => ([(8, .v (.sl (fdV l))), (9, .v (.int .i64 (l.length : Int))), (10, .v (.int .i64 (x.1 : Int))), (4, .view 0 0 0 (valuesM (l.take x.1) kH).length), (5, .view 1 0 0 (nohM (l.take x.1)).length)], [(0, .row 0 1 9 (stV (valuesM (l.take x.1) kH))), (1, .row 0 3 34 (fdV (nohM (l.take x.1))))])) (fun x => l.length - x.1) ⟨0, by omega⟩ ?_ ?_
  · dsimp only
    exact Weak.trans (weak_nil (t := 4) 0 1 9 (by decide) (Nat.le_of_ble_eq_true rfl) rfl rfl) (Weak.trans (weak_nil (t := 5) 1 3 34 (by decide) (Nat.le_of_ble_eq_true rfl) rfl rfl) wK)
  · rintro ⟨q, hq⟩ K6 hK6
    dsimp only
    refine aw_region fun K7 hK7 => ?_
    refine aL z_lss ?_
    refine awl_nil (hK7 _ _ ?_)
    clear hK7 K7
    refine aw_seq fun K8 hK8 => ?_
    refine aC (fun r1 c1 => ?_) (fun r1 c1 => ?_)
    · refine aw_skip ?_
      refine hK8 _ _ ?_
      clear hK8
      refine aw_seq fun K9 hK9 => ?_
      refine aw_block ?_
      refine aw_region fun K10 hK10 => ?_
      have hlt : q < l.length := by omega
      have hi := fdV_get hlt
      have hv1 := Nat.le_trans (valuesM_len (l.take q) kH) (take_le' l q)
      have hv2 := Nat.le_trans (noh_le (l.take q)) (take_le' l q)
      refine aL (z_indexAddr Tryd.underlying22 sz_34) ?_
      refine aL (z_loadRef sz_34) ?_
      refine aL (z_alloc 2 zc_34 zl_34) ?_
      refine aL (z_store sz_34) ?_
      refine awl_nil (hK10 _ _ ?_)
      clear hK10 K10
      refine aw_region fun K11 hK11 => ?_
      refine aL (z_fieldAddr fo_34_0) ?_
      refine aL (z_load sz_9) ?_
      refine aL z_eqlS ?_
      refine awl_nil (hK11 _ _ ?_)
      clear hK11 K11
      refine aC (fun r2 c2 => ?_) (fun r2 c2 => ?_)
      · refine aw_region_last ?_
        refine aL z_move ?_
        refine aL (z_fieldAddr fo_34_1) ?_
        refine aL (z_load sz_9) ?_
        refine aL (z_lits (pC .nil) Tryd.underlying38 sz_9 zc_9 zl_9 (c := [[_]])) ?_
        refine aL (z_app Tryd.underlying38 zi_9) ?_
        refine aL z_assign ?_
        refine awl_nil ?_
        refine hK9 _ _ ?_
        clear hK9
        refine aw_region_last ?_
        refine aL z_add ?_
        refine aL z_move ?_
        refine awl_nil ?_
        refine hK6 _ _ ⟨q + 1, by omega⟩ (by dsimp only; omega) ?_
        dsimp only
        first
          | (rw [valuesM_yes hlt (by assumption), noh_yes hlt (by assumption)]; exact Weak.trans (weak_rever 0 0 rfl) (wK (ha := .row rfl (stV_snoc rfl) (.row rfl rfl .nil))))
          | (rw [valuesM_no hlt (by assumption), noh_no hlt (by assumption)]; exact Weak.trans (weak_rever 1 0 rfl) (wK (ha := .row rfl rfl (.row rfl (fdV_snoc rfl) .nil))))
      · refine aw_region_last ?_
        refine aL z_move ?_
        refine aL (z_load sz_34) ?_
        refine aL (z_lits (pC .nil) Tryd.underlying22 sz_34 zc_34 zl_34 (c := [[_, _, _]])) ?_
        refine aL (z_app Tryd.underlying22 zi_34) ?_
        refine aL z_assign ?_
        refine awl_nil ?_
        refine hK9 _ _ ?_
        clear hK9
        refine aw_region_last ?_
        refine aL z_add ?_
        refine aL z_move ?_
        refine awl_nil ?_
        refine hK6 _ _ ⟨q + 1, by omega⟩ (by dsimp only; omega) ?_
        dsimp only
        first
          | (rw [valuesM_yes hlt (by assumption), noh_yes hlt (by assumption)]; exact Weak.trans (weak_rever 0 0 rfl) (wK (ha := .row rfl (stV_snoc rfl) (.row rfl rfl .nil))))
          | (rw [valuesM_no hlt (by assumption), noh_no hlt (by assumption)]; exact Weak.trans (weak_rever 1 0 rfl) (wK (ha := .row rfl rfl (.row rfl (fdV_snoc rfl) .nil))))
    · refine aw_exit ?_
      refine hK4 _ _ ?_
      clear hK4
      refine aw_region fun K12 hK12 => ?_
      refine aL z_move ?_
      refine aL z_move ?_
      refine aL z_assign ?_
      refine aL z_assign ?_
      refine awl_nil (hK12 _ _ ?_)
      clear hK12 K12
      obtain rfl : q = l.length := (by omega)
      rw [List.take_length]
      refine aw_weak (weak_all (fr' := [(2, .view 0 0 0 (valuesM l kH).length), (3, .v (.sl (fdV (nohM l))))]) (ah' := [(0, .row 0 1 9 (stV (valuesM l kH)))]) (some (1, 0, fdV (nohM l))) ⟨rfl, _, _, rfl⟩ (.row rfl rfl .nil) (.cons rfl (.keep rfl) (.cons rfl (.view rfl (cutF (by simp))) .nil))) ?_
      refine aw_ret ?_
      refine (hret _ _ _ _ _ rfl (.tmp rfl (.tmp rfl .nil)) rfl ?_ (.row rfl .nil) rfl).1
      rfl
def kA : List UInt8 := [58, 97, 117, 116, 104, 111, 114, 105, 116, 121]
def placeE (hs : List (List UInt8)) (m : Wd) : Int := if 1 < hs.length then 101 else if hs ++ (lk kA m).toList = [] then 100 else if (hs ++ (lk kA m).toList).all (fun h => authM h && decide (lowM h = lowM ((hs ++ (lk kA m).toList).headD []))) = true then 0 else 100
def placeS (hs : List (List UInt8)) (m : Wd) : List UInt8 := if placeE hs m = 0 then lowM ((hs ++ (lk kA m).toList).headD []) else []
theorem lk_len {m : Wd} {k : List UInt8} : ((lk k m).toList).length ≤ 1 := by cases lk k m <;> simp
theorem all_st {p : List UInt8 → Bool} {l : List (List UInt8)} (h : ∀ i (hi : i < l.length), p l[i] = true) : l.all p = true := by
  rw [List.all_eq_true]; intro x hx; obtain ⟨i, hi, rfl⟩ := List.getElem_of_mem hx; exact h i hi
theorem no_st {p : List UInt8 → Bool} {l : List (List UInt8)} {i : Nat} (h : i < l.length) (hc : p l[i] = false) : ¬ l.all p = true := by
  rw [Bool.not_eq_true, List.all_eq_false]; exact ⟨l[i], List.getElem_mem h, by simp [hc]⟩
theorem snoc_st {p : List UInt8 → Bool} {l : List (List UInt8)} {i : Nat} (h : ∀ j (hj : j < l.length), j < i → p l[j] = true) (hi : i < l.length) (hp : p l[i] = true) : ∀ j (hj : j < l.length), j < i + 1 → p l[j] = true := fun j hj hji => by
  by_cases e : j = i
  · subst e; exact hp
  · exact h j hj (by omega)
theorem head_at {l : List (List UInt8)} (h : 0 < l.length) : l.headD [] = l[0] := by cases l; simp at h; rfl
theorem con_place {hs : List (List UInt8)} {m : Wd} (hz : ∀ s ∈ hs, s.length ≤ 1099511627776) (hm : ∀ s, lk kA m = some s → s.length ≤ 1099511627776) : Con Tryd.prog 29 [.mref 1, .view 0 0 0 hs.length] [(0, .row 0 1 9 (stV hs)), (1, .mp true (wdV m))] 2
    (.ret (.tup [.v (.str (placeS hs m)), .v (.int .i64 (placeE hs m))])) [(0, .row 1 1 9 (stV (if 1 < hs.length then hs else hs ++ (lk kA m).toList))), (1, .mp true (wdV m))] := by
  have hl1 := lk_len (m := m) (k := kA)
  generalize hA : hs ++ (lk kA m).toList = all at *
  have hE : placeE hs m = if 1 < hs.length then 101 else if all = [] then 100 else if all.all (fun h => authM h && decide (lowM h = lowM (all.headD []))) = true then 0 else 100 := by unfold placeE; rw [hA]
  have hS : placeS hs m = if placeE hs m = 0 then lowM (all.headD []) else [] := by unfold placeS; rw [hA]
  generalize placeE hs m = e at *
  generalize placeS hs m = s at *
  have hal : all.length ≤ hs.length + 1 := by rw [← hA, List.length_append]; omega
  have haz : ∀ i (hi : i < all.length), (all[i]).length ≤ 1099511627776 := fun i hi => by
    have h1 : all[i] ∈ hs ++ (lk kA m).toList := by rw [hA]; exact List.getElem_mem hi
    rcases List.mem_append.1 h1 with h | h
    · exact hz _ h
    · exact hm _ (by cases hk : lk kA m with | none => rw [hk] at h; cases h | some x => rw [hk] at h; simp at h; rw [h])
  have hyes : (lk kA m).isSome = true → hs ++ [(lk kA m).getD []] = all := fun h => by rw [← hA]; cases hk : lk kA m with | none => rw [hk] at h; cases h | some x => rfl
  have hno : (lk kA m).isSome = false → hs = all := fun h => by rw [← hA]; cases hk : lk kA m with | none => simp | some x => rw [hk] at h; cases h
  refine con_of Tryd.func29 rfl (by show _ ≤ 49; simp) fun X Q hP hnt hnp hret hpan => ?_
  obtain ⟨P0, nt0, w0, K0, S0, np0, pin0⟩ := X
  simp only at hP hnt hnp
  subst hP hnp
  obtain rfl : nt0 = 49 := hnt
  refine aw_region fun K1 hK1 => ?_
  refine aL z_assign ?_
  refine aL z_assign ?_
  refine awl_nil (hK1 _ _ ?_)
  clear hK1 K1
  refine aw_seq fun K2 hK2 => ?_
  refine aw_region fun K3 hK3 => ?_
  refine aL z_move ?_
  refine aL (z_lenV Tryd.underlying38) ?_
  refine aL z_gtr ?_
  refine awl_nil (hK3 _ _ ?_)
  clear hK3 K3
  refine aC (fun r1 c1 => ?_) (fun r1 c1 => ?_)
  · refine aw_region fun K4 hK4 => ?_
    refine aL z_assign ?_
    refine aL z_assign ?_
    refine awl_nil (hK4 _ _ ?_)
    clear hK4 K4
    (have hx : 1 < hs.length := (by omega); have he : e = 101 := (by rw [hE, if_pos hx]); subst he; have he : s = [] := (by rw [hS]; rfl); subst he; refine aw_weak (fr' := [(4, .v (.str [])), (5, .v (.int .i64 101))]) (ah' := [(0, .row 1 1 9 (stV hs)), (1, .mp true (wdV m))]) (Weak.trans (weak_rever 0 1 rfl) wK) ?_)
    refine aw_ret ?_
    refine (hret _ _ _ _ _ rfl (.tmp rfl (.tmp rfl .nil)) rfl ?_ (.row' rfl (by first | (rw [if_pos (by omega)]) | (rw [if_neg (by omega)])) (.mp rfl .nil)) rfl).1
    rfl
  · refine aw_skip ?_
    refine hK2 _ _ ?_
    clear hK2
    refine aw_cut ([(1, .view 0 1 0 all.length)], [(0, .row 1 1 9 (stV all)), (1, .mp true (wdV m))]) (fun K5 hK5 => ?_) ?_
    rotate_left
    focus
      refine aw_seq fun K6 hK6 => ?_
      refine aw_region fun K7 hK7 => ?_
      refine aL z_move ?_
      refine aL (z_lenV Tryd.underlying38) ?_
      refine aL z_eql ?_
      refine awl_nil (hK7 _ _ ?_)
      clear hK7 K7
      refine aC (fun r2 c2 => ?_) (fun r2 c2 => ?_)
      · refine aw_region fun K8 hK8 => ?_
        refine aL z_assign ?_
        refine aL z_assign ?_
        refine awl_nil (hK8 _ _ ?_)
        clear hK8 K8
        (have hx : ¬ 1 < hs.length := (by omega); have hy : all.length = 0 := (by omega); have he : e = 100 := (by rw [hE, if_neg hx, if_pos (List.length_eq_zero_iff.1 hy)]); subst he; have he : s = [] := (by rw [hS]; rfl); subst he)
        refine aw_ret ?_
        refine (hret _ _ _ _ _ rfl (.tmp rfl (.tmp rfl .nil)) rfl ?_ (.row' rfl (by first | (rw [if_pos (by omega)]) | (rw [if_neg (by omega)])) (.mp rfl .nil)) rfl).1
        rfl
      · refine aw_skip ?_
        refine hK6 _ _ ?_
        clear hK6
        refine aw_seq fun K9 hK9 => ?_
        refine aw_region fun K10 hK10 => ?_
        refine aL z_move ?_
        refine aL (z_lenV Tryd.underlying38) ?_
        refine aL z_move ?_
        refine awl_nil (hK10 _ _ ?_)
        clear hK10 K10
        refine aw_block ?_
        refine aw_loop (α := {x : Nat // x ≤ all.length ∧ ∀ j (hj : j < all.length), j < x → (authM all[j] && decide (lowM all[j] = lowM (all.headD []))) = true}) (fun x => ([(1, .view 0 1 0 all.length), (27, .view 0 1 0 all.length), (28, .v (.int .i64 (all.length : Int))), (29, .v (.int .i64 (x.1 : Int)))], [(0, .row 1 1 9 (stV all)), (1, .mp true (wdV m))])) (fun x => all.length - x.1) ⟨0, by omega, fun j _ hj => by omega⟩ ?_ ?_
        · dsimp only
          exact wK
        · rintro ⟨q, hq, ha⟩ K11 hK11
          dsimp only
          refine aw_region fun K12 hK12 => ?_
          refine aL z_lss ?_
          refine awl_nil (hK12 _ _ ?_)
          clear hK12 K12
          refine aw_seq fun K13 hK13 => ?_
          refine aC (fun r3 c3 => ?_) (fun r3 c3 => ?_)
          · refine aw_skip ?_
            refine hK13 _ _ ?_
            clear hK13
            refine aw_seq fun K14 hK14 => ?_
            refine aw_block ?_
            refine aw_region fun K15 hK15 => ?_
            have hlt : q < all.length := by omega
            have h0 : 0 < all.length := by omega
            have hi := stV_get hlt
            have hi0 := stV_get h0
            refine aL (z_indexAddrV Tryd.underlying38 sz_9) ?_
            refine aL (z_loadV sz_9) ?_
            refine aL z_assign ?_
            refine awl_nil (hK15 _ _ ?_)
            clear hK15 K15
            refine aw_region fun K16 hK16 => ?_
            refine aL z_move ?_
            refine aL (z_call0 (eC .nil) en_47 (con_authority (haz _ hlt))) ?_
            refine aL z_not ?_
            refine aL z_move ?_
            refine gL rfl rfl (ev_tmp rfl) (fun hg => z_move) ?_
            refine gL rfl rfl (ev_tmp rfl) (fun hg => z_move) ?_
            refine gL rfl rfl (ev_tmp rfl) (fun hg => z_indexAddrV Tryd.underlying38 sz_9) ?_
            refine gL rfl rfl (ev_tmp rfl) (fun hg => z_loadV sz_9) ?_
            refine gL rfl rfl (ev_tmp rfl) (fun hg => z_call0 (eC (eC .nil)) en_48 (con_SameO (by have := haz _ hlt; omega) (by have := haz _ h0; omega))) ?_
            refine gL rfl rfl (ev_tmp rfl) (fun hg => z_not) ?_
            refine aL z_or ?_
            refine awl_nil (hK16 _ _ ?_)
            clear hK16 K16
            refine aC (fun r4 c4 => ?_) (fun r4 c4 => ?_)
            · refine aw_region fun K17 hK17 => ?_
              refine aL z_assign ?_
              refine aL z_assign ?_
              refine awl_nil (hK17 _ _ ?_)
              clear hK17 K17
              (have hx : ¬ 1 < hs.length := (by omega); have hy : ¬ all = [] := (fun hh => by rw [hh] at h0; simp at h0); have hz : ¬ (all.all (fun h => authM h && decide (lowM h = lowM (all.headD [])))) = true := no_st hlt (by rw [head_at h0]; rcases c4 with h | h <;> simp [h]); have he : e = 100 := (by rw [hE, if_neg hx, if_neg hy, if_neg hz]); subst he; have he : s = [] := (by rw [hS]; rfl); subst he)
              refine aw_ret ?_
              refine (hret _ _ _ _ _ rfl (.tmp rfl (.tmp rfl .nil)) rfl ?_ (.row' rfl (by first | (rw [if_pos (by omega)]) | (rw [if_neg (by omega)])) (.mp rfl .nil)) rfl).1
              rfl
            · refine aw_skip ?_
              refine hK14 _ _ ?_
              clear hK14
              refine aw_region_last ?_
              refine aL z_add ?_
              refine aL z_move ?_
              refine awl_nil ?_
              have hp : (authM all[q] && decide (lowM all[q] = lowM (all.headD []))) = true := by rw [head_at h0, c4.1, decide_eq_true c4.2]; rfl
              refine hK11 _ _ ⟨q + 1, by omega, snoc_st (p := fun h => authM h && decide (lowM h = lowM (all.headD []))) ha hlt hp⟩ (by dsimp only; omega) ?_
              dsimp only
              exact wK
          · refine aw_exit ?_
            refine hK9 _ _ ?_
            clear hK9
            refine aw_region fun K18 hK18 => ?_
            have h0 : 0 < all.length := by omega
            have hi0 := stV_get h0
            refine aL z_move ?_
            refine aL (z_indexAddrV Tryd.underlying38 sz_9) ?_
            refine aL (z_loadV sz_9) ?_
            refine aL (z_call0 (eC .nil) en_39 (con_Lower (by have := haz _ h0; omega))) ?_
            refine aL z_assign ?_
            refine aL z_assign ?_
            refine awl_nil (hK18 _ _ ?_)
            clear hK18 K18
            (have hx : ¬ 1 < hs.length := (by omega); have hy : ¬ all = [] := (fun hh => by rw [hh] at h0; simp at h0); have hz : (all.all (fun h => authM h && decide (lowM h = lowM (all.headD [])))) = true := all_st fun i hi => ha i hi (by omega); have he : e = 0 := (by rw [hE, if_neg hx, if_neg hy, if_pos hz]); subst he; have he : s = lowM all[0] := (by rw [hS, if_pos rfl, head_at h0]); subst he)
            refine aw_ret ?_
            refine (hret _ _ _ _ _ rfl (.tmp rfl (.tmp rfl .nil)) rfl ?_ (.row' rfl (by first | (rw [if_pos (by omega)]) | (rw [if_neg (by omega)])) (.mp rfl .nil)) rfl).1
            rfl
    refine aw_region fun K19 hK19 => ?_
    refine aL z_move ?_
    refine aL (z_lookup Tryd.underlying47 Tryd.underlying9 zv_51 (.agg zl_51) (zs := [.str []]) (hd := look_wdT _ _)) ?_
    refine aL z_move ?_
    refine aL z_extract ?_
    refine aL z_extract ?_
    refine aL (z_alloc 2 zc_51 zl_51) ?_
    refine aL (z_store sz_51) ?_
    refine aL z_assign ?_
    refine awl_nil (hK19 _ _ ?_)
    clear hK19 K19
    refine aw_region fun K20 hK20 => ?_
    refine aL z_move ?_
    refine awl_nil (hK20 _ _ ?_)
    clear hK20 K20
    refine aC (fun r5 c5 => ?_) (fun r5 c5 => ?_)
    · refine aw_region_last ?_
      refine aL z_move ?_
      refine aL (z_fieldAddr fo_51_0) ?_
      refine aL (z_load sz_9) ?_
      refine aL (z_lits (pC .nil) Tryd.underlying38 sz_9 zc_9 zl_9 (c := [[_]])) ?_
      refine aL (z_app Tryd.underlying38 zi_9) ?_
      refine aL z_assign ?_
      refine awl_nil ?_
      refine hK5 _ _ ?_
      first
        | (rw [← hyes (by assumption)]; exact wK (ha := .row rfl (stV_snoc rfl) (.mp rfl rfl .nil)))
        | (rw [← hno (by assumption)]; exact Weak.trans (weak_rever 0 1 rfl) wK)
    · refine aw_skip ?_
      refine hK5 _ _ ?_
      first
        | (rw [← hyes (by assumption)]; exact wK (ha := .row rfl (stV_snoc rfl) (.mp rfl rfl .nil)))
        | (rw [← hno (by assumption)]; exact Weak.trans (weak_rever 0 1 rfl) wK)
def kL : List UInt8 := [99, 111, 110, 116, 101, 110, 116, 45, 108, 101, 110, 103, 116, 104]
theorem valuesM_drop {l : List Fd} {q : Nat} (h : q < l.length) (k : List UInt8) : valuesM (l.drop q) k = if (l[q]).n = k then (l[q]).v :: valuesM (l.drop (q + 1)) k else valuesM (l.drop (q + 1)) k := by
  rw [List.drop_eq_getElem_cons h, show l[q] :: l.drop (q + 1) = [l[q]] ++ l.drop (q + 1) from rfl, valuesM_app, valuesM_one]; split <;> rfl
theorem numV_nn (l : List UInt8) : 0 ≤ numV 10 l := by unfold numV; split; exact Int.le_refl _; exact valM_nonneg 10 (by decide) l
theorem numV_le (l : List UInt8) : numV 10 l ≤ 1099511627776 := by
  unfold numV; split
  · decide
  · rename_i h; simp only [Bool.or_eq_true, decide_eq_true_eq, not_or, Int.not_lt] at h; exact h.2
theorem con_Length {l : List Fd} (hs : szM l ≤ 1099511627776) : Con Tryd.prog 13 [.v (.sl (fdV l))] [] 0 (.ret (.tup [.v (.int .i64 (lenM l).1), .v (.bool (lenM l).2.1), .v (.int .i64 (lenM l).2.2)])) [] := by
  have hll := szM_len l
  refine con_of Tryd.func13 rfl (by show _ ≤ 42; simp) fun X Q hP hnt hnp hret hpan => ?_
  obtain ⟨P0, nt0, w0, K0, S0, np0, pin0⟩ := X
  simp only at hP hnt hnp
  subst hP hnp
  obtain rfl : nt0 = 42 := hnt
  refine aw_region fun K1 hK1 => ?_
  refine aL z_assign ?_
  refine aL z_assign ?_
  refine aL z_assign ?_
  refine awl_nil (hK1 _ _ ?_)
  clear hK1 K1
  refine aw_region fun K2 hK2 => ?_
  refine aL z_assign ?_
  refine awl_nil (hK2 _ _ ?_)
  clear hK2 K2
  refine aw_seq fun K3 hK3 => ?_
  refine aw_region fun K4 hK4 => ?_
  refine aL z_move ?_
  refine aL (z_len Tryd.underlying22) ?_
  refine aL z_move ?_
  refine awl_nil (hK4 _ _ ?_)
  clear hK4 K4
  refine aw_block ?_
  refine aw_loop (α := {x : Nat × Int // x.1 ≤ l.length ∧ -1 ≤ x.2 ∧ x.2 ≤ 1099511627776 ∧ lenGo (max x.2 0) (decide (0 ≤ x.2)) (valuesM (l.drop x.1) kL) = lenM l}) (fun x => ([(10, .v (.sl (fdV l))), (11, .v (.int .i64 (l.length : Int))), (12, .v (.int .i64 (x.1.1 : Int))), (5, .v (.int .i64 x.1.2))], [])) (fun x => l.length - x.1.1) ⟨(0, -1), by omega, by omega, by omega, rfl⟩ ?_ ?_
  · dsimp only
    exact wK
  · rintro ⟨⟨q, n⟩, hq, hn, hn2, ha⟩ K5 hK5
    dsimp only
    dsimp only at hq hn hn2 ha
    refine aw_region fun K6 hK6 => ?_
    refine aL z_lss ?_
    refine awl_nil (hK6 _ _ ?_)
    clear hK6 K6
    refine aw_seq fun K7 hK7 => ?_
    refine aC (fun r1 c1 => ?_) (fun r1 c1 => ?_)
    · refine aw_skip ?_
      refine hK7 _ _ ?_
      clear hK7
      refine aw_seq fun K8 hK8 => ?_
      refine aw_block ?_
      refine aw_region fun K9 hK9 => ?_
      have hlt : q < l.length := by omega
      have hi := fdV_get hlt
      refine aL (z_indexAddr Tryd.underlying22 sz_34) ?_
      refine aL (z_loadRef sz_34) ?_
      refine aL (z_alloc 0 zc_34 zl_34) ?_
      refine aL (z_store sz_34) ?_
      refine awl_nil (hK9 _ _ ?_)
      clear hK9 K9
      refine aw_seq fun K10 hK10 => ?_
      refine aw_region fun K11 hK11 => ?_
      refine aL (z_fieldAddr fo_34_0) ?_
      refine aL (z_load sz_9) ?_
      refine aL z_neqS ?_
      refine awl_nil (hK11 _ _ ?_)
      clear hK11 K11
      refine aC (fun r2 c2 => ?_) (fun r2 c2 => ?_)
      · refine aw_exit ?_
        refine hK8 _ _ ?_
        clear hK8
        refine aw_region_last ?_
        refine aL z_add ?_
        refine aL z_move ?_
        refine awl_nil ?_
        first
          | (refine hK5 _ _ ⟨(q + 1, n), by dsimp only; omega, hn, hn2, by rw [valuesM_drop hlt, if_neg (by assumption)] at ha; exact ha⟩ (by dsimp only; omega) ?_; dsimp only; exact wK)
          | (rw [valuesM_drop hlt, if_pos (by assumption), lenGo] at ha; refine hK5 _ _ ⟨(q + 1, numV 10 l[q].v), by dsimp only; omega, by have := numV_nn l[q].v; dsimp only; omega, numV_le _, ?_⟩ (by dsimp only; omega) ?_; (rw [if_neg (by simp only [decide_eq_true_eq]; omega)] at ha; dsimp only; rw [show max (numV 10 l[q].v) 0 = numV 10 l[q].v from by have := numV_nn l[q].v; omega, decide_eq_true (numV_nn _)]; exact ha); dsimp only; exact wK)
      · refine aw_skip ?_
        refine hK10 _ _ ?_
        clear hK10
        refine aw_region fun K12 hK12 => ?_
        refine aL (z_fieldAddr fo_34_1) ?_
        refine aL (z_load sz_9) ?_
        refine aL (z_call0 (eC .nil) en_36 (con_Decimal (by have := szM_at hlt; unfold maxLen; omega))) ?_
        refine aL z_move ?_
        refine aL z_extract ?_
        refine aL z_extract ?_
        refine aL z_assign ?_
        refine aL z_assign ?_
        refine awl_nil (hK12 _ _ ?_)
        clear hK12 K12
        refine aw_seq fun K13 hK13 => ?_
        refine aw_region fun K14 hK14 => ?_
        refine aL z_move ?_
        refine aL z_neq ?_
        refine aL z_move ?_
        refine gL rfl rfl (ev_tmp rfl) (fun hg => z_move) ?_
        refine gL rfl rfl (ev_tmp rfl) (fun hg => z_geq) ?_
        refine gL rfl rfl (ev_tmp rfl) (fun hg => z_move) ?_
        refine hL rfl rfl (ev_tmp rfl) (fun hg => z_move) ?_
        refine hL rfl rfl (ev_tmp rfl) (fun hg => z_move) ?_
        refine hL rfl rfl (ev_tmp rfl) (fun hg => z_neq) ?_
        refine gL rfl rfl (ev_tmp rfl) (fun hg => z_and) ?_
        refine aL z_or ?_
        refine awl_nil (hK14 _ _ ?_)
        clear hK14 K14
        refine aC (fun r3 c3 => ?_) (fun r3 c3 => ?_)
        · refine aw_region fun K15 hK15 => ?_
          refine aL z_assign ?_
          refine aL z_assign ?_
          refine aL z_assign ?_
          refine awl_nil (hK15 _ _ ?_)
          clear hK15 K15
          refine aw_ret ?_
          refine (hret _ _ _ _ _ rfl (.tmp rfl (.tmp rfl (.tmp rfl .nil))) rfl ?_ .nil rfl).1
          (have hL : l[q].n = kL := (by assumption); rw [valuesM_drop hlt, if_pos hL, lenGo, if_pos (by simp only [decide_eq_true_eq]; omega)] at ha; rw [← ha]; rfl)
        · refine aw_skip ?_
          refine hK13 _ _ ?_
          clear hK13
          refine aw_region_last ?_
          refine aL z_move ?_
          refine aL z_assign ?_
          refine awl_nil ?_
          refine hK8 _ _ ?_
          clear hK8
          refine aw_region_last ?_
          refine aL z_add ?_
          refine aL z_move ?_
          refine awl_nil ?_
          first
            | (refine hK5 _ _ ⟨(q + 1, n), by dsimp only; omega, hn, hn2, by rw [valuesM_drop hlt, if_neg (by assumption)] at ha; exact ha⟩ (by dsimp only; omega) ?_; dsimp only; exact wK)
            | (rw [valuesM_drop hlt, if_pos (by assumption), lenGo] at ha; refine hK5 _ _ ⟨(q + 1, numV 10 l[q].v), by dsimp only; omega, by have := numV_nn l[q].v; dsimp only; omega, numV_le _, ?_⟩ (by dsimp only; omega) ?_; (rw [if_neg (by simp only [decide_eq_true_eq]; omega)] at ha; dsimp only; rw [show max (numV 10 l[q].v) 0 = numV 10 l[q].v from by have := numV_nn l[q].v; omega, decide_eq_true (numV_nn _)]; exact ha); dsimp only; exact wK)
    · refine aw_exit ?_
      refine hK3 _ _ ?_
      clear hK3
      refine aw_region fun K16 hK16 => ?_
      refine aL z_move ?_
      refine aL z_max ?_
      refine aL z_move ?_
      refine aL z_geq ?_
      refine aL z_assign ?_
      refine aL z_assign ?_
      refine aL z_assign ?_
      refine awl_nil (hK16 _ _ ?_)
      clear hK16 K16
      refine aw_ret ?_
      refine (hret _ _ _ _ _ rfl (.tmp rfl (.tmp rfl (.tmp rfl .nil))) rfl ?_ .nil rfl).1
      (have hx : q = l.length := (by omega); rw [hx, List.drop_length] at ha; have hb : lenM l = (max n 0, decide (0 ≤ n), 0) := ha.symm; rw [hb]; rfl)
end Go.Proofs.YtipmegjhlkhklaaDoor
