/- Layer 10: the law HeadOrder, walked. No condition. -/
import Derived.Test.YtipmegjhlkhklaaDoorHdD
namespace Go.Proofs.YtipmegjhlkhklaaDoor
set_option linter.all false
open Go Go.RowKit
set_option maxRecDepth 10000
set_option maxHeartbeats 4000000
abbrev NILQ : List D := [.v (.str []), .v (.str []), .v (.str []), .v (.str []), .v (.lit (.slice none 0 0))]
theorem con_sameNil {a : Rq} (ha : a.f.length ≤ 4398046511104) : Con Tryd.prog 15 [.agg a.cs, .agg NILQ] [] 0 (.ret (.v (.bool (sameQ a Rq.nil)))) [] := by
  refine con_of Tryd.func15 rfl (by show _ ≤ 38; simp) fun X Q hP hnt hnp hret hpan => ?_
  obtain ⟨P0, nt0, w0, K0, S0, np0, pin0⟩ := X
  simp only at hP hnt hnp
  subst hP hnp
  obtain rfl : nt0 = 38 := hnt
  refine aw_region fun K1 hK1 => ?_
  refine aL (z_box 0) ?_
  refine aL (z_box 1) ?_
  refine aL z_assign ?_
  refine awl_nil (hK1 _ _ ?_)
  clear hK1 K1
  refine aw_region fun K2 hK2 => ?_
  refine aL (z_fieldAddr fo_26_0) ?_
  refine aL (z_load sz_9) ?_
  refine aL (z_fieldAddr fo_26_0) ?_
  refine aL (z_load sz_9) ?_
  refine aL z_eqlS ?_
  refine aL z_move ?_
  refine gL rfl rfl (ev_tmp rfl) (fun hg => z_fieldAddr fo_26_1) ?_
  refine gL rfl rfl (ev_tmp rfl) (fun hg => z_load sz_9) ?_
  refine gL rfl rfl (ev_tmp rfl) (fun hg => z_fieldAddr fo_26_1) ?_
  refine gL rfl rfl (ev_tmp rfl) (fun hg => z_load sz_9) ?_
  refine gL rfl rfl (ev_tmp rfl) (fun hg => z_eqlS) ?_
  refine aL z_and ?_
  refine aL z_move ?_
  refine gL rfl rfl (ev_tmp rfl) (fun hg => z_fieldAddr fo_26_2) ?_
  refine gL rfl rfl (ev_tmp rfl) (fun hg => z_load sz_9) ?_
  refine gL rfl rfl (ev_tmp rfl) (fun hg => z_fieldAddr fo_26_2) ?_
  refine gL rfl rfl (ev_tmp rfl) (fun hg => z_load sz_9) ?_
  refine gL rfl rfl (ev_tmp rfl) (fun hg => z_eqlS) ?_
  refine aL z_and ?_
  refine aL z_move ?_
  refine gL rfl rfl (ev_tmp rfl) (fun hg => z_fieldAddr fo_26_3) ?_
  refine gL rfl rfl (ev_tmp rfl) (fun hg => z_load sz_9) ?_
  refine gL rfl rfl (ev_tmp rfl) (fun hg => z_fieldAddr fo_26_3) ?_
  refine gL rfl rfl (ev_tmp rfl) (fun hg => z_load sz_9) ?_
  refine gL rfl rfl (ev_tmp rfl) (fun hg => z_eqlS) ?_
  refine aL z_and ?_
  refine aL z_move ?_
  refine gL rfl rfl (ev_tmp rfl) (fun hg => z_fieldAddr fo_26_4) ?_
  refine gL rfl rfl (ev_tmp rfl) (fun hg => z_load sz_22) ?_
  refine gL rfl rfl (ev_tmp rfl) (fun hg => z_fieldAddr fo_26_4) ?_
  refine gL rfl rfl (ev_tmp rfl) (fun hg => z_load sz_22) ?_
  refine gL rfl rfl (ev_tmp rfl) (fun hg => z_call0 (eC (eC .nil (h := ev_nil (ev_cond (ev_tmp rfl) (by assumption)))) (h := ev_cond (ev_tmp rfl) (by assumption))) en_16 (con_Fields (b := []) ha (by decide))) ?_
  refine aL z_and ?_
  refine aL z_assign ?_
  refine awl_nil (hK2 _ _ ?_)
  clear hK2 K2
  refine aw_ret ?_
  refine (hret _ _ _ _ _ rfl (.tmp rfl .nil) rfl ?_ .nil rfl).1
  rfl
theorem con_HeadOrder1 {l : List Fd} {at0 : Int} (h : InL l) : Con Tryd.prog 4 [.v (.sl (fdV l)), .v (.int .i64 at0), .v (.bool true)] [] 0 (.ret (.v (.bool true))) [] := by
  have hsm := in_small h
  have h2 := readR_len l
  have hfl := fdV_len l
  refine con_of Tryd.func4 rfl (by show _ ≤ 77; simp) fun X Q hP hnt hnp hret hpan => ?_
  obtain ⟨P0, nt0, w0, K0, S0, np0, pin0⟩ := X
  simp only at hP hnt hnp
  subst hP hnp
  obtain rfl : nt0 = 77 := hnt
  refine aw_region fun K1 hK1 => ?_
  refine aL z_assign ?_
  refine awl_nil (hK1 _ _ ?_)
  clear hK1 K1
  refine aw_seq fun K2 hK2 => ?_
  refine aw_region fun K3 hK3 => ?_
  refine aL (z_call0 .nil en_9 (con_awake)) ?_
  refine aL z_not ?_
  refine awl_nil (hK3 _ _ ?_)
  clear hK3 K3
  refine aC (fun r1 c1 => ?_) (fun r1 c1 => ?_)
  · cases r1
  · refine aw_skip ?_
    refine hK2 _ _ ?_
    clear hK2
    refine aw_seq fun K4 hK4 => ?_
    refine aw_region fun K5 hK5 => ?_
    refine aL z_move ?_
    refine aL (z_call0 (eC .nil) en_10 (con_Bytes h.1 h.2)) ?_
    refine aL z_gtr ?_
    refine awl_nil (hK5 _ _ ?_)
    clear hK5 K5
    refine aC (fun r2 c2 => ?_) (fun r2 c2 => ?_)
    · clear r2
      refine aw_region fun K6 hK6 => ?_
      refine aL z_assign ?_
      refine awl_nil (hK6 _ _ ?_)
      clear hK6 K6
      refine aw_ret ?_
      refine (hret _ _ _ _ _ rfl (.tmp rfl .nil) rfl ?_ .nil rfl).1
      first
        | rfl
        | (simp [retD]; done)
        | (rw [twice hr (List.getElem_mem hkl)]; rfl)
    · clear r2
      refine aw_skip ?_
      refine hK4 _ _ ?_
      clear hK4
      refine aw_region fun K7 hK7 => ?_
      have hsz := hsm (Int.not_lt.2 c2)
      have hll := szM_len l
      refine aL z_move ?_
      refine aL (z_call0 (eC .nil) en_11 (con_Read (l := l) (Nat.le_trans hsz (by decide)))) ?_
      refine aL z_move ?_
      refine aL z_extract ?_
      refine aL z_extract ?_
      refine aL (z_alloc 0 zc_26 zl_26) ?_
      refine aL (z_store sz_26) ?_
      refine aL z_assign ?_
      refine awl_nil (hK7 _ _ ?_)
      clear hK7 K7
      refine aw_seq fun K8 hK8 => ?_
      refine aw_region fun K9 hK9 => ?_
      refine aL z_move ?_
      refine aL z_neq ?_
      refine aL z_move ?_
      refine gL rfl rfl (ev_tmp rfl) (fun hg => z_move) ?_
      refine gL rfl rfl (ev_tmp rfl) (fun hg => z_len Tryd.underlying22) ?_
      refine gL rfl rfl (ev_tmp rfl) (fun hg => z_eql) ?_
      refine aL z_or ?_
      refine awl_nil (hK9 _ _ ?_)
      clear hK9 K9
      refine aC (fun r3 c3 => ?_) (fun r3 c3 => ?_)
      · refine aw_region fun K10 hK10 => ?_
        refine aL z_assign ?_
        refine awl_nil (hK10 _ _ ?_)
        clear hK10 K10
        refine aw_ret ?_
        refine (hret _ _ _ _ _ rfl (.tmp rfl .nil) rfl ?_ .nil rfl).1
        first
          | rfl
          | (simp [retD]; done)
          | (rw [twice hr (List.getElem_mem hkl)]; rfl)
      · refine aw_skip ?_
        refine hK8 _ _ ?_
        clear hK8
        refine aw_region fun K11 hK11 => ?_
        have hr : readE l = 0 := c3.1
        have hpos : 0 < l.length := by omega
        refine aL (z_row 1 .nil Tryd.underlying22 sz_34 zc_34 zl_34 (c := [])) ?_
        refine aL z_move ?_
        refine aL (z_app Tryd.underlying22 zi_34 (hs := by first | exact bs_one _ | exact fdV_one _ | (simp; done))) ?_
        refine aL z_assign ?_
        refine awl_nil (hK11 _ _ ?_)
        clear hK11 K11
        refine aw_weak (weak_all (fr' := [(0, .v (.sl (fdV l))), (1, .v (.int .i64 at0)), (2, .v (.bool true)), (9, .v (.sl (fdV l)))]) (ah' := []) (some (1, 1, fdV l)) ⟨rfl, _, _, rfl⟩ .nil (.cons rfl (.keep rfl) (.cons rfl (.keep rfl) (.cons rfl (.keep rfl) (.cons rfl (.view rfl (cutF (by simp))) .nil))))) ?_
        refine aw_cutE (α := {x : Int // 0 ≤ x}) (fun z => (([(0, .v (.sl (fdV l))), (1, .v (.int .i64 z.1)), (2, .v (.bool true)), (9, .v (.sl (fdV l)))], []))) (fun K12 hK12 => ?_) ?_
        rotate_left
        focus
          rintro ⟨z, hz⟩
          dsimp only
          refine aw_region fun K13 hK13 => ?_
          refine aL z_move ?_
          refine aL z_move ?_
          refine aL (z_len Tryd.underlying22) ?_
          refine aL z_rem ?_
          refine aL z_assign ?_
          refine awl_nil (hK13 _ _ ?_)
          clear hK13 K13
          obtain ⟨k, hk⟩ : ∃ k : Nat, z.tmod ((fdV l).length : Int) = (k : Int) := ⟨_, (Int.toNat_of_nonneg (Int.tmod_nonneg _ hz)).symm⟩
          have hkl : k < l.length := by
            have h5 := Int.tmod_lt_of_pos z (show (0 : Int) < ((fdV l).length : Int) by omega)
            omega
          rw [hk]
          have hi := fdV_get hkl
          have hat := szM_at hkl
          refine aw_seq fun K14 hK14 => ?_
          refine aw_region fun K15 hK15 => ?_
          refine aL z_move ?_
          refine awl_nil (hK15 _ _ ?_)
          clear hK15 K15
          refine aC (fun r4 c4 => ?_) (fun r4 c4 => ?_)
          · refine aw_regionD mx_all (by kernel_rfl) fun K16 hK16 => ?_
            refine aD z_move ?_
            refine aD z_move ?_
            refine aD (z_indexAddr Tryd.underlying22 sz_34) ?_
            refine aD (z_loadRef sz_34) ?_
            refine aD (z_row 3 (pC .nil) Tryd.underlying22 sz_34 zc_34 zl_34 (c := [[.str l[k].n, .str l[k].v, .bool l[k].s]])) ?_
            refine aD z_move ?_
            refine aD z_move ?_
            refine aD (z_slice Tryd.underlying22 sz_34 (c' := fdV (l.take k)) (hsz := fdV_one _) (hhi := .yes (ev_tmp rfl) rfl) (hc := by rw [← fdV_take]; rfl)) ?_
            refine aD (z_app Tryd.underlying22 zi_34 (c' := fdV ([l[k]] ++ l.take k)) (hs := fdV_one _) (hc := fdV_join (a := [l[k]]) (by rfl))) ?_
            refine aD z_move ?_
            refine aD z_move ?_
            refine aD (z_slice Tryd.underlying22 sz_34 (c' := fdV (l.drop k)) (hsz := fdV_one _) (hlo := .yes (ev_tmp rfl) rfl) (hc := by rw [← fdV_drop]; unfold cut; exact List.take_of_length_le (by simp))) ?_
            refine aD (StepU.settle (z_app Tryd.underlying22 zi_34 (c' := fdV (l[k] :: l)) (hs := fdV_one _) (hc := (fdV_join (a := [l[k]] ++ l.take k) (b := l.drop k) (by simp; omega)).trans (congrArg fdV (by simp)))) (hl := by simp; omega)) ?_
            refine aD (z_call0 (eC .nil) en_11 (con_Read (l := l[k] :: l) (by rw [szM_cons]; omega))) ?_
            refine aD z_move ?_
            refine aD z_extract ?_
            refine aD z_extract ?_
            refine aD (z_alloc 4 zc_26 zl_26) ?_
            refine aD (z_store sz_26) ?_
            refine aD z_assign ?_
            refine awd_nil (by kernel_rfl) (hK16 _ _ ?_)
            clear hK16 K16
            refine aw_region fun K17 hK17 => ?_
            refine aL z_move ?_
            refine aL z_eql ?_
            refine aL z_assign ?_
            refine awl_nil (hK17 _ _ ?_)
            clear hK17 K17
            refine aw_ret ?_
            refine (hret _ _ _ _ _ rfl (.tmp rfl .nil) rfl ?_ .nil rfl).1
            first
              | rfl
              | (simp [retD]; done)
              | (rw [twice hr (List.getElem_mem hkl)]; rfl)
          · cases r4
        refine aw_region fun K18 hK18 => ?_
        refine aL z_move ?_
        refine aL z_lss ?_
        refine awl_nil (hK18 _ _ ?_)
        clear hK18 K18
        refine aC (fun r5 c5 => ?_) (fun r5 c5 => ?_)
        · refine aw_region_last ?_
          refine aL z_assign ?_
          refine awl_nil ?_
          refine hK12 _ _ ⟨max at0 0, by omega⟩ ?_
          dsimp only
          exact wK
        · refine aw_skip ?_
          refine hK12 _ _ ⟨max at0 0, by omega⟩ ?_
          dsimp only
          exact wK
theorem con_HeadOrder0 {l : List Fd} {at0 : Int} (h : InL l) : Con Tryd.prog 4 [.v (.sl (fdV l)), .v (.int .i64 at0), .v (.bool false)] [] 0 (.ret (.v (.bool true))) [] := by
  have hsm := in_small h
  have h2 := readR_len l
  have hfl := fdV_len l
  have s1 : szM (l ++ [⟨[122, 122], [49], false⟩, ⟨[58, 112, 97, 116, 104], [47], false⟩]) = szM l + 73 := by rw [szM_app]; rfl
  refine con_of Tryd.func4 rfl (by show _ ≤ 77; simp) fun X Q hP hnt hnp hret hpan => ?_
  obtain ⟨P0, nt0, w0, K0, S0, np0, pin0⟩ := X
  simp only at hP hnt hnp
  subst hP hnp
  obtain rfl : nt0 = 77 := hnt
  refine aw_region fun K1 hK1 => ?_
  refine aL z_assign ?_
  refine awl_nil (hK1 _ _ ?_)
  clear hK1 K1
  refine aw_seq fun K2 hK2 => ?_
  refine aw_region fun K3 hK3 => ?_
  refine aL (z_call0 .nil en_9 (con_awake)) ?_
  refine aL z_not ?_
  refine awl_nil (hK3 _ _ ?_)
  clear hK3 K3
  refine aC (fun r1 c1 => ?_) (fun r1 c1 => ?_)
  · cases r1
  · refine aw_skip ?_
    refine hK2 _ _ ?_
    clear hK2
    refine aw_seq fun K4 hK4 => ?_
    refine aw_region fun K5 hK5 => ?_
    refine aL z_move ?_
    refine aL (z_call0 (eC .nil) en_10 (con_Bytes h.1 h.2)) ?_
    refine aL z_gtr ?_
    refine awl_nil (hK5 _ _ ?_)
    clear hK5 K5
    refine aC (fun r2 c2 => ?_) (fun r2 c2 => ?_)
    · clear r2
      refine aw_region fun K6 hK6 => ?_
      refine aL z_assign ?_
      refine awl_nil (hK6 _ _ ?_)
      clear hK6 K6
      refine aw_ret ?_
      refine (hret _ _ _ _ _ rfl (.tmp rfl .nil) rfl ?_ .nil rfl).1
      first
        | rfl
        | (simp [retD]; done)
        | (rw [hb.1, hb.2, sameQ_rfl]; rfl)
    · clear r2
      refine aw_skip ?_
      refine hK4 _ _ ?_
      clear hK4
      refine aw_region fun K7 hK7 => ?_
      have hsz := hsm (Int.not_lt.2 c2)
      have hll := szM_len l
      refine aL z_move ?_
      refine aL (z_call0 (eC .nil) en_11 (con_Read (l := l) (Nat.le_trans hsz (by decide)))) ?_
      refine aL z_move ?_
      refine aL z_extract ?_
      refine aL z_extract ?_
      refine aL (z_alloc 0 zc_26 zl_26) ?_
      refine aL (z_store sz_26) ?_
      refine aL z_assign ?_
      refine awl_nil (hK7 _ _ ?_)
      clear hK7 K7
      refine aw_seq fun K8 hK8 => ?_
      refine aw_region fun K9 hK9 => ?_
      refine aL z_move ?_
      refine aL z_neq ?_
      refine aL z_move ?_
      refine gL rfl rfl (ev_tmp rfl) (fun hg => z_move) ?_
      refine gL rfl rfl (ev_tmp rfl) (fun hg => z_len Tryd.underlying22) ?_
      refine gL rfl rfl (ev_tmp rfl) (fun hg => z_eql) ?_
      refine aL z_or ?_
      refine awl_nil (hK9 _ _ ?_)
      clear hK9 K9
      refine aC (fun r3 c3 => ?_) (fun r3 c3 => ?_)
      · refine aw_region fun K10 hK10 => ?_
        refine aL z_assign ?_
        refine awl_nil (hK10 _ _ ?_)
        clear hK10 K10
        refine aw_ret ?_
        refine (hret _ _ _ _ _ rfl (.tmp rfl .nil) rfl ?_ .nil rfl).1
        first
          | rfl
          | (simp [retD]; done)
          | (rw [hb.1, hb.2, sameQ_rfl]; rfl)
      · refine aw_skip ?_
        refine hK8 _ _ ?_
        clear hK8
        refine aw_region fun K11 hK11 => ?_
        have hr : readE l = 0 := c3.1
        have hpos : 0 < l.length := by omega
        have hb := behind hr
        refine aL (z_row 1 .nil Tryd.underlying22 sz_34 zc_34 zl_34 (c := [])) ?_
        refine aL z_move ?_
        refine aL (z_app Tryd.underlying22 zi_34 (hs := by first | exact bs_one _ | exact fdV_one _ | (simp; done))) ?_
        refine aL z_assign ?_
        refine awl_nil (hK11 _ _ ?_)
        clear hK11 K11
        refine aw_weak (fr' := [(0, .v (.sl (fdV l))), (1, .v (.int .i64 at0)), (2, .v (.bool false)), (9, .view 1 0 0 l.length)]) (ah' := [(1, .row 0 3 34 (fdV l))]) (Weak.trans (weak_rever 1 0 rfl) wK) ?_
        refine aw_cutE (α := {x : Int // 0 ≤ x}) (fun z => (([(0, .v (.sl (fdV l))), (1, .v (.int .i64 z.1)), (2, .v (.bool false)), (9, .view 1 0 0 l.length)], [(1, .row 0 3 34 (fdV l))]))) (fun K12 hK12 => ?_) ?_
        rotate_left
        focus
          rintro ⟨z, hz⟩
          dsimp only
          refine aw_region fun K13 hK13 => ?_
          refine aL z_move ?_
          refine aL z_move ?_
          refine aL (z_len Tryd.underlying22) ?_
          refine aL z_rem ?_
          refine aL z_assign ?_
          refine awl_nil (hK13 _ _ ?_)
          clear hK13 K13
          refine aw_seq fun K14 hK14 => ?_
          refine aw_region fun K15 hK15 => ?_
          refine aL z_move ?_
          refine awl_nil (hK15 _ _ ?_)
          clear hK15 K15
          refine aC (fun r4 c4 => ?_) (fun r4 c4 => ?_)
          · cases r4
          · refine aw_skip ?_
            refine hK14 _ _ ?_
            clear hK14
            refine aw_region fun K16 hK16 => ?_
            refine aL z_move ?_
            refine aL (z_build (pC (pC .nil)) pl_34 zc_34 zl_34) ?_
            refine aL (z_build (pC (pC .nil)) pl_34 zc_34 zl_34) ?_
            refine aL (z_lits (pC (pC .nil)) Tryd.underlying22 sz_34 zc_34 zl_34 (c := [[.str [122, 122], .str [49], .bool false], [.str [58, 112, 97, 116, 104], .str [47], .bool false]])) ?_
            refine aL (z_app Tryd.underlying22 zi_34 (c' := fdV (l ++ [⟨[122, 122], [49], false⟩, ⟨[58, 112, 97, 116, 104], [47], false⟩])) (hs := fdV_one _) (hc := fdV_join (a := l) (b := [⟨[122, 122], [49], false⟩, ⟨[58, 112, 97, 116, 104], [47], false⟩]) (by simp))) ?_
            refine aL z_assign ?_
            refine awl_nil (hK16 _ _ ?_)
            clear hK16 K16
            refine aw_weak (weak_all (fr' := [(9, .v (.sl (fdV (l ++ [⟨[122, 122], [49], false⟩, ⟨[58, 112, 97, 116, 104], [47], false⟩]))))]) (ah' := []) (some (1, 1, fdV (l ++ [⟨[122, 122], [49], false⟩, ⟨[58, 112, 97, 116, 104], [47], false⟩]))) ⟨rfl, _, _, rfl⟩ .nil (.cons rfl (.view rfl (cutF (by simp))) .nil)) ?_
            refine aw_region fun K17 hK17 => ?_
            refine aL z_move ?_
            refine aL (z_call0 (eC .nil) en_11 (con_Read (l := l ++ [⟨[122, 122], [49], false⟩, ⟨[58, 112, 97, 116, 104], [47], false⟩]) (by omega))) ?_
            refine aL z_move ?_
            refine aL z_extract ?_
            refine aL z_extract ?_
            refine aL (z_alloc 3 zc_26 zl_26) ?_
            refine aL (z_store sz_26) ?_
            refine aL z_assign ?_
            refine awl_nil (hK17 _ _ ?_)
            clear hK17 K17
            refine aw_region fun K18 hK18 => ?_
            refine aL z_move ?_
            refine aL z_eql ?_
            refine aL z_move ?_
            refine gL rfl rfl (ev_tmp rfl) (fun hg => z_load sz_26) ?_
            refine gL rfl rfl (ev_tmp rfl) (fun hg => z_build .nil pl_26 zc_26 zl_26) ?_
            refine gL rfl rfl (ev_tmp rfl) (fun hg => z_call0 (eC (eC .nil)) en_15 (con_sameNil (a := readR (l ++ [⟨[122, 122], [49], false⟩, ⟨[58, 112, 97, 116, 104], [47], false⟩])) (by rw [hb.2]; decide))) ?_
            refine aL z_and ?_
            refine aL z_assign ?_
            refine awl_nil (hK18 _ _ ?_)
            clear hK18 K18
            refine aw_ret ?_
            refine (hret _ _ _ _ _ rfl (.tmp rfl .nil) rfl ?_ .nil rfl).1
            first
              | rfl
              | (simp [retD]; done)
              | (rw [hb.1, hb.2, sameQ_rfl]; rfl)
        refine aw_region fun K19 hK19 => ?_
        refine aL z_move ?_
        refine aL z_lss ?_
        refine awl_nil (hK19 _ _ ?_)
        clear hK19 K19
        refine aC (fun r5 c5 => ?_) (fun r5 c5 => ?_)
        · refine aw_region_last ?_
          refine aL z_assign ?_
          refine awl_nil ?_
          refine hK12 _ _ ⟨max at0 0, by omega⟩ ?_
          dsimp only
          exact wK
        · refine aw_skip ?_
          refine hK12 _ _ ⟨max at0 0, by omega⟩ ?_
          dsimp only
          exact wK
theorem con_HeadOrder {l : List Fd} {at0 : Int} {b : Bool} (h : InL l) : Con Tryd.prog 4 [.v (.sl (fdV l)), .v (.int .i64 at0), .v (.bool b)] [] 0 (.ret (.v (.bool true))) [] := by
  cases b
  · exact con_HeadOrder0 h
  · exact con_HeadOrder1 h
end Go.Proofs.YtipmegjhlkhklaaDoor
