/- Layer 10: the law HeadBack, walked. No condition. -/
import Derived.Test.YtipmegjhlkhklaaDoorHdE
namespace Go.Proofs.YtipmegjhlkhklaaDoor
set_option linter.all false
open Go Go.RowKit
set_option maxRecDepth 10000
set_option maxHeartbeats 4000000
theorem szM_low : ∀ l : List Fd, szM (l.map lowF) = szM l
  | [] => rfl
  | f :: l => by rw [List.map_cons, szM_cons, szM_cons, szM_low l]; show (lowM f.n).length + f.v.length + 32 + _ = _; rw [lowM_len]
theorem szM_ans (n : Int) (l : List Fd) (hn : n ≤ 9223372036854775807) : szM (ansL n l) ≤ szM l + 100 := by
  unfold ansL
  split
  · show szM (⟨[58, 115, 116, 97, 116, 117, 115], digs 10 n, false⟩ :: l.map lowF) ≤ _
    rw [szM_cons, szM_low]
    have := digs_length 10 (by decide) n hn
    show 7 + (digs 10 n).length + 32 + _ ≤ _
    omega
  · exact Nat.zero_le _
theorem szM_ck (J : List UInt8) : ∀ (x : List Fd) (b : Bool), szM (ckGo J b x) ≤ szM x + J.length
  | [], _ => by simp [ckGo, szM]
  | f :: x, b => by
    have key : ∀ x : List Fd, szM (ckGo J true x) ≤ szM x := fun x => by rw [ckGo_true]; exact szM_filter _ _
    simp only [ckGo]
    split
    · split
      · have := key x; rw [szM_cons]; omega
      · have := key x; rw [szM_cons, szM_cons]; show f.n.length + J.length + 32 + _ ≤ _; omega
    · have := szM_ck J x b; rw [szM_cons, szM_cons]; omega
theorem szM_out (l : List Fd) : szM (outM l) ≤ 2 * szM l := by
  have h1 := szM_ck (joinM (valuesM l kC)) (l.filter keepM) false
  have h2 := szM_filter keepM l
  have h3 := joinM_sz l
  unfold outM; omega
theorem szM_read (l : List Fd) : szM (readR l).f ≤ 2 * szM l := by
  unfold readR; split
  · exact szM_out l
  · exact Nat.zero_le _
theorem szM_again (l : List Fd) : szM (againM (readR l)) ≤ 6 * szM l + 200 := by
  have h1 := szM_read l
  have h2 := readA_len l
  have h3 : (readR l).m.length ≤ szM l := by unfold readR; split; exact getM_sz _ _; exact Nat.zero_le _
  have h4 : (readR l).s.length ≤ szM l := by unfold readR; split; exact getM_sz _ _; exact Nat.zero_le _
  have h5 : (readR l).p.length ≤ szM l := by unfold readR; split; exact getM_sz _ _; exact Nat.zero_le _
  unfold againM
  rw [szM_app]
  simp only [szM_cons]
  show 7 + _ + 32 + (7 + _ + 32 + (10 + _ + 32 + (5 + _ + 32 + 0))) + _ ≤ _
  omega
theorem con_HeadBack {n : Int} {l : List Fd} (h : InL l) (hn : n ≤ 9223372036854775807) : Con Tryd.prog 8 [.v (.int .i64 n), .v (.sl (fdV l))] [] 0 (.ret (.v (.bool true))) [] := by
  have hsm := in_small h
  have h2 := readR_len l
  have hfl := fdV_len l
  have ha1 := ansL_len n l
  have ha2 := szM_ans n l hn
  have hb1 := szM_read l
  have hb2 := szM_again l
  have hb3 := readR_len (againM (readR l))
  have hb4 := szM_len (againM (readR l))
  refine con_of Tryd.func8 rfl (by show _ ≤ 164; simp) fun X Q hP hnt hnp hret hpan => ?_
  obtain ⟨P0, nt0, w0, K0, S0, np0, pin0⟩ := X
  simp only at hP hnt hnp
  subst hP hnp
  obtain rfl : nt0 = 164 := hnt
  refine aw_region fun K1 hK1 => ?_
  refine aL z_assign ?_
  refine awl_nil (hK1 _ _ ?_)
  clear hK1 K1
  refine aw_seq fun K2 hK2 => ?_
  refine aw_region fun K3 hK3 => ?_
  refine aL (z_call0 .nil en_9 (con_awake)) ?_
  refine aL z_not ?_
  refine awl_nil (hK3 _ _ ?_)
  clear hK3 K3
  refine aC (fun r1 c1 => ?_) (fun r1 c1 => ?_)
  · cases r1
  · refine aw_skip ?_
    refine hK2 _ _ ?_
    clear hK2
    refine aw_seq fun K4 hK4 => ?_
    refine aw_region fun K5 hK5 => ?_
    refine aL z_move ?_
    refine aL (z_call0 (eC .nil) en_10 (con_Bytes h.1 h.2)) ?_
    refine aL z_gtr ?_
    refine awl_nil (hK5 _ _ ?_)
    clear hK5 K5
    refine aC (fun r2 c2 => ?_) (fun r2 c2 => ?_)
    · clear r2
      refine aw_region fun K6 hK6 => ?_
      refine aL z_assign ?_
      refine awl_nil (hK6 _ _ ?_)
      clear hK6 K6
      refine aw_ret ?_
      refine (hret _ _ _ _ _ rfl (.tmp rfl .nil) rfl ?_ .nil rfl).1
      first
        | rfl
        | (simp [retD]; done)
        | (rw [show readR l = Rq.nil from if_neg c3, sameQ_rfl]; rfl)
    · clear r2
      refine aw_skip ?_
      refine hK4 _ _ ?_
      clear hK4
      refine aw_region fun K7 hK7 => ?_
      have hsz := hsm (Int.not_lt.2 c2)
      have hll := szM_len l
      refine aL z_move ?_
      refine aL z_move ?_
      refine aL (z_call0 (eC (eC .nil)) en_20 (con_AnswerS (Nat.le_trans hsz (by decide)))) ?_
      refine aL z_move ?_
      refine aL z_extract ?_
      refine aL z_extract ?_
      refine aL z_assign ?_
      refine aL z_assign ?_
      refine awl_nil (hK7 _ _ ?_)
      clear hK7 K7
      refine aw_cut ([(1, .v (.sl (fdV l)))], []) (fun K8 hK8 => ?_) ?_
      rotate_left
      focus
        refine aw_region fun K9 hK9 => ?_
        refine aL z_move ?_
        refine aL (z_call0 (eC .nil) en_11 (con_Read (l := l) (Nat.le_trans hsz (by decide)))) ?_
        refine aL z_move ?_
        refine aL z_extract ?_
        refine aL z_extract ?_
        refine aL (z_alloc 0 zc_26 zl_26) ?_
        refine aL (z_store sz_26) ?_
        refine aL z_assign ?_
        refine awl_nil (hK9 _ _ ?_)
        clear hK9 K9
        refine aw_seq fun K10 hK10 => ?_
        refine aw_region fun K11 hK11 => ?_
        refine aL z_move ?_
        refine aL z_neq ?_
        refine awl_nil (hK11 _ _ ?_)
        clear hK11 K11
        refine aC (fun r3 c3 => ?_) (fun r3 c3 => ?_)
        · refine aw_region fun K12 hK12 => ?_
          refine aL (z_load sz_26) ?_
          refine aL (z_build .nil pl_26 zc_26 zl_26) ?_
          refine aL (z_call0 (eC (eC .nil)) en_15 (con_sameNil (a := readR l) (by omega))) ?_
          refine aL z_assign ?_
          refine awl_nil (hK12 _ _ ?_)
          clear hK12 K12
          refine aw_ret ?_
          refine (hret _ _ _ _ _ rfl (.tmp rfl .nil) rfl ?_ .nil rfl).1
          first
            | rfl
            | (simp [retD]; done)
            | (rw [show readR l = Rq.nil from if_neg c3, sameQ_rfl]; rfl)
        · refine aw_skip ?_
          refine hK10 _ _ ?_
          clear hK10
          refine aw_region fun K13 hK13 => ?_
          have hr : readE l = 0 := c3
          obtain ⟨q1, q2, q3⟩ := again hr
          refine aL (z_fieldAddr fo_26_0) ?_
          refine aL (z_load sz_9) ?_
          refine aL (z_build (pC (pC .nil)) pl_34 zc_34 zl_34) ?_
          refine aL (z_fieldAddr fo_26_1) ?_
          refine aL (z_load sz_9) ?_
          refine aL (z_build (pC (pC .nil)) pl_34 zc_34 zl_34) ?_
          refine aL (z_fieldAddr fo_26_2) ?_
          refine aL (z_load sz_9) ?_
          refine aL (z_build (pC (pC .nil)) pl_34 zc_34 zl_34) ?_
          refine aL (z_fieldAddr fo_26_3) ?_
          refine aL (z_load sz_9) ?_
          refine aL (z_build (pC (pC .nil)) pl_34 zc_34 zl_34) ?_
          refine aL (z_row 1 (pC (pC (pC (pC .nil)))) Tryd.underlying22 sz_34 zc_34 zl_34 (c := [[.str [58, 109, 101, 116, 104, 111, 100], .str (readR l).m, .bool false], [.str [58, 115, 99, 104, 101, 109, 101], .str (readR l).s, .bool false], [.str [58, 97, 117, 116, 104, 111, 114, 105, 116, 121], .str (readR l).a, .bool false], [.str [58, 112, 97, 116, 104], .str (readR l).p, .bool false]])) ?_
          refine aL z_assign ?_
          refine awl_nil (hK13 _ _ ?_)
          clear hK13 K13
          refine aw_region fun K14 hK14 => ?_
          refine aL z_move ?_
          refine aL (z_fieldAddr fo_26_4) ?_
          refine aL (z_load sz_22) ?_
          refine aL (z_app Tryd.underlying22 zi_34 (c' := fdV (againM (readR l))) (hs := fdV_one _) (hc := fdV_join (a := [⟨[58, 109, 101, 116, 104, 111, 100], (readR l).m, false⟩, ⟨[58, 115, 99, 104, 101, 109, 101], (readR l).s, false⟩, ⟨[58, 97, 117, 116, 104, 111, 114, 105, 116, 121], (readR l).a, false⟩, ⟨[58, 112, 97, 116, 104], (readR l).p, false⟩]) (b := (readR l).f) (by rfl))) ?_
          refine aL z_assign ?_
          refine awl_nil (hK14 _ _ ?_)
          clear hK14 K14
          refine aw_weak (weak_all (fr' := [(11, .ptr 0 0), (13, .v (.sl (fdV (againM (readR l)))))]) (ah' := [(0, .box (readR l).cs)]) (some (1, 1, fdV (againM (readR l)))) ⟨rfl, _, _, rfl⟩ (.box rfl (.same rfl) .nil) (.cons rfl (.keep rfl) (.cons rfl (.view rfl (cutF (by simp [againM]; omega))) .nil))) ?_
          refine aw_region fun K15 hK15 => ?_
          refine aL z_move ?_
          refine aL (z_call0 (eC .nil) en_11 (con_Read (l := againM (readR l)) (by omega))) ?_
          refine aL z_move ?_
          refine aL z_extract ?_
          refine aL z_extract ?_
          refine aL (z_alloc 2 zc_26 zl_26) ?_
          refine aL (z_store sz_26) ?_
          refine aL z_assign ?_
          refine awl_nil (hK15 _ _ ?_)
          clear hK15 K15
          refine aw_seq fun K16 hK16 => ?_
          refine aw_region fun K17 hK17 => ?_
          refine aL z_move ?_
          refine aL z_neq ?_
          refine aL z_move ?_
          refine gL rfl rfl (ev_tmp rfl) (fun hg => z_load sz_26) ?_
          refine gL rfl rfl (ev_tmp rfl) (fun hg => z_load sz_26) ?_
          refine gL rfl rfl (ev_tmp rfl) (fun hg => z_call0 (eC (eC .nil)) en_15 (con_sameQ (a := readR l) (b := readR (againM (readR l))) (by omega) (by omega))) ?_
          refine gL rfl rfl (ev_tmp rfl) (fun hg => z_not) ?_
          refine aL z_or ?_
          refine aL z_move ?_
          refine gL rfl rfl (ev_tmp rfl) (fun hg => z_fieldAddr fo_26_4) ?_
          refine gL rfl rfl (ev_tmp rfl) (fun hg => z_load sz_22) ?_
          refine gL rfl rfl (ev_tmp rfl) (fun hg => z_call0 (eC .nil) en_18 (con_Trailer (l := (readR l).f) (by omega))) ?_
          refine gL rfl rfl (ev_tmp rfl) (fun hg => z_neq) ?_
          refine aL z_or ?_
          refine awl_nil (hK17 _ _ ?_)
          clear hK17 K17
          refine aC (fun r4 c4 => ?_) (fun r4 c4 => ?_)
          · exfalso
            rcases c4 with (c | c) | c
            · exact c q1
            · rw [q2, sameQ_rfl] at c; cases c
            · exact c q3
          · refine aw_skip ?_
            refine hK16 _ _ ?_
            clear hK16
            refine aw_seq fun K18 hK18 => ?_
            refine aw_region fun K19 hK19 => ?_
            refine aL z_assign ?_
            refine awl_nil (hK19 _ _ ?_)
            clear hK19 K19
            refine aw_block ?_
            refine aw_loop (α := {x : Nat // x ≤ (readR l).f.length}) (fun x => ([(11, .ptr 0 0), (16, .v (.int .i64 (x.1 : Int)))], [(0, .box (readR l).cs)])) (fun x => (readR l).f.length - x.1) ⟨0, by omega⟩ ?_ ?_
            · dsimp only
              exact wK
            · rintro ⟨q, hq⟩ K20 hK20
              dsimp only
              refine aw_seq fun K21 hK21 => ?_
              refine aw_region fun K22 hK22 => ?_
              refine aL z_move ?_
              refine aL (z_fieldAddr fo_26_4) ?_
              refine aL (z_load sz_22) ?_
              refine aL (z_len Tryd.underlying22) ?_
              refine aL z_lss ?_
              refine awl_nil (hK22 _ _ ?_)
              clear hK22 K22
              refine aC (fun r5 c5 => ?_) (fun r5 c5 => ?_)
              · refine aw_skip ?_
                refine hK21 _ _ ?_
                clear hK21
                refine aw_seq fun K23 hK23 => ?_
                refine aw_block ?_
                refine aw_region fun K24 hK24 => ?_
                have hlt : q < (readR l).f.length := by have := fdV_len (readR l).f; omega
                have hi := fdV_get hlt
                have e7 : (readR l).f = outM l := by unfold readR; rw [if_pos hr]
                have hqm : (readR l).f[q] ∈ outM l := by rw [← e7]; exact List.getElem_mem hlt
                refine aL (z_fieldAddr fo_26_4) ?_
                refine aL (z_load sz_22) ?_
                refine aL z_move ?_
                refine aL (z_indexAddr Tryd.underlying22 sz_34) ?_
                refine aL (z_fieldRef fo_34_0) ?_
                refine aL (z_loadRef sz_9) ?_
                refine aL z_eqlS ?_
                refine aL z_move ?_
                refine gL rfl rfl (ev_tmp rfl) (fun hg => z_fieldAddr fo_26_4) ?_
                refine gL rfl rfl (ev_tmp rfl) (fun hg => z_load sz_22) ?_
                refine gL rfl rfl (ev_tmp rfl) (fun hg => z_move) ?_
                refine gL rfl rfl (ev_tmp rfl) (fun hg => z_indexAddr Tryd.underlying22 sz_34) ?_
                refine gL rfl rfl (ev_tmp rfl) (fun hg => z_fieldRef fo_34_0) ?_
                refine gL rfl rfl (ev_tmp rfl) (fun hg => z_loadRef sz_9) ?_
                refine gL rfl rfl (ev_tmp rfl) (fun hg => z_eqlS) ?_
                refine aL z_or ?_
                refine aL z_move ?_
                refine gL rfl rfl (ev_tmp rfl) (fun hg => z_fieldAddr fo_26_4) ?_
                refine gL rfl rfl (ev_tmp rfl) (fun hg => z_load sz_22) ?_
                refine gL rfl rfl (ev_tmp rfl) (fun hg => z_move) ?_
                refine gL rfl rfl (ev_tmp rfl) (fun hg => z_indexAddr Tryd.underlying22 sz_34) ?_
                refine gL rfl rfl (ev_tmp rfl) (fun hg => z_fieldRef fo_34_0) ?_
                refine gL rfl rfl (ev_tmp rfl) (fun hg => z_loadRef sz_9) ?_
                refine gL rfl rfl (ev_tmp rfl) (fun hg => z_eqlS) ?_
                refine aL z_or ?_
                refine awl_nil (hK24 _ _ ?_)
                clear hK24 K24
                refine aC (fun r6 c6 => ?_) (fun r6 c6 => ?_)
                · exfalso
                  obtain ⟨o1, o2, o3⟩ := out_conn hr hqm
                  rcases c6 with (c | c) | c
                  · exact o1 c
                  · exact o2 c
                  · exact o3 c
                · refine aw_skip ?_
                  refine hK23 _ _ ?_
                  clear hK23
                  refine aw_region_last ?_
                  refine aL z_move ?_
                  refine aL z_add ?_
                  refine aL z_assign ?_
                  refine awl_nil ?_
                  refine hK20 _ _ ⟨q + 1, by omega⟩ (by dsimp only; omega) ?_
                  dsimp only
                  exact wK
              · refine aw_exit ?_
                refine hK18 _ _ ?_
                clear hK18
                refine aw_region fun K25 hK25 => ?_
                refine aL z_assign ?_
                refine awl_nil (hK25 _ _ ?_)
                clear hK25 K25
                refine aw_ret ?_
                refine (hret _ _ _ _ _ rfl (.tmp rfl .nil) rfl ?_ .nil rfl).1
                first
                  | rfl
                  | (simp [retD]; done)
                  | (rw [show readR l = Rq.nil from if_neg c3, sameQ_rfl]; rfl)
      refine aw_region fun K26 hK26 => ?_
      refine aL z_move ?_
      refine aL z_eql ?_
      refine awl_nil (hK26 _ _ ?_)
      clear hK26 K26
      refine aC (fun r7 c7 => ?_) (fun r7 c7 => ?_)
      · refine aw_region fun K27 hK27 => ?_
        have he : answerE n = 0 := c7
        have hA : ansL n l = answerM n l := if_pos he
        rw [hA]
        refine aL z_move ?_
        refine aL (z_call0 (eC .nil) en_22 (con_ReadAnswer (l := answerM n l) (by rw [← hA]; omega))) ?_
        refine aL z_move ?_
        refine aL z_extract ?_
        refine aL z_extract ?_
        refine aL z_extract ?_
        refine aL z_assign ?_
        refine aL z_assign ?_
        refine aL z_assign ?_
        refine awl_nil (hK27 _ _ ?_)
        clear hK27 K27
        refine aw_region fun K28 hK28 => ?_
        refine aL z_move ?_
        refine aL z_eql ?_
        refine awl_nil (hK28 _ _ ?_)
        clear hK28 K28
        refine aC (fun r8 c8 => ?_) (fun r8 c8 => ?_)
        · refine aw_seq fun K29 hK29 => ?_
          refine aw_region fun K30 hK30 => ?_
          have hf : raE (answerM n l) = 0 := c8
          obtain ⟨b1, b2, b3⟩ := back_answer he hf
          refine aL z_move ?_
          refine aL z_move ?_
          refine aL z_neq ?_
          refine aL z_move ?_
          refine gL rfl rfl (ev_tmp rfl) (fun hg => z_move) ?_
          refine gL rfl rfl (ev_tmp rfl) (fun hg => z_len Tryd.underlying22) ?_
          refine gL rfl rfl (ev_tmp rfl) (fun hg => z_move) ?_
          refine gL rfl rfl (ev_tmp rfl) (fun hg => z_len Tryd.underlying22) ?_
          refine gL rfl rfl (ev_tmp rfl) (fun hg => z_neq) ?_
          refine aL z_or ?_
          refine aL z_move ?_
          refine gL rfl rfl (ev_tmp rfl) (fun hg => z_move) ?_
          refine gL rfl rfl (ev_tmp rfl) (fun hg => z_move) ?_
          refine gL rfl rfl (ev_tmp rfl) (fun hg => z_slice Tryd.underlying22 sz_34 (c' := fdV ((answerM n l).drop 1)) (hsz := fdV_one _) (h1 := by rw [fdV_len, answerM_len]; exact Nat.le_add_left _ _) (hc := by rw [← fdV_drop]; unfold cut; exact List.take_of_length_le (by simp))) ?_
          refine gL rfl rfl (ev_tmp rfl) (fun hg => z_call0 (eC (eC .nil)) en_16 (con_Fields (a := raL (answerM n l)) (b := (answerM n l).drop 1) (by rw [b2, List.length_map]; omega) (by rw [b3, List.length_map]; omega))) ?_
          refine gL rfl rfl (ev_tmp rfl) (fun hg => z_not) ?_
          refine aL z_or ?_
          refine awl_nil (hK30 _ _ ?_)
          clear hK30 K30
          simp only [b2]
          refine aC (fun r9 c9 => ?_) (fun r9 c9 => ?_)
          · exfalso
            rw [b1, b3] at c9
            simp at c9
          · refine aw_skip ?_
            refine hK29 _ _ ?_
            clear hK29
            refine aw_region fun K31 hK31 => ?_
            refine aL z_assign ?_
            refine awl_nil (hK31 _ _ ?_)
            clear hK31 K31
            refine aw_block ?_
            refine aw_loop (α := {x : Nat // x ≤ l.length}) (fun x => ([(1, .v (.sl (fdV l))), (8, .v (.sl (fdV (l.map lowF)))), (10, .v (.int .i64 (x.1 : Int)))], [])) (fun x => l.length - x.1) ⟨0, by omega⟩ ?_ ?_
            · dsimp only
              exact wK
            · rintro ⟨q, hq⟩ K32 hK32
              dsimp only
              refine aw_seq fun K33 hK33 => ?_
              refine aw_region fun K34 hK34 => ?_
              refine aL z_move ?_
              refine aL z_move ?_
              refine aL (z_len Tryd.underlying22) ?_
              refine aL z_lss ?_
              refine awl_nil (hK34 _ _ ?_)
              clear hK34 K34
              refine aC (fun r10 c10 => ?_) (fun r10 c10 => ?_)
              · refine aw_skip ?_
                refine hK33 _ _ ?_
                clear hK33
                refine aw_seq fun K35 hK35 => ?_
                refine aw_block ?_
                refine aw_regionD mx_all (by kernel_rfl) fun K36 hK36 => ?_
                have hml : (fdV (l.map lowF)).length = l.length := by simp
                have hlt : q < l.length := by omega
                have hi := fdV_get hlt
                have hi2 : (fdV (l.map lowF))[q]? = some (lowF l[q]).vs := by rw [fdV_get (by simpa using hlt)]; simp
                refine aD z_move ?_
                refine aD z_move ?_
                refine aD (z_indexAddr Tryd.underlying22 sz_34) ?_
                refine aD (z_fieldRef fo_34_0) ?_
                refine aD (z_loadRef sz_9) ?_
                refine aD z_move ?_
                refine aD z_move ?_
                refine aD (z_indexAddr Tryd.underlying22 sz_34) ?_
                refine aD (z_fieldRef fo_34_0) ?_
                refine aD (z_loadRef sz_9) ?_
                refine aD (z_call0 (eC .nil) en_24 (con_rLower (by have := szM_at hlt; omega))) ?_
                refine aD z_neqS ?_
                refine aD z_move ?_
                refine gD rfl rfl (ev_tmp rfl) (fun hg => z_move) ?_
                refine gD rfl rfl (ev_tmp rfl) (fun hg => z_move) ?_
                refine gD rfl rfl (ev_tmp rfl) (fun hg => z_indexAddr Tryd.underlying22 sz_34) ?_
                refine gD rfl rfl (ev_tmp rfl) (fun hg => z_fieldRef fo_34_1) ?_
                refine gD rfl rfl (ev_tmp rfl) (fun hg => z_loadRef sz_9) ?_
                refine gD rfl rfl (ev_tmp rfl) (fun hg => z_move) ?_
                refine gD rfl rfl (ev_tmp rfl) (fun hg => z_move) ?_
                refine gD rfl rfl (ev_tmp rfl) (fun hg => z_indexAddr Tryd.underlying22 sz_34) ?_
                refine gD rfl rfl (ev_tmp rfl) (fun hg => z_fieldRef fo_34_1) ?_
                refine gD rfl rfl (ev_tmp rfl) (fun hg => z_loadRef sz_9) ?_
                refine gD rfl rfl (ev_tmp rfl) (fun hg => z_neqS) ?_
                refine aD z_or ?_
                refine awd_nil (by kernel_rfl) (hK36 _ _ ?_)
                clear hK36 K36
                refine aC (fun r11 c11 => ?_) (fun r11 c11 => ?_)
                · exfalso
                  rcases c11 with c | c
                  · exact c rfl
                  · exact c rfl
                · refine aw_skip ?_
                  refine hK35 _ _ ?_
                  clear hK35
                  refine aw_region_last ?_
                  refine aL z_move ?_
                  refine aL z_add ?_
                  refine aL z_assign ?_
                  refine awl_nil ?_
                  refine hK32 _ _ ⟨q + 1, by omega⟩ (by dsimp only; omega) ?_
                  dsimp only
                  exact wK
              · refine aw_exit ?_
                refine hK8 _ _ ?_
                exact wK
        · refine aw_skip ?_
          refine hK8 _ _ ?_
          exact wK
      · refine aw_skip ?_
        refine hK8 _ _ ?_
        exact wK
end Go.Proofs.YtipmegjhlkhklaaDoor
