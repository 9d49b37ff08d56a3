/- Layer 10: Read. No condition. -/
import Derived.Test.YtipmegjhlkhklaaDoorHdT
namespace Go.Proofs.YtipmegjhlkhklaaDoor
set_option linter.all false
open Go Go.RowKit
set_option maxRecDepth 10000
set_option maxHeartbeats 4000000
theorem readE_ask {l : List Fd} (h : ¬ askM names4 [] l = 0) : readE l = askM names4 [] l := if_pos h
theorem readE_head {l : List Fd} (h : askM names4 [] l = 0) (h2 : headM l = false) : readE l = 100 := by unfold readE; rw [if_neg (by omega), if_pos h2]
theorem readE_place {l : List Fd} (h : askM names4 [] l = 0) (h2 : headM l = true) (h3 : ¬ placeM l = 0) : readE l = placeM l := by unfold readE; rw [if_neg (by omega), if_neg (by simp [h2]), if_pos h3]
theorem readE_len {l : List Fd} (h : askM names4 [] l = 0) (h2 : headM l = true) (h3 : placeM l = 0) : readE l = (lenM l).2.2 := by unfold readE; rw [if_neg (by omega), if_neg (by simp [h2]), if_neg (by omega)]
theorem readE_0 {l : List Fd} (h : askM names4 [] l = 0) (hr : readE l = 0) : headM l = true ∧ placeM l = 0 ∧ (lenM l).2.2 = 0 := by
  by_cases h2 : headM l = true
  · by_cases h3 : placeM l = 0
    · exact ⟨h2, h3, by rw [← readE_len h h2 h3]; exact hr⟩
    · rw [readE_place h h2 h3] at hr; exact absurd hr h3
  · rw [readE_head h (by simpa using h2)] at hr; cases hr
abbrev Rq.csV (r : Rq) (d : D) : List D := [.v (.str r.m), .v (.str r.s), .v (.str r.a), .v (.str r.p), d]
theorem con_Read0 {l : List Fd} (hs : szM l ≤ 1099511627776) (hr : readE l = 0) : Con Tryd.prog 11 [.v (.sl (fdV l))] [] 0 (.ret (.tup [.agg ((readR l).csV (.view 0 0 0 (readR l).f.length)), .v (.int .i64 0)])) [(0, .row 0 3 34 (fdV (readR l).f))] := by
  have h0 : askM names4 [] l = 0 := by
    by_cases h : askM names4 [] l = 0
    · exact h
    · rw [readE_ask h] at hr; exact hr
  have hR : readR l = ⟨getM l [58, 109, 101, 116, 104, 111, 100], getM l [58, 115, 99, 104, 101, 109, 101], lowM ((allM l).headD []), getM l [58, 112, 97, 116, 104], outM l⟩ := if_pos hr
  rw [hR]
  obtain ⟨h1, h2, h3⟩ := readE_0 h0 hr
  have hz := sz_rest l
  have hz2 := sz_noh (restM l)
  have hpl : placeE (valuesM (restM l) kH) (saidM l) = 0 := by rw [host_rest, (place_eq h0).1]; exact h2
  have hps : placeS (valuesM (restM l) kH) (saidM l) = lowM ((allM l).headD []) := by rw [host_rest]; exact (place_eq h0).2 h2
  have hg1 := getM_sz l [58, 109, 101, 116, 104, 111, 100]
  have hg2 := getM_sz l [58, 112, 97, 116, 104]
  refine con_of Tryd.func11 rfl (by show _ ≤ 86; simp) fun X Q hP hnt hnp hret hpan => ?_
  obtain ⟨P0, nt0, w0, K0, S0, np0, pin0⟩ := X
  simp only at hP hnt hnp
  subst hP hnp
  obtain rfl : nt0 = 86 := hnt
  refine aw_region fun K1 hK1 => ?_
  refine aL (z_alloc 1 zc_26 zl_26) ?_
  refine aL z_assign ?_
  refine awl_nil (hK1 _ _ ?_)
  clear hK1 K1
  refine aw_region fun K2 hK2 => ?_
  refine aL z_move ?_
  refine aL (z_lits (pC (pC (pC (pC .nil)))) Tryd.underlying38 sz_9 zc_9 zl_9 (c := [[.str [58, 109, 101, 116, 104, 111, 100]], [.str [58, 115, 99, 104, 101, 109, 101]], [.str [58, 97, 117, 116, 104, 111, 114, 105, 116, 121]], [.str [58, 112, 97, 116, 104]]])) ?_
  refine aL (z_callG [50] (eC (eC .nil)) en_25 (con_gather0 (names := names4) (by decide) hs h0) .nil) ?_
  refine aL z_move ?_
  refine aL z_extract ?_
  refine aL z_extract ?_
  refine aL z_extract ?_
  refine aL z_assign ?_
  refine aL z_assign ?_
  refine aL z_assign ?_
  refine awl_nil (hK2 _ _ ?_)
  clear hK2 K2
  refine aw_seq fun K3 hK3 => ?_
  refine aw_region fun K4 hK4 => ?_
  refine aL z_move ?_
  refine aL z_neq ?_
  refine awl_nil (hK4 _ _ ?_)
  clear hK4 K4
  refine aC (fun r1 c1 => ?_) (fun r1 c1 => ?_)
  · exact absurd rfl c1
  · refine aw_skip ?_
    refine hK3 _ _ ?_
    clear hK3
    refine aw_region fun K5 hK5 => ?_
    refine aL z_move ?_
    refine aL (z_lookup Tryd.underlying47 Tryd.underlying9 zv_51 (.agg zl_51) (zs := [.str []]) (hd := look_get (by decide) l)) ?_
    refine aL (z_field ⟨_, _, Tryd.underlying51, rfl, rfl, sz_9⟩) ?_
    refine aL z_move ?_
    refine aL (z_lookup Tryd.underlying47 Tryd.underlying9 zv_51 (.agg zl_51) (zs := [.str []]) (hd := look_get (by decide) l)) ?_
    refine aL (z_field ⟨_, _, Tryd.underlying51, rfl, rfl, sz_9⟩) ?_
    refine aL z_move ?_
    refine aL (z_lookup Tryd.underlying47 Tryd.underlying9 zv_51 (.agg zl_51) (zs := [.str []]) (hd := look_get (by decide) l)) ?_
    refine aL (z_field ⟨_, _, Tryd.underlying51, rfl, rfl, sz_9⟩) ?_
    refine aL (z_build (pC (pC (pC .nil))) pl_26 zc_26 zl_26) ?_
    refine aL (z_alloc 2 zc_26 zl_26) ?_
    refine aL (z_store sz_26) ?_
    refine awl_nil (hK5 _ _ ?_)
    clear hK5 K5
    refine aw_seq fun K6 hK6 => ?_
    refine aw_region fun K7 hK7 => ?_
    refine aL (z_fieldAddr fo_26_0) ?_
    refine aL (z_load sz_9) ?_
    refine aL (z_call0 (eC .nil) en_26 (con_Token (by unfold maxLen; omega))) ?_
    refine aL z_not ?_
    refine aL z_move ?_
    refine gL rfl rfl (ev_tmp rfl) (fun hg => z_fieldAddr fo_26_0) ?_
    refine gL rfl rfl (ev_tmp rfl) (fun hg => z_load sz_9) ?_
    refine gL rfl rfl (ev_tmp rfl) (fun hg => z_eqlS) ?_
    refine aL z_or ?_
    refine aL z_move ?_
    refine gL rfl rfl (ev_tmp rfl) (fun hg => z_fieldAddr fo_26_1) ?_
    refine gL rfl rfl (ev_tmp rfl) (fun hg => z_load sz_9) ?_
    refine gL rfl rfl (ev_tmp rfl) (fun hg => z_neqS) ?_
    refine gL rfl rfl (ev_tmp rfl) (fun hg => z_move) ?_
    refine hL rfl rfl (ev_tmp rfl) (fun hg => z_fieldAddr fo_26_1) ?_
    refine hL rfl rfl (ev_tmp rfl) (fun hg => z_load sz_9) ?_
    refine hL rfl rfl (ev_tmp rfl) (fun hg => z_neqS) ?_
    refine gL rfl rfl (ev_tmp rfl) (fun hg => z_and) ?_
    refine aL z_or ?_
    refine aL z_move ?_
    refine gL rfl rfl (ev_tmp rfl) (fun hg => z_fieldAddr fo_26_3) ?_
    refine gL rfl rfl (ev_tmp rfl) (fun hg => z_load sz_9) ?_
    refine gL rfl rfl (ev_tmp rfl) (fun hg => z_fieldAddr fo_26_0) ?_
    refine gL rfl rfl (ev_tmp rfl) (fun hg => z_load sz_9) ?_
    refine gL rfl rfl (ev_tmp rfl) (fun hg => z_call0 (eC (eC .nil)) en_27 (con_path (by omega))) ?_
    refine gL rfl rfl (ev_tmp rfl) (fun hg => z_not) ?_
    refine aL z_or ?_
    refine awl_nil (hK7 _ _ ?_)
    clear hK7 K7
    refine aC (fun r2 c2 => ?_) (fun r2 c2 => ?_)
    · have := head_no c2
      rw [this] at h1
      cases h1
    · refine aw_skip ?_
      refine hK6 _ _ ?_
      clear hK6
      refine aw_region fun K8 hK8 => ?_
      refine aL z_move ?_
      refine aL (z_callG [51] (eC .nil) en_28 (con_hosts (l := restM l) (by omega)) .nil) ?_
      refine aL z_move ?_
      refine aL z_extract ?_
      refine aL z_extract ?_
      refine aL z_assign ?_
      refine aL z_assign ?_
      refine awl_nil (hK8 _ _ ?_)
      clear hK8 K8
      refine aw_region fun K9 hK9 => ?_
      refine aL z_move ?_
      refine aL z_move ?_
      refine aL (z_callG [51, 50] (eC (eC .nil)) en_29 (con_place (hs := valuesM (restM l) kH) (m := saidM l) (fun s h => by have := valuesM_sz h; omega) (fun s h => by have := said_sz h; omega)) (pA (pA .nil))) ?_
      refine aL z_move ?_
      refine aL z_extract ?_
      refine aL z_extract ?_
      refine aL (z_fieldAddr fo_26_2) ?_
      refine aL (z_store sz_9) ?_
      refine aL z_assign ?_
      refine awl_nil (hK9 _ _ ?_)
      clear hK9 K9
      rw [hpl, hps]
      refine aw_seq fun K10 hK10 => ?_
      refine aw_region fun K11 hK11 => ?_
      refine aL z_move ?_
      refine aL z_eql ?_
      refine awl_nil (hK11 _ _ ?_)
      clear hK11 K11
      refine aC (fun r3 c3 => ?_) (fun r3 c3 => ?_)
      · refine aw_region_last ?_
        refine aL z_move ?_
        refine aL (z_call0 (eC .nil) en_13 (con_Length (l := nohM (restM l)) (by omega))) ?_
        refine aL z_move ?_
        refine aL z_extract ?_
        refine aL z_extract ?_
        refine aL z_extract ?_
        refine aL z_assign ?_
        refine awl_nil ?_
        simp only [len_noh]
        refine hK10 _ _ ?_
        clear hK10
        refine aw_seq fun K12 hK12 => ?_
        refine aw_region fun K13 hK13 => ?_
        refine aL z_move ?_
        refine aL z_neq ?_
        refine awl_nil (hK13 _ _ ?_)
        clear hK13 K13
        refine aC (fun r4 c4 => ?_) (fun r4 c4 => ?_)
        · exact absurd h3 c4
        · refine aw_skip ?_
          refine hK12 _ _ ?_
          clear hK12
          refine aw_region fun K14 hK14 => ?_
          refine aL z_move ?_
          refine aL (z_call1 0 (eC .nil) en_30 (con_cookies (l := nohM (restM l)) (by omega))) ?_
          refine aL (z_fieldAddr fo_26_4) ?_
          refine aL (z_store sz_22) ?_
          refine awl_nil (hK14 _ _ ?_)
          clear hK14 K14
          rw [out_eq]
          refine aw_region fun K15 hK15 => ?_
          refine aL (z_load sz_26) ?_
          refine aL (z_store sz_26) ?_
          refine aL z_assign ?_
          refine awl_nil (hK15 _ _ ?_)
          clear hK15 K15
          refine aw_ret ?_
          refine (hret _ _ _ _ _ rfl (rCe sz_26 (.tmp rfl .nil)) rfl ?_ (.row rfl .nil) rfl).1
          rfl
      · exact absurd rfl c3
theorem con_Read1 {l : List Fd} (hs : szM l ≤ 1099511627776) (hr : ¬ readE l = 0) : Con Tryd.prog 11 [.v (.sl (fdV l))] [] 0 (.ret (.tup [.agg Rq.nil.cs, .v (.int .i64 (readE l))])) [] := by
  have hz := sz_rest l
  have hz2 := sz_noh (restM l)
  by_cases h0 : askM names4 [] l = 0
  · have hpl : placeE (valuesM (restM l) kH) (saidM l) = placeM l := by rw [host_rest, (place_eq h0).1]
    have hg1 := getM_sz l [58, 109, 101, 116, 104, 111, 100]
    have hg2 := getM_sz l [58, 112, 97, 116, 104]
    refine con_of Tryd.func11 rfl (by show _ ≤ 86; simp) fun X Q hP hnt hnp hret hpan => ?_
    obtain ⟨P0, nt0, w0, K0, S0, np0, pin0⟩ := X
    simp only at hP hnt hnp
    subst hP hnp
    obtain rfl : nt0 = 86 := hnt
    refine aw_region fun K1 hK1 => ?_
    refine aL (z_alloc 1 zc_26 zl_26) ?_
    refine aL z_assign ?_
    refine awl_nil (hK1 _ _ ?_)
    clear hK1 K1
    refine aw_region fun K2 hK2 => ?_
    refine aL z_move ?_
    refine aL (z_lits (pC (pC (pC (pC .nil)))) Tryd.underlying38 sz_9 zc_9 zl_9 (c := [[.str [58, 109, 101, 116, 104, 111, 100]], [.str [58, 115, 99, 104, 101, 109, 101]], [.str [58, 97, 117, 116, 104, 111, 114, 105, 116, 121]], [.str [58, 112, 97, 116, 104]]])) ?_
    refine aL (z_callG [50] (eC (eC .nil)) en_25 (con_gather0 (names := names4) (by decide) hs h0) .nil) ?_
    refine aL z_move ?_
    refine aL z_extract ?_
    refine aL z_extract ?_
    refine aL z_extract ?_
    refine aL z_assign ?_
    refine aL z_assign ?_
    refine aL z_assign ?_
    refine awl_nil (hK2 _ _ ?_)
    clear hK2 K2
    refine aw_seq fun K3 hK3 => ?_
    refine aw_region fun K4 hK4 => ?_
    refine aL z_move ?_
    refine aL z_neq ?_
    refine awl_nil (hK4 _ _ ?_)
    clear hK4 K4
    refine aC (fun r1 c1 => ?_) (fun r1 c1 => ?_)
    · exact absurd rfl c1
    · refine aw_skip ?_
      refine hK3 _ _ ?_
      clear hK3
      refine aw_region fun K5 hK5 => ?_
      refine aL z_move ?_
      refine aL (z_lookup Tryd.underlying47 Tryd.underlying9 zv_51 (.agg zl_51) (zs := [.str []]) (hd := look_get (by decide) l)) ?_
      refine aL (z_field ⟨_, _, Tryd.underlying51, rfl, rfl, sz_9⟩) ?_
      refine aL z_move ?_
      refine aL (z_lookup Tryd.underlying47 Tryd.underlying9 zv_51 (.agg zl_51) (zs := [.str []]) (hd := look_get (by decide) l)) ?_
      refine aL (z_field ⟨_, _, Tryd.underlying51, rfl, rfl, sz_9⟩) ?_
      refine aL z_move ?_
      refine aL (z_lookup Tryd.underlying47 Tryd.underlying9 zv_51 (.agg zl_51) (zs := [.str []]) (hd := look_get (by decide) l)) ?_
      refine aL (z_field ⟨_, _, Tryd.underlying51, rfl, rfl, sz_9⟩) ?_
      refine aL (z_build (pC (pC (pC .nil))) pl_26 zc_26 zl_26) ?_
      refine aL (z_alloc 2 zc_26 zl_26) ?_
      refine aL (z_store sz_26) ?_
      refine awl_nil (hK5 _ _ ?_)
      clear hK5 K5
      refine aw_seq fun K6 hK6 => ?_
      refine aw_region fun K7 hK7 => ?_
      refine aL (z_fieldAddr fo_26_0) ?_
      refine aL (z_load sz_9) ?_
      refine aL (z_call0 (eC .nil) en_26 (con_Token (by unfold maxLen; omega))) ?_
      refine aL z_not ?_
      refine aL z_move ?_
      refine gL rfl rfl (ev_tmp rfl) (fun hg => z_fieldAddr fo_26_0) ?_
      refine gL rfl rfl (ev_tmp rfl) (fun hg => z_load sz_9) ?_
      refine gL rfl rfl (ev_tmp rfl) (fun hg => z_eqlS) ?_
      refine aL z_or ?_
      refine aL z_move ?_
      refine gL rfl rfl (ev_tmp rfl) (fun hg => z_fieldAddr fo_26_1) ?_
      refine gL rfl rfl (ev_tmp rfl) (fun hg => z_load sz_9) ?_
      refine gL rfl rfl (ev_tmp rfl) (fun hg => z_neqS) ?_
      refine gL rfl rfl (ev_tmp rfl) (fun hg => z_move) ?_
      refine hL rfl rfl (ev_tmp rfl) (fun hg => z_fieldAddr fo_26_1) ?_
      refine hL rfl rfl (ev_tmp rfl) (fun hg => z_load sz_9) ?_
      refine hL rfl rfl (ev_tmp rfl) (fun hg => z_neqS) ?_
      refine gL rfl rfl (ev_tmp rfl) (fun hg => z_and) ?_
      refine aL z_or ?_
      refine aL z_move ?_
      refine gL rfl rfl (ev_tmp rfl) (fun hg => z_fieldAddr fo_26_3) ?_
      refine gL rfl rfl (ev_tmp rfl) (fun hg => z_load sz_9) ?_
      refine gL rfl rfl (ev_tmp rfl) (fun hg => z_fieldAddr fo_26_0) ?_
      refine gL rfl rfl (ev_tmp rfl) (fun hg => z_load sz_9) ?_
      refine gL rfl rfl (ev_tmp rfl) (fun hg => z_call0 (eC (eC .nil)) en_27 (con_path (by omega))) ?_
      refine gL rfl rfl (ev_tmp rfl) (fun hg => z_not) ?_
      refine aL z_or ?_
      refine awl_nil (hK7 _ _ ?_)
      clear hK7 K7
      refine aC (fun r2 c2 => ?_) (fun r2 c2 => ?_)
      · refine aw_region fun K8 hK8 => ?_
        refine aL (z_build .nil pl_26 zc_26 zl_26) ?_
        refine aL (z_store sz_26) ?_
        refine aL z_assign ?_
        refine awl_nil (hK8 _ _ ?_)
        clear hK8 K8
        (have he : readE l = 100 := readE_head h0 (head_no c2); refine aw_weak (fr' := [(2, .ptr 1 0), (3, .v (.int .i64 (readE l)))]) (ah' := [(1, .box Rq.nil.cs)]) (weak_all none trivial (.box rfl (by (repeat (first | apply DWs.cons .nil | apply DWs.cons (.keep rfl))); exact .nil) .nil) (.cons rfl (.keep rfl) (.cons rfl (.eq (d_int he.symm) (.keep rfl)) .nil))) ?_)
        refine aw_ret ?_
        refine (hret _ _ _ _ _ rfl (rCe sz_26 (.tmp rfl .nil)) rfl ?_ .nil rfl).1
        rfl
      · refine aw_skip ?_
        refine hK6 _ _ ?_
        clear hK6
        refine aw_region fun K9 hK9 => ?_
        refine aL z_move ?_
        refine aL (z_callG [51] (eC .nil) en_28 (con_hosts (l := restM l) (by omega)) .nil) ?_
        refine aL z_move ?_
        refine aL z_extract ?_
        refine aL z_extract ?_
        refine aL z_assign ?_
        refine aL z_assign ?_
        refine awl_nil (hK9 _ _ ?_)
        clear hK9 K9
        refine aw_region fun K10 hK10 => ?_
        refine aL z_move ?_
        refine aL z_move ?_
        refine aL (z_callG [51, 50] (eC (eC .nil)) en_29 (con_place (hs := valuesM (restM l) kH) (m := saidM l) (fun s h => by have := valuesM_sz h; omega) (fun s h => by have := said_sz h; omega)) (pA (pA .nil))) ?_
        refine aL z_move ?_
        refine aL z_extract ?_
        refine aL z_extract ?_
        refine aL (z_fieldAddr fo_26_2) ?_
        refine aL (z_store sz_9) ?_
        refine aL z_assign ?_
        refine awl_nil (hK10 _ _ ?_)
        clear hK10 K10
        rw [hpl]
        refine aw_seq fun K11 hK11 => ?_
        refine aw_region fun K12 hK12 => ?_
        refine aL z_move ?_
        refine aL z_eql ?_
        refine awl_nil (hK12 _ _ ?_)
        clear hK12 K12
        refine aC (fun r3 c3 => ?_) (fun r3 c3 => ?_)
        · refine aw_region_last ?_
          refine aL z_move ?_
          refine aL (z_call0 (eC .nil) en_13 (con_Length (l := nohM (restM l)) (by omega))) ?_
          refine aL z_move ?_
          refine aL z_extract ?_
          refine aL z_extract ?_
          refine aL z_extract ?_
          refine aL z_assign ?_
          refine awl_nil ?_
          simp only [len_noh]
          refine hK11 _ _ ?_
          clear hK11
          refine aw_seq fun K13 hK13 => ?_
          refine aw_region fun K14 hK14 => ?_
          refine aL z_move ?_
          refine aL z_neq ?_
          refine awl_nil (hK14 _ _ ?_)
          clear hK14 K14
          refine aC (fun r4 c4 => ?_) (fun r4 c4 => ?_)
          · refine aw_region fun K15 hK15 => ?_
            refine aL (z_build .nil pl_26 zc_26 zl_26) ?_
            refine aL z_move ?_
            refine aL (z_store sz_26) ?_
            refine aL z_assign ?_
            refine awl_nil (hK15 _ _ ?_)
            clear hK15 K15
            (have he := readE_len h0 (head_yes c2) c3; refine aw_weak (fr' := [(2, .ptr 1 0), (3, .v (.int .i64 (readE l)))]) (ah' := [(1, .box Rq.nil.cs)]) (weak_all none trivial (.box rfl (by (repeat (first | apply DWs.cons .nil | apply DWs.cons (.keep rfl))); exact .nil) .nil) (.cons rfl (.keep rfl) (.cons rfl (.eq (d_int he.symm) (.keep rfl)) .nil))) ?_)
            refine aw_ret ?_
            refine (hret _ _ _ _ _ rfl (rCe sz_26 (.tmp rfl .nil)) rfl ?_ .nil rfl).1
            rfl
          · exact absurd ((readE_len h0 (head_yes c2) c3).trans c4) hr
        · refine aw_skip ?_
          refine hK11 _ _ ?_
          clear hK11
          refine aw_seq fun K16 hK16 => ?_
          refine aw_region fun K17 hK17 => ?_
          refine aL z_move ?_
          refine aL z_neq ?_
          refine awl_nil (hK17 _ _ ?_)
          clear hK17 K17
          refine aC (fun r5 c5 => ?_) (fun r5 c5 => ?_)
          · refine aw_region fun K18 hK18 => ?_
            refine aL (z_build .nil pl_26 zc_26 zl_26) ?_
            refine aL z_move ?_
            refine aL (z_store sz_26) ?_
            refine aL z_assign ?_
            refine awl_nil (hK18 _ _ ?_)
            clear hK18 K18
            (have he := readE_place h0 (head_yes c2) c3; refine aw_weak (fr' := [(2, .ptr 1 0), (3, .v (.int .i64 (readE l)))]) (ah' := [(1, .box Rq.nil.cs)]) (weak_all none trivial (.box rfl (by (repeat (first | apply DWs.cons .nil | apply DWs.cons (.keep rfl))); exact .nil) .nil) (.cons rfl (.keep rfl) (.cons rfl (.eq (d_int he.symm) (.keep rfl)) .nil))) ?_)
            refine aw_ret ?_
            refine (hret _ _ _ _ _ rfl (rCe sz_26 (.tmp rfl .nil)) rfl ?_ .nil rfl).1
            rfl
          · exact absurd c5 c3
  · have he := readE_ask h0
    refine con_of Tryd.func11 rfl (by show _ ≤ 86; simp) fun X Q hP hnt hnp hret hpan => ?_
    obtain ⟨P0, nt0, w0, K0, S0, np0, pin0⟩ := X
    simp only at hP hnt hnp
    subst hP hnp
    obtain rfl : nt0 = 86 := hnt
    refine aw_region fun K1 hK1 => ?_
    refine aL (z_alloc 1 zc_26 zl_26) ?_
    refine aL z_assign ?_
    refine awl_nil (hK1 _ _ ?_)
    clear hK1 K1
    refine aw_region fun K2 hK2 => ?_
    refine aL z_move ?_
    refine aL (z_lits (pC (pC (pC (pC .nil)))) Tryd.underlying38 sz_9 zc_9 zl_9 (c := [[.str [58, 109, 101, 116, 104, 111, 100]], [.str [58, 115, 99, 104, 101, 109, 101]], [.str [58, 97, 117, 116, 104, 111, 114, 105, 116, 121]], [.str [58, 112, 97, 116, 104]]])) ?_
    refine aL (z_call0 (eC (eC .nil)) en_25 (con_gather1 (names := names4) (by decide) hs h0)) ?_
    refine aL z_move ?_
    refine aL z_extract ?_
    refine aL z_extract ?_
    refine aL z_extract ?_
    refine aL z_assign ?_
    refine aL z_assign ?_
    refine aL z_assign ?_
    refine awl_nil (hK2 _ _ ?_)
    clear hK2 K2
    refine aw_seq fun K3 hK3 => ?_
    refine aw_region fun K4 hK4 => ?_
    refine aL z_move ?_
    refine aL z_neq ?_
    refine awl_nil (hK4 _ _ ?_)
    clear hK4 K4
    refine aC (fun r1 c1 => ?_) (fun r1 c1 => ?_)
    · refine aw_region fun K5 hK5 => ?_
      refine aL (z_build .nil pl_26 zc_26 zl_26) ?_
      refine aL z_move ?_
      refine aL (z_store sz_26) ?_
      refine aL z_assign ?_
      refine awl_nil (hK5 _ _ ?_)
      clear hK5 K5
      refine aw_weak (fr' := [(2, .ptr 1 0), (3, .v (.int .i64 (readE l)))]) (ah' := [(1, .box Rq.nil.cs)]) (weak_all none trivial (.box rfl (by (repeat (first | apply DWs.cons .nil | apply DWs.cons (.keep rfl))); exact .nil) .nil) (.cons rfl (.keep rfl) (.cons rfl (.eq (d_int he.symm) (.keep rfl)) .nil))) ?_
      refine aw_ret ?_
      refine (hret _ _ _ _ _ rfl (rCe sz_26 (.tmp rfl .nil)) rfl ?_ .nil rfl).1
      rfl
    · exact absurd c1 h0
/-- A request as it settles. -/
theorem con_Read {l : List Fd} (hs : szM l ≤ 1099511627776) : Con Tryd.prog 11 [.v (.sl (fdV l))] [] 0 (.ret (.tup [.agg (readR l).cs, .v (.int .i64 (readE l))])) [] := by
  by_cases hr : readE l = 0
  · rw [hr]
    exact con_weak (con_Read0 hs hr) fun X _ => weak_all (some (0, 0, fdV (readR l).f)) ⟨rfl, _, _, rfl⟩ .nil (.cons rfl (.tup (.cons (.agg (.cons (.keep rfl) (.cons (.keep rfl) (.cons (.keep rfl) (.cons (.keep rfl) (.cons (.view rfl (cutF (by simp))) .nil)))))) (.cons (.keep rfl) .nil))) .nil)
  · rw [show readR l = Rq.nil from if_neg hr]
    exact con_Read1 hs hr
end Go.Proofs.YtipmegjhlkhklaaDoor
