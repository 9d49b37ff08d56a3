/- Layer 10: the laws HeadHosts, HeadOrder, HeadBack, walked. No condition. -/
import Derived.Test.YtipmegjhlkhklaaDoorHdA
import Derived.Test.YtipmegjhlkhklaaDoorAt
namespace Go.Proofs.YtipmegjhlkhklaaDoor
set_option linter.all false
open Go Go.RowKit
set_option maxRecDepth 10000
set_option maxHeartbeats 4000000
theorem readA_len (l : List Fd) : (readR l).a.length ≤ szM l := by
  unfold readR
  split
  · show (lowM ((allM l).headD [])).length ≤ _
    rw [lowM_len]
    cases hv : allM l with
    | nil => simp
    | cons a r =>
      have hm0 : a ∈ allM l := by rw [hv]; exact List.mem_cons_self
      have hm : a ∈ valuesM l kA ++ valuesM l kH := hm0
      show a.length ≤ _
      rcases List.mem_append.1 hm with h | h <;> have := valuesM_sz h <;> omega
  · exact Nat.zero_le _
theorem con_HeadHosts {l : List Fd} (h : InL l) : Con Tryd.prog 5 [.v (.sl (fdV l))] [] 0 (.ret (.v (.bool true))) [] := by
  have hsm := in_small h
  have h2 := readR_len l
  have hal := readA_len l
  have hfl := fdV_len l
  have s1 : szM (l ++ [⟨kH, (readR l).a, false⟩]) = szM l + (4 + (readR l).a.length + 32) := by rw [szM_app]; rfl
  have s2 : szM (l ++ [⟨kH, (readR l).a ++ [120], false⟩]) = szM l + (4 + ((readR l).a ++ [120]).length + 32) := by rw [szM_app]; rfl
  have s3 : szM (l ++ [⟨kH, (readR l).a, false⟩, ⟨kH, (readR l).a, false⟩]) = szM l + ((4 + (readR l).a.length + 32) + (4 + (readR l).a.length + 32)) := by rw [szM_app]; simp [szM]; rfl
  rw [List.length_append] at s2
  refine con_of Tryd.func5 rfl (by show _ ≤ 82; simp) fun X Q hP hnt hnp hret hpan => ?_
  obtain ⟨P0, nt0, w0, K0, S0, np0, pin0⟩ := X
  simp only at hP hnt hnp
  subst hP hnp
  obtain rfl : nt0 = 82 := hnt
  refine aw_region fun K1 hK1 => ?_
  refine aL z_assign ?_
  refine awl_nil (hK1 _ _ ?_)
  clear hK1 K1
  refine aw_seq fun K2 hK2 => ?_
  refine aw_region fun K3 hK3 => ?_
  refine aL (z_call0 .nil en_9 (con_awake)) ?_
  refine aL z_not ?_
  refine awl_nil (hK3 _ _ ?_)
  clear hK3 K3
  refine aC (fun r1 c1 => ?_) (fun r1 c1 => ?_)
  · cases r1
  · refine aw_skip ?_
    refine hK2 _ _ ?_
    clear hK2
    refine aw_seq fun K4 hK4 => ?_
    refine aw_region fun K5 hK5 => ?_
    refine aL z_move ?_
    refine aL (z_call0 (eC .nil) en_10 (con_Bytes h.1 h.2)) ?_
    refine aL z_gtr ?_
    refine awl_nil (hK5 _ _ ?_)
    clear hK5 K5
    refine aC (fun r2 c2 => ?_) (fun r2 c2 => ?_)
    · clear r2
      refine aw_region fun K6 hK6 => ?_
      refine aL z_assign ?_
      refine awl_nil (hK6 _ _ ?_)
      clear hK6 K6
      refine aw_ret ?_
      refine (hret _ _ _ _ _ rfl (.tmp rfl .nil) rfl ?_ .nil rfl).1
      first
        | rfl
        | (simp [retD]; done)
        | (rw [hq1.1, hq1.2, hq2, hq3, sameQ_rfl]; rfl)
    · clear r2
      refine aw_skip ?_
      refine hK4 _ _ ?_
      clear hK4
      refine aw_region fun K7 hK7 => ?_
      have hsz := hsm (Int.not_lt.2 c2)
      have hll := szM_len l
      refine aL z_move ?_
      refine aL (z_call0 (eC .nil) en_11 (con_Read (l := l) (Nat.le_trans hsz (by decide)))) ?_
      refine aL z_move ?_
      refine aL z_extract ?_
      refine aL z_extract ?_
      refine aL (z_alloc 0 zc_26 zl_26) ?_
      refine aL (z_store sz_26) ?_
      refine aL z_assign ?_
      refine awl_nil (hK7 _ _ ?_)
      clear hK7 K7
      refine aw_seq fun K8 hK8 => ?_
      refine aw_region fun K9 hK9 => ?_
      refine aL z_move ?_
      refine aL z_neq ?_
      refine aL z_move ?_
      refine gL rfl rfl (ev_tmp rfl) (fun hg => z_move) ?_
      refine gL rfl rfl (ev_tmp rfl) (fun hg => z_call0 (eC (eC .nil)) en_17 (con_Values (k := kH) (Nat.le_trans hsz (by decide)))) ?_
      refine gL rfl rfl (ev_tmp rfl) (fun hg => z_len Tryd.underlying38) ?_
      refine gL rfl rfl (ev_tmp rfl) (fun hg => z_gtr) ?_
      refine aL z_or ?_
      refine awl_nil (hK9 _ _ ?_)
      clear hK9 K9
      refine aC (fun r3 c3 => ?_) (fun r3 c3 => ?_)
      · refine aw_region fun K10 hK10 => ?_
        refine aL z_assign ?_
        refine awl_nil (hK10 _ _ ?_)
        clear hK10 K10
        refine aw_ret ?_
        refine (hret _ _ _ _ _ rfl (.tmp rfl .nil) rfl ?_ .nil rfl).1
        first
          | rfl
          | (simp [retD]; done)
          | (rw [hq1.1, hq1.2, hq2, hq3, sameQ_rfl]; rfl)
      · refine aw_skip ?_
        refine hK8 _ _ ?_
        clear hK8
        refine aw_region fun K11 hK11 => ?_
        have hr : readE l = 0 := c3.1
        have hh : valuesM l kH = [] := by
          have h5 : ((stV (valuesM l kH)).length : Int) ≤ 0 := c3.2
          rw [stV_len] at h5
          exact List.length_eq_zero_iff.1 (by omega)
        have hq1 := host_same hr hh
        have hq2 := host_other hr hh
        have hq3 := host_two hr hh
        refine aL (z_fieldAddr fo_26_2) ?_
        refine aL (z_load sz_9) ?_
        refine aL (z_build (pC (pC .nil)) pl_34 zc_34 zl_34) ?_
        refine aL (z_alloc 1 zc_34 zl_34) ?_
        refine aL (z_store sz_34) ?_
        refine awl_nil (hK11 _ _ ?_)
        clear hK11 K11
        refine aw_regionD mx_all (by kernel_rfl) fun K12 hK12 => ?_
        refine aD (z_row 2 .nil Tryd.underlying22 sz_34 zc_34 zl_34 (c := [])) ?_
        refine aD z_move ?_
        refine aD (z_app Tryd.underlying22 zi_34 (hs := by first | exact bs_one _ | exact fdV_one _ | (simp; done))) ?_
        refine aD (z_load sz_34) ?_
        refine aD (z_lits (pC .nil) Tryd.underlying22 sz_34 zc_34 zl_34 (c := [[_, _, _]])) ?_
        refine aD (StepU.settle (z_app Tryd.underlying22 zi_34 (c' := fdV (l ++ [⟨kH, (readR l).a, false⟩])) (hs := by first | exact fdV_one _ | (simp; done)) (hc := fdV_snoc (a := l) (f := ⟨kH, (readR l).a, false⟩) (by simp)))) ?_
        refine aD (z_call0 (eC .nil) en_11 (con_Read (l := l ++ [⟨kH, (readR l).a, false⟩]) (by omega))) ?_
        refine aD z_move ?_
        refine aD z_extract ?_
        refine aD z_extract ?_
        refine aD (z_alloc 4 zc_26 zl_26) ?_
        refine aD (z_store sz_26) ?_
        refine aD z_assign ?_
        refine awd_nil (by kernel_rfl) (hK12 _ _ ?_)
        clear hK12 K12
        refine aw_regionD mx_all (by kernel_rfl) fun K13 hK13 => ?_
        refine aD (z_row 5 .nil Tryd.underlying22 sz_34 zc_34 zl_34 (c := [])) ?_
        refine aD z_move ?_
        refine aD (z_app Tryd.underlying22 zi_34 (hs := by first | exact bs_one _ | exact fdV_one _ | (simp; done))) ?_
        refine aD (z_fieldAddr fo_26_2) ?_
        refine aD (z_load sz_9) ?_
        refine aD z_addS ?_
        refine aD (z_build (pC (pC .nil)) pl_34 zc_34 zl_34) ?_
        refine aD (z_lits (pC .nil) Tryd.underlying22 sz_34 zc_34 zl_34 (c := [[_, _, _]])) ?_
        refine aD (StepU.settle (z_app Tryd.underlying22 zi_34 (c' := fdV (l ++ [⟨kH, (readR l).a ++ [120], false⟩])) (hs := by first | exact fdV_one _ | (simp; done)) (hc := fdV_snoc (a := l) (f := ⟨kH, (readR l).a ++ [120], false⟩) (by simp)))) ?_
        refine aD (z_call0 (eC .nil) en_11 (con_Read (l := l ++ [⟨kH, (readR l).a ++ [120], false⟩]) (by simp at s2; omega))) ?_
        refine aD z_move ?_
        refine aD z_extract ?_
        refine aD z_extract ?_
        refine aD (z_alloc 7 zc_26 zl_26) ?_
        refine aD (z_store sz_26) ?_
        refine aD z_assign ?_
        refine awd_nil (by kernel_rfl) (hK13 _ _ ?_)
        clear hK13 K13
        refine aw_regionD mx_all (by kernel_rfl) fun K14 hK14 => ?_
        refine aD (z_row 8 .nil Tryd.underlying22 sz_34 zc_34 zl_34 (c := [])) ?_
        refine aD z_move ?_
        refine aD (z_app Tryd.underlying22 zi_34 (hs := by first | exact bs_one _ | exact fdV_one _ | (simp; done))) ?_
        refine aD (z_load sz_34) ?_
        refine aD (z_load sz_34) ?_
        refine aD (z_lits (pC (pC .nil)) Tryd.underlying22 sz_34 zc_34 zl_34 (c := [[_, _, _], [_, _, _]])) ?_
        refine aD (StepU.settle (z_app Tryd.underlying22 zi_34 (c' := fdV (l ++ [⟨kH, (readR l).a, false⟩, ⟨kH, (readR l).a, false⟩])) (hs := by first | exact fdV_one _ | (simp; done)) (hc := fdV_join (a := l) (b := [⟨kH, (readR l).a, false⟩, ⟨kH, (readR l).a, false⟩]) (by simp)))) ?_
        refine aD (z_call0 (eC .nil) en_11 (con_Read (l := l ++ [⟨kH, (readR l).a, false⟩, ⟨kH, (readR l).a, false⟩]) (by omega))) ?_
        refine aD z_move ?_
        refine aD z_extract ?_
        refine aD z_extract ?_
        refine aD (z_alloc 10 zc_26 zl_26) ?_
        refine aD (z_store sz_26) ?_
        refine aD z_assign ?_
        refine awd_nil (by kernel_rfl) (hK14 _ _ ?_)
        clear hK14 K14
        refine aw_region fun K15 hK15 => ?_
        refine aL z_move ?_
        refine aL z_eql ?_
        refine aL z_move ?_
        refine gL rfl rfl (ev_tmp rfl) (fun hg => z_load sz_26) ?_
        refine gL rfl rfl (ev_tmp rfl) (fun hg => z_load sz_26) ?_
        refine gL rfl rfl (ev_tmp rfl) (fun hg => z_call0 (eC (eC .nil)) en_15 (con_sameQ (a := readR l) (b := readR (l ++ [⟨kH, (readR l).a, false⟩])) (by omega) (by rw [hq1.2]; omega))) ?_
        refine aL z_and ?_
        refine aL z_move ?_
        refine gL rfl rfl (ev_tmp rfl) (fun hg => z_move) ?_
        refine gL rfl rfl (ev_tmp rfl) (fun hg => z_eql) ?_
        refine aL z_and ?_
        refine aL z_move ?_
        refine gL rfl rfl (ev_tmp rfl) (fun hg => z_move) ?_
        refine gL rfl rfl (ev_tmp rfl) (fun hg => z_eql) ?_
        refine aL z_and ?_
        refine aL z_assign ?_
        refine awl_nil (hK15 _ _ ?_)
        clear hK15 K15
        refine aw_ret ?_
        refine (hret _ _ _ _ _ rfl (.tmp rfl .nil) rfl ?_ .nil rfl).1
        first
          | rfl
          | (simp [retD]; done)
          | (rw [hq1.1, hq1.2, hq2, hq3, sameQ_rfl]; rfl)
end Go.Proofs.YtipmegjhlkhklaaDoor
