/- Layer 10: Trailer, Answer, ReadAnswer. No condition. -/
import Derived.Test.YtipmegjhlkhklaaDoorHdQ
namespace Go.Proofs.YtipmegjhlkhklaaDoor
set_option linter.all false
open Go Go.RowKit
set_option maxRecDepth 10000
set_option maxHeartbeats 4000000
theorem con_Trailer {l : List Fd} (hs : szM l ≤ 1099511627776) : Con Tryd.prog 18 [.v (.sl (fdV l))] [] 0 (.ret (.v (.int .i64 (askM [] [] l)))) [] := by
  by_cases h0 : askM [] [] l = 0
  · rw [h0]
    refine con_of Tryd.func18 rfl (by show _ ≤ 13; simp) fun X Q hP hnt hnp hret hpan => ?_
    obtain ⟨P0, nt0, w0, K0, S0, np0, pin0⟩ := X
    simp only at hP hnt hnp
    subst hP hnp
    obtain rfl : nt0 = 13 := hnt
    refine aw_region fun K1 hK1 => ?_
    refine aL z_assign ?_
    refine awl_nil (hK1 _ _ ?_)
    clear hK1 K1
    refine aw_region fun K2 hK2 => ?_
    refine aL z_move ?_
    refine aL (z_callG [50] (eC (eC .nil)) en_25 (con_gather0 (names := []) (by decide) hs h0) .nil) ?_
    refine aL z_move ?_
    refine aL z_extract ?_
    refine aL z_extract ?_
    refine aL z_extract ?_
    refine aL z_assign ?_
    refine aL z_assign ?_
    refine aL z_assign ?_
    refine awl_nil (hK2 _ _ ?_)
    clear hK2 K2
    refine aw_region fun K3 hK3 => ?_
    refine aL z_move ?_
    refine aL z_assign ?_
    refine awl_nil (hK3 _ _ ?_)
    clear hK3 K3
    refine aw_ret ?_
    refine (hret _ _ _ _ _ rfl (.tmp rfl .nil) rfl ?_ .nil rfl).1
    rfl
  · refine con_of Tryd.func18 rfl (by show _ ≤ 13; simp) fun X Q hP hnt hnp hret hpan => ?_
    obtain ⟨P0, nt0, w0, K0, S0, np0, pin0⟩ := X
    simp only at hP hnt hnp
    subst hP hnp
    obtain rfl : nt0 = 13 := hnt
    refine aw_region fun K1 hK1 => ?_
    refine aL z_assign ?_
    refine awl_nil (hK1 _ _ ?_)
    clear hK1 K1
    refine aw_region fun K2 hK2 => ?_
    refine aL z_move ?_
    refine aL (z_call0 (eC (eC .nil)) en_25 (con_gather1 (names := []) (by decide) hs h0)) ?_
    refine aL z_move ?_
    refine aL z_extract ?_
    refine aL z_extract ?_
    refine aL z_extract ?_
    refine aL z_assign ?_
    refine aL z_assign ?_
    refine aL z_assign ?_
    refine awl_nil (hK2 _ _ ?_)
    clear hK2 K2
    refine aw_region fun K3 hK3 => ?_
    refine aL z_move ?_
    refine aL z_assign ?_
    refine awl_nil (hK3 _ _ ?_)
    clear hK3 K3
    refine aw_ret ?_
    refine (hret _ _ _ _ _ rfl (.tmp rfl .nil) rfl ?_ .nil rfl).1
    rfl
def lowF (f : Fd) : Fd := ⟨lowM f.n, f.v, f.s⟩
theorem answerM_succ {n : Int} {l : List Fd} {q : Nat} (h : q < l.length) : answerM n (l.take (q + 1)) = answerM n (l.take q) ++ [lowF l[q]] := by
  unfold answerM; rw [take_succ' h, List.map_append]; rfl
theorem answerM_len (n : Int) (l : List Fd) : (answerM n l).length = l.length + 1 := by simp [answerM]
theorem con_Answer1 {n : Int} {l : List Fd} (h : ¬ answerE n = 0) : Con Tryd.prog 20 [.v (.int .i64 n), .v (.sl (fdV l))] [] 0 (.ret (.tup [.v (.lit (.slice none 0 0)), .v (.int .i64 (answerE n))])) [] := by
  have he : n < 100 ∨ 999 < n := by unfold answerE at h; split at h; assumption; exact absurd rfl h
  have e1 : answerE n = 1 := if_pos he
  rw [e1]
  refine con_of Tryd.func20 rfl (by show _ ≤ 35; simp) fun X Q hP hnt hnp hret hpan => ?_
  obtain ⟨P0, nt0, w0, K0, S0, np0, pin0⟩ := X
  simp only at hP hnt hnp
  subst hP hnp
  obtain rfl : nt0 = 35 := hnt
  refine aw_region fun K1 hK1 => ?_
  refine aL z_assign ?_
  refine aL z_assign ?_
  refine awl_nil (hK1 _ _ ?_)
  clear hK1 K1
  refine aw_seq fun K2 hK2 => ?_
  refine aw_region fun K3 hK3 => ?_
  refine aL z_move ?_
  refine aL z_lss ?_
  refine aL z_move ?_
  refine gL rfl rfl (ev_tmp rfl) (fun hg => z_move) ?_
  refine gL rfl rfl (ev_tmp rfl) (fun hg => z_gtr) ?_
  refine aL z_or ?_
  refine awl_nil (hK3 _ _ ?_)
  clear hK3 K3
  refine aC (fun r1 c1 => ?_) (fun r1 c1 => ?_)
  · refine aw_region fun K4 hK4 => ?_
    refine aL z_assign ?_
    refine aL z_assign ?_
    refine awl_nil (hK4 _ _ ?_)
    clear hK4 K4
    refine aw_ret ?_
    refine (hret _ _ _ _ _ rfl (.tmp rfl (.tmp rfl .nil)) rfl ?_ .nil rfl).1
    rfl
  · exfalso
    omega
theorem con_Answer0 {n : Int} {l : List Fd} (hs : szM l ≤ 1099511627776) (h : answerE n = 0) : Con Tryd.prog 20 [.v (.int .i64 n), .v (.sl (fdV l))] [] 0 (.ret (.tup [.view 0 0 0 (answerM n l).length, .v (.int .i64 0)])) [(0, .row 0 3 34 (fdV (answerM n l)))] := by
  have he : ¬ (n < 100 ∨ 999 < n) := by unfold answerE at h; split at h; cases h; assumption
  have hll := szM_len l
  refine con_of Tryd.func20 rfl (by show _ ≤ 35; simp) fun X Q hP hnt hnp hret hpan => ?_
  obtain ⟨P0, nt0, w0, K0, S0, np0, pin0⟩ := X
  simp only at hP hnt hnp
  subst hP hnp
  obtain rfl : nt0 = 35 := hnt
  refine aw_region fun K1 hK1 => ?_
  refine aL z_assign ?_
  refine aL z_assign ?_
  refine awl_nil (hK1 _ _ ?_)
  clear hK1 K1
  refine aw_seq fun K2 hK2 => ?_
  refine aw_region fun K3 hK3 => ?_
  refine aL z_move ?_
  refine aL z_lss ?_
  refine aL z_move ?_
  refine gL rfl rfl (ev_tmp rfl) (fun hg => z_move) ?_
  refine gL rfl rfl (ev_tmp rfl) (fun hg => z_gtr) ?_
  refine aL z_or ?_
  refine awl_nil (hK3 _ _ ?_)
  clear hK3 K3
  refine aC (fun r1 c1 => ?_) (fun r1 c1 => ?_)
  · exfalso
    omega
  · refine aw_skip ?_
    refine hK2 _ _ ?_
    clear hK2
    refine aw_region fun K4 hK4 => ?_
    refine aL z_move ?_
    refine aL (z_call0 (eC .nil) en_38 (con_Digits (by omega))) ?_
    refine aL (z_build (pC (pC .nil)) pl_34 zc_34 zl_34) ?_
    refine aL (z_row 0 (pC .nil) Tryd.underlying22 sz_34 zc_34 zl_34 (c := [[.str [58, 115, 116, 97, 116, 117, 115], .str (digs 10 n), .bool false]])) ?_
    refine aL z_assign ?_
    refine awl_nil (hK4 _ _ ?_)
    clear hK4 K4
    refine aw_seq fun K5 hK5 => ?_
    refine aw_region fun K6 hK6 => ?_
    refine aL z_move ?_
    refine aL (z_len Tryd.underlying22) ?_
    refine aL z_move ?_
    refine awl_nil (hK6 _ _ ?_)
    clear hK6 K6
    refine aw_block ?_
    refine aw_loop (α := {x : Nat // x ≤ l.length}) (fun x => ([(19, .v (.sl (fdV l))), (20, .v (.int .i64 (l.length : Int))), (21, .v (.int .i64 (x.1 : Int))), (6, .view 0 0 0 (answerM n (l.take x.1)).length)], [(0, .row 0 3 34 (fdV (answerM n (l.take x.1))))])) (fun x => l.length - x.1) ⟨0, by omega⟩ ?_ ?_
    · dsimp only
      exact wK
    · rintro ⟨q, hq⟩ K7 hK7
      dsimp only
      refine aw_region fun K8 hK8 => ?_
      refine aL z_lss ?_
      refine awl_nil (hK8 _ _ ?_)
      clear hK8 K8
      refine aw_seq fun K9 hK9 => ?_
      refine aC (fun r2 c2 => ?_) (fun r2 c2 => ?_)
      · refine aw_skip ?_
        refine hK9 _ _ ?_
        clear hK9
        refine aw_seq fun K10 hK10 => ?_
        refine aw_block ?_
        refine aw_region fun K11 hK11 => ?_
        have hlt : q < l.length := by omega
        have hi := fdV_get hlt
        have hal := answerM_len n (l.take q)
        have htl := take_le' l q
        refine aL (z_indexAddr Tryd.underlying22 sz_34) ?_
        refine aL (z_loadRef sz_34) ?_
        refine aL (z_alloc 1 zc_34 zl_34) ?_
        refine aL (z_store sz_34) ?_
        refine awl_nil (hK11 _ _ ?_)
        clear hK11 K11
        refine aw_region fun K12 hK12 => ?_
        refine aL (z_fieldAddr fo_34_0) ?_
        refine aL (z_load sz_9) ?_
        refine aL (z_call0 (eC .nil) en_39 (con_Lower (by have := szM_at hlt; omega))) ?_
        refine aL (z_fieldAddr fo_34_0) ?_
        refine aL (z_store sz_9) ?_
        refine awl_nil (hK12 _ _ ?_)
        clear hK12 K12
        refine aw_region_last ?_
        refine aL z_move ?_
        refine aL (z_load sz_34) ?_
        refine aL (z_lits (pC .nil) Tryd.underlying22 sz_34 zc_34 zl_34 (c := [[_, _, _]])) ?_
        refine aL (z_app Tryd.underlying22 zi_34) ?_
        refine aL z_assign ?_
        refine awl_nil ?_
        refine hK10 _ _ ?_
        clear hK10
        refine aw_region_last ?_
        refine aL z_add ?_
        refine aL z_move ?_
        refine awl_nil ?_
        refine hK7 _ _ ⟨q + 1, by omega⟩ (by dsimp only; omega) ?_
        dsimp only
        rw [answerM_succ hlt]
        exact Weak.trans (weak_rever 0 0 rfl) (wK (ha := .row rfl (fdV_snoc (f := lowF l[q]) rfl) .nil))
      · refine aw_exit ?_
        refine hK5 _ _ ?_
        clear hK5
        refine aw_region fun K13 hK13 => ?_
        refine aL z_move ?_
        refine aL z_assign ?_
        refine aL z_assign ?_
        refine awl_nil (hK13 _ _ ?_)
        clear hK13 K13
        have hx : q = l.length := (by omega)
        subst hx
        rw [List.take_length]
        refine aw_ret ?_
        refine (hret _ _ _ _ _ rfl (.tmp rfl (.tmp rfl .nil)) rfl ?_ (.row rfl .nil) rfl).1
        rfl
theorem ra_bad {l : List Fd} (h : ¬ raE l = 0) : raN l = 0 ∧ raL l = [] := by unfold raN raL; rw [if_neg h, if_neg h]; exact ⟨rfl, rfl⟩
theorem ra_ok {l : List Fd} (h : raE l = 0) : raN l = numV 10 (getM l kS) ∧ raL l = restM l := by unfold raN raL; rw [if_pos h, if_pos h]; exact ⟨rfl, rfl⟩
theorem raE_ask {l : List Fd} (h : ¬ askM [kS] [] l = 0) : raE l = askM [kS] [] l := if_pos h
theorem raE_stat {l : List Fd} (h : askM [kS] [] l = 0) (h2 : statM l = false) : raE l = 100 := by unfold raE; rw [if_neg (by omega), if_pos h2]
theorem raE_len {l : List Fd} (h : askM [kS] [] l = 0) (h2 : statM l = true) : raE l = (lenM l).2.2 := by unfold raE; rw [if_neg (by omega), if_neg (by simp [h2])]
theorem con_ReadAnswer {l : List Fd} (hs : szM l ≤ 1099511627776) : Con Tryd.prog 22 [.v (.sl (fdV l))] [] 0 (.ret (.tup [.v (.int .i64 (raN l)), .v (.sl (fdV (raL l))), .v (.int .i64 (raE l))])) [] := by
  have hz := sz_rest l
  have hg := getM_sz l kS
  by_cases h0 : askM [kS] [] l = 0
  · refine con_of Tryd.func22 rfl (by show _ ≤ 54; simp) fun X Q hP hnt hnp hret hpan => ?_
    obtain ⟨P0, nt0, w0, K0, S0, np0, pin0⟩ := X
    simp only at hP hnt hnp
    subst hP hnp
    obtain rfl : nt0 = 54 := hnt
    refine aw_region fun K1 hK1 => ?_
    refine aL z_assign ?_
    refine aL z_assign ?_
    refine aL z_assign ?_
    refine awl_nil (hK1 _ _ ?_)
    clear hK1 K1
    refine aw_region fun K2 hK2 => ?_
    refine aL z_move ?_
    refine aL (z_lits (pC .nil) Tryd.underlying38 sz_9 zc_9 zl_9 (c := [[.str kS]])) ?_
    refine aL (z_callG [50] (eC (eC .nil)) en_25 (con_gather0 (names := [kS]) (by decide) hs h0) .nil) ?_
    refine aL z_move ?_
    refine aL z_extract ?_
    refine aL z_extract ?_
    refine aL z_extract ?_
    refine aL z_assign ?_
    refine aL z_assign ?_
    refine aL z_assign ?_
    refine awl_nil (hK2 _ _ ?_)
    clear hK2 K2
    refine aw_seq fun K3 hK3 => ?_
    refine aw_region fun K4 hK4 => ?_
    refine aL z_move ?_
    refine aL z_neq ?_
    refine awl_nil (hK4 _ _ ?_)
    clear hK4 K4
    refine aC (fun r1 c1 => ?_) (fun r1 c1 => ?_)
    · exact absurd rfl c1
    · refine aw_skip ?_
      refine hK3 _ _ ?_
      clear hK3
      refine aw_region fun K5 hK5 => ?_
      refine aL z_move ?_
      refine aL (z_lookup Tryd.underlying47 Tryd.underlying9 zv_51 (.agg zl_51) (zs := [.str []]) (hd := look_get (k := kS) (by decide) l)) ?_
      refine aL (z_field ⟨_, _, Tryd.underlying51, rfl, rfl, sz_9⟩) ?_
      refine aL z_assign ?_
      refine awl_nil (hK5 _ _ ?_)
      clear hK5 K5
      refine aw_region fun K6 hK6 => ?_
      refine aL z_move ?_
      refine aL (z_call0 (eC .nil) en_36 (con_Decimal (by unfold maxLen; omega))) ?_
      refine aL z_move ?_
      refine aL z_extract ?_
      refine aL z_extract ?_
      refine aL z_assign ?_
      refine aL z_assign ?_
      refine awl_nil (hK6 _ _ ?_)
      clear hK6 K6
      refine aw_seq fun K7 hK7 => ?_
      refine aw_region fun K8 hK8 => ?_
      refine aL z_move ?_
      refine aL z_neq ?_
      refine aL z_move ?_
      refine gL rfl rfl (ev_tmp rfl) (fun hg => z_move) ?_
      refine gL rfl rfl (ev_tmp rfl) (fun hg => z_lenS Tryd.underlying9) ?_
      refine gL rfl rfl (ev_tmp rfl) (fun hg => z_neq) ?_
      refine aL z_or ?_
      refine aL z_move ?_
      refine gL rfl rfl (ev_tmp rfl) (fun hg => z_move) ?_
      refine gL rfl rfl (ev_tmp rfl) (fun hg => z_lss) ?_
      refine aL z_or ?_
      refine awl_nil (hK8 _ _ ?_)
      clear hK8 K8
      refine aC (fun r2 c2 => ?_) (fun r2 c2 => ?_)
      · refine aw_region fun K9 hK9 => ?_
        refine aL z_assign ?_
        refine aL z_assign ?_
        refine aL z_assign ?_
        refine awl_nil (hK9 _ _ ?_)
        clear hK9 K9
        (have hst : statM l = false := (by unfold statM; rw [decide_eq_false_iff_not]; omega); have he := raE_stat h0 hst; obtain ⟨hn, hl⟩ := ra_bad (l := l) (by omega); refine aw_weak (weak_all (fr' := [(2, .v (.int .i64 (raN l))), (3, .v (.sl (fdV (raL l)))), (4, .v (.int .i64 (raE l)))]) (ah' := []) none trivial .nil (.cons rfl (.eq (d_int hn.symm) (.keep rfl)) (.cons rfl (.eq' .nil (by rw [hl]; rfl)) (.cons rfl (.eq (d_int he.symm) (.keep rfl)) .nil)))) ?_)
        refine aw_ret ?_
        refine (hret _ _ _ _ _ rfl (.tmp rfl (.tmp rfl (.tmp rfl .nil))) rfl ?_ .nil rfl).1
        rfl
      · refine aw_skip ?_
        refine hK7 _ _ ?_
        clear hK7
        refine aw_seq fun K10 hK10 => ?_
        refine aw_region fun K11 hK11 => ?_
        refine aL z_move ?_
        refine aL (z_call0 (eC .nil) en_13 (con_Length (l := restM l) (by omega))) ?_
        refine aL z_move ?_
        refine aL z_extract ?_
        refine aL z_extract ?_
        refine aL z_extract ?_
        refine aL z_assign ?_
        refine aL z_assign ?_
        refine aL z_assign ?_
        refine awl_nil (hK11 _ _ ?_)
        clear hK11 K11
        simp only [len_rest]
        refine aw_region fun K12 hK12 => ?_
        refine aL z_move ?_
        refine aL z_neq ?_
        refine awl_nil (hK12 _ _ ?_)
        clear hK12 K12
        refine aC (fun r3 c3 => ?_) (fun r3 c3 => ?_)
        · refine aw_region fun K13 hK13 => ?_
          refine aL z_move ?_
          refine aL z_assign ?_
          refine aL z_assign ?_
          refine aL z_assign ?_
          refine awl_nil (hK13 _ _ ?_)
          clear hK13 K13
          (have hst : statM l = true := (by unfold statM; rw [decide_eq_true_iff]; omega); have he := raE_len h0 hst; have hne : ¬ raE l = 0 := (by omega); obtain ⟨hn, hl⟩ := ra_bad hne; refine aw_weak (weak_all (fr' := [(2, .v (.int .i64 (raN l))), (3, .v (.sl (fdV (raL l)))), (4, .v (.int .i64 (raE l)))]) (ah' := []) none trivial .nil (.cons rfl (.eq (d_int hn.symm) (.keep rfl)) (.cons rfl (.eq' .nil (by rw [hl]; rfl)) (.cons rfl (.eq (d_int he.symm) (.keep rfl)) .nil)))) ?_)
          refine aw_ret ?_
          refine (hret _ _ _ _ _ rfl (.tmp rfl (.tmp rfl (.tmp rfl .nil))) rfl ?_ .nil rfl).1
          rfl
        · refine aw_skip ?_
          refine hK10 _ _ ?_
          clear hK10
          refine aw_region fun K14 hK14 => ?_
          refine aL z_move ?_
          refine aL z_move ?_
          refine aL z_assign ?_
          refine aL z_assign ?_
          refine aL z_assign ?_
          refine awl_nil (hK14 _ _ ?_)
          clear hK14 K14
          (have hst : statM l = true := (by unfold statM; rw [decide_eq_true_iff]; omega); have he := raE_len h0 hst; have he : raE l = 0 := (by omega); obtain ⟨hn, hl⟩ := ra_ok he; refine aw_weak (weak_all (fr' := [(2, .v (.int .i64 (raN l))), (3, .v (.sl (fdV (raL l)))), (4, .v (.int .i64 (raE l)))]) (ah' := []) none trivial .nil (.cons rfl (.eq (d_int hn.symm) (.keep rfl)) (.cons rfl (.eq (congrArg (fun z => D.v (.sl (fdV z))) hl.symm) (.keep rfl)) (.cons rfl (.eq (d_int he.symm) (.keep rfl)) .nil)))) ?_)
          refine aw_ret ?_
          refine (hret _ _ _ _ _ rfl (.tmp rfl (.tmp rfl (.tmp rfl .nil))) rfl ?_ .nil rfl).1
          rfl
  · have he := raE_ask h0
    obtain ⟨hn, hl⟩ := ra_bad (l := l) (by omega)
    refine con_of Tryd.func22 rfl (by show _ ≤ 54; simp) fun X Q hP hnt hnp hret hpan => ?_
    obtain ⟨P0, nt0, w0, K0, S0, np0, pin0⟩ := X
    simp only at hP hnt hnp
    subst hP hnp
    obtain rfl : nt0 = 54 := hnt
    refine aw_region fun K1 hK1 => ?_
    refine aL z_assign ?_
    refine aL z_assign ?_
    refine aL z_assign ?_
    refine awl_nil (hK1 _ _ ?_)
    clear hK1 K1
    refine aw_region fun K2 hK2 => ?_
    refine aL z_move ?_
    refine aL (z_lits (pC .nil) Tryd.underlying38 sz_9 zc_9 zl_9 (c := [[.str kS]])) ?_
    refine aL (z_call0 (eC (eC .nil)) en_25 (con_gather1 (names := [kS]) (by decide) hs h0)) ?_
    refine aL z_move ?_
    refine aL z_extract ?_
    refine aL z_extract ?_
    refine aL z_extract ?_
    refine aL z_assign ?_
    refine aL z_assign ?_
    refine aL z_assign ?_
    refine awl_nil (hK2 _ _ ?_)
    clear hK2 K2
    refine aw_seq fun K3 hK3 => ?_
    refine aw_region fun K4 hK4 => ?_
    refine aL z_move ?_
    refine aL z_neq ?_
    refine awl_nil (hK4 _ _ ?_)
    clear hK4 K4
    refine aC (fun r1 c1 => ?_) (fun r1 c1 => ?_)
    · refine aw_region fun K5 hK5 => ?_
      refine aL z_move ?_
      refine aL z_assign ?_
      refine aL z_assign ?_
      refine aL z_assign ?_
      refine awl_nil (hK5 _ _ ?_)
      clear hK5 K5
      refine aw_weak (weak_all (fr' := [(2, .v (.int .i64 (raN l))), (3, .v (.sl (fdV (raL l)))), (4, .v (.int .i64 (raE l)))]) (ah' := []) none trivial .nil (.cons rfl (.eq (d_int hn.symm) (.keep rfl)) (.cons rfl (.eq' .nil (by rw [hl]; rfl)) (.cons rfl (.eq (d_int he.symm) (.keep rfl)) .nil)))) ?_
      refine aw_ret ?_
      refine (hret _ _ _ _ _ rfl (.tmp rfl (.tmp rfl (.tmp rfl .nil))) rfl ?_ .nil rfl).1
      rfl
    · exact absurd c1 h0
end Go.Proofs.YtipmegjhlkhklaaDoor
