/- Layer 10: the laws HeadTrailers, HeadAnswers, HeadReads, walked. No condition. -/
import Derived.Test.YtipmegjhlkhklaaDoorHdO
namespace Go.Proofs.YtipmegjhlkhklaaDoor
set_option linter.all false
open Go Go.RowKit
set_option maxRecDepth 10000
set_option maxHeartbeats 4000000
theorem con_HeadTrailers {l : List Fd} (h : InL l) : Con Tryd.prog 6 [.v (.sl (fdV l))] [] 0 (.ret (.v (.bool true))) [] := by
  have hsm := in_small h
  refine con_of Tryd.func6 rfl (by show _ ≤ 13; simp) fun X Q hP hnt hnp hret hpan => ?_
  obtain ⟨P0, nt0, w0, K0, S0, np0, pin0⟩ := X
  simp only at hP hnt hnp
  subst hP hnp
  obtain rfl : nt0 = 13 := hnt
  refine aw_region fun K1 hK1 => ?_
  refine aL z_assign ?_
  refine awl_nil (hK1 _ _ ?_)
  clear hK1 K1
  refine aw_seq fun K2 hK2 => ?_
  refine aw_region fun K3 hK3 => ?_
  refine aL (z_call0 .nil en_9 (con_awake)) ?_
  refine aL z_not ?_
  refine awl_nil (hK3 _ _ ?_)
  clear hK3 K3
  refine aC (fun r1 c1 => ?_) (fun r1 c1 => ?_)
  · cases r1
  · refine aw_skip ?_
    refine hK2 _ _ ?_
    clear hK2
    refine aw_seq fun K4 hK4 => ?_
    refine aw_region fun K5 hK5 => ?_
    refine aL z_move ?_
    refine aL (z_call0 (eC .nil) en_10 (con_Bytes h.1 h.2)) ?_
    refine aL z_gtr ?_
    refine awl_nil (hK5 _ _ ?_)
    clear hK5 K5
    refine aC (fun r2 c2 => ?_) (fun r2 c2 => ?_)
    · clear r2
      refine aw_region fun K6 hK6 => ?_
      refine aL z_assign ?_
      refine awl_nil (hK6 _ _ ?_)
      clear hK6 K6
      refine aw_ret ?_
      refine (hret _ _ _ _ _ rfl (.tmp rfl .nil) rfl ?_ .nil rfl).1
      first
        | rfl
        | (simp [retD]; done)
    · clear r2
      refine aw_skip ?_
      refine hK4 _ _ ?_
      clear hK4
      refine aw_region fun K7 hK7 => ?_
      have hsz := hsm (Int.not_lt.2 c2)
      refine aL z_move ?_
      refine aL (z_call0 (eC .nil) en_18 (con_Trailer (Nat.le_trans hsz (by decide)))) ?_
      refine aL z_move ?_
      refine aL (z_call0 (eC .nil) en_19 (con_rTrailer (Nat.le_trans hsz (by decide)))) ?_
      refine aL z_eql ?_
      refine aL z_assign ?_
      refine awl_nil (hK7 _ _ ?_)
      clear hK7 K7
      refine aw_ret ?_
      refine (hret _ _ _ _ _ rfl (.tmp rfl .nil) rfl ?_ .nil rfl).1
      first
        | rfl
        | (simp [retD]; done)
theorem con_rRead {l : List Fd} (hs : szM l ≤ 1099511627776) : Con Tryd.prog 12 [.v (.sl (fdV l))] [] 0 (.ret (.tup [.agg (readR l).cs, .v (.int .i64 (readE l))])) [] := by
  by_cases h0 : askM names4 [] l = 0
  · exact con_rRead0 hs h0
  · exact con_rRead1 hs h0
def ansL (n : Int) (l : List Fd) : List Fd := if answerE n = 0 then answerM n l else []
theorem ansL_len (n : Int) (l : List Fd) : (ansL n l).length ≤ l.length + 1 := by unfold ansL; split; (rw [answerM_len]; exact Nat.le_refl _); exact Nat.zero_le _
theorem con_AnswerS {n : Int} {l : List Fd} (hs : szM l ≤ 1099511627776) : Con Tryd.prog 20 [.v (.int .i64 n), .v (.sl (fdV l))] [] 0 (.ret (.tup [.v (.sl (fdV (ansL n l))), .v (.int .i64 (answerE n))])) [] := by
  by_cases h : answerE n = 0
  · rw [show ansL n l = answerM n l from if_pos h, h]
    exact con_weak (con_Answer0 hs h) fun X _ => weak_all (some (0, 0, fdV (answerM n l))) ⟨rfl, _, _, rfl⟩ .nil (.cons rfl (.tup (.cons (.view rfl (cutF (by simp))) (.cons (.keep rfl) .nil))) .nil)
  · rw [show ansL n l = [] from if_neg h]
    exact con_weak (con_Answer1 h) fun X _ => weak_all none trivial .nil (.cons rfl (.tup (.cons .nil (.cons (.keep rfl) .nil))) .nil)
theorem con_rAnswerS {n : Int} {l : List Fd} (hs : szM l ≤ 1099511627776) : Con Tryd.prog 21 [.v (.int .i64 n), .v (.sl (fdV l))] [] 0 (.ret (.tup [.v (.sl (fdV (ansL n l))), .v (.int .i64 (answerE n))])) [] := by
  by_cases h : answerE n = 0
  · rw [show ansL n l = answerM n l from if_pos h, h]
    exact con_weak (con_rAnswer0 hs h) fun X _ => weak_all (some (0, 0, fdV (answerM n l))) ⟨rfl, _, _, rfl⟩ .nil (.cons rfl (.tup (.cons (.view rfl (cutF (by simp))) (.cons (.keep rfl) .nil))) .nil)
  · rw [show ansL n l = [] from if_neg h]
    exact con_weak (con_rAnswer1 h) fun X _ => weak_all none trivial .nil (.cons rfl (.tup (.cons .nil (.cons (.keep rfl) .nil))) .nil)
theorem raL_len (l : List Fd) : (raL l).length ≤ l.length := by unfold raL; split; exact List.length_filter_le _ _; exact Nat.zero_le _
theorem con_HeadAnswers {n : Int} {l : List Fd} (h : InL l) : Con Tryd.prog 7 [.v (.int .i64 n), .v (.sl (fdV l))] [] 0 (.ret (.v (.bool true))) [] := by
  have hsm := in_small h
  have h1 := ansL_len n l
  have h2 := raL_len l
  refine con_of Tryd.func7 rfl (by show _ ≤ 67; simp) fun X Q hP hnt hnp hret hpan => ?_
  obtain ⟨P0, nt0, w0, K0, S0, np0, pin0⟩ := X
  simp only at hP hnt hnp
  subst hP hnp
  obtain rfl : nt0 = 67 := hnt
  refine aw_region fun K1 hK1 => ?_
  refine aL z_assign ?_
  refine awl_nil (hK1 _ _ ?_)
  clear hK1 K1
  refine aw_seq fun K2 hK2 => ?_
  refine aw_region fun K3 hK3 => ?_
  refine aL (z_call0 .nil en_9 (con_awake)) ?_
  refine aL z_not ?_
  refine awl_nil (hK3 _ _ ?_)
  clear hK3 K3
  refine aC (fun r1 c1 => ?_) (fun r1 c1 => ?_)
  · cases r1
  · refine aw_skip ?_
    refine hK2 _ _ ?_
    clear hK2
    refine aw_seq fun K4 hK4 => ?_
    refine aw_region fun K5 hK5 => ?_
    refine aL z_move ?_
    refine aL (z_call0 (eC .nil) en_10 (con_Bytes h.1 h.2)) ?_
    refine aL z_gtr ?_
    refine awl_nil (hK5 _ _ ?_)
    clear hK5 K5
    refine aC (fun r2 c2 => ?_) (fun r2 c2 => ?_)
    · clear r2
      refine aw_region fun K6 hK6 => ?_
      refine aL z_assign ?_
      refine awl_nil (hK6 _ _ ?_)
      clear hK6 K6
      refine aw_ret ?_
      refine (hret _ _ _ _ _ rfl (.tmp rfl .nil) rfl ?_ .nil rfl).1
      first
        | rfl
        | (simp [retD]; done)
    · clear r2
      refine aw_skip ?_
      refine hK4 _ _ ?_
      clear hK4
      refine aw_region fun K7 hK7 => ?_
      have hsz := hsm (Int.not_lt.2 c2)
      have hll := szM_len l
      refine aL z_move ?_
      refine aL z_move ?_
      refine aL (z_call0 (eC (eC .nil)) en_20 (con_AnswerS (Nat.le_trans hsz (by decide)))) ?_
      refine aL z_move ?_
      refine aL z_extract ?_
      refine aL z_extract ?_
      refine aL z_assign ?_
      refine aL z_assign ?_
      refine awl_nil (hK7 _ _ ?_)
      clear hK7 K7
      refine aw_region fun K8 hK8 => ?_
      refine aL z_move ?_
      refine aL z_move ?_
      refine aL (z_call0 (eC (eC .nil)) en_21 (con_rAnswerS (Nat.le_trans hsz (by decide)))) ?_
      refine aL z_move ?_
      refine aL z_extract ?_
      refine aL z_extract ?_
      refine aL z_assign ?_
      refine aL z_assign ?_
      refine awl_nil (hK8 _ _ ?_)
      clear hK8 K8
      refine aw_region fun K9 hK9 => ?_
      refine aL z_move ?_
      refine aL (z_call0 (eC .nil) en_22 (con_ReadAnswer (Nat.le_trans hsz (by decide)))) ?_
      refine aL z_move ?_
      refine aL z_extract ?_
      refine aL z_extract ?_
      refine aL z_extract ?_
      refine aL z_assign ?_
      refine aL z_assign ?_
      refine aL z_assign ?_
      refine awl_nil (hK9 _ _ ?_)
      clear hK9 K9
      refine aw_region fun K10 hK10 => ?_
      refine aL z_move ?_
      refine aL (z_call0 (eC .nil) en_23 (con_rReadAnswer (Nat.le_trans hsz (by decide)))) ?_
      refine aL z_move ?_
      refine aL z_extract ?_
      refine aL z_extract ?_
      refine aL z_extract ?_
      refine aL z_assign ?_
      refine aL z_assign ?_
      refine aL z_assign ?_
      refine awl_nil (hK10 _ _ ?_)
      clear hK10 K10
      refine aw_region fun K11 hK11 => ?_
      refine aL z_move ?_
      refine aL z_move ?_
      refine aL z_eql ?_
      refine aL z_move ?_
      refine gL rfl rfl (ev_tmp rfl) (fun hg => z_move) ?_
      refine gL rfl rfl (ev_tmp rfl) (fun hg => z_move) ?_
      refine gL rfl rfl (ev_tmp rfl) (fun hg => z_call0 (eC (eC .nil)) en_16 (con_Fields (a := ansL n l) (b := ansL n l) (by omega) (by omega))) ?_
      refine aL z_and ?_
      refine aL z_move ?_
      refine gL rfl rfl (ev_tmp rfl) (fun hg => z_move) ?_
      refine gL rfl rfl (ev_tmp rfl) (fun hg => z_move) ?_
      refine gL rfl rfl (ev_tmp rfl) (fun hg => z_eql) ?_
      refine aL z_and ?_
      refine aL z_move ?_
      refine gL rfl rfl (ev_tmp rfl) (fun hg => z_move) ?_
      refine gL rfl rfl (ev_tmp rfl) (fun hg => z_move) ?_
      refine gL rfl rfl (ev_tmp rfl) (fun hg => z_call0 (eC (eC .nil)) en_16 (con_Fields (a := raL l) (b := raL l) (by omega) (by omega))) ?_
      refine aL z_and ?_
      refine aL z_move ?_
      refine gL rfl rfl (ev_tmp rfl) (fun hg => z_move) ?_
      refine gL rfl rfl (ev_tmp rfl) (fun hg => z_move) ?_
      refine gL rfl rfl (ev_tmp rfl) (fun hg => z_eql) ?_
      refine aL z_and ?_
      refine aL z_assign ?_
      refine awl_nil (hK11 _ _ ?_)
      clear hK11 K11
      refine aw_ret ?_
      refine (hret _ _ _ _ _ rfl (.tmp rfl .nil) rfl ?_ .nil rfl).1
      first
        | rfl
        | (simp [retD]; done)
theorem outM_len (l : List Fd) : (outM l).length ≤ l.length := Nat.le_trans (ckGo_le _ _ _) (List.length_filter_le _ _)
theorem readR_len (l : List Fd) : (readR l).f.length ≤ l.length := by unfold readR; split; exact outM_len l; exact Nat.zero_le _
def spoil (l : List Fd) (k : Nat) : List Fd := (l.take k).map (fun f => ⟨[115, 112, 111, 105, 108, 116], f.v, f.s⟩) ++ l.drop k
theorem spoil_len (l : List Fd) (k : Nat) : (spoil l k).length = l.length := by unfold spoil; simp; omega
theorem spoil_at {l : List Fd} {k : Nat} (h : k < l.length) : (fdV (spoil l k))[k]? = some [V.str (l[k]).n, V.str (l[k]).v, V.bool (l[k]).s] := by
  unfold spoil fdV
  rw [List.map_append, List.getElem?_append_right (by simp; omega)]
  simp
  rw [Nat.min_eq_left (by omega), Nat.sub_self, Nat.add_zero, List.getElem?_eq_getElem h]; exact ⟨_, rfl, rfl, rfl, rfl⟩
theorem spoil_set {l : List Fd} {k : Nat} (h : k < l.length) : (fdV (spoil l k)).set k [V.str [115, 112, 111, 105, 108, 116], V.str (l[k]).v, V.bool (l[k]).s] = fdV (spoil l (k + 1)) := by
  rw [show ([V.str [115, 112, 111, 105, 108, 116], V.str (l[k]).v, V.bool (l[k]).s] : List V) = Fd.vs ⟨[115, 112, 111, 105, 108, 116], (l[k]).v, (l[k]).s⟩ from rfl, fdV_set]
  congr 1
  unfold spoil
  have hl : ((l.take k).map (fun f : Fd => (⟨[115, 112, 111, 105, 108, 116], f.v, f.s⟩ : Fd))).length = k := by simp; omega
  rw [List.set_append_right _ _ (by omega), hl, Nat.sub_self, List.drop_eq_getElem_cons h, List.set_cons_zero, take_succ' h, List.map_append, List.append_assoc]; rfl
theorem con_HeadReads {l : List Fd} (h : InL l) : Con Tryd.prog 3 [.v (.sl (fdV l))] [] 0 (.ret (.v (.bool true))) [] := by
  have hsm := in_small h
  have h2 := readR_len l
  have hfl := fdV_len l
  by_cases hr : readE l = 0
  · refine con_of Tryd.func3 rfl (by show _ ≤ 84; simp) fun X Q hP hnt hnp hret hpan => ?_
    obtain ⟨P0, nt0, w0, K0, S0, np0, pin0⟩ := X
    simp only at hP hnt hnp
    subst hP hnp
    obtain rfl : nt0 = 84 := hnt
    refine aw_region fun K1 hK1 => ?_
    refine aL z_assign ?_
    refine awl_nil (hK1 _ _ ?_)
    clear hK1 K1
    refine aw_seq fun K2 hK2 => ?_
    refine aw_region fun K3 hK3 => ?_
    refine aL (z_call0 .nil en_9 (con_awake)) ?_
    refine aL z_not ?_
    refine awl_nil (hK3 _ _ ?_)
    clear hK3 K3
    refine aC (fun r1 c1 => ?_) (fun r1 c1 => ?_)
    · cases r1
    · refine aw_skip ?_
      refine hK2 _ _ ?_
      clear hK2
      refine aw_seq fun K4 hK4 => ?_
      refine aw_region fun K5 hK5 => ?_
      refine aL z_move ?_
      refine aL (z_call0 (eC .nil) en_10 (con_Bytes h.1 h.2)) ?_
      refine aL z_gtr ?_
      refine awl_nil (hK5 _ _ ?_)
      clear hK5 K5
      refine aC (fun r2 c2 => ?_) (fun r2 c2 => ?_)
      · clear r2
        refine aw_region fun K6 hK6 => ?_
        refine aL z_assign ?_
        refine awl_nil (hK6 _ _ ?_)
        clear hK6 K6
        refine aw_ret ?_
        refine (hret _ _ _ _ _ rfl (.tmp rfl .nil) rfl ?_ .nil rfl).1
        first
          | rfl
          | (simp [retD]; done)
      · clear r2
        refine aw_skip ?_
        refine hK4 _ _ ?_
        clear hK4
        refine aw_region fun K7 hK7 => ?_
        have hsz := hsm (Int.not_lt.2 c2)
        have hll := szM_len l
        refine aL (z_row 0 .nil Tryd.underlying22 sz_34 zc_34 zl_34 (c := [])) ?_
        refine aL z_move ?_
        refine aL (z_app Tryd.underlying22 zi_34 (hs := by first | exact bs_one _ | exact fdV_one _ | (simp; done))) ?_
        refine aL z_assign ?_
        refine awl_nil (hK7 _ _ ?_)
        clear hK7 K7
        refine aw_weak (weak_all (fr' := [(0, .v (.sl (fdV l))), (3, .v (.sl (fdV l)))]) (ah' := []) (some (0, 1, fdV l)) ⟨rfl, _, _, rfl⟩ .nil (.cons rfl (.keep rfl) (.cons rfl (.view rfl (cutF (by simp))) .nil))) ?_
        refine aw_region fun K8 hK8 => ?_
        refine aL z_move ?_
        refine aL (z_callG [50] (eC .nil) en_11 (con_Read0 (l := l) (Nat.le_trans hsz (by decide)) hr) .nil) ?_
        refine aL z_move ?_
        refine aL z_extract ?_
        refine aL z_extract ?_
        refine aL (z_alloc 2 zc_26 zl_26) ?_
        refine aL (z_store sz_26) ?_
        refine aL z_assign ?_
        refine awl_nil (hK8 _ _ ?_)
        clear hK8 K8
        refine aw_region fun K9 hK9 => ?_
        refine aL z_move ?_
        refine aL (z_call0 (eC .nil) en_12 (con_rRead (Nat.le_trans hsz (by decide)))) ?_
        refine aL z_move ?_
        refine aL z_extract ?_
        refine aL z_extract ?_
        refine aL (z_alloc 3 zc_26 zl_26) ?_
        refine aL (z_store sz_26) ?_
        refine aL z_assign ?_
        refine awl_nil (hK9 _ _ ?_)
        clear hK9 K9
        refine aw_region fun K10 hK10 => ?_
        refine aL z_move ?_
        refine aL (z_call0 (eC .nil) en_13 (con_Length (Nat.le_trans hsz (by decide)))) ?_
        refine aL z_move ?_
        refine aL z_extract ?_
        refine aL z_extract ?_
        refine aL z_extract ?_
        refine aL z_assign ?_
        refine aL z_assign ?_
        refine aL z_assign ?_
        refine awl_nil (hK10 _ _ ?_)
        clear hK10 K10
        refine aw_region fun K11 hK11 => ?_
        refine aL z_move ?_
        refine aL (z_call0 (eC .nil) en_14 (con_rLength (Nat.le_trans hsz (by decide)))) ?_
        refine aL z_move ?_
        refine aL z_extract ?_
        refine aL z_extract ?_
        refine aL z_extract ?_
        refine aL z_assign ?_
        refine aL z_assign ?_
        refine aL z_assign ?_
        refine awl_nil (hK11 _ _ ?_)
        clear hK11 K11
        refine aw_seq fun K12 hK12 => ?_
        refine aw_region fun K13 hK13 => ?_
        refine aL z_move ?_
        refine aL z_move ?_
        refine aL z_neq ?_
        refine aL z_move ?_
        refine gL rfl rfl (ev_tmp rfl) (fun hg => z_load sz_26) ?_
        refine gL rfl rfl (ev_tmp rfl) (fun hg => z_load sz_26) ?_
        refine gL rfl rfl (ev_tmp rfl) (fun hg => z_callL 50 (eC (eC .nil)) en_15 (con_sameQ (a := readR l) (b := readR l) (by omega) (by omega)) (hl := .agg (.same rfl (.same rfl (.same rfl (.same rfl (.view (cutF (by simp)) .nil))))) (.same rfl .nil))) ?_
        refine gL rfl rfl (ev_tmp rfl) (fun hg => z_not) ?_
        refine aL z_or ?_
        refine aL z_move ?_
        refine gL rfl rfl (ev_tmp rfl) (fun hg => z_move) ?_
        refine gL rfl rfl (ev_tmp rfl) (fun hg => z_move) ?_
        refine gL rfl rfl (ev_tmp rfl) (fun hg => z_neq) ?_
        refine aL z_or ?_
        refine aL z_move ?_
        refine gL rfl rfl (ev_tmp rfl) (fun hg => z_move) ?_
        refine gL rfl rfl (ev_tmp rfl) (fun hg => z_move) ?_
        refine gL rfl rfl (ev_tmp rfl) (fun hg => z_neqB Tryd.underlying4) ?_
        refine aL z_or ?_
        refine aL z_move ?_
        refine gL rfl rfl (ev_tmp rfl) (fun hg => z_move) ?_
        refine gL rfl rfl (ev_tmp rfl) (fun hg => z_move) ?_
        refine gL rfl rfl (ev_tmp rfl) (fun hg => z_neq) ?_
        refine aL z_or ?_
        refine awl_nil (hK13 _ _ ?_)
        clear hK13 K13
        refine aC (fun r3 c3 => ?_) (fun r3 c3 => ?_)
        · exfalso
          simp [hr, sameQ_rfl] at c3
        · refine aw_skip ?_
          refine hK12 _ _ ?_
          clear hK12
          refine aw_seq fun K14 hK14 => ?_
          refine aw_region fun K15 hK15 => ?_
          refine aL z_assign ?_
          refine awl_nil (hK15 _ _ ?_)
          clear hK15 K15
          refine aw_block ?_
          refine aw_loop (α := {x : Nat // x ≤ (readR l).f.length}) (fun x => ([(0, .v (.sl (fdV l))), (3, .v (.sl (fdV l))), (4, .ptr 2 0), (14, .v (.int .i64 (x.1 : Int)))], [(2, .box ((readR l).csV (.view 50 0 0 (readR l).f.length))), (50, .row 0 3 34 (fdV (spoil (readR l).f x.1)))])) (fun x => (readR l).f.length - x.1) ⟨0, by omega⟩ ?_ ?_
          · dsimp only
            exact wK
          · rintro ⟨q, hq⟩ K16 hK16
            dsimp only
            refine aw_seq fun K17 hK17 => ?_
            refine aw_region fun K18 hK18 => ?_
            refine aL z_move ?_
            refine aL (z_fieldAddr fo_26_4) ?_
            refine aL (z_load sz_22) ?_
            refine aL (z_lenV Tryd.underlying22) ?_
            refine aL z_lss ?_
            refine awl_nil (hK18 _ _ ?_)
            clear hK18 K18
            refine aC (fun r4 c4 => ?_) (fun r4 c4 => ?_)
            · refine aw_skip ?_
              refine hK17 _ _ ?_
              clear hK17
              refine aw_seq fun K19 hK19 => ?_
              refine aw_block ?_
              refine aw_region_last ?_
              have hlt : q < (readR l).f.length := by omega
              have hi := spoil_at hlt
              refine aL (z_fieldAddr fo_26_4) ?_
              refine aL (z_load sz_22) ?_
              refine aL z_move ?_
              refine aL (z_indexAddrV Tryd.underlying22 sz_34) ?_
              refine aL (z_fieldV fo_34_0) ?_
              refine aL (z_storeV sz_9) ?_
              refine awl_nil ?_
              refine hK19 _ _ ?_
              clear hK19
              refine aw_region_last ?_
              refine aL z_move ?_
              refine aL z_add ?_
              refine aL z_assign ?_
              refine awl_nil ?_
              refine hK16 _ _ ⟨q + 1, by omega⟩ (by dsimp only; omega) ?_
              dsimp only
              exact wK (ha := .box rfl (.same rfl) (.row rfl (spoil_set hlt) .nil))
            · refine aw_exit ?_
              refine hK14 _ _ ?_
              clear hK14
              refine aw_region fun K20 hK20 => ?_
              refine aL z_move ?_
              refine aL z_move ?_
              refine aL (z_call0 (eC (eC .nil)) en_16 (con_Fields (a := l) (b := l) (by omega) (by omega))) ?_
              refine aL z_assign ?_
              refine awl_nil (hK20 _ _ ?_)
              clear hK20 K20
              refine aw_ret ?_
              refine (hret _ _ _ _ _ rfl (.tmp rfl .nil) rfl ?_ .nil rfl).1
              first
                | rfl
                | (simp [retD]; done)
  · refine con_of Tryd.func3 rfl (by show _ ≤ 84; simp) fun X Q hP hnt hnp hret hpan => ?_
    obtain ⟨P0, nt0, w0, K0, S0, np0, pin0⟩ := X
    simp only at hP hnt hnp
    subst hP hnp
    obtain rfl : nt0 = 84 := hnt
    refine aw_region fun K1 hK1 => ?_
    refine aL z_assign ?_
    refine awl_nil (hK1 _ _ ?_)
    clear hK1 K1
    refine aw_seq fun K2 hK2 => ?_
    refine aw_region fun K3 hK3 => ?_
    refine aL (z_call0 .nil en_9 (con_awake)) ?_
    refine aL z_not ?_
    refine awl_nil (hK3 _ _ ?_)
    clear hK3 K3
    refine aC (fun r1 c1 => ?_) (fun r1 c1 => ?_)
    · cases r1
    · refine aw_skip ?_
      refine hK2 _ _ ?_
      clear hK2
      refine aw_seq fun K4 hK4 => ?_
      refine aw_region fun K5 hK5 => ?_
      refine aL z_move ?_
      refine aL (z_call0 (eC .nil) en_10 (con_Bytes h.1 h.2)) ?_
      refine aL z_gtr ?_
      refine awl_nil (hK5 _ _ ?_)
      clear hK5 K5
      refine aC (fun r2 c2 => ?_) (fun r2 c2 => ?_)
      · clear r2
        refine aw_region fun K6 hK6 => ?_
        refine aL z_assign ?_
        refine awl_nil (hK6 _ _ ?_)
        clear hK6 K6
        refine aw_ret ?_
        refine (hret _ _ _ _ _ rfl (.tmp rfl .nil) rfl ?_ .nil rfl).1
        first
          | rfl
          | (simp [retD]; done)
      · clear r2
        refine aw_skip ?_
        refine hK4 _ _ ?_
        clear hK4
        refine aw_region fun K7 hK7 => ?_
        have hsz := hsm (Int.not_lt.2 c2)
        have hll := szM_len l
        refine aL (z_row 0 .nil Tryd.underlying22 sz_34 zc_34 zl_34 (c := [])) ?_
        refine aL z_move ?_
        refine aL (z_app Tryd.underlying22 zi_34 (hs := by first | exact bs_one _ | exact fdV_one _ | (simp; done))) ?_
        refine aL z_assign ?_
        refine awl_nil (hK7 _ _ ?_)
        clear hK7 K7
        refine aw_weak (weak_all (fr' := [(0, .v (.sl (fdV l))), (3, .v (.sl (fdV l)))]) (ah' := []) (some (0, 1, fdV l)) ⟨rfl, _, _, rfl⟩ .nil (.cons rfl (.keep rfl) (.cons rfl (.view rfl (cutF (by simp))) .nil))) ?_
        refine aw_region fun K8 hK8 => ?_
        refine aL z_move ?_
        refine aL (z_call0 (eC .nil) en_11 (con_Read1 (Nat.le_trans hsz (by decide)) hr)) ?_
        refine aL z_move ?_
        refine aL z_extract ?_
        refine aL z_extract ?_
        refine aL (z_alloc 2 zc_26 zl_26) ?_
        refine aL (z_store sz_26) ?_
        refine aL z_assign ?_
        refine awl_nil (hK8 _ _ ?_)
        clear hK8 K8
        refine aw_region fun K9 hK9 => ?_
        refine aL z_move ?_
        refine aL (z_call0 (eC .nil) en_12 (con_rRead (Nat.le_trans hsz (by decide)))) ?_
        refine aL z_move ?_
        refine aL z_extract ?_
        refine aL z_extract ?_
        refine aL (z_alloc 3 zc_26 zl_26) ?_
        refine aL (z_store sz_26) ?_
        refine aL z_assign ?_
        refine awl_nil (hK9 _ _ ?_)
        clear hK9 K9
        refine aw_region fun K10 hK10 => ?_
        refine aL z_move ?_
        refine aL (z_call0 (eC .nil) en_13 (con_Length (Nat.le_trans hsz (by decide)))) ?_
        refine aL z_move ?_
        refine aL z_extract ?_
        refine aL z_extract ?_
        refine aL z_extract ?_
        refine aL z_assign ?_
        refine aL z_assign ?_
        refine aL z_assign ?_
        refine awl_nil (hK10 _ _ ?_)
        clear hK10 K10
        refine aw_region fun K11 hK11 => ?_
        refine aL z_move ?_
        refine aL (z_call0 (eC .nil) en_14 (con_rLength (Nat.le_trans hsz (by decide)))) ?_
        refine aL z_move ?_
        refine aL z_extract ?_
        refine aL z_extract ?_
        refine aL z_extract ?_
        refine aL z_assign ?_
        refine aL z_assign ?_
        refine aL z_assign ?_
        refine awl_nil (hK11 _ _ ?_)
        clear hK11 K11
        refine aw_seq fun K12 hK12 => ?_
        refine aw_region fun K13 hK13 => ?_
        refine aL z_move ?_
        refine aL z_move ?_
        refine aL z_neq ?_
        refine aL z_move ?_
        refine gL rfl rfl (ev_tmp rfl) (fun hg => z_load sz_26) ?_
        refine gL rfl rfl (ev_tmp rfl) (fun hg => z_load sz_26) ?_
        refine gL rfl rfl (ev_tmp rfl) (fun hg => z_call0 (eC (eC .nil)) en_15 (con_sameQ (a := Rq.nil) (b := readR l) (by decide) (by omega))) ?_
        refine gL rfl rfl (ev_tmp rfl) (fun hg => z_not) ?_
        refine aL z_or ?_
        refine aL z_move ?_
        refine gL rfl rfl (ev_tmp rfl) (fun hg => z_move) ?_
        refine gL rfl rfl (ev_tmp rfl) (fun hg => z_move) ?_
        refine gL rfl rfl (ev_tmp rfl) (fun hg => z_neq) ?_
        refine aL z_or ?_
        refine aL z_move ?_
        refine gL rfl rfl (ev_tmp rfl) (fun hg => z_move) ?_
        refine gL rfl rfl (ev_tmp rfl) (fun hg => z_move) ?_
        refine gL rfl rfl (ev_tmp rfl) (fun hg => z_neqB Tryd.underlying4) ?_
        refine aL z_or ?_
        refine aL z_move ?_
        refine gL rfl rfl (ev_tmp rfl) (fun hg => z_move) ?_
        refine gL rfl rfl (ev_tmp rfl) (fun hg => z_move) ?_
        refine gL rfl rfl (ev_tmp rfl) (fun hg => z_neq) ?_
        refine aL z_or ?_
        refine awl_nil (hK13 _ _ ?_)
        clear hK13 K13
        refine aC (fun r3 c3 => ?_) (fun r3 c3 => ?_)
        · exfalso
          rw [show readR l = Rq.nil from if_neg hr] at c3
          simp [sameQ_rfl] at c3
        · refine aw_skip ?_
          refine hK12 _ _ ?_
          clear hK12
          refine aw_seq fun K14 hK14 => ?_
          refine aw_region fun K15 hK15 => ?_
          refine aL z_assign ?_
          refine awl_nil (hK15 _ _ ?_)
          clear hK15 K15
          refine aw_block ?_
          refine aw_loop (α := Unit) (fun x => ([(0, .v (.sl (fdV l))), (3, .v (.sl (fdV l))), (4, .ptr 2 0), (14, .v (.int .i64 0))], [(2, .box Rq.nil.cs)])) (fun x => 0) () ?_ ?_
          · dsimp only
            exact wK
          · rintro ⟨⟩ K16 hK16
            dsimp only
            refine aw_seq fun K17 hK17 => ?_
            refine aw_region fun K18 hK18 => ?_
            refine aL z_move ?_
            refine aL (z_fieldAddr fo_26_4) ?_
            refine aL (z_load sz_22) ?_
            refine aL (z_len Tryd.underlying22) ?_
            refine aL z_lss ?_
            refine awl_nil (hK18 _ _ ?_)
            clear hK18 K18
            refine aC (fun r4 c4 => ?_) (fun r4 c4 => ?_)
            · exfalso
              have hz : (fdV Rq.nil.f).length = 0 := rfl
              omega
            · refine aw_exit ?_
              refine hK14 _ _ ?_
              clear hK14
              refine aw_region fun K19 hK19 => ?_
              refine aL z_move ?_
              refine aL z_move ?_
              refine aL (z_call0 (eC (eC .nil)) en_16 (con_Fields (a := l) (b := l) (by omega) (by omega))) ?_
              refine aL z_assign ?_
              refine awl_nil (hK19 _ _ ?_)
              clear hK19 K19
              refine aw_ret ?_
              refine (hret _ _ _ _ _ rfl (.tmp rfl .nil) rfl ?_ .nil rfl).1
              first
                | rfl
                | (simp [retD]; done)
end Go.Proofs.YtipmegjhlkhklaaDoor
