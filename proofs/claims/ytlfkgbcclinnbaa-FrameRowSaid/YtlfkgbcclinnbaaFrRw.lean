/- Layer 6: the law FrameRow, walked. No condition. -/
import Derived.Test.YtlfkgbcclinnbaaFrBl
namespace Go.Proofs.Ytlfkgbcclinnbaa
set_option linter.all false
open Go Go.RowKit
set_option maxRecDepth 10000
set_option maxHeartbeats 4000000
abbrev Fr.vs (f : Fr) : List V := [.int .i64 f.ty, .int .i64 f.fl, .int .i64 f.st, .str f.data, .int .i64 f.pad, .sl (setV f.sets), .int .i64 f.code, .int .i64 f.last, .int .i64 f.inc, .int .i64 f.dep, .int .i64 f.wt, .bool f.sole]
def fsV (l : List Fr) : List (List V) := l.map Fr.vs
@[simp] theorem fsV_len (l : List Fr) : (fsV l).length = l.length := by simp [fsV]
theorem fsV_get {l : List Fr} {i : Nat} (h : i < l.length) : (fsV l)[i]? = some (l[i]).vs := by simp [fsV, h]
theorem fsV_one (l : List Fr) : ∀ e ∈ fsV l, e.length = 12 := by intro e he; obtain ⟨f, _, rfl⟩ := List.mem_map.1 he; rfl
theorem fsV_app (a b : List Fr) : fsV a ++ fsV b = fsV (a ++ b) := by simp [fsV]
def goodB (f : Fr) : Bool := decide (putE f = 0) && !(takeF (putF f) 16777215).x.is
theorem good_take {f : Fr} (h : goodB f = true) (r : List UInt8) : takeF (putF f ++ r) 16777215 = ⟨f, (putF f).length, Flt.no⟩ ∧ 9 ≤ (putF f).length := by
  unfold goodB at h
  simp only [Bool.and_eq_true, decide_eq_true_eq, Bool.not_eq_true'] at h
  obtain ⟨he, hx⟩ := h
  have hlen := put_len he
  have hmx := (put_ok he).2.1
  have hbe : beN ((putF f).take 3) = (payL f).length := by have := (put_head he []).1; rwa [List.append_nil] at this
  refine ⟨?_, by omega⟩
  rw [take_app r (by rw [hbe]; omega) (by omega) (by rw [hbe]; omega)]
  rcases take_put he with ⟨n, x, h1, h2⟩ | h1
  · rw [h1] at hx; rw [h2] at hx; cases hx
  · exact h1
theorem putF_max (f : Fr) : (putF f).length ≤ 16777224 := by
  by_cases h : putE f = 0
  · rw [put_len h]; have := (put_ok h).2.1; omega
  · rw [putF_bad h]; simp
/-- The bytes of frames, one behind the other. -/
def catF (l : List Fr) : List UInt8 := l.flatMap putF
theorem catF_app (a b : List Fr) : catF (a ++ b) = catF a ++ catF b := by simp [catF]
theorem catF_one (f : Fr) : catF [f] = putF f := by simp [catF]
theorem catF_le (l : List Fr) (k : Nat) : (catF (l.drop k)).length ≤ (catF l).length := by
  have : catF l = catF (l.take k) ++ catF (l.drop k) := by rw [← catF_app, List.take_append_drop]
  rw [this]; simp
theorem catF_drop {l : List Fr} {k : Nat} (h : k < l.length) : catF (l.drop k) = putF l[k] ++ catF (l.drop (k + 1)) := by
  rw [List.drop_eq_getElem_cons h]; rfl
theorem con_FrameRow {l : List Fr} (hl0 : l.length ≤ maxLen) : Con Try.prog 7 [.v (.sl (fsV l))] [] 0 (.ret (.v (.bool true))) [] := by
  unfold maxLen at hl0
  have hfl : (fsV l).length = l.length := fsV_len l
  refine con_of Try.func7 rfl (by show _ ≤ 108; simp) fun X Q hP hnt hnp hret hpan => ?_
  obtain ⟨P0, nt0, w0, K0, S0, np0, pin0⟩ := X
  simp only at hP hnt hnp
  subst hP hnp
  obtain rfl : nt0 = 108 := hnt
  refine aw_region fun K1 hK1 => ?_
  refine aL z_assign ?_
  refine awl_nil (hK1 _ _ ?_)
  clear hK1 K1
  refine aw_seq fun K2 hK2 => ?_
  refine aw_region fun K3 hK3 => ?_
  refine aL (z_call0 .nil en_9 (con_awake)) ?_
  refine aL z_not ?_
  refine awl_nil (hK3 _ _ ?_)
  clear hK3 K3
  refine aC (fun r1 c1 => ?_) (fun r1 c1 => ?_)
  · refine aw_region fun K4 hK4 => ?_
    refine aL z_assign ?_
    refine awl_nil (hK4 _ _ ?_)
    clear hK4 K4
    refine aw_ret ?_
    refine (hret _ _ _ _ _ rfl (.tmp rfl .nil) rfl ?_ .nil rfl).1
    first
      | rfl
      | (exfalso; simp at *; done)
      | (exfalso; have hs := (sameB_iff W[q] W[q]).2 rfl; have hcl2 : (catF (W.drop q)).length = (putF W[q]).length + (catF (W.drop (q + 1))).length := (by rw [hcd, List.length_append]); simp [hgd.1, hs] at *; omega)
      | (have hqe : q = W.length := (by omega); simp [retD, hqe, catF]; done)
  · refine aw_skip ?_
    refine hK2 _ _ ?_
    clear hK2
    refine aw_region fun K5 hK5 => ?_
    refine aL z_assign ?_
    refine awl_nil (hK5 _ _ ?_)
    clear hK5 K5
    refine aw_region fun K6 hK6 => ?_
    refine aL z_assign ?_
    refine awl_nil (hK6 _ _ ?_)
    clear hK6 K6
    refine aw_weak (fr' := [(0, .v (.sl (fsV l))), (3, .view 0 0 0 (bs (catF [])).length), (4, .view 1 0 0 (fsV []).length)]) (ah' := [(0, .row 0 1 5 (bs (catF []))), (1, .row 0 12 24 (fsV []))]) (Weak.trans (weak_nil (t := 3) 0 1 5 (by decide) (Nat.le_of_ble_eq_true rfl) rfl rfl) (Weak.trans (weak_nil (t := 4) 1 12 24 (by decide) (Nat.le_of_ble_eq_true rfl) rfl rfl) wK)) ?_
    refine aw_cutE (α := {W : List Fr // W.length ≤ 50 ∧ (∀ f ∈ W, goodB f = true ∧ f.sets.length ≤ 1000) ∧ (catF W).length ≤ 20000000}) (fun z => (([(3, .v (.sl (bs (catF z.1)))), (4, .v (.sl (fsV z.1)))], []))) (fun K7 hK7 => ?_) ?_
    rotate_left
    focus
      rintro ⟨W, hW, hgo, hc⟩
      dsimp only
      refine aw_seq fun K8 hK8 => ?_
      refine aw_region fun K9 hK9 => ?_
      refine aL z_assign ?_
      refine awl_nil (hK9 _ _ ?_)
      clear hK9 K9
      refine aw_block ?_
      refine aw_loop (α := {k : Nat // k ≤ W.length}) (fun x => ([(3, .v (.sl (bs (catF (W.drop x.1))))), (4, .v (.sl (fsV W))), (11, .v (.int .i64 (x.1 : Int)))], [])) (fun x => W.length - x.1) ⟨0, by omega⟩ ?_ ?_
      · dsimp only
        exact wK
      · rintro ⟨q, hq⟩ K10 hK10
        dsimp only
        have hfW : (fsV W).length = W.length := fsV_len W
        refine aw_seq fun K11 hK11 => ?_
        refine aw_region fun K12 hK12 => ?_
        refine aL z_move ?_
        refine aL z_move ?_
        refine aL (z_len Try.underlying40) ?_
        refine aL z_lss ?_
        refine awl_nil (hK12 _ _ ?_)
        clear hK12 K12
        refine aC (fun r2 c2 => ?_) (fun r2 c2 => ?_)
        · refine aw_skip ?_
          refine hK11 _ _ ?_
          clear hK11
          refine aw_seq fun K13 hK13 => ?_
          refine aw_block ?_
          refine aw_region fun K14 hK14 => ?_
          have hlt : q < W.length := by omega
          have hi := fsV_get hlt
          have hgd := good_take (hgo _ (List.getElem_mem hlt)).1 (catF (W.drop (q + 1)))
          have hcd := catF_drop hlt
          rw [← hcd] at hgd
          have hcl := catF_le W q
          refine aL z_move ?_
          refine aL (z_call0 (eC (eC .nil)) en_14 (con_frTake (b := catF (W.drop q)) (by omega))) ?_
          refine aL z_move ?_
          refine aL z_extract ?_
          refine aL z_extract ?_
          refine aL z_extract ?_
          refine aL (z_alloc 10 zc_24 zl_24) ?_
          refine aL (z_alloc 11 zc_33 zl_33) ?_
          refine aL (z_store sz_24) ?_
          refine aL z_assign ?_
          refine aL (z_store sz_33) ?_
          refine awl_nil (hK14 _ _ ?_)
          clear hK14 K14
          refine aw_seq fun K15 hK15 => ?_
          refine aw_regionD mx_all (by kernel_rfl) fun K16 hK16 => ?_
          refine aD (z_fieldAddr fo_33_0) ?_
          refine aD (z_load sz_4) ?_
          refine aD z_move ?_
          refine gD rfl rfl (ev_tmp rfl) (fun hg => z_move) ?_
          refine gD rfl rfl (ev_tmp rfl) (fun hg => z_lss) ?_
          refine aD z_or ?_
          refine aD z_move ?_
          refine gD rfl rfl (ev_tmp rfl) (fun hg => z_move) ?_
          refine gD rfl rfl (ev_tmp rfl) (fun hg => z_move) ?_
          refine gD rfl rfl (ev_tmp rfl) (fun hg => z_lenB Try.underlying27) ?_
          refine gD rfl rfl (ev_tmp rfl) (fun hg => z_gtr) ?_
          refine aD z_or ?_
          refine aD z_move ?_
          refine gD rfl rfl (ev_tmp rfl) (fun hg => z_load sz_24) ?_
          refine gD rfl rfl (ev_tmp rfl) (fun hg => z_move) ?_
          refine gD rfl rfl (ev_tmp rfl) (fun hg => z_move) ?_
          refine gD rfl rfl (ev_tmp rfl) (fun hg => z_indexAddr Try.underlying40 sz_24) ?_
          refine gD rfl rfl (ev_tmp rfl) (fun hg => z_loadRef sz_24) ?_
          refine gD rfl rfl (ev_tmp rfl) (fun hg => z_call0 (eC (eC .nil (h := by first | exact ev_cond (ev_tmp rfl) (by assumption) | (refine ev_cond (ev_tmp rfl) ?_; simp_all; done))) (h := by first | exact ev_cond (ev_tmp rfl) (by assumption) | (refine ev_cond (ev_tmp rfl) ?_; simp_all; done))) en_16 (con_Same (f := (takeF (catF (W.drop q)) 16777215).f) (g := W[q]) (by rw [hgd.1]; have := (hgo _ (List.getElem_mem hlt)).2; show W[q].sets.length ≤ 100000000; omega))) ?_
          refine gD rfl rfl (ev_tmp rfl) (fun hg => z_not) ?_
          refine aD z_or ?_
          refine awd_nil (by kernel_rfl) (hK16 _ _ ?_)
          clear hK16 K16
          refine aC (fun r3 c3 => ?_) (fun r3 c3 => ?_)
          · refine aw_region fun K17 hK17 => ?_
            refine aL z_assign ?_
            refine awl_nil (hK17 _ _ ?_)
            clear hK17 K17
            refine aw_ret ?_
            refine (hret _ _ _ _ _ rfl (.tmp rfl .nil) rfl ?_ .nil rfl).1
            first
              | rfl
              | (exfalso; simp at *; done)
              | (exfalso; have hs := (sameB_iff W[q] W[q]).2 rfl; have hcl2 : (catF (W.drop q)).length = (putF W[q]).length + (catF (W.drop (q + 1))).length := (by rw [hcd, List.length_append]); simp [hgd.1, hs] at *; omega)
              | (have hqe : q = W.length := (by omega); simp [retD, hqe, catF]; done)
          · refine aw_skip ?_
            refine hK15 _ _ ?_
            clear hK15
            refine aw_region_last ?_
            refine aL z_move ?_
            refine aL z_move ?_
            refine aL (z_slice Try.underlying27 sz_5 (hsz := by first | exact bs_one _ | exact fsV_one _ | (simp; done))) ?_
            refine aL z_assign ?_
            refine awl_nil ?_
            refine hK13 _ _ ?_
            clear hK13
            refine aw_region_last ?_
            refine aL z_move ?_
            refine aL z_add ?_
            refine aL z_assign ?_
            refine awl_nil ?_
            refine hK10 _ _ ⟨q + 1, by omega⟩ (by dsimp only; omega) ?_
            dsimp only
            have hdr : (catF (W.drop q)).drop (takeF (catF (W.drop q)) 16777215).n = catF (W.drop (q + 1)) := by
              rw [hgd.1, hcd]; exact List.drop_left' rfl
            rw [← hdr]
            exact wK
        · refine aw_exit ?_
          refine hK8 _ _ ?_
          clear hK8
          refine aw_region fun K18 hK18 => ?_
          refine aL z_move ?_
          refine aL (z_lenB Try.underlying27) ?_
          refine aL z_eql ?_
          refine aL z_assign ?_
          refine awl_nil (hK18 _ _ ?_)
          clear hK18 K18
          refine aw_ret ?_
          refine (hret _ _ _ _ _ rfl (.tmp rfl .nil) rfl ?_ .nil rfl).1
          first
            | rfl
            | (exfalso; simp at *; done)
            | (exfalso; have hs := (sameB_iff W[q] W[q]).2 rfl; have hcl2 : (catF (W.drop q)).length = (putF W[q]).length + (catF (W.drop (q + 1))).length := (by rw [hcd, List.length_append]); simp [hgd.1, hs] at *; omega)
            | (have hqe : q = W.length := (by omega); simp [retD, hqe, catF]; done)
    refine aw_region fun K19 hK19 => ?_
    refine aL z_assign ?_
    refine awl_nil (hK19 _ _ ?_)
    clear hK19 K19
    refine aw_block ?_
    refine aw_loop (α := {x : Nat × List Fr // x.1 ≤ l.length ∧ x.1 ≤ 50 ∧ x.2.length ≤ x.1 ∧ (∀ f ∈ x.2, goodB f = true ∧ f.sets.length ≤ 1000) ∧ (catF x.2).length ≤ 20000000}) (fun x => ([(0, .v (.sl (fsV l))), (3, .view 0 0 0 (bs (catF x.1.2)).length), (4, .view 1 0 0 (fsV x.1.2).length), (5, .v (.int .i64 (x.1.1 : Int)))], [(0, .row 0 1 5 (bs (catF x.1.2))), (1, .row 0 12 24 (fsV x.1.2))])) (fun x => l.length - x.1.1) ⟨(0, []), by simp [catF]⟩ ?_ ?_
    · dsimp only
      exact wK
    · rintro ⟨⟨k, W⟩, hk, hk5, hW, hgo, hc⟩ K20 hK20
      dsimp only
      dsimp only at hk hk5 hW hgo hc
      refine aw_seq fun K21 hK21 => ?_
      refine aw_region fun K22 hK22 => ?_
      refine aL z_move ?_
      refine aL z_move ?_
      refine aL (z_len Try.underlying40) ?_
      refine aL z_lss ?_
      refine aL z_move ?_
      refine gL rfl rfl (ev_tmp rfl) (fun hg => z_move) ?_
      refine gL rfl rfl (ev_tmp rfl) (fun hg => z_lss) ?_
      refine aL z_and ?_
      refine awl_nil (hK22 _ _ ?_)
      clear hK22 K22
      refine aC (fun r4 c4 => ?_) (fun r4 c4 => ?_)
      · refine aw_skip ?_
        refine hK21 _ _ ?_
        clear hK21
        refine aw_seq fun K23 hK23 => ?_
        refine aw_block ?_
        refine aw_seq fun K24 hK24 => ?_
        refine aw_region fun K25 hK25 => ?_
        have hlt : k < l.length := by omega
        have hi := fsV_get hlt
        have hpm := putF_max l[k]
        have hbl : (bs (catF W)).length = (catF W).length := bs_length _
        refine aL z_move ?_
        refine aL z_move ?_
        refine aL (z_indexAddr Try.underlying40 sz_24) ?_
        refine aL (z_loadRef sz_24) ?_
        refine aL (z_call0 (eC .nil) en_10 (con_small (f := l[k]))) ?_
        refine aL z_not ?_
        refine aL z_move ?_
        refine gL rfl rfl (ev_tmp rfl) (fun hg => z_move) ?_
        refine gL rfl rfl (ev_tmp rfl) (fun hg => z_lenV Try.underlying27) ?_
        refine gL rfl rfl (ev_tmp rfl) (fun hg => z_gtr) ?_
        refine aL z_or ?_
        refine awl_nil (hK25 _ _ ?_)
        clear hK25 K25
        refine aC (fun r5 c5 => ?_) (fun r5 c5 => ?_)
        · refine aw_region fun K26 hK26 => ?_
          refine aL z_assign ?_
          refine awl_nil (hK26 _ _ ?_)
          clear hK26 K26
          refine aw_ret ?_
          refine (hret _ _ _ _ _ rfl (.tmp rfl .nil) rfl ?_ .nil rfl).1
          first
            | rfl
            | (exfalso; simp at *; done)
            | (exfalso; have hs := (sameB_iff W[q] W[q]).2 rfl; have hcl2 : (catF (W.drop q)).length = (putF W[q]).length + (catF (W.drop (q + 1))).length := (by rw [hcd, List.length_append]); simp [hgd.1, hs] at *; omega)
            | (have hqe : q = W.length := (by omega); simp [retD, hqe, catF]; done)
        · refine aw_skip ?_
          refine hK24 _ _ ?_
          clear hK24
          refine aw_region fun K27 hK27 => ?_
          refine aL z_move ?_
          refine aL z_move ?_
          refine aL (z_indexAddr Try.underlying40 sz_24) ?_
          refine aL (z_loadRef sz_24) ?_
          refine aL (z_call0 (eC .nil) en_11 (con_putS (f := l[k]) (by simp [smallB] at *; omega) (by simp [smallB] at *; omega))) ?_
          refine aL z_move ?_
          refine aL z_extract ?_
          refine aL z_extract ?_
          refine aL z_assign ?_
          refine aL z_assign ?_
          refine awl_nil (hK27 _ _ ?_)
          clear hK27 K27
          refine aw_region fun K28 hK28 => ?_
          refine aL z_move ?_
          refine aL (z_call0 (eC (eC .nil)) en_15 (con_refTakeF (b := putF l[k]) (by have := putF_max l[k]; omega))) ?_
          refine aL z_move ?_
          refine aL z_extract ?_
          refine aL z_extract ?_
          refine aL z_extract ?_
          refine aL (z_alloc 10 zc_24 zl_24) ?_
          refine aL (z_alloc 11 zc_33 zl_33) ?_
          refine aL (z_store sz_24) ?_
          refine aL z_assign ?_
          refine aL (z_store sz_33) ?_
          refine awl_nil (hK28 _ _ ?_)
          clear hK28 K28
          refine aw_region fun K29 hK29 => ?_
          refine aL z_move ?_
          refine aL z_eql ?_
          refine aL z_move ?_
          refine gL rfl rfl (ev_tmp rfl) (fun hg => z_fieldAddr fo_33_0) ?_
          refine gL rfl rfl (ev_tmp rfl) (fun hg => z_load sz_4) ?_
          refine gL rfl rfl (ev_tmp rfl) (fun hg => z_not) ?_
          refine aL z_and ?_
          refine awl_nil (hK29 _ _ ?_)
          clear hK29 K29
          refine aC (fun r6 c6 => ?_) (fun r6 c6 => ?_)
          · refine aw_region fun K30 hK30 => ?_
            refine aL z_move ?_
            refine aL z_move ?_
            refine aL (z_app Try.underlying27 zi_5 (hs := by first | exact bs_one _ | exact fsV_one _ | (simp; done))) ?_
            refine aL z_assign ?_
            refine awl_nil (hK30 _ _ ?_)
            clear hK30 K30
            refine aw_region_last ?_
            refine aL z_move ?_
            refine aL z_move ?_
            refine aL z_move ?_
            refine aL (z_indexAddr Try.underlying40 sz_24) ?_
            refine aL (z_loadRef sz_24) ?_
            refine aL (z_lits (pC .nil) Try.underlying40 sz_24 zc_24 zl_24 (c := [[_, _, _, _, _, _, _, _, _, _, _, _]])) ?_
            refine aL (z_app Try.underlying40 zi_24 (hs := by first | exact bs_one _ | exact fsV_one _ | (simp; done))) ?_
            refine aL z_assign ?_
            refine awl_nil ?_
            rw [List.take_length]
            refine hK23 _ _ ?_
            clear hK23
            refine aw_region_last ?_
            refine aL z_move ?_
            refine aL z_add ?_
            refine aL z_assign ?_
            refine awl_nil ?_
            by_cases hgg : putE l[k] = 0 ∧ (takeF (putF l[k]) 16777215).x.is = false
            · first
                | (exfalso; simp [hgg.1, hgg.2] at *; done)
                | (refine hK20 _ _ ⟨(k + 1, W ++ [l[k]]), by dsimp only; omega, by dsimp only; omega, by simp; omega, by intro f hf; rcases List.mem_append.1 hf with h | h; exact hgo f h; rw [List.mem_singleton.1 h]; exact ⟨by unfold goodB; simp [hgg.1, hgg.2], by simp [smallB] at *; omega⟩, by rw [catF_app, catF_one, List.length_append]; omega⟩ (by dsimp only; omega) ?_; dsimp only; rw [catF_app, catF_one, ← fsV_app]; exact Weak.trans (weak_rever 0 0 rfl) (Weak.trans (weak_rever 1 0 rfl) (weak_all none trivial (.row rfl rfl (.row rfl rfl .nil)) (.cons rfl (.keep rfl) (.cons rfl (.eq (d_view rfl (by simp)) (.keep rfl)) (.cons rfl (.eq (d_view rfl (by simp)) (.keep rfl)) (.cons rfl (.eq (d_int (by omega)) (.keep rfl)) .nil)))))))
            · first
                | (exfalso; exact hgg (by assumption))
                | (refine hK20 _ _ ⟨(k + 1, W), by dsimp only; omega, by dsimp only; omega, by dsimp only; omega, hgo, hc⟩ (by dsimp only; omega) ?_; dsimp only; exact wK)
          · refine aw_skip ?_
            refine hK23 _ _ ?_
            clear hK23
            refine aw_region_last ?_
            refine aL z_move ?_
            refine aL z_add ?_
            refine aL z_assign ?_
            refine awl_nil ?_
            by_cases hgg : putE l[k] = 0 ∧ (takeF (putF l[k]) 16777215).x.is = false
            · first
                | (exfalso; simp [hgg.1, hgg.2] at *; done)
                | (refine hK20 _ _ ⟨(k + 1, W ++ [l[k]]), by dsimp only; omega, by dsimp only; omega, by simp; omega, by intro f hf; rcases List.mem_append.1 hf with h | h; exact hgo f h; rw [List.mem_singleton.1 h]; exact ⟨by unfold goodB; simp [hgg.1, hgg.2], by simp [smallB] at *; omega⟩, by rw [catF_app, catF_one, List.length_append]; omega⟩ (by dsimp only; omega) ?_; dsimp only; rw [catF_app, catF_one, ← fsV_app]; exact Weak.trans (weak_rever 0 0 rfl) (Weak.trans (weak_rever 1 0 rfl) (weak_all none trivial (.row rfl rfl (.row rfl rfl .nil)) (.cons rfl (.keep rfl) (.cons rfl (.eq (d_view rfl (by simp)) (.keep rfl)) (.cons rfl (.eq (d_view rfl (by simp)) (.keep rfl)) (.cons rfl (.eq (d_int (by omega)) (.keep rfl)) .nil)))))))
            · first
                | (exfalso; exact hgg (by assumption))
                | (refine hK20 _ _ ⟨(k + 1, W), by dsimp only; omega, by dsimp only; omega, by dsimp only; omega, hgo, hc⟩ (by dsimp only; omega) ?_; dsimp only; exact wK)
      · refine aw_exit ?_
        refine hK7 _ _ ⟨W, by omega, hgo, hc⟩ ?_
        dsimp only
        exact Weak.trans (weak_all (fr' := [(3, .v (.sl (bs (catF W)))), (4, .view 1 0 0 (fsV W).length)]) (ah' := [(1, .row 0 12 24 (fsV W))]) (some (0, 0, bs (catF W))) ⟨rfl, _, _, rfl⟩ (.row rfl rfl .nil) (.cons rfl (.view rfl (cut_all _)) (.cons rfl (.keep rfl) .nil))) (weak_all (some (1, 0, fsV W)) ⟨rfl, _, _, rfl⟩ .nil (.cons rfl (.keep rfl) (.cons rfl (.view rfl (cut_all _)) .nil)))
end Go.Proofs.Ytlfkgbcclinnbaa
