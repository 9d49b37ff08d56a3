/- Layer 14: the document's Put; the sizes that are played. No condition. -/
import Derived.Test.YtnjbfiejgiaibaaDoorAkB
import Derived.Test.YtnjbfiejgiaibaaDoorBeToBh
namespace Go.Proofs.YtnjbfiejgiaibaaDoor
set_option linter.all false
open Go Go.RowKit
set_option maxRecDepth 10000
set_option maxHeartbeats 4000000
attribute [local simp] askH_s lineF_s clL_s
theorem lng_yes {a : Ak} (h : ((0 < (a.b.length : Int) ∨ a.m = [80, 79, 83, 84]) ∨ a.m = [80, 85, 84]) ∨ a.m = [80, 65, 84, 67, 72]) : lngM a = true := by
  unfold lngM
  rcases h with ((h | h) | h) | h
  · have : a.b ≠ [] := fun e => by rw [e] at h; simp at h
    simp [this]
  all_goals simp [h]
theorem lng_no {a : Ak} (h : (((a.b.length : Int) ≤ 0 ∧ ¬ a.m = [80, 79, 83, 84]) ∧ ¬ a.m = [80, 85, 84]) ∧ ¬ a.m = [80, 65, 84, 67, 72]) : lngM a = false := by
  obtain ⟨⟨⟨h1, h2⟩, h3⟩, h4⟩ := h
  have : a.b = [] := List.eq_nil_of_length_eq_zero (by omega)
  unfold lngM
  simp [this, h2, h3, h4]
theorem con_rPutA {a : Ak} (ha : a.small) : Con Tryd.prog 10 [.agg a.cs] [] 0 (.ret (.tup [.view 0 0 0 (putA a).length, .v (.int .i64 (putAE a))])) [(0, .row 0 1 (5 + MK) (bs (putA a)))] := by
  have hfit := ha.fits
  obtain ⟨h1, h2, h3⟩ := ha
  have hfl := fdV_len a.fs
  have hll := szM_len a.fs
  have hdl := digs_length 10 (by decide) (a.b.length : Int) (by omega)
  refine con_of Tryd.func10 rfl (by show _ ≤ 77; simp) fun X Q hP hnt hnp hret hpan => ?_
  obtain ⟨P0, nt0, w0, K0, S0, np0, pin0, df0⟩ := X
  simp only at hP hnt hnp
  subst hP hnp
  obtain rfl : nt0 = 77 := hnt
  refine aw_region fun K1 hK1 => ?_
  refine aL (z_box 5) ?_
  refine aL z_assign ?_
  refine aL z_assign ?_
  refine awl_nil (hK1 _ _ ?_)
  clear hK1 K1
  refine aw_seq fun K2 hK2 => ?_
  refine aw_region fun K3 hK3 => ?_
  first
    | refine aL (z_load sz_24) ?_
    | refine aL (z_loadRef sz_24) ?_
    | refine aL (z_loadV sz_24) ?_
  refine aL (z_call0 (eC .nil) en_25 (con_rMay hfit)) ?_
  refine aL z_not ?_
  refine awl_nil (hK3 _ _ ?_)
  clear hK3 K3
  refine aC (fun r1 c1 => ?_) (fun r1 c1 => ?_)
  · refine aw_region fun K4 hK4 => ?_
    refine aL z_assign ?_
    refine aL z_assign ?_
    refine awl_nil (hK4 _ _ ?_)
    clear hK4 K4
    first
      | (have e1 : putAE a = 10 := (by unfold putAE; rw [c1]; rfl)
         have e2 : putA a = [] := (by unfold putA; rw [e1]; rfl)
         refine aw_weak (fr' := [(2, NIL), (3, .v (.int .i64 10))]) (ah' := []) wK (aw_weak (weak_nil (t := 2) 0 1 (5 + MK) (by decide) (Nat.zero_le _) rfl rfl) ?_)
         rw [e1, e2] at hret)
      | (have hA := askA_K a rfl
         have e1 : putAE a = 2 := (by unfold putAE; rw [if_pos (by simpa using c1), hA, if_pos (by rw [List.length_append]; omega)])
         have e2 : putA a = [] := (by unfold putA; rw [e1]; rfl)
         refine aw_weak (fr' := [(2, NIL), (3, .v (.int .i64 2))]) (ah' := []) wK (aw_weak (weak_nil (t := 2) 0 1 (5 + MK) (by decide) (Nat.zero_le _) rfl rfl) ?_)
         rw [e1, e2] at hret)
      | (have hA := askA_K a rfl
         have e1 : putAE a = 0 := (by unfold putAE; rw [if_pos (by simpa using c1), hA, if_neg (by rw [List.length_append]; omega)])
         have e2 : putA a = askK a a.fs.length ++ askL a ++ [13, 10] ++ a.b := (by unfold putA; rw [if_pos e1, hA])
         rw [e1, e2] at hret
         have hq : (askK a a.fs.length ++ askL a ++ [13, 10] ++ a.b).length = (askK a a.fs.length ++ askL a).length + ([13, 10] : List UInt8).length + a.b.length := (by rw [List.length_append, List.length_append])
         refine aw_weak (fr' := [(2, .view 0 0 0 (askK a a.fs.length ++ askL a ++ [13, 10] ++ a.b).length), (3, .v (.int .i64 0))]) (ah' := [(0, .row 0 1 (5 + MK) (bs (askK a a.fs.length ++ askL a ++ [13, 10] ++ a.b)))]) (by rw [hq]; exact Weak.trans (weak_rever 0 0 rfl) wK) ?_)
    refine aw_ret ?_
    refine (hret _ _ _ _ _ rfl (.tmp rfl (.tmp rfl .nil)) rfl ?_ (.row rfl .nil) rfl).1
    all_goals rfl
  · refine aw_skip ?_
    refine hK2 _ _ ?_
    clear hK2
    refine aw_region fun K5 hK5 => ?_
    first
      | refine aL (z_fieldAddr fo_24_0) ?_
      | refine aL (z_fieldRef fo_24_0) ?_
      | refine aL (z_fieldV fo_24_0) ?_
    first
      | refine aL (z_load sz_9) ?_
      | refine aL (z_loadRef sz_9) ?_
      | refine aL (z_loadV sz_9) ?_
    refine aL z_addS ?_
    first
      | refine aL (z_fieldAddr fo_24_1) ?_
      | refine aL (z_fieldRef fo_24_1) ?_
      | refine aL (z_fieldV fo_24_1) ?_
    first
      | refine aL (z_load sz_9) ?_
      | refine aL (z_loadRef sz_9) ?_
      | refine aL (z_loadV sz_9) ?_
    refine aL z_addS ?_
    refine aL z_addS ?_
    refine aL (z_convM 0 Tryd.underlying9 Tryd.underlying27 Tryd.underlying5) ?_
    refine aL z_assign ?_
    refine awl_nil (hK5 _ _ ?_)
    clear hK5 K5
    refine aw_seq fun K6 hK6 => ?_
    refine aw_region fun K7 hK7 => ?_
    refine aL z_assign ?_
    refine awl_nil (hK7 _ _ ?_)
    clear hK7 K7
    refine aw_block ?_
    refine aw_loop (α := {k : Nat // k ≤ a.fs.length}) (fun x => ([(1, .ptr 5 0), (4, .view 0 0 0 (askK a x.1).length), (5, .v (.int .i64 (x.1 : Int)))], [(5, .box a.cs), (0, .row 0 1 (5 + MK) (bs (askK a x.1)))])) (fun x => a.fs.length - x.1) ⟨0, Nat.zero_le _⟩ ?_ ?_
    · dsimp only
      rw [askK_0]
      exact wK
    · rintro ⟨k, hk⟩ K8 hK8
      dsimp only
      refine aw_seq fun K9 hK9 => ?_
      refine aw_region fun K10 hK10 => ?_
      refine aL z_move ?_
      first
        | refine aL (z_fieldAddr fo_24_2) ?_
        | refine aL (z_fieldRef fo_24_2) ?_
        | refine aL (z_fieldV fo_24_2) ?_
      first
        | refine aL (z_load sz_22) ?_
        | refine aL (z_loadRef sz_22) ?_
        | refine aL (z_loadV sz_22) ?_
      first
        | refine aL (z_lenB Tryd.underlying22) ?_
        | refine aL (z_len Tryd.underlying22) ?_
        | refine aL (z_lenV Tryd.underlying22) ?_
      refine aL z_lss ?_
      refine awl_nil (hK10 _ _ ?_)
      clear hK10 K10
      refine aC (fun r2 c2 => ?_) (fun r2 c2 => ?_)
      · refine aw_skip ?_
        refine hK9 _ _ ?_
        clear hK9
        refine aw_seq fun K11 hK11 => ?_
        refine aw_block ?_
        refine aw_regionD_last mx_all (by kernel_rfl) ?_
        have hlt : k < a.fs.length := by omega
        have hi := fdV_get hlt
        have hK1 := askK_len a k
        have hsz := szM_at hlt
        refine aD z_move ?_
        first
          | refine aD (z_fieldAddr fo_24_2) ?_
          | refine aD (z_fieldRef fo_24_2) ?_
          | refine aD (z_fieldV fo_24_2) ?_
        first
          | refine aD (z_load sz_22) ?_
          | refine aD (z_loadRef sz_22) ?_
          | refine aD (z_loadV sz_22) ?_
        refine aD z_move ?_
        first
          | refine aD (z_indexAddr Tryd.underlying22 sz_47) ?_
          | refine aD (z_indexAddrV Tryd.underlying22 sz_47) ?_
        first
          | refine aD (z_fieldAddr fo_47_0) ?_
          | refine aD (z_fieldRef fo_47_0) ?_
          | refine aD (z_fieldV fo_47_0) ?_
        first
          | refine aD (z_load sz_9) ?_
          | refine aD (z_loadRef sz_9) ?_
          | refine aD (z_loadV sz_9) ?_
        refine aD z_addS ?_
        first
          | refine aD (z_fieldAddr fo_24_2) ?_
          | refine aD (z_fieldRef fo_24_2) ?_
          | refine aD (z_fieldV fo_24_2) ?_
        first
          | refine aD (z_load sz_22) ?_
          | refine aD (z_loadRef sz_22) ?_
          | refine aD (z_loadV sz_22) ?_
        refine aD z_move ?_
        first
          | refine aD (z_indexAddr Tryd.underlying22 sz_47) ?_
          | refine aD (z_indexAddrV Tryd.underlying22 sz_47) ?_
        first
          | refine aD (z_fieldAddr fo_47_1) ?_
          | refine aD (z_fieldRef fo_47_1) ?_
          | refine aD (z_fieldV fo_47_1) ?_
        first
          | refine aD (z_load sz_9) ?_
          | refine aD (z_loadRef sz_9) ?_
          | refine aD (z_loadV sz_9) ?_
        refine aD z_addS ?_
        refine aD z_addS ?_
        first
          | refine aD (z_appS Tryd.underlying27 Tryd.underlying9 by_5) ?_
          | refine aD (z_appNS 6 Tryd.underlying27 Tryd.underlying9 by_5) ?_
        refine aD z_assign ?_
        refine awd_nil (by kernel_rfl) ?_
        refine hK11 _ _ ?_
        clear hK11
        refine aw_region_last ?_
        refine aL z_move ?_
        refine aL z_add ?_
        refine aL z_assign ?_
        refine awl_nil ?_
        refine hK8 _ _ ⟨k + 1, by omega⟩ (by dsimp only; omega) ?_
        dsimp only
        rw [askK_succ hlt]
        exact Weak.trans (weak_rever 0 0 rfl) wK
      · refine aw_exit ?_
        refine hK6 _ _ ?_
        clear hK6
        refine aw_cut ([(1, .ptr 5 0), (4, .view 0 0 0 (askK a a.fs.length ++ askL a).length)], [(5, .box a.cs), (0, .row 0 1 (5 + MK) (bs (askK a a.fs.length ++ askL a)))]) (fun K12 hK12 => ?_) ?_
        rotate_left
        focus
          refine aw_region fun K13 hK13 => ?_
          have hK1 := askK_len a a.fs.length
          have hL1 : (askL a).length ≤ 40 := (by unfold askL; split; rw [show [99, 111, 110, 116, 101, 110, 116, 45, 108, 101, 110, 103, 116, 104, 58, 32] ++ digs 10 (a.b.length : Int) ++ [13, 10] = clL a from rfl, clL_len]; omega; simp)
          refine aL z_move ?_
          refine aL (z_appS Tryd.underlying27 Tryd.underlying9 by_5) ?_
          refine aL z_assign ?_
          refine awl_nil (hK13 _ _ ?_)
          clear hK13 K13
          refine aw_seq fun K14 hK14 => ?_
          refine aw_region fun K15 hK15 => ?_
          refine aL z_move ?_
          first
            | refine aL (z_lenB Tryd.underlying27) ?_
            | refine aL (z_len Tryd.underlying27) ?_
            | refine aL (z_lenV Tryd.underlying27) ?_
          refine aL z_gtr ?_
          refine awl_nil (hK15 _ _ ?_)
          clear hK15 K15
          refine aC (fun r3 c3 => ?_) (fun r3 c3 => ?_)
          · refine aw_region fun K16 hK16 => ?_
            refine aL z_assign ?_
            refine aL z_assign ?_
            refine awl_nil (hK16 _ _ ?_)
            clear hK16 K16
            first
              | (have e1 : putAE a = 10 := (by unfold putAE; rw [c1]; rfl)
                 have e2 : putA a = [] := (by unfold putA; rw [e1]; rfl)
                 refine aw_weak (fr' := [(2, NIL), (3, .v (.int .i64 10))]) (ah' := []) wK (aw_weak (weak_nil (t := 2) 0 1 (5 + MK) (by decide) (Nat.zero_le _) rfl rfl) ?_)
                 rw [e1, e2] at hret)
              | (have hA := askA_K a rfl
                 have e1 : putAE a = 2 := (by unfold putAE; rw [if_pos (by simpa using c1), hA, if_pos (by rw [List.length_append]; omega)])
                 have e2 : putA a = [] := (by unfold putA; rw [e1]; rfl)
                 refine aw_weak (fr' := [(2, NIL), (3, .v (.int .i64 2))]) (ah' := []) wK (aw_weak (weak_nil (t := 2) 0 1 (5 + MK) (by decide) (Nat.zero_le _) rfl rfl) ?_)
                 rw [e1, e2] at hret)
              | (have hA := askA_K a rfl
                 have e1 : putAE a = 0 := (by unfold putAE; rw [if_pos (by simpa using c1), hA, if_neg (by rw [List.length_append]; omega)])
                 have e2 : putA a = askK a a.fs.length ++ askL a ++ [13, 10] ++ a.b := (by unfold putA; rw [if_pos e1, hA])
                 rw [e1, e2] at hret
                 have hq : (askK a a.fs.length ++ askL a ++ [13, 10] ++ a.b).length = (askK a a.fs.length ++ askL a).length + ([13, 10] : List UInt8).length + a.b.length := (by rw [List.length_append, List.length_append])
                 refine aw_weak (fr' := [(2, .view 0 0 0 (askK a a.fs.length ++ askL a ++ [13, 10] ++ a.b).length), (3, .v (.int .i64 0))]) (ah' := [(0, .row 0 1 (5 + MK) (bs (askK a a.fs.length ++ askL a ++ [13, 10] ++ a.b)))]) (by rw [hq]; exact Weak.trans (weak_rever 0 0 rfl) wK) ?_)
            refine aw_ret ?_
            refine (hret _ _ _ _ _ rfl (.tmp rfl (.tmp rfl .nil)) rfl ?_ (.row rfl .nil) rfl).1
            all_goals rfl
          · refine aw_skip ?_
            refine hK14 _ _ ?_
            clear hK14
            refine aw_region fun K17 hK17 => ?_
            refine aL z_move ?_
            first
              | refine aL (z_fieldAddr fo_24_3) ?_
              | refine aL (z_fieldRef fo_24_3) ?_
              | refine aL (z_fieldV fo_24_3) ?_
            first
              | refine aL (z_load sz_9) ?_
              | refine aL (z_loadRef sz_9) ?_
              | refine aL (z_loadV sz_9) ?_
            first
              | refine aL (z_appS Tryd.underlying27 Tryd.underlying9 by_5) ?_
              | refine aL (z_appNS 6 Tryd.underlying27 Tryd.underlying9 by_5) ?_
            refine aL z_assign ?_
            refine aL z_assign ?_
            refine awl_nil (hK17 _ _ ?_)
            clear hK17 K17
            first
              | (have e1 : putAE a = 10 := (by unfold putAE; rw [c1]; rfl)
                 have e2 : putA a = [] := (by unfold putA; rw [e1]; rfl)
                 refine aw_weak (fr' := [(2, NIL), (3, .v (.int .i64 10))]) (ah' := []) wK (aw_weak (weak_nil (t := 2) 0 1 (5 + MK) (by decide) (Nat.zero_le _) rfl rfl) ?_)
                 rw [e1, e2] at hret)
              | (have hA := askA_K a rfl
                 have e1 : putAE a = 2 := (by unfold putAE; rw [if_pos (by simpa using c1), hA, if_pos (by rw [List.length_append]; omega)])
                 have e2 : putA a = [] := (by unfold putA; rw [e1]; rfl)
                 refine aw_weak (fr' := [(2, NIL), (3, .v (.int .i64 2))]) (ah' := []) wK (aw_weak (weak_nil (t := 2) 0 1 (5 + MK) (by decide) (Nat.zero_le _) rfl rfl) ?_)
                 rw [e1, e2] at hret)
              | (have hA := askA_K a rfl
                 have e1 : putAE a = 0 := (by unfold putAE; rw [if_pos (by simpa using c1), hA, if_neg (by rw [List.length_append]; omega)])
                 have e2 : putA a = askK a a.fs.length ++ askL a ++ [13, 10] ++ a.b := (by unfold putA; rw [if_pos e1, hA])
                 rw [e1, e2] at hret
                 have hq : (askK a a.fs.length ++ askL a ++ [13, 10] ++ a.b).length = (askK a a.fs.length ++ askL a).length + ([13, 10] : List UInt8).length + a.b.length := (by rw [List.length_append, List.length_append])
                 refine aw_weak (fr' := [(2, .view 0 0 0 (askK a a.fs.length ++ askL a ++ [13, 10] ++ a.b).length), (3, .v (.int .i64 0))]) (ah' := [(0, .row 0 1 (5 + MK) (bs (askK a a.fs.length ++ askL a ++ [13, 10] ++ a.b)))]) (by rw [hq]; exact Weak.trans (weak_rever 0 0 rfl) wK) ?_)
            refine aw_ret ?_
            refine (hret _ _ _ _ _ rfl (.tmp rfl (.tmp rfl .nil)) rfl ?_ (.row rfl .nil) rfl).1
            all_goals rfl
        refine aw_region fun K18 hK18 => ?_
        first
          | refine aL (z_fieldAddr fo_24_3) ?_
          | refine aL (z_fieldRef fo_24_3) ?_
          | refine aL (z_fieldV fo_24_3) ?_
        first
          | refine aL (z_load sz_9) ?_
          | refine aL (z_loadRef sz_9) ?_
          | refine aL (z_loadV sz_9) ?_
        refine aL (z_lenS Tryd.underlying9) ?_
        refine aL z_gtr ?_
        refine aL z_move ?_
        first
          | refine gL rfl rfl (ev_tmp rfl) (fun hg => z_fieldAddr fo_24_0) ?_
          | refine gL rfl rfl (ev_tmp rfl) (fun hg => z_fieldRef fo_24_0) ?_
          | refine gL rfl rfl (ev_tmp rfl) (fun hg => z_fieldV fo_24_0) ?_
          | refine hL rfl rfl (ev_tmp rfl) (fun hg => z_fieldAddr fo_24_0) ?_
          | refine hL rfl rfl (ev_tmp rfl) (fun hg => z_fieldRef fo_24_0) ?_
          | refine hL rfl rfl (ev_tmp rfl) (fun hg => z_fieldV fo_24_0) ?_
        first
          | refine gL rfl rfl (ev_tmp rfl) (fun hg => z_load sz_9) ?_
          | refine gL rfl rfl (ev_tmp rfl) (fun hg => z_loadRef sz_9) ?_
          | refine gL rfl rfl (ev_tmp rfl) (fun hg => z_loadV sz_9) ?_
          | refine hL rfl rfl (ev_tmp rfl) (fun hg => z_load sz_9) ?_
          | refine hL rfl rfl (ev_tmp rfl) (fun hg => z_loadRef sz_9) ?_
          | refine hL rfl rfl (ev_tmp rfl) (fun hg => z_loadV sz_9) ?_
        first
          | refine gL rfl rfl (ev_tmp rfl) (fun hg => z_eqlS) ?_
          | refine hL rfl rfl (ev_tmp rfl) (fun hg => z_eqlS) ?_
        refine aL z_or ?_
        refine aL z_move ?_
        first
          | refine gL rfl rfl (ev_tmp rfl) (fun hg => z_fieldAddr fo_24_0) ?_
          | refine gL rfl rfl (ev_tmp rfl) (fun hg => z_fieldRef fo_24_0) ?_
          | refine gL rfl rfl (ev_tmp rfl) (fun hg => z_fieldV fo_24_0) ?_
          | refine hL rfl rfl (ev_tmp rfl) (fun hg => z_fieldAddr fo_24_0) ?_
          | refine hL rfl rfl (ev_tmp rfl) (fun hg => z_fieldRef fo_24_0) ?_
          | refine hL rfl rfl (ev_tmp rfl) (fun hg => z_fieldV fo_24_0) ?_
        first
          | refine gL rfl rfl (ev_tmp rfl) (fun hg => z_load sz_9) ?_
          | refine gL rfl rfl (ev_tmp rfl) (fun hg => z_loadRef sz_9) ?_
          | refine gL rfl rfl (ev_tmp rfl) (fun hg => z_loadV sz_9) ?_
          | refine hL rfl rfl (ev_tmp rfl) (fun hg => z_load sz_9) ?_
          | refine hL rfl rfl (ev_tmp rfl) (fun hg => z_loadRef sz_9) ?_
          | refine hL rfl rfl (ev_tmp rfl) (fun hg => z_loadV sz_9) ?_
        first
          | refine gL rfl rfl (ev_tmp rfl) (fun hg => z_eqlS) ?_
          | refine hL rfl rfl (ev_tmp rfl) (fun hg => z_eqlS) ?_
        refine aL z_or ?_
        refine aL z_move ?_
        first
          | refine gL rfl rfl (ev_tmp rfl) (fun hg => z_fieldAddr fo_24_0) ?_
          | refine gL rfl rfl (ev_tmp rfl) (fun hg => z_fieldRef fo_24_0) ?_
          | refine gL rfl rfl (ev_tmp rfl) (fun hg => z_fieldV fo_24_0) ?_
          | refine hL rfl rfl (ev_tmp rfl) (fun hg => z_fieldAddr fo_24_0) ?_
          | refine hL rfl rfl (ev_tmp rfl) (fun hg => z_fieldRef fo_24_0) ?_
          | refine hL rfl rfl (ev_tmp rfl) (fun hg => z_fieldV fo_24_0) ?_
        first
          | refine gL rfl rfl (ev_tmp rfl) (fun hg => z_load sz_9) ?_
          | refine gL rfl rfl (ev_tmp rfl) (fun hg => z_loadRef sz_9) ?_
          | refine gL rfl rfl (ev_tmp rfl) (fun hg => z_loadV sz_9) ?_
          | refine hL rfl rfl (ev_tmp rfl) (fun hg => z_load sz_9) ?_
          | refine hL rfl rfl (ev_tmp rfl) (fun hg => z_loadRef sz_9) ?_
          | refine hL rfl rfl (ev_tmp rfl) (fun hg => z_loadV sz_9) ?_
        first
          | refine gL rfl rfl (ev_tmp rfl) (fun hg => z_eqlS) ?_
          | refine hL rfl rfl (ev_tmp rfl) (fun hg => z_eqlS) ?_
        refine aL z_or ?_
        refine awl_nil (hK18 _ _ ?_)
        clear hK18 K18
        refine aC (fun r4 c4 => ?_) (fun r4 c4 => ?_)
        · refine aw_region_last ?_
          have hK1 := askK_len a k
          have hL1 := clL_len a
          refine aL z_move ?_
          first
            | refine aL (z_fieldAddr fo_24_3) ?_
            | refine aL (z_fieldRef fo_24_3) ?_
            | refine aL (z_fieldV fo_24_3) ?_
          first
            | refine aL (z_load sz_9) ?_
            | refine aL (z_loadRef sz_9) ?_
            | refine aL (z_loadV sz_9) ?_
          refine aL (z_lenS Tryd.underlying9) ?_
          refine aL (z_call0 (eC (eC .nil)) en_26 (con_rDigits (n := (a.b.length : Int)) (by omega))) ?_
          refine aL z_addS ?_
          refine aL z_addS ?_
          first
            | refine aL (z_appS Tryd.underlying27 Tryd.underlying9 by_5) ?_
            | refine aL (z_appNS 6 Tryd.underlying27 Tryd.underlying9 by_5) ?_
          refine aL z_assign ?_
          refine awl_nil ?_
          refine hK12 _ _ ?_
          have hke : k = a.fs.length := by omega
          subst hke
          first
            | (rw [askL_yes (lng_yes c4)]; exact Weak.trans (weak_rever 0 0 rfl) wK)
            | (rw [askL_no (lng_no c4), List.append_nil]; exact wK)
        · refine aw_skip ?_
          refine hK12 _ _ ?_
          have hke : k = a.fs.length := by omega
          subst hke
          first
            | (rw [askL_yes (lng_yes c4)]; exact Weak.trans (weak_rever 0 0 rfl) wK)
            | (rw [askL_no (lng_no c4), List.append_nil]; exact wK)
/-- The document's Put, what it wrote settled. -/
theorem con_rPut {a : Ak} (ha : a.small) : Con Tryd.prog 10 [.agg a.cs] [] 0 (.ret (.tup [.v (.sl (bs (putA a))), .v (.int .i64 (putAE a))])) [] :=
  con_weak (con_rPutA ha) fun X _ => weak_all (some (0, 0, bs (putA a))) ⟨rfl, _, _, rfl⟩ .nil (.cons rfl (.tup (.cons (.view rfl (by simp)) (.cons (.keep rfl) .nil))) .nil)
def smallA (a : Ak) : Bool := decide ((a.m.length : Int) + (a.t.length : Int) < 131072) && decide ((a.b.length : Int) < 65536) && decide (((byM 0 a.fs : Nat) : Int) < 131072)
theorem con_smallA {a : Ak} (hm : a.m.length ≤ 140737488351232) (ht : a.t.length ≤ 140737488351232) (hl : a.fs.length ≤ 4398046511104) (hf : ∀ f ∈ a.fs, f.n.length ≤ 140737488351232 ∧ f.v.length ≤ 140737488351232) : Con Tryd.prog 8 [.agg a.cs] [] 0 (.ret (.v (.bool (smallA a)))) [] := by
  refine con_of Tryd.func8 rfl (by show _ ≤ 23; simp) fun X Q hP hnt hnp hret hpan => ?_
  obtain ⟨P0, nt0, w0, K0, S0, np0, pin0, df0⟩ := X
  simp only at hP hnt hnp
  subst hP hnp
  obtain rfl : nt0 = 23 := hnt
  refine aw_region fun K1 hK1 => ?_
  refine aL (z_box 0) ?_
  refine aL z_assign ?_
  refine awl_nil (hK1 _ _ ?_)
  clear hK1 K1
  refine aw_region fun K2 hK2 => ?_
  first
    | refine aL (z_fieldAddr fo_24_0) ?_
    | refine aL (z_fieldRef fo_24_0) ?_
    | refine aL (z_fieldV fo_24_0) ?_
  first
    | refine aL (z_load sz_9) ?_
    | refine aL (z_loadRef sz_9) ?_
    | refine aL (z_loadV sz_9) ?_
  refine aL (z_lenS Tryd.underlying9) ?_
  first
    | refine aL (z_fieldAddr fo_24_1) ?_
    | refine aL (z_fieldRef fo_24_1) ?_
    | refine aL (z_fieldV fo_24_1) ?_
  first
    | refine aL (z_load sz_9) ?_
    | refine aL (z_loadRef sz_9) ?_
    | refine aL (z_loadV sz_9) ?_
  refine aL (z_lenS Tryd.underlying9) ?_
  refine aL z_add ?_
  refine aL z_lss ?_
  refine aL z_move ?_
  first
    | refine gL rfl rfl (ev_tmp rfl) (fun hg => z_fieldAddr fo_24_3) ?_
    | refine gL rfl rfl (ev_tmp rfl) (fun hg => z_fieldRef fo_24_3) ?_
    | refine gL rfl rfl (ev_tmp rfl) (fun hg => z_fieldV fo_24_3) ?_
    | refine hL rfl rfl (ev_tmp rfl) (fun hg => z_fieldAddr fo_24_3) ?_
    | refine hL rfl rfl (ev_tmp rfl) (fun hg => z_fieldRef fo_24_3) ?_
    | refine hL rfl rfl (ev_tmp rfl) (fun hg => z_fieldV fo_24_3) ?_
  first
    | refine gL rfl rfl (ev_tmp rfl) (fun hg => z_load sz_9) ?_
    | refine gL rfl rfl (ev_tmp rfl) (fun hg => z_loadRef sz_9) ?_
    | refine gL rfl rfl (ev_tmp rfl) (fun hg => z_loadV sz_9) ?_
    | refine hL rfl rfl (ev_tmp rfl) (fun hg => z_load sz_9) ?_
    | refine hL rfl rfl (ev_tmp rfl) (fun hg => z_loadRef sz_9) ?_
    | refine hL rfl rfl (ev_tmp rfl) (fun hg => z_loadV sz_9) ?_
  first
    | refine gL rfl rfl (ev_tmp rfl) (fun hg => z_lenS Tryd.underlying9) ?_
    | refine hL rfl rfl (ev_tmp rfl) (fun hg => z_lenS Tryd.underlying9) ?_
  first
    | refine gL rfl rfl (ev_tmp rfl) (fun hg => z_lss) ?_
    | refine hL rfl rfl (ev_tmp rfl) (fun hg => z_lss) ?_
  refine aL z_and ?_
  refine aL z_move ?_
  first
    | refine gL rfl rfl (ev_tmp rfl) (fun hg => z_fieldAddr fo_24_2) ?_
    | refine gL rfl rfl (ev_tmp rfl) (fun hg => z_fieldRef fo_24_2) ?_
    | refine gL rfl rfl (ev_tmp rfl) (fun hg => z_fieldV fo_24_2) ?_
    | refine hL rfl rfl (ev_tmp rfl) (fun hg => z_fieldAddr fo_24_2) ?_
    | refine hL rfl rfl (ev_tmp rfl) (fun hg => z_fieldRef fo_24_2) ?_
    | refine hL rfl rfl (ev_tmp rfl) (fun hg => z_fieldV fo_24_2) ?_
  first
    | refine gL rfl rfl (ev_tmp rfl) (fun hg => z_load sz_22) ?_
    | refine gL rfl rfl (ev_tmp rfl) (fun hg => z_loadRef sz_22) ?_
    | refine gL rfl rfl (ev_tmp rfl) (fun hg => z_loadV sz_22) ?_
    | refine hL rfl rfl (ev_tmp rfl) (fun hg => z_load sz_22) ?_
    | refine hL rfl rfl (ev_tmp rfl) (fun hg => z_loadRef sz_22) ?_
    | refine hL rfl rfl (ev_tmp rfl) (fun hg => z_loadV sz_22) ?_
  first
    | refine gL rfl rfl (ev_tmp rfl) (fun hg => z_call0 (eC .nil) en_12 (con_Bytes hl hf)) ?_
    | refine hL rfl rfl (ev_tmp rfl) (fun hg => z_call0 (eC .nil) en_12 (con_Bytes hl hf)) ?_
  first
    | refine gL rfl rfl (ev_tmp rfl) (fun hg => z_lss) ?_
    | refine hL rfl rfl (ev_tmp rfl) (fun hg => z_lss) ?_
  refine aL z_and ?_
  refine aL z_assign ?_
  refine awl_nil (hK2 _ _ ?_)
  clear hK2 K2
  refine aw_ret ?_
  refine (hret _ _ _ _ _ rfl (.tmp rfl .nil) rfl ?_ .nil rfl).1
  rfl
theorem smallA_small {a : Ak} (h : smallA a = true) : a.small := by
  unfold smallA at h
  simp only [Bool.and_eq_true, decide_eq_true_eq] at h
  obtain ⟨⟨h1, h2⟩, h3⟩ := h
  have := byM_sz a.fs 0 (by omega)
  exact ⟨by omega, by omega, by omega⟩
end Go.Proofs.YtnjbfiejgiaibaaDoor
