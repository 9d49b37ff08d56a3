/- Chapter 15: an answer that is written is heard as it was. No condition but on lengths. -/
import Derived.Test.YthflfnehdlpmdaaDoorRpB1
namespace Go.Proofs.YthflfnehdlpmdaaDoor
set_option linter.all false
open Go Go.RowKit
set_option maxRecDepth 100000
set_option maxHeartbeats 16000000
theorem con_Close1 {s : Ps} (he : s.ended = false) (ht : s.toEnd = true) : Con Tryd.prog 17 [.ptr 0 0] (s.ahB false false 1) 3 (.ret (.tup [.agg [.v (.bool false), .v (.int .i64 0), NIL, .v (.str []), .v (.bool true)], .v (.int .i64 0)])) ((s.line []).ahB false true 2) := by
  obtain ⟨hd, kk, ln, st, old, fs, many, need, ended, toEnd⟩ := s
  simp only at he ht
  subst he ht
  refine con_of Tryd.func17 rfl (by show _ ≤ 26; simp) fun X Q hP hnt hnp hret hpan => ?_
  obtain ⟨P0, nt0, w0, K0, S0, np0, pin0, df0⟩ := X
  simp only at hP hnt hnp
  subst hP hnp
  obtain rfl : nt0 = 26 := hnt
  refine aw_region fun K1 hK1 => ?_
  refine aL (z_alloc 7 zc_28 zl_28) ?_
  refine aL z_assign ?_
  refine awl_nil (hK1 _ _ ?_)
  clear hK1 K1
  refine aw_seq fun K2 hK2 => ?_
  refine aw_region fun K3 hK3 => ?_
  refine aL z_move ?_
  refine aL (z_eqlP Tryd.underlying24) ?_
  refine aL z_move ?_
  refine gL rfl rfl (ev_tmp rfl) (fun hg => z_move) ?_
  refine gL rfl rfl (ev_tmp rfl) (fun hg => z_nilCheck) ?_
  refine gL rfl rfl (ev_tmp rfl) (fun hg => z_fieldAddr fo_54_8) ?_
  refine gL rfl rfl (ev_tmp rfl) (fun hg => z_load sz_4) ?_
  refine aL z_or ?_
  refine awl_nil (hK3 _ _ ?_)
  clear hK3 K3
  refine aC (fun r1 c1 => ?_) (fun r1 c1 => ?_)
  · exact absurd r1 (by decide)
  · refine aw_skip ?_
    refine hK2 _ _ ?_
    clear hK2
    refine aw_region fun K4 hK4 => ?_
    refine aL z_move ?_
    refine aL z_move ?_
    refine aL z_nilCheck ?_
    refine aL (z_fieldAddr fo_54_8) ?_
    refine aL (z_store sz_4) ?_
    refine aL z_nilCheck ?_
    refine aL (z_fieldAddr fo_54_2) ?_
    refine aL (z_store sz_32) ?_
    refine awl_nil (hK4 _ _ ?_)
    clear hK4 K4
    refine aw_seq fun K5 hK5 => ?_
    refine aw_region fun K6 hK6 => ?_
    refine aL z_move ?_
    refine aL z_nilCheck ?_
    refine aL (z_fieldAddr fo_54_10) ?_
    refine aL (z_load sz_4) ?_
    refine aL z_not ?_
    refine awl_nil (hK6 _ _ ?_)
    clear hK6 K6
    refine aC (fun r2 c2 => ?_) (fun r2 c2 => ?_)
    · exact absurd r2 (by decide)
    · refine aw_skip ?_
      refine hK5 _ _ ?_
      clear hK5
      refine aw_region fun K7 hK7 => ?_
      refine aL (z_build (pC .nil) pl_28 zc_28 zl_28) ?_
      refine aL (z_store sz_28) ?_
      refine aL z_assign ?_
      refine awl_nil (hK7 _ _ ?_)
      clear hK7 K7
      refine aw_weak (weak_nilE 0 2 1 rfl rfl rfl rfl) (aw_weak (weak_rever 2 2 rfl) ?_)
      refine aw_ret ?_
      refine (hret _ _ _ _ _ rfl (rCe sz_28 (.tmp rfl .nil)) rfl ?_ (.box rfl rfl (.row rfl (.row rfl .nil))) rfl).1
      rfl
theorem con_ReplyBack {st : Int} {body cuts : List UInt8} {how : UInt8} (hb : body.length ≤ maxLen) (hc : cuts.length ≤ maxLen) : Con Tryd.prog 6 [.agg [.v (.int .i64 st), .v (.str body), .v (.sl (bs cuts))], .v (.int .u8 (how.toNat : Int))] [] 0 (.ret (.v (.bool true))) [] := by
  have hcl := bs_length cuts
  have hh := how.toNat_lt
  have htm : 0 ≤ (how.toNat : Int).tmod 3 ∧ (how.toNat : Int).tmod 3 < 3 := ⟨Int.tmod_nonneg _ (by omega), Int.tmod_lt_of_pos _ (by decide)⟩
  unfold maxLen at hb hc
  refine con_of Tryd.func6 rfl (by show _ ≤ 212; simp) fun X Q hP hnt hnp hret hpan => ?_
  obtain ⟨P0, nt0, w0, K0, S0, np0, pin0, df0⟩ := X
  simp only at hP hnt hnp
  subst hP hnp
  obtain rfl : nt0 = 212 := hnt
  refine aw_region fun K1 hK1 => ?_
  refine aL (z_box 20) ?_
  refine aL z_assign ?_
  refine awl_nil (hK1 _ _ ?_)
  clear hK1 K1
  refine aw_seq fun K2 hK2 => ?_
  refine aw_region fun K3 hK3 => ?_
  refine aL (z_call0 .nil en_7 (con_awake)) ?_
  refine aL z_not ?_
  refine awl_nil (hK3 _ _ ?_)
  clear hK3 K3
  refine aC (fun r1 c1 => ?_) (fun r1 c1 => ?_)
  · cases r1
  · refine aw_skip ?_
    refine hK2 _ _ ?_
    clear hK2
    refine aw_region fun K4 hK4 => ?_
    refine aL (z_fieldAddr fo_45_0) ?_
    refine aL (z_load sz_3) ?_
    refine aL z_assign ?_
    refine awl_nil (hK4 _ _ ?_)
    clear hK4 K4
    refine aw_region fun K5 hK5 => ?_
    refine aL (z_fieldAddr fo_45_1) ?_
    refine aL (z_load sz_9) ?_
    refine aL z_assign ?_
    refine awl_nil (hK5 _ _ ?_)
    clear hK5 K5
    refine aw_region fun K6 hK6 => ?_
    refine aL (z_fieldAddr fo_45_2) ?_
    refine aL (z_load sz_32) ?_
    refine aL z_assign ?_
    refine awl_nil (hK6 _ _ ?_)
    clear hK6 K6
    refine aw_seq fun K7 hK7 => ?_
    refine aw_region fun K8 hK8 => ?_
    refine aL z_move ?_
    refine aL (z_lenS Tryd.underlying9) ?_
    refine aL z_gtr ?_
    refine aL z_move ?_
    refine gL rfl rfl (ev_tmp rfl) (fun hg => z_move) ?_
    refine gL rfl rfl (ev_tmp rfl) (fun hg => z_lss) ?_
    refine aL z_or ?_
    refine aL z_move ?_
    refine gL rfl rfl (ev_tmp rfl) (fun hg => z_move) ?_
    refine gL rfl rfl (ev_tmp rfl) (fun hg => z_gtr) ?_
    refine aL z_or ?_
    refine aL z_move ?_
    refine gL rfl rfl (ev_tmp rfl) (fun hg => z_move) ?_
    refine gL rfl rfl (ev_tmp rfl) (fun hg => z_eql) ?_
    refine aL z_or ?_
    refine aL z_move ?_
    refine gL rfl rfl (ev_tmp rfl) (fun hg => z_move) ?_
    refine gL rfl rfl (ev_tmp rfl) (fun hg => z_eql) ?_
    refine aL z_or ?_
    refine awl_nil (hK8 _ _ ?_)
    clear hK8 K8
    refine aC (fun r2 c2 => ?_) (fun r2 c2 => ?_)
    · refine aw_region fun K9 hK9 => ?_
      refine aL z_assign ?_
      refine awl_nil (hK9 _ _ ?_)
      clear hK9 K9
      refine aw_ret ?_
      refine (hret _ _ _ _ _ rfl (.tmp rfl .nil) rfl ?_ .nil rfl).1
      first | rfl | (simp [retD]; done)
    · refine aw_skip ?_
      refine hK7 _ _ ?_
      clear hK7
      refine aw_region fun K10 hK10 => ?_
      obtain ⟨⟨⟨⟨b1, b2⟩, b3⟩, b4⟩, b5⟩ := c2
      obtain ⟨n, rfl⟩ : ∃ n : Nat, st = (n : Int) := ⟨st.toNat, by omega⟩
      have hlb : body.length ≤ 10000 := (by omega)
      have hd3 : (digs 10 (n : Int)).length = 3 := by rw [digs_nat]; exact digs3 n (by omega) (by omega)
      have hd5 : (digs 10 (body.length : Int)).length ≤ 5 := by rw [digs_nat]; exact digs_short 10 (by decide) 4 _ (by omega)
      refine aL z_move ?_
      refine aL (z_call0 (eC (eC .nil)) en_13 (con_rDigits (n := (n : Int)) (by omega))) ?_
      refine aL z_addS ?_
      refine aL z_addS ?_
      refine aL z_assign ?_
      refine awl_nil (hK10 _ _ ?_)
      clear hK10 K10
      refine aw_seq fun K11 hK11 => ?_
      refine aw_region fun K12 hK12 => ?_
      refine aL z_move ?_
      refine aL z_rem ?_
      refine awl_nil (hK12 _ _ ?_)
      clear hK12 K12
      refine aw_block ?_
      refine aw_region fun K13 hK13 => ?_
      refine aL z_eql ?_
      refine aL z_assign ?_
      refine awl_nil (hK13 _ _ ?_)
      clear hK13 K13
      refine aC (fun r3 c3 => ?_) (fun r3 c3 => ?_)
      · refine aw_region_last ?_
        refine aL z_move ?_
        refine aL z_addS ?_
        refine aL z_move ?_
        refine aL (z_lenS Tryd.underlying9) ?_
        refine aL (z_call0 (eC (eC .nil)) en_13 (con_rDigits (n := (body.length : Int)) (by omega))) ?_
        refine aL z_addS ?_
        refine aL z_addS ?_
        refine aL z_move ?_
        refine aL z_addS ?_
        refine aL z_assign ?_
        refine awl_nil ?_
        refine hK11 _ _ ?_
        clear hK11
        first
          | (have hh0 : (how.toNat : Int).tmod 3 = 0 := c3
             obtain ⟨s, h, hrun, hok, hend⟩ := back_len n (by omega) (by omega) (by omega) (by omega) body hlb
             obtain ⟨T, hTe⟩ : ∃ T, T = headB n ++ [67, 111, 110, 116, 101, 110, 116, 45, 76, 101, 110, 103, 116, 104, 58, 32] ++ digs 10 (body.length : Int) ++ [13, 10, 13, 10] ++ body := ⟨_, rfl⟩
             have hTl : T.length ≤ 100000 := by rw [hTe]; simp [headB]; omega
             rw [← hTe] at hrun
             refine aw_weak (fr' := [(1, .v (.int .u8 (how.toNat : Int))), (5, .v (.int .i64 (n : Int))), (6, .v (.str body)), (8, .v (.str T))]) (ah' := []) (by subst hTe; exact wK) ?_
             clear hTe
             have hT := con_TakeK rfl rfl (ps0_ok false) rfl (by rw [List.length_append, show preB.length = 31 by decide]; omega) hrun
             rw [pre_used] at hT
             obtain ⟨hd9, kk9, ln9, st9, old9, fs9, many9, need9, ended9, toEnd9⟩ := s
             obtain ⟨hh9, hst9, hfs9, hdt9, hfin9⟩ := h
             obtain ⟨o1, o2, o3, ⟨F, o4⟩, o5⟩ := hok
             obtain ⟨p1, p2, p3⟩ := hend
             simp only at o1 o2 o3 o4 p1 p2
             subst o1 o2 o3 o4 p1 p2
             have hsz9 := o5.size
             have hK := con_KeepsE1 (s := ⟨hd9, kk9, ln9, st9, old9, fs9, many9, need9, true, toEnd9⟩) (ov := true) rfl (by omega)
             rw [p3] at hK)
          | (have hh0 : (how.toNat : Int).tmod 3 = 1 := c6
             have hkl : (k : Int) < (body.length : Int) := c11
             have hG := Good.chunk (e := body.drop k) (x := []) hC (by rw [List.length_drop]; omega) (by rw [List.length_drop]; omega) (.inl rfl)
             rw [List.take_append_drop] at hG
             obtain ⟨s, h, hrun, hok, hend⟩ := back_chunks n (by omega) (by omega) (by omega) (by omega) hG
             have hdl : (digs 16 ((body.length : Int) - (k : Int))).length ≤ 4 := by rw [show (body.length : Int) - (k : Int) = ((body.length - k : Nat) : Int) by omega, digs_nat]; exact digs_short 16 (by decide) 3 _ (by omega)
             rw [show headB n ++ [84, 114, 97, 110, 115, 102, 101, 114, 45, 69, 110, 99, 111, 100, 105, 110, 103, 58, 32, 99, 104, 117, 110, 107, 101, 100, 13, 10, 13, 10] ++ (C ++ (digsM 16 (body.drop k).length ++ [] ++ [13, 10] ++ body.drop k ++ [13, 10])) = headB n ++ [84, 114, 97, 110, 115, 102, 101, 114, 45, 69, 110, 99, 111, 100, 105, 110, 103, 58, 32, 99, 104, 117, 110, 107, 101, 100, 13, 10, 13, 10] ++ C ++ digs 16 ((body.length : Int) - (k : Int)) ++ [13, 10] ++ body.drop k ++ [13, 10] by rw [show (body.length : Int) - (k : Int) = ((body.length - k : Nat) : Int) by omega, digs_nat, List.length_drop]; simp] at hrun
             obtain ⟨T, hTe⟩ : ∃ T, T = headB n ++ [84, 114, 97, 110, 115, 102, 101, 114, 45, 69, 110, 99, 111, 100, 105, 110, 103, 58, 32, 99, 104, 117, 110, 107, 101, 100, 13, 10, 13, 10] ++ C ++ digs 16 ((body.length : Int) - (k : Int)) ++ [13, 10] ++ body.drop k ++ [13, 10] ++ [48, 13, 10, 84, 58, 32, 117, 13, 10, 13, 10] := ⟨_, rfl⟩
             have hTl : T.length ≤ 100000 := by rw [hTe]; simp [headB]; omega
             rw [← hTe] at hrun
             refine aw_weak (fr' := [(1, .v (.int .u8 (how.toNat : Int))), (5, .v (.int .i64 (n : Int))), (6, .v (.str body)), (8, .v (.str T))]) (ah' := []) (by subst hTe; exact wK) ?_
             clear hTe
             have hT := con_TakeK rfl rfl (ps0_ok false) rfl (by rw [List.length_append, show preB.length = 31 by decide]; omega) hrun
             rw [pre_used] at hT
             obtain ⟨hd9, kk9, ln9, st9, old9, fs9, many9, need9, ended9, toEnd9⟩ := s
             obtain ⟨hh9, hst9, hfs9, hdt9, hfin9⟩ := h
             obtain ⟨o1, o2, o3, ⟨F, o4⟩, o5⟩ := hok
             obtain ⟨p1, p2, p3⟩ := hend
             simp only at o1 o2 o3 o4 p1 p2
             subst o1 o2 o3 o4 p1 p2
             have hsz9 := o5.size
             have hK := con_KeepsE1 (s := ⟨hd9, kk9, ln9, st9, old9, fs9, many9, need9, true, toEnd9⟩) (ov := true) rfl (by omega)
             rw [p3] at hK)
          | (have hh0 : (how.toNat : Int).tmod 3 = 1 := c6
             have hkl : (body.length : Int) ≤ (k : Int) := c11
             rw [List.take_of_length_le (by omega)] at hC
             obtain ⟨s, h, hrun, hok, hend⟩ := back_chunks n (by omega) (by omega) (by omega) (by omega) hC
             obtain ⟨T, hTe⟩ : ∃ T, T = headB n ++ [84, 114, 97, 110, 115, 102, 101, 114, 45, 69, 110, 99, 111, 100, 105, 110, 103, 58, 32, 99, 104, 117, 110, 107, 101, 100, 13, 10, 13, 10] ++ C ++ [48, 13, 10, 84, 58, 32, 117, 13, 10, 13, 10] := ⟨_, rfl⟩
             have hTl : T.length ≤ 100000 := by rw [hTe]; simp [headB]; omega
             rw [← hTe] at hrun
             refine aw_weak (fr' := [(1, .v (.int .u8 (how.toNat : Int))), (5, .v (.int .i64 (n : Int))), (6, .v (.str body)), (8, .v (.str T))]) (ah' := []) (by subst hTe; exact wK) ?_
             clear hTe
             have hT := con_TakeK rfl rfl (ps0_ok false) rfl (by rw [List.length_append, show preB.length = 31 by decide]; omega) hrun
             rw [pre_used] at hT
             obtain ⟨hd9, kk9, ln9, st9, old9, fs9, many9, need9, ended9, toEnd9⟩ := s
             obtain ⟨hh9, hst9, hfs9, hdt9, hfin9⟩ := h
             obtain ⟨o1, o2, o3, ⟨F, o4⟩, o5⟩ := hok
             obtain ⟨p1, p2, p3⟩ := hend
             simp only at o1 o2 o3 o4 p1 p2
             subst o1 o2 o3 o4 p1 p2
             have hsz9 := o5.size
             have hK := con_KeepsE1 (s := ⟨hd9, kk9, ln9, st9, old9, fs9, many9, need9, true, toEnd9⟩) (ov := true) rfl (by omega)
             rw [p3] at hK)
          | (have hh0 : ¬ (how.toNat : Int).tmod 3 = 1 := c6
             obtain ⟨s, h, hrun, hok, p1, p2, p3, p4⟩ := back_rest n (by omega) (by omega) (by omega) (by omega) body
             obtain ⟨T, hTe⟩ : ∃ T, T = headB n ++ [13, 10] ++ body := ⟨_, rfl⟩
             have hTl : T.length ≤ 100000 := by rw [hTe]; simp [headB]; omega
             rw [← hTe] at hrun
             refine aw_weak (fr' := [(1, .v (.int .u8 (how.toNat : Int))), (5, .v (.int .i64 (n : Int))), (6, .v (.str body)), (8, .v (.str T))]) (ah' := []) (by subst hTe; exact wK) ?_
             clear hTe
             have hT := con_TakeK rfl rfl (ps0_ok false) rfl (by rw [List.length_append, show preB.length = 31 by decide]; omega) hrun
             rw [pre_used] at hT
             obtain ⟨hd9, kk9, ln9, st9, old9, fs9, many9, need9, ended9, toEnd9⟩ := s
             obtain ⟨hh9, hst9, hfs9, hdt9, hfin9⟩ := h
             obtain ⟨o1, o2, o3, ⟨F, o4⟩, o5⟩ := hok
             simp only at o1 o2 o3 o4 p1 p2 p3 p4
             subst o1 o2 o3 o4 p1 p2 p3 p4)
        refine aw_region fun K14 hK14 => ?_
        refine aL (z_callG [0, 1, 2] (eC .nil) en_9 con_New .nil) ?_
        refine aL z_assign ?_
        refine awl_nil (hK14 _ _ ?_)
        clear hK14 K14
        refine aw_region fun K15 hK15 => ?_
        refine aL z_move ?_
        refine aL z_move ?_
        refine aL z_addS ?_
        refine aL (z_convB Tryd.underlying9 Tryd.underlying32 Tryd.underlying5) ?_
        refine aL (z_callG [0, 1, 2] (eC (eC .nil)) en_10 hT (pA (pA (pA .nil)))) ?_
        refine aL z_move ?_
        refine aL z_extract ?_
        refine aL z_extract ?_
        refine aL z_extract ?_
        refine aL (z_alloc 21 zc_28 zl_28) ?_
        refine aL (z_store sz_28) ?_
        refine aL z_assign ?_
        refine aL z_assign ?_
        refine awl_nil (hK15 _ _ ?_)
        clear hK15 K15
        refine aw_seq fun K16 hK16 => ?_
        refine aw_region fun K17 hK17 => ?_
        refine aL z_move ?_
        refine aL z_neq ?_
        refine aL z_move ?_
        refine yL rfl rfl (ev_tmp rfl) (by have hF : ¬ ((F.length : Int) + 1 = 0) := (by omega); simp [hF]) (z_move) ?_
        refine yL rfl rfl (ev_tmp rfl) (by have hF : ¬ ((F.length : Int) + 1 = 0) := (by omega); simp [hF]) (z_move) ?_
        refine yL rfl rfl (ev_tmp rfl) (by have hF : ¬ ((F.length : Int) + 1 = 0) := (by omega); simp [hF]) (z_lenS Tryd.underlying9) ?_
        refine yL rfl rfl (ev_tmp rfl) (by have hF : ¬ ((F.length : Int) + 1 = 0) := (by omega); simp [hF]) (z_add) ?_
        refine yL rfl rfl (ev_tmp rfl) (by have hF : ¬ ((F.length : Int) + 1 = 0) := (by omega); simp [hF]) (z_neq) ?_
        refine aL z_or ?_
        refine aL z_move ?_
        refine yL rfl rfl (ev_tmp rfl) (by have hF : ¬ ((F.length : Int) + 1 = 0) := (by omega); simp [hF]) (z_fieldAddr fo_28_0) ?_
        refine yL rfl rfl (ev_tmp rfl) (by have hF : ¬ ((F.length : Int) + 1 = 0) := (by omega); simp [hF]) (z_load sz_4) ?_
        refine yL rfl rfl (ev_tmp rfl) (by have hF : ¬ ((F.length : Int) + 1 = 0) := (by omega); simp [hF]) (z_not) ?_
        refine aL z_or ?_
        refine aL z_move ?_
        refine yL rfl rfl (ev_tmp rfl) (by have hF : ¬ ((F.length : Int) + 1 = 0) := (by omega); simp [hF]) (z_fieldAddr fo_28_1) ?_
        refine yL rfl rfl (ev_tmp rfl) (by have hF : ¬ ((F.length : Int) + 1 = 0) := (by omega); simp [hF]) (z_load sz_3) ?_
        refine yL rfl rfl (ev_tmp rfl) (by have hF : ¬ ((F.length : Int) + 1 = 0) := (by omega); simp [hF]) (z_move) ?_
        refine yL rfl rfl (ev_tmp rfl) (by have hF : ¬ ((F.length : Int) + 1 = 0) := (by omega); simp [hF]) (z_neq) ?_
        refine aL z_or ?_
        refine aL z_move ?_
        refine yL rfl rfl (ev_tmp rfl) (by have hF : ¬ ((F.length : Int) + 1 = 0) := (by omega); simp [hF]) (z_fieldAddr fo_28_3) ?_
        refine yL rfl rfl (ev_tmp rfl) (by have hF : ¬ ((F.length : Int) + 1 = 0) := (by omega); simp [hF]) (z_load sz_9) ?_
        refine yL rfl rfl (ev_tmp rfl) (by have hF : ¬ ((F.length : Int) + 1 = 0) := (by omega); simp [hF]) (z_move) ?_
        refine yL rfl rfl (ev_tmp rfl) (by have hF : ¬ ((F.length : Int) + 1 = 0) := (by omega); simp [hF]) (z_neqS) ?_
        refine aL z_or ?_
        refine aL z_move ?_
        refine yL rfl rfl (ev_tmp rfl) (by have hF : ¬ ((F.length : Int) + 1 = 0) := (by omega); simp [hF]) (z_fieldAddr fo_28_2) ?_
        refine yL rfl rfl (ev_tmp rfl) (by have hF : ¬ ((F.length : Int) + 1 = 0) := (by omega); simp [hF]) (z_load sz_26) ?_
        refine yL rfl rfl (ev_tmp rfl) (by have hF : ¬ ((F.length : Int) + 1 = 0) := (by omega); simp [hF]) (z_len Tryd.underlying26) ?_
        refine yL rfl rfl (ev_tmp rfl) (by have hF : ¬ ((F.length : Int) + 1 = 0) := (by omega); simp [hF]) (z_eql) ?_
        refine aL z_or ?_
        refine aL z_move ?_
        refine yL rfl rfl (ev_tmp rfl) (by have hF : ¬ ((F.length : Int) + 1 = 0) := (by omega); simp [hF]) (z_fieldAddr fo_28_2) ?_
        refine yL rfl rfl (ev_tmp rfl) (by have hF : ¬ ((F.length : Int) + 1 = 0) := (by omega); simp [hF]) (z_load sz_26) ?_
        refine yL rfl rfl (ev_tmp rfl) (by have hF : ¬ ((F.length : Int) + 1 = 0) := (by omega); simp [hF]) (z_indexAddr (i := 0) (cs := [.str [120, 45, 97], .str [98], .bool false]) Tryd.underlying26 sz_47 (hb := rfl)) ?_
        refine yL rfl rfl (ev_tmp rfl) (by have hF : ¬ ((F.length : Int) + 1 = 0) := (by omega); simp [hF]) (z_loadRef sz_47) ?_
        refine yL rfl rfl (ev_tmp rfl) (by have hF : ¬ ((F.length : Int) + 1 = 0) := (by omega); simp [hF]) (z_build (pC (pC .nil)) pl_47 zc_47 zl_47) ?_
        refine yL rfl rfl (ev_tmp rfl) (by have hF : ¬ ((F.length : Int) + 1 = 0) := (by omega); simp [hF]) (z_neqA sk_47) ?_
        refine aL z_or ?_
        refine awl_nil (hK17 _ _ ?_)
        clear hK17 K17
        refine aC (fun r4 c4 => ?_) (fun r4 c4 => ?_)
        · exfalso
          have hF : ¬ ((F.length : Int) + 1 = 0) := (by omega)
          revert r4
          simp [hF]
          rfl
        · refine aw_skip ?_
          refine hK16 _ _ ?_
          clear hK16
          refine aw_seq fun K18 hK18 => ?_
          refine aw_region fun K19 hK19 => ?_
          refine aL z_move ?_
          refine aL z_rem ?_
          refine aL z_eql ?_
          refine awl_nil (hK19 _ _ ?_)
          clear hK19 K19
          refine aC (fun r5 c5 => ?_) (fun r5 c5 => ?_)
          · exfalso; omega
          · refine aw_skip ?_
            refine hK18 _ _ ?_
            clear hK18
            refine aw_region fun K20 hK20 => ?_
            refine aL (z_fieldAddr fo_28_4) ?_
            refine aL (z_load sz_4) ?_
            refine aL z_move ?_
            refine yL rfl rfl (ev_tmp rfl) (by rfl) (z_move) ?_
            refine yL rfl rfl (ev_tmp rfl) (by rfl) (z_callG [0, 1, 2] (eC .nil) en_12 hK (pA (pA (pA .nil)))) ?_
            refine aL z_and ?_
            refine aL z_assign ?_
            refine awl_nil (hK20 _ _ ?_)
            clear hK20 K20
            refine aw_ret ?_
            refine (hret _ _ _ _ _ rfl (.tmp rfl .nil) rfl ?_ .nil rfl).1
            first | rfl | (simp [retD]; done)
      · refine aw_region fun K21 hK21 => ?_
        refine aL z_eql ?_
        refine aL z_assign ?_
        refine awl_nil (hK21 _ _ ?_)
        clear hK21 K21
        refine aC (fun r6 c6 => ?_) (fun r6 c6 => ?_)
        · refine aw_region fun K22 hK22 => ?_
          refine aL z_move ?_
          refine aL z_addS ?_
          refine aL z_assign ?_
          refine awl_nil (hK22 _ _ ?_)
          clear hK22 K22
          refine aw_region fun K23 hK23 => ?_
          refine aL z_assign ?_
          refine awl_nil (hK23 _ _ ?_)
          clear hK23 K23
          refine aw_seq fun K24 hK24 => ?_
          refine aw_region fun K25 hK25 => ?_
          refine aL z_assign ?_
          refine awl_nil (hK25 _ _ ?_)
          clear hK25 K25
          refine aw_block ?_
          refine aw_loop (α := {x : Nat × Nat × List UInt8 // x.2.1 ≤ body.length ∧ Good n x.2.2 (body.take x.2.1) ∧ x.2.2.length ≤ 20 * x.1 + x.2.1 ∧ x.1 ≤ 100}) (fun x => ([(1, .v (.int .u8 (how.toNat : Int))), (5, .v (.int .i64 (n : Int))), (6, .v (.str body)), (7, .v (.sl (bs cuts))), (8, .v (.str ((headB n ++ [84, 114, 97, 110, 115, 102, 101, 114, 45, 69, 110, 99, 111, 100, 105, 110, 103, 58, 32, 99, 104, 117, 110, 107, 101, 100, 13, 10, 13, 10]) ++ x.1.2.2))), (9, .v (.int .i64 (x.1.2.1 : Int))), (10, .v (.int .i64 (x.1.1 : Int)))], [])) (fun x => 100 - x.1.1) ⟨(0, 0, []), Nat.zero_le _, Good.nil n, by simp, by omega⟩ ?_ ?_
          · dsimp only
            rw [List.append_nil]
            exact wK
          · rintro ⟨⟨i, k, C⟩, hk, hC, hCl, hi100⟩ K26 hK26
            dsimp only
            dsimp only at hk hC hCl hi100
            have hHl : (headB n).length ≤ 30 := by simp; omega
            refine aw_seq fun K27 hK27 => ?_
            refine aw_region fun K28 hK28 => ?_
            refine aL z_move ?_
            refine aL z_move ?_
            refine aL (z_lenB Tryd.underlying32) ?_
            refine aL z_lss ?_
            refine aL z_move ?_
            refine gL rfl rfl (ev_tmp rfl) (fun hg => z_move) ?_
            refine gL rfl rfl (ev_tmp rfl) (fun hg => z_lss) ?_
            refine aL z_and ?_
            refine awl_nil (hK28 _ _ ?_)
            clear hK28 K28
            refine aC (fun r7 c7 => ?_) (fun r7 c7 => ?_)
            · refine aw_skip ?_
              refine hK27 _ _ ?_
              clear hK27
              refine aw_seq fun K29 hK29 => ?_
              refine aw_block ?_
              refine aw_region fun K30 hK30 => ?_
              have hlt : i < cuts.length := (by omega)
              have hg := bs_at hlt
              generalize cuts[i] = c at hg
              have hc8 := c.toNat_lt
              refine aL z_move ?_
              refine aL z_move ?_
              refine aL (z_indexAddr Tryd.underlying32 sz_5) ?_
              refine aL (z_loadRef sz_5) ?_
              refine aL (z_conv Tryd.underlying3 ⟨_, Tryd.underlying5⟩) ?_
              refine aL z_assign ?_
              refine awl_nil (hK30 _ _ ?_)
              clear hK30 K30
              refine aw_seq fun K31 hK31 => ?_
              refine aw_region fun K32 hK32 => ?_
              refine aL z_move ?_
              refine aL z_move ?_
              refine aL (z_lenS Tryd.underlying9) ?_
              refine aL z_move ?_
              refine aL z_sub ?_
              refine aL z_gtr ?_
              refine awl_nil (hK32 _ _ ?_)
              clear hK32 K32
              refine aC (fun r8 c8 => ?_) (fun r8 c8 => ?_)
              · refine aw_region_last ?_
                refine aL z_move ?_
                refine aL (z_lenS Tryd.underlying9) ?_
                refine aL z_move ?_
                refine aL z_sub ?_
                refine aL z_assign ?_
                refine awl_nil ?_
                refine hK31 _ _ ?_
                clear hK31
                refine aw_seq fun K33 hK33 => ?_
                refine aw_region fun K34 hK34 => ?_
                first
                  | (have q2 : (c.toNat : Int) ≤ (body.length : Int) - (k : Int) := c8
                     obtain ⟨m, hm⟩ : ∃ m, c.toNat = m := ⟨_, rfl⟩
                     rw [hm]
                     have hmk : k + m ≤ body.length := by omega
                     skip)
                  | (have e : (body.length : Int) - (k : Int) = ((body.length - k : Nat) : Int) := by omega
                     rw [e]
                     obtain ⟨m, hm⟩ : ∃ m, body.length - k = m := ⟨_, rfl⟩
                     rw [hm]
                     have hmk : k + m ≤ body.length := by omega
                     skip)
                have hdm : (digs 16 (m : Int)).length ≤ 4 := by rw [digs_nat]; exact digs_short 16 (by decide) 3 _ (by omega)
                refine aL z_move ?_
                refine aL z_gtr ?_
                refine awl_nil (hK34 _ _ ?_)
                clear hK34 K34
                refine aC (fun r9 c9 => ?_) (fun r9 c9 => ?_)
                · refine aw_regionD_last mx_all (by kernel_rfl) ?_
                  refine aD z_move ?_
                  refine aD z_move ?_
                  refine aD (z_call0 (eC (eC .nil)) en_13 (con_rDigits16 (n := (m : Int)) (by omega))) ?_
                  refine aD z_addS ?_
                  refine aD z_addS ?_
                  refine aD z_move ?_
                  refine aD z_move ?_
                  refine aD z_move ?_
                  refine aD z_move ?_
                  refine aD z_add ?_
                  refine aD (z_sliceS Tryd.underlying9 (i := some k) (hlo := .yes (ev_tmp rfl) rfl) (j := some (k + m)) (hhi := .yes (ev_tmp rfl) (by omega)) (l' := (body.drop k).take m) (h1 := by simp) (h2 := hmk) (hc := by simp)) ?_
                  refine aD z_addS ?_
                  refine aD z_addS ?_
                  refine aD z_assign ?_
                  refine awd_nil (by kernel_rfl) ?_
                  refine hK33 _ _ ?_
                  clear hK33
                  refine aw_region_last ?_
                  refine aL z_move ?_
                  refine aL z_move ?_
                  refine aL z_add ?_
                  refine aL z_assign ?_
                  refine awl_nil ?_
                  refine hK29 _ _ ?_
                  clear hK29
                  refine aw_region_last ?_
                  refine aL z_move ?_
                  refine aL z_add ?_
                  refine aL z_assign ?_
                  refine awl_nil ?_
                  first
                    | (have h0 : 1 ≤ m := by omega
                       have hel : ((body.drop k).take m).length = m := by rw [List.length_take, List.length_drop]; omega
                       have hG := Good.chunk (e := (body.drop k).take m) (x := [59, 120, 61, 121]) hC (by omega) (by omega) (.inr rfl)
                       rw [hel, show body.take k ++ (body.drop k).take m = body.take (k + m) from (List.take_add ..).symm] at hG
                       have hdd : (digsM 16 m).length ≤ 4 := digs_short 16 (by decide) 3 _ (by omega)
                       refine hK26 _ _ ⟨(i + 1, k + m, (C ++ (digsM 16 m ++ [59, 120, 61, 121] ++ [13, 10] ++ (body.drop k).take m ++ [13, 10]))), hmk, hG, by simp at hel ⊢; omega, by dsimp only; omega⟩ (by dsimp only; omega) ?_
                       dsimp only
                       rw [show headB n ++ [84, 114, 97, 110, 115, 102, 101, 114, 45, 69, 110, 99, 111, 100, 105, 110, 103, 58, 32, 99, 104, 117, 110, 107, 101, 100, 13, 10, 13, 10] ++ (C ++ (digsM 16 m ++ [59, 120, 61, 121] ++ [13, 10] ++ (body.drop k).take m ++ [13, 10])) = headB n ++ [84, 114, 97, 110, 115, 102, 101, 114, 45, 69, 110, 99, 111, 100, 105, 110, 103, 58, 32, 99, 104, 117, 110, 107, 101, 100, 13, 10, 13, 10] ++ C ++ digs 16 (m : Int) ++ [59, 120, 61, 121, 13, 10] ++ (body.drop k).take m ++ [13, 10] by rw [digs_nat]; simp]
                       exact wK)
                    | (obtain rfl : m = 0 := by omega
                       refine hK26 _ _ ⟨(i + 1, k, C), hk, hC, by dsimp only; omega, by dsimp only; omega⟩ (by dsimp only; omega) ?_
                       exact wK)
                · refine aw_skip ?_
                  refine hK33 _ _ ?_
                  clear hK33
                  refine aw_region_last ?_
                  refine aL z_move ?_
                  refine aL z_move ?_
                  refine aL z_add ?_
                  refine aL z_assign ?_
                  refine awl_nil ?_
                  refine hK29 _ _ ?_
                  clear hK29
                  refine aw_region_last ?_
                  refine aL z_move ?_
                  refine aL z_add ?_
                  refine aL z_assign ?_
                  refine awl_nil ?_
                  first
                    | (have h0 : 1 ≤ m := by omega
                       have hel : ((body.drop k).take m).length = m := by rw [List.length_take, List.length_drop]; omega
                       have hG := Good.chunk (e := (body.drop k).take m) (x := [59, 120, 61, 121]) hC (by omega) (by omega) (.inr rfl)
                       rw [hel, show body.take k ++ (body.drop k).take m = body.take (k + m) from (List.take_add ..).symm] at hG
                       have hdd : (digsM 16 m).length ≤ 4 := digs_short 16 (by decide) 3 _ (by omega)
                       refine hK26 _ _ ⟨(i + 1, k + m, (C ++ (digsM 16 m ++ [59, 120, 61, 121] ++ [13, 10] ++ (body.drop k).take m ++ [13, 10]))), hmk, hG, by simp at hel ⊢; omega, by dsimp only; omega⟩ (by dsimp only; omega) ?_
                       dsimp only
                       rw [show headB n ++ [84, 114, 97, 110, 115, 102, 101, 114, 45, 69, 110, 99, 111, 100, 105, 110, 103, 58, 32, 99, 104, 117, 110, 107, 101, 100, 13, 10, 13, 10] ++ (C ++ (digsM 16 m ++ [59, 120, 61, 121] ++ [13, 10] ++ (body.drop k).take m ++ [13, 10])) = headB n ++ [84, 114, 97, 110, 115, 102, 101, 114, 45, 69, 110, 99, 111, 100, 105, 110, 103, 58, 32, 99, 104, 117, 110, 107, 101, 100, 13, 10, 13, 10] ++ C ++ digs 16 (m : Int) ++ [59, 120, 61, 121, 13, 10] ++ (body.drop k).take m ++ [13, 10] by rw [digs_nat]; simp]
                       exact wK)
                    | (obtain rfl : m = 0 := by omega
                       refine hK26 _ _ ⟨(i + 1, k, C), hk, hC, by dsimp only; omega, by dsimp only; omega⟩ (by dsimp only; omega) ?_
                       exact wK)
              · refine aw_skip ?_
                refine hK31 _ _ ?_
                clear hK31
                refine aw_seq fun K35 hK35 => ?_
                refine aw_region fun K36 hK36 => ?_
                first
                  | (have q2 : (c.toNat : Int) ≤ (body.length : Int) - (k : Int) := c8
                     obtain ⟨m, hm⟩ : ∃ m, c.toNat = m := ⟨_, rfl⟩
                     rw [hm]
                     have hmk : k + m ≤ body.length := by omega
                     skip)
                  | (have e : (body.length : Int) - (k : Int) = ((body.length - k : Nat) : Int) := by omega
                     rw [e]
                     obtain ⟨m, hm⟩ : ∃ m, body.length - k = m := ⟨_, rfl⟩
                     rw [hm]
                     have hmk : k + m ≤ body.length := by omega
                     skip)
                have hdm : (digs 16 (m : Int)).length ≤ 4 := by rw [digs_nat]; exact digs_short 16 (by decide) 3 _ (by omega)
                refine aL z_move ?_
                refine aL z_gtr ?_
                refine awl_nil (hK36 _ _ ?_)
                clear hK36 K36
                refine aC (fun r10 c10 => ?_) (fun r10 c10 => ?_)
                · refine aw_regionD_last mx_all (by kernel_rfl) ?_
                  refine aD z_move ?_
                  refine aD z_move ?_
                  refine aD (z_call0 (eC (eC .nil)) en_13 (con_rDigits16 (n := (m : Int)) (by omega))) ?_
                  refine aD z_addS ?_
                  refine aD z_addS ?_
                  refine aD z_move ?_
                  refine aD z_move ?_
                  refine aD z_move ?_
                  refine aD z_move ?_
                  refine aD z_add ?_
                  refine aD (z_sliceS Tryd.underlying9 (i := some k) (hlo := .yes (ev_tmp rfl) rfl) (j := some (k + m)) (hhi := .yes (ev_tmp rfl) (by omega)) (l' := (body.drop k).take m) (h1 := by simp) (h2 := hmk) (hc := by simp)) ?_
                  refine aD z_addS ?_
                  refine aD z_addS ?_
                  refine aD z_assign ?_
                  refine awd_nil (by kernel_rfl) ?_
                  refine hK35 _ _ ?_
                  clear hK35
                  refine aw_region_last ?_
                  refine aL z_move ?_
                  refine aL z_move ?_
                  refine aL z_add ?_
                  refine aL z_assign ?_
                  refine awl_nil ?_
                  refine hK29 _ _ ?_
                  clear hK29
                  refine aw_region_last ?_
                  refine aL z_move ?_
                  refine aL z_add ?_
                  refine aL z_assign ?_
                  refine awl_nil ?_
                  first
                    | (have h0 : 1 ≤ m := by omega
                       have hel : ((body.drop k).take m).length = m := by rw [List.length_take, List.length_drop]; omega
                       have hG := Good.chunk (e := (body.drop k).take m) (x := [59, 120, 61, 121]) hC (by omega) (by omega) (.inr rfl)
                       rw [hel, show body.take k ++ (body.drop k).take m = body.take (k + m) from (List.take_add ..).symm] at hG
                       have hdd : (digsM 16 m).length ≤ 4 := digs_short 16 (by decide) 3 _ (by omega)
                       refine hK26 _ _ ⟨(i + 1, k + m, (C ++ (digsM 16 m ++ [59, 120, 61, 121] ++ [13, 10] ++ (body.drop k).take m ++ [13, 10]))), hmk, hG, by simp at hel ⊢; omega, by dsimp only; omega⟩ (by dsimp only; omega) ?_
                       dsimp only
                       rw [show headB n ++ [84, 114, 97, 110, 115, 102, 101, 114, 45, 69, 110, 99, 111, 100, 105, 110, 103, 58, 32, 99, 104, 117, 110, 107, 101, 100, 13, 10, 13, 10] ++ (C ++ (digsM 16 m ++ [59, 120, 61, 121] ++ [13, 10] ++ (body.drop k).take m ++ [13, 10])) = headB n ++ [84, 114, 97, 110, 115, 102, 101, 114, 45, 69, 110, 99, 111, 100, 105, 110, 103, 58, 32, 99, 104, 117, 110, 107, 101, 100, 13, 10, 13, 10] ++ C ++ digs 16 (m : Int) ++ [59, 120, 61, 121, 13, 10] ++ (body.drop k).take m ++ [13, 10] by rw [digs_nat]; simp]
                       exact wK)
                    | (obtain rfl : m = 0 := by omega
                       refine hK26 _ _ ⟨(i + 1, k, C), hk, hC, by dsimp only; omega, by dsimp only; omega⟩ (by dsimp only; omega) ?_
                       exact wK)
                · refine aw_skip ?_
                  refine hK35 _ _ ?_
                  clear hK35
                  refine aw_region_last ?_
                  refine aL z_move ?_
                  refine aL z_move ?_
                  refine aL z_add ?_
                  refine aL z_assign ?_
                  refine awl_nil ?_
                  refine hK29 _ _ ?_
                  clear hK29
                  refine aw_region_last ?_
                  refine aL z_move ?_
                  refine aL z_add ?_
                  refine aL z_assign ?_
                  refine awl_nil ?_
                  first
                    | (have h0 : 1 ≤ m := by omega
                       have hel : ((body.drop k).take m).length = m := by rw [List.length_take, List.length_drop]; omega
                       have hG := Good.chunk (e := (body.drop k).take m) (x := [59, 120, 61, 121]) hC (by omega) (by omega) (.inr rfl)
                       rw [hel, show body.take k ++ (body.drop k).take m = body.take (k + m) from (List.take_add ..).symm] at hG
                       have hdd : (digsM 16 m).length ≤ 4 := digs_short 16 (by decide) 3 _ (by omega)
                       refine hK26 _ _ ⟨(i + 1, k + m, (C ++ (digsM 16 m ++ [59, 120, 61, 121] ++ [13, 10] ++ (body.drop k).take m ++ [13, 10]))), hmk, hG, by simp at hel ⊢; omega, by dsimp only; omega⟩ (by dsimp only; omega) ?_
                       dsimp only
                       rw [show headB n ++ [84, 114, 97, 110, 115, 102, 101, 114, 45, 69, 110, 99, 111, 100, 105, 110, 103, 58, 32, 99, 104, 117, 110, 107, 101, 100, 13, 10, 13, 10] ++ (C ++ (digsM 16 m ++ [59, 120, 61, 121] ++ [13, 10] ++ (body.drop k).take m ++ [13, 10])) = headB n ++ [84, 114, 97, 110, 115, 102, 101, 114, 45, 69, 110, 99, 111, 100, 105, 110, 103, 58, 32, 99, 104, 117, 110, 107, 101, 100, 13, 10, 13, 10] ++ C ++ digs 16 (m : Int) ++ [59, 120, 61, 121, 13, 10] ++ (body.drop k).take m ++ [13, 10] by rw [digs_nat]; simp]
                       exact wK)
                    | (obtain rfl : m = 0 := by omega
                       refine hK26 _ _ ⟨(i + 1, k, C), hk, hC, by dsimp only; omega, by dsimp only; omega⟩ (by dsimp only; omega) ?_
                       exact wK)
            · refine aw_exit ?_
              refine hK24 _ _ ?_
              clear hK24
              refine aw_seq fun K37 hK37 => ?_
              refine aw_region fun K38 hK38 => ?_
              refine aL z_move ?_
              refine aL z_move ?_
              refine aL (z_lenS Tryd.underlying9) ?_
              refine aL z_lss ?_
              refine awl_nil (hK38 _ _ ?_)
              clear hK38 K38
              refine aC (fun r11 c11 => ?_) (fun r11 c11 => ?_)
              · refine aw_regionD_last mx_all (by kernel_rfl) ?_
                have hkl : (k : Int) < (body.length : Int) := c11
                have hdl : (digs 16 ((body.length : Int) - (k : Int))).length ≤ 4 := by rw [show (body.length : Int) - (k : Int) = ((body.length - k : Nat) : Int) by omega, digs_nat]; exact digs_short 16 (by decide) 3 _ (by omega)
                refine aD z_move ?_
                refine aD z_move ?_
                refine aD (z_lenS Tryd.underlying9) ?_
                refine aD z_move ?_
                refine aD z_sub ?_
                refine aD (z_call0 (eC (eC .nil)) en_13 (con_rDigits16 (n := (body.length : Int) - (k : Int)) (by omega))) ?_
                refine aD z_addS ?_
                refine aD z_addS ?_
                refine aD z_move ?_
                refine aD z_move ?_
                refine aD (z_sliceS Tryd.underlying9 (i := some k) (hlo := .yes (ev_tmp rfl) rfl) (l' := body.drop k) (h1 := by simpa using hk) (h2 := by simp) (hc := by simp)) ?_
                refine aD z_addS ?_
                refine aD z_addS ?_
                refine aD z_assign ?_
                refine awd_nil (by kernel_rfl) ?_
                refine hK37 _ _ ?_
                clear hK37
                refine aw_region_last ?_
                refine aL z_move ?_
                refine aL z_addS ?_
                refine aL z_assign ?_
                refine awl_nil ?_
                refine hK11 _ _ ?_
                clear hK11
                first
                  | (have hh0 : (how.toNat : Int).tmod 3 = 0 := c3
                     obtain ⟨s, h, hrun, hok, hend⟩ := back_len n (by omega) (by omega) (by omega) (by omega) body hlb
                     obtain ⟨T, hTe⟩ : ∃ T, T = headB n ++ [67, 111, 110, 116, 101, 110, 116, 45, 76, 101, 110, 103, 116, 104, 58, 32] ++ digs 10 (body.length : Int) ++ [13, 10, 13, 10] ++ body := ⟨_, rfl⟩
                     have hTl : T.length ≤ 100000 := by rw [hTe]; simp [headB]; omega
                     rw [← hTe] at hrun
                     refine aw_weak (fr' := [(1, .v (.int .u8 (how.toNat : Int))), (5, .v (.int .i64 (n : Int))), (6, .v (.str body)), (8, .v (.str T))]) (ah' := []) (by subst hTe; exact wK) ?_
                     clear hTe
                     have hT := con_TakeK rfl rfl (ps0_ok false) rfl (by rw [List.length_append, show preB.length = 31 by decide]; omega) hrun
                     rw [pre_used] at hT
                     obtain ⟨hd9, kk9, ln9, st9, old9, fs9, many9, need9, ended9, toEnd9⟩ := s
                     obtain ⟨hh9, hst9, hfs9, hdt9, hfin9⟩ := h
                     obtain ⟨o1, o2, o3, ⟨F, o4⟩, o5⟩ := hok
                     obtain ⟨p1, p2, p3⟩ := hend
                     simp only at o1 o2 o3 o4 p1 p2
                     subst o1 o2 o3 o4 p1 p2
                     have hsz9 := o5.size
                     have hK := con_KeepsE1 (s := ⟨hd9, kk9, ln9, st9, old9, fs9, many9, need9, true, toEnd9⟩) (ov := true) rfl (by omega)
                     rw [p3] at hK)
                  | (have hh0 : (how.toNat : Int).tmod 3 = 1 := c6
                     have hkl : (k : Int) < (body.length : Int) := c11
                     have hG := Good.chunk (e := body.drop k) (x := []) hC (by rw [List.length_drop]; omega) (by rw [List.length_drop]; omega) (.inl rfl)
                     rw [List.take_append_drop] at hG
                     obtain ⟨s, h, hrun, hok, hend⟩ := back_chunks n (by omega) (by omega) (by omega) (by omega) hG
                     have hdl : (digs 16 ((body.length : Int) - (k : Int))).length ≤ 4 := by rw [show (body.length : Int) - (k : Int) = ((body.length - k : Nat) : Int) by omega, digs_nat]; exact digs_short 16 (by decide) 3 _ (by omega)
                     rw [show headB n ++ [84, 114, 97, 110, 115, 102, 101, 114, 45, 69, 110, 99, 111, 100, 105, 110, 103, 58, 32, 99, 104, 117, 110, 107, 101, 100, 13, 10, 13, 10] ++ (C ++ (digsM 16 (body.drop k).length ++ [] ++ [13, 10] ++ body.drop k ++ [13, 10])) = headB n ++ [84, 114, 97, 110, 115, 102, 101, 114, 45, 69, 110, 99, 111, 100, 105, 110, 103, 58, 32, 99, 104, 117, 110, 107, 101, 100, 13, 10, 13, 10] ++ C ++ digs 16 ((body.length : Int) - (k : Int)) ++ [13, 10] ++ body.drop k ++ [13, 10] by rw [show (body.length : Int) - (k : Int) = ((body.length - k : Nat) : Int) by omega, digs_nat, List.length_drop]; simp] at hrun
                     obtain ⟨T, hTe⟩ : ∃ T, T = headB n ++ [84, 114, 97, 110, 115, 102, 101, 114, 45, 69, 110, 99, 111, 100, 105, 110, 103, 58, 32, 99, 104, 117, 110, 107, 101, 100, 13, 10, 13, 10] ++ C ++ digs 16 ((body.length : Int) - (k : Int)) ++ [13, 10] ++ body.drop k ++ [13, 10] ++ [48, 13, 10, 84, 58, 32, 117, 13, 10, 13, 10] := ⟨_, rfl⟩
                     have hTl : T.length ≤ 100000 := by rw [hTe]; simp [headB]; omega
                     rw [← hTe] at hrun
                     refine aw_weak (fr' := [(1, .v (.int .u8 (how.toNat : Int))), (5, .v (.int .i64 (n : Int))), (6, .v (.str body)), (8, .v (.str T))]) (ah' := []) (by subst hTe; exact wK) ?_
                     clear hTe
                     have hT := con_TakeK rfl rfl (ps0_ok false) rfl (by rw [List.length_append, show preB.length = 31 by decide]; omega) hrun
                     rw [pre_used] at hT
                     obtain ⟨hd9, kk9, ln9, st9, old9, fs9, many9, need9, ended9, toEnd9⟩ := s
                     obtain ⟨hh9, hst9, hfs9, hdt9, hfin9⟩ := h
                     obtain ⟨o1, o2, o3, ⟨F, o4⟩, o5⟩ := hok
                     obtain ⟨p1, p2, p3⟩ := hend
                     simp only at o1 o2 o3 o4 p1 p2
                     subst o1 o2 o3 o4 p1 p2
                     have hsz9 := o5.size
                     have hK := con_KeepsE1 (s := ⟨hd9, kk9, ln9, st9, old9, fs9, many9, need9, true, toEnd9⟩) (ov := true) rfl (by omega)
                     rw [p3] at hK)
                  | (have hh0 : (how.toNat : Int).tmod 3 = 1 := c6
                     have hkl : (body.length : Int) ≤ (k : Int) := c11
                     rw [List.take_of_length_le (by omega)] at hC
                     obtain ⟨s, h, hrun, hok, hend⟩ := back_chunks n (by omega) (by omega) (by omega) (by omega) hC
                     obtain ⟨T, hTe⟩ : ∃ T, T = headB n ++ [84, 114, 97, 110, 115, 102, 101, 114, 45, 69, 110, 99, 111, 100, 105, 110, 103, 58, 32, 99, 104, 117, 110, 107, 101, 100, 13, 10, 13, 10] ++ C ++ [48, 13, 10, 84, 58, 32, 117, 13, 10, 13, 10] := ⟨_, rfl⟩
                     have hTl : T.length ≤ 100000 := by rw [hTe]; simp [headB]; omega
                     rw [← hTe] at hrun
                     refine aw_weak (fr' := [(1, .v (.int .u8 (how.toNat : Int))), (5, .v (.int .i64 (n : Int))), (6, .v (.str body)), (8, .v (.str T))]) (ah' := []) (by subst hTe; exact wK) ?_
                     clear hTe
                     have hT := con_TakeK rfl rfl (ps0_ok false) rfl (by rw [List.length_append, show preB.length = 31 by decide]; omega) hrun
                     rw [pre_used] at hT
                     obtain ⟨hd9, kk9, ln9, st9, old9, fs9, many9, need9, ended9, toEnd9⟩ := s
                     obtain ⟨hh9, hst9, hfs9, hdt9, hfin9⟩ := h
                     obtain ⟨o1, o2, o3, ⟨F, o4⟩, o5⟩ := hok
                     obtain ⟨p1, p2, p3⟩ := hend
                     simp only at o1 o2 o3 o4 p1 p2
                     subst o1 o2 o3 o4 p1 p2
                     have hsz9 := o5.size
                     have hK := con_KeepsE1 (s := ⟨hd9, kk9, ln9, st9, old9, fs9, many9, need9, true, toEnd9⟩) (ov := true) rfl (by omega)
                     rw [p3] at hK)
                  | (have hh0 : ¬ (how.toNat : Int).tmod 3 = 1 := c6
                     obtain ⟨s, h, hrun, hok, p1, p2, p3, p4⟩ := back_rest n (by omega) (by omega) (by omega) (by omega) body
                     obtain ⟨T, hTe⟩ : ∃ T, T = headB n ++ [13, 10] ++ body := ⟨_, rfl⟩
                     have hTl : T.length ≤ 100000 := by rw [hTe]; simp [headB]; omega
                     rw [← hTe] at hrun
                     refine aw_weak (fr' := [(1, .v (.int .u8 (how.toNat : Int))), (5, .v (.int .i64 (n : Int))), (6, .v (.str body)), (8, .v (.str T))]) (ah' := []) (by subst hTe; exact wK) ?_
                     clear hTe
                     have hT := con_TakeK rfl rfl (ps0_ok false) rfl (by rw [List.length_append, show preB.length = 31 by decide]; omega) hrun
                     rw [pre_used] at hT
                     obtain ⟨hd9, kk9, ln9, st9, old9, fs9, many9, need9, ended9, toEnd9⟩ := s
                     obtain ⟨hh9, hst9, hfs9, hdt9, hfin9⟩ := h
                     obtain ⟨o1, o2, o3, ⟨F, o4⟩, o5⟩ := hok
                     simp only at o1 o2 o3 o4 p1 p2 p3 p4
                     subst o1 o2 o3 o4 p1 p2 p3 p4)
                refine aw_region fun K39 hK39 => ?_
                refine aL (z_callG [0, 1, 2] (eC .nil) en_9 con_New .nil) ?_
                refine aL z_assign ?_
                refine awl_nil (hK39 _ _ ?_)
                clear hK39 K39
                refine aw_region fun K40 hK40 => ?_
                refine aL z_move ?_
                refine aL z_move ?_
                refine aL z_addS ?_
                refine aL (z_convB Tryd.underlying9 Tryd.underlying32 Tryd.underlying5) ?_
                refine aL (z_callG [0, 1, 2] (eC (eC .nil)) en_10 hT (pA (pA (pA .nil)))) ?_
                refine aL z_move ?_
                refine aL z_extract ?_
                refine aL z_extract ?_
                refine aL z_extract ?_
                refine aL (z_alloc 21 zc_28 zl_28) ?_
                refine aL (z_store sz_28) ?_
                refine aL z_assign ?_
                refine aL z_assign ?_
                refine awl_nil (hK40 _ _ ?_)
                clear hK40 K40
                refine aw_seq fun K41 hK41 => ?_
                refine aw_region fun K42 hK42 => ?_
                refine aL z_move ?_
                refine aL z_neq ?_
                refine aL z_move ?_
                refine yL rfl rfl (ev_tmp rfl) (by have hF : ¬ ((F.length : Int) + 1 = 0) := (by omega); simp [hF]) (z_move) ?_
                refine yL rfl rfl (ev_tmp rfl) (by have hF : ¬ ((F.length : Int) + 1 = 0) := (by omega); simp [hF]) (z_move) ?_
                refine yL rfl rfl (ev_tmp rfl) (by have hF : ¬ ((F.length : Int) + 1 = 0) := (by omega); simp [hF]) (z_lenS Tryd.underlying9) ?_
                refine yL rfl rfl (ev_tmp rfl) (by have hF : ¬ ((F.length : Int) + 1 = 0) := (by omega); simp [hF]) (z_add) ?_
                refine yL rfl rfl (ev_tmp rfl) (by have hF : ¬ ((F.length : Int) + 1 = 0) := (by omega); simp [hF]) (z_neq) ?_
                refine aL z_or ?_
                refine aL z_move ?_
                refine yL rfl rfl (ev_tmp rfl) (by have hF : ¬ ((F.length : Int) + 1 = 0) := (by omega); simp [hF]) (z_fieldAddr fo_28_0) ?_
                refine yL rfl rfl (ev_tmp rfl) (by have hF : ¬ ((F.length : Int) + 1 = 0) := (by omega); simp [hF]) (z_load sz_4) ?_
                refine yL rfl rfl (ev_tmp rfl) (by have hF : ¬ ((F.length : Int) + 1 = 0) := (by omega); simp [hF]) (z_not) ?_
                refine aL z_or ?_
                refine aL z_move ?_
                refine yL rfl rfl (ev_tmp rfl) (by have hF : ¬ ((F.length : Int) + 1 = 0) := (by omega); simp [hF]) (z_fieldAddr fo_28_1) ?_
                refine yL rfl rfl (ev_tmp rfl) (by have hF : ¬ ((F.length : Int) + 1 = 0) := (by omega); simp [hF]) (z_load sz_3) ?_
                refine yL rfl rfl (ev_tmp rfl) (by have hF : ¬ ((F.length : Int) + 1 = 0) := (by omega); simp [hF]) (z_move) ?_
                refine yL rfl rfl (ev_tmp rfl) (by have hF : ¬ ((F.length : Int) + 1 = 0) := (by omega); simp [hF]) (z_neq) ?_
                refine aL z_or ?_
                refine aL z_move ?_
                refine yL rfl rfl (ev_tmp rfl) (by have hF : ¬ ((F.length : Int) + 1 = 0) := (by omega); simp [hF]) (z_fieldAddr fo_28_3) ?_
                refine yL rfl rfl (ev_tmp rfl) (by have hF : ¬ ((F.length : Int) + 1 = 0) := (by omega); simp [hF]) (z_load sz_9) ?_
                refine yL rfl rfl (ev_tmp rfl) (by have hF : ¬ ((F.length : Int) + 1 = 0) := (by omega); simp [hF]) (z_move) ?_
                refine yL rfl rfl (ev_tmp rfl) (by have hF : ¬ ((F.length : Int) + 1 = 0) := (by omega); simp [hF]) (z_neqS) ?_
                refine aL z_or ?_
                refine aL z_move ?_
                refine yL rfl rfl (ev_tmp rfl) (by have hF : ¬ ((F.length : Int) + 1 = 0) := (by omega); simp [hF]) (z_fieldAddr fo_28_2) ?_
                refine yL rfl rfl (ev_tmp rfl) (by have hF : ¬ ((F.length : Int) + 1 = 0) := (by omega); simp [hF]) (z_load sz_26) ?_
                refine yL rfl rfl (ev_tmp rfl) (by have hF : ¬ ((F.length : Int) + 1 = 0) := (by omega); simp [hF]) (z_len Tryd.underlying26) ?_
                refine yL rfl rfl (ev_tmp rfl) (by have hF : ¬ ((F.length : Int) + 1 = 0) := (by omega); simp [hF]) (z_eql) ?_
                refine aL z_or ?_
                refine aL z_move ?_
                refine yL rfl rfl (ev_tmp rfl) (by have hF : ¬ ((F.length : Int) + 1 = 0) := (by omega); simp [hF]) (z_fieldAddr fo_28_2) ?_
                refine yL rfl rfl (ev_tmp rfl) (by have hF : ¬ ((F.length : Int) + 1 = 0) := (by omega); simp [hF]) (z_load sz_26) ?_
                refine yL rfl rfl (ev_tmp rfl) (by have hF : ¬ ((F.length : Int) + 1 = 0) := (by omega); simp [hF]) (z_indexAddr (i := 0) (cs := [.str [120, 45, 97], .str [98], .bool false]) Tryd.underlying26 sz_47 (hb := rfl)) ?_
                refine yL rfl rfl (ev_tmp rfl) (by have hF : ¬ ((F.length : Int) + 1 = 0) := (by omega); simp [hF]) (z_loadRef sz_47) ?_
                refine yL rfl rfl (ev_tmp rfl) (by have hF : ¬ ((F.length : Int) + 1 = 0) := (by omega); simp [hF]) (z_build (pC (pC .nil)) pl_47 zc_47 zl_47) ?_
                refine yL rfl rfl (ev_tmp rfl) (by have hF : ¬ ((F.length : Int) + 1 = 0) := (by omega); simp [hF]) (z_neqA sk_47) ?_
                refine aL z_or ?_
                refine awl_nil (hK42 _ _ ?_)
                clear hK42 K42
                refine aC (fun r12 c12 => ?_) (fun r12 c12 => ?_)
                · exfalso
                  have hF : ¬ ((F.length : Int) + 1 = 0) := (by omega)
                  revert r12
                  simp [hF]
                  rfl
                · refine aw_skip ?_
                  refine hK41 _ _ ?_
                  clear hK41
                  refine aw_seq fun K43 hK43 => ?_
                  refine aw_region fun K44 hK44 => ?_
                  refine aL z_move ?_
                  refine aL z_rem ?_
                  refine aL z_eql ?_
                  refine awl_nil (hK44 _ _ ?_)
                  clear hK44 K44
                  refine aC (fun r13 c13 => ?_) (fun r13 c13 => ?_)
                  · exfalso; omega
                  · refine aw_skip ?_
                    refine hK43 _ _ ?_
                    clear hK43
                    refine aw_region fun K45 hK45 => ?_
                    refine aL (z_fieldAddr fo_28_4) ?_
                    refine aL (z_load sz_4) ?_
                    refine aL z_move ?_
                    refine yL rfl rfl (ev_tmp rfl) (by rfl) (z_move) ?_
                    refine yL rfl rfl (ev_tmp rfl) (by rfl) (z_callG [0, 1, 2] (eC .nil) en_12 hK (pA (pA (pA .nil)))) ?_
                    refine aL z_and ?_
                    refine aL z_assign ?_
                    refine awl_nil (hK45 _ _ ?_)
                    clear hK45 K45
                    refine aw_ret ?_
                    refine (hret _ _ _ _ _ rfl (.tmp rfl .nil) rfl ?_ .nil rfl).1
                    first | rfl | (simp [retD]; done)
              · refine aw_skip ?_
                refine hK37 _ _ ?_
                clear hK37
                refine aw_region_last ?_
                refine aL z_move ?_
                refine aL z_addS ?_
                refine aL z_assign ?_
                refine awl_nil ?_
                refine hK11 _ _ ?_
                clear hK11
                first
                  | (have hh0 : (how.toNat : Int).tmod 3 = 0 := c3
                     obtain ⟨s, h, hrun, hok, hend⟩ := back_len n (by omega) (by omega) (by omega) (by omega) body hlb
                     obtain ⟨T, hTe⟩ : ∃ T, T = headB n ++ [67, 111, 110, 116, 101, 110, 116, 45, 76, 101, 110, 103, 116, 104, 58, 32] ++ digs 10 (body.length : Int) ++ [13, 10, 13, 10] ++ body := ⟨_, rfl⟩
                     have hTl : T.length ≤ 100000 := by rw [hTe]; simp [headB]; omega
                     rw [← hTe] at hrun
                     refine aw_weak (fr' := [(1, .v (.int .u8 (how.toNat : Int))), (5, .v (.int .i64 (n : Int))), (6, .v (.str body)), (8, .v (.str T))]) (ah' := []) (by subst hTe; exact wK) ?_
                     clear hTe
                     have hT := con_TakeK rfl rfl (ps0_ok false) rfl (by rw [List.length_append, show preB.length = 31 by decide]; omega) hrun
                     rw [pre_used] at hT
                     obtain ⟨hd9, kk9, ln9, st9, old9, fs9, many9, need9, ended9, toEnd9⟩ := s
                     obtain ⟨hh9, hst9, hfs9, hdt9, hfin9⟩ := h
                     obtain ⟨o1, o2, o3, ⟨F, o4⟩, o5⟩ := hok
                     obtain ⟨p1, p2, p3⟩ := hend
                     simp only at o1 o2 o3 o4 p1 p2
                     subst o1 o2 o3 o4 p1 p2
                     have hsz9 := o5.size
                     have hK := con_KeepsE1 (s := ⟨hd9, kk9, ln9, st9, old9, fs9, many9, need9, true, toEnd9⟩) (ov := true) rfl (by omega)
                     rw [p3] at hK)
                  | (have hh0 : (how.toNat : Int).tmod 3 = 1 := c6
                     have hkl : (k : Int) < (body.length : Int) := c11
                     have hG := Good.chunk (e := body.drop k) (x := []) hC (by rw [List.length_drop]; omega) (by rw [List.length_drop]; omega) (.inl rfl)
                     rw [List.take_append_drop] at hG
                     obtain ⟨s, h, hrun, hok, hend⟩ := back_chunks n (by omega) (by omega) (by omega) (by omega) hG
                     have hdl : (digs 16 ((body.length : Int) - (k : Int))).length ≤ 4 := by rw [show (body.length : Int) - (k : Int) = ((body.length - k : Nat) : Int) by omega, digs_nat]; exact digs_short 16 (by decide) 3 _ (by omega)
                     rw [show headB n ++ [84, 114, 97, 110, 115, 102, 101, 114, 45, 69, 110, 99, 111, 100, 105, 110, 103, 58, 32, 99, 104, 117, 110, 107, 101, 100, 13, 10, 13, 10] ++ (C ++ (digsM 16 (body.drop k).length ++ [] ++ [13, 10] ++ body.drop k ++ [13, 10])) = headB n ++ [84, 114, 97, 110, 115, 102, 101, 114, 45, 69, 110, 99, 111, 100, 105, 110, 103, 58, 32, 99, 104, 117, 110, 107, 101, 100, 13, 10, 13, 10] ++ C ++ digs 16 ((body.length : Int) - (k : Int)) ++ [13, 10] ++ body.drop k ++ [13, 10] by rw [show (body.length : Int) - (k : Int) = ((body.length - k : Nat) : Int) by omega, digs_nat, List.length_drop]; simp] at hrun
                     obtain ⟨T, hTe⟩ : ∃ T, T = headB n ++ [84, 114, 97, 110, 115, 102, 101, 114, 45, 69, 110, 99, 111, 100, 105, 110, 103, 58, 32, 99, 104, 117, 110, 107, 101, 100, 13, 10, 13, 10] ++ C ++ digs 16 ((body.length : Int) - (k : Int)) ++ [13, 10] ++ body.drop k ++ [13, 10] ++ [48, 13, 10, 84, 58, 32, 117, 13, 10, 13, 10] := ⟨_, rfl⟩
                     have hTl : T.length ≤ 100000 := by rw [hTe]; simp [headB]; omega
                     rw [← hTe] at hrun
                     refine aw_weak (fr' := [(1, .v (.int .u8 (how.toNat : Int))), (5, .v (.int .i64 (n : Int))), (6, .v (.str body)), (8, .v (.str T))]) (ah' := []) (by subst hTe; exact wK) ?_
                     clear hTe
                     have hT := con_TakeK rfl rfl (ps0_ok false) rfl (by rw [List.length_append, show preB.length = 31 by decide]; omega) hrun
                     rw [pre_used] at hT
                     obtain ⟨hd9, kk9, ln9, st9, old9, fs9, many9, need9, ended9, toEnd9⟩ := s
                     obtain ⟨hh9, hst9, hfs9, hdt9, hfin9⟩ := h
                     obtain ⟨o1, o2, o3, ⟨F, o4⟩, o5⟩ := hok
                     obtain ⟨p1, p2, p3⟩ := hend
                     simp only at o1 o2 o3 o4 p1 p2
                     subst o1 o2 o3 o4 p1 p2
                     have hsz9 := o5.size
                     have hK := con_KeepsE1 (s := ⟨hd9, kk9, ln9, st9, old9, fs9, many9, need9, true, toEnd9⟩) (ov := true) rfl (by omega)
                     rw [p3] at hK)
                  | (have hh0 : (how.toNat : Int).tmod 3 = 1 := c6
                     have hkl : (body.length : Int) ≤ (k : Int) := c11
                     rw [List.take_of_length_le (by omega)] at hC
                     obtain ⟨s, h, hrun, hok, hend⟩ := back_chunks n (by omega) (by omega) (by omega) (by omega) hC
                     obtain ⟨T, hTe⟩ : ∃ T, T = headB n ++ [84, 114, 97, 110, 115, 102, 101, 114, 45, 69, 110, 99, 111, 100, 105, 110, 103, 58, 32, 99, 104, 117, 110, 107, 101, 100, 13, 10, 13, 10] ++ C ++ [48, 13, 10, 84, 58, 32, 117, 13, 10, 13, 10] := ⟨_, rfl⟩
                     have hTl : T.length ≤ 100000 := by rw [hTe]; simp [headB]; omega
                     rw [← hTe] at hrun
                     refine aw_weak (fr' := [(1, .v (.int .u8 (how.toNat : Int))), (5, .v (.int .i64 (n : Int))), (6, .v (.str body)), (8, .v (.str T))]) (ah' := []) (by subst hTe; exact wK) ?_
                     clear hTe
                     have hT := con_TakeK rfl rfl (ps0_ok false) rfl (by rw [List.length_append, show preB.length = 31 by decide]; omega) hrun
                     rw [pre_used] at hT
                     obtain ⟨hd9, kk9, ln9, st9, old9, fs9, many9, need9, ended9, toEnd9⟩ := s
                     obtain ⟨hh9, hst9, hfs9, hdt9, hfin9⟩ := h
                     obtain ⟨o1, o2, o3, ⟨F, o4⟩, o5⟩ := hok
                     obtain ⟨p1, p2, p3⟩ := hend
                     simp only at o1 o2 o3 o4 p1 p2
                     subst o1 o2 o3 o4 p1 p2
                     have hsz9 := o5.size
                     have hK := con_KeepsE1 (s := ⟨hd9, kk9, ln9, st9, old9, fs9, many9, need9, true, toEnd9⟩) (ov := true) rfl (by omega)
                     rw [p3] at hK)
                  | (have hh0 : ¬ (how.toNat : Int).tmod 3 = 1 := c6
                     obtain ⟨s, h, hrun, hok, p1, p2, p3, p4⟩ := back_rest n (by omega) (by omega) (by omega) (by omega) body
                     obtain ⟨T, hTe⟩ : ∃ T, T = headB n ++ [13, 10] ++ body := ⟨_, rfl⟩
                     have hTl : T.length ≤ 100000 := by rw [hTe]; simp [headB]; omega
                     rw [← hTe] at hrun
                     refine aw_weak (fr' := [(1, .v (.int .u8 (how.toNat : Int))), (5, .v (.int .i64 (n : Int))), (6, .v (.str body)), (8, .v (.str T))]) (ah' := []) (by subst hTe; exact wK) ?_
                     clear hTe
                     have hT := con_TakeK rfl rfl (ps0_ok false) rfl (by rw [List.length_append, show preB.length = 31 by decide]; omega) hrun
                     rw [pre_used] at hT
                     obtain ⟨hd9, kk9, ln9, st9, old9, fs9, many9, need9, ended9, toEnd9⟩ := s
                     obtain ⟨hh9, hst9, hfs9, hdt9, hfin9⟩ := h
                     obtain ⟨o1, o2, o3, ⟨F, o4⟩, o5⟩ := hok
                     simp only at o1 o2 o3 o4 p1 p2 p3 p4
                     subst o1 o2 o3 o4 p1 p2 p3 p4)
                refine aw_region fun K46 hK46 => ?_
                refine aL (z_callG [0, 1, 2] (eC .nil) en_9 con_New .nil) ?_
                refine aL z_assign ?_
                refine awl_nil (hK46 _ _ ?_)
                clear hK46 K46
                refine aw_region fun K47 hK47 => ?_
                refine aL z_move ?_
                refine aL z_move ?_
                refine aL z_addS ?_
                refine aL (z_convB Tryd.underlying9 Tryd.underlying32 Tryd.underlying5) ?_
                refine aL (z_callG [0, 1, 2] (eC (eC .nil)) en_10 hT (pA (pA (pA .nil)))) ?_
                refine aL z_move ?_
                refine aL z_extract ?_
                refine aL z_extract ?_
                refine aL z_extract ?_
                refine aL (z_alloc 21 zc_28 zl_28) ?_
                refine aL (z_store sz_28) ?_
                refine aL z_assign ?_
                refine aL z_assign ?_
                refine awl_nil (hK47 _ _ ?_)
                clear hK47 K47
                refine aw_seq fun K48 hK48 => ?_
                refine aw_region fun K49 hK49 => ?_
                refine aL z_move ?_
                refine aL z_neq ?_
                refine aL z_move ?_
                refine yL rfl rfl (ev_tmp rfl) (by have hF : ¬ ((F.length : Int) + 1 = 0) := (by omega); simp [hF]) (z_move) ?_
                refine yL rfl rfl (ev_tmp rfl) (by have hF : ¬ ((F.length : Int) + 1 = 0) := (by omega); simp [hF]) (z_move) ?_
                refine yL rfl rfl (ev_tmp rfl) (by have hF : ¬ ((F.length : Int) + 1 = 0) := (by omega); simp [hF]) (z_lenS Tryd.underlying9) ?_
                refine yL rfl rfl (ev_tmp rfl) (by have hF : ¬ ((F.length : Int) + 1 = 0) := (by omega); simp [hF]) (z_add) ?_
                refine yL rfl rfl (ev_tmp rfl) (by have hF : ¬ ((F.length : Int) + 1 = 0) := (by omega); simp [hF]) (z_neq) ?_
                refine aL z_or ?_
                refine aL z_move ?_
                refine yL rfl rfl (ev_tmp rfl) (by have hF : ¬ ((F.length : Int) + 1 = 0) := (by omega); simp [hF]) (z_fieldAddr fo_28_0) ?_
                refine yL rfl rfl (ev_tmp rfl) (by have hF : ¬ ((F.length : Int) + 1 = 0) := (by omega); simp [hF]) (z_load sz_4) ?_
                refine yL rfl rfl (ev_tmp rfl) (by have hF : ¬ ((F.length : Int) + 1 = 0) := (by omega); simp [hF]) (z_not) ?_
                refine aL z_or ?_
                refine aL z_move ?_
                refine yL rfl rfl (ev_tmp rfl) (by have hF : ¬ ((F.length : Int) + 1 = 0) := (by omega); simp [hF]) (z_fieldAddr fo_28_1) ?_
                refine yL rfl rfl (ev_tmp rfl) (by have hF : ¬ ((F.length : Int) + 1 = 0) := (by omega); simp [hF]) (z_load sz_3) ?_
                refine yL rfl rfl (ev_tmp rfl) (by have hF : ¬ ((F.length : Int) + 1 = 0) := (by omega); simp [hF]) (z_move) ?_
                refine yL rfl rfl (ev_tmp rfl) (by have hF : ¬ ((F.length : Int) + 1 = 0) := (by omega); simp [hF]) (z_neq) ?_
                refine aL z_or ?_
                refine aL z_move ?_
                refine yL rfl rfl (ev_tmp rfl) (by have hF : ¬ ((F.length : Int) + 1 = 0) := (by omega); simp [hF]) (z_fieldAddr fo_28_3) ?_
                refine yL rfl rfl (ev_tmp rfl) (by have hF : ¬ ((F.length : Int) + 1 = 0) := (by omega); simp [hF]) (z_load sz_9) ?_
                refine yL rfl rfl (ev_tmp rfl) (by have hF : ¬ ((F.length : Int) + 1 = 0) := (by omega); simp [hF]) (z_move) ?_
                refine yL rfl rfl (ev_tmp rfl) (by have hF : ¬ ((F.length : Int) + 1 = 0) := (by omega); simp [hF]) (z_neqS) ?_
                refine aL z_or ?_
                refine aL z_move ?_
                refine yL rfl rfl (ev_tmp rfl) (by have hF : ¬ ((F.length : Int) + 1 = 0) := (by omega); simp [hF]) (z_fieldAddr fo_28_2) ?_
                refine yL rfl rfl (ev_tmp rfl) (by have hF : ¬ ((F.length : Int) + 1 = 0) := (by omega); simp [hF]) (z_load sz_26) ?_
                refine yL rfl rfl (ev_tmp rfl) (by have hF : ¬ ((F.length : Int) + 1 = 0) := (by omega); simp [hF]) (z_len Tryd.underlying26) ?_
                refine yL rfl rfl (ev_tmp rfl) (by have hF : ¬ ((F.length : Int) + 1 = 0) := (by omega); simp [hF]) (z_eql) ?_
                refine aL z_or ?_
                refine aL z_move ?_
                refine yL rfl rfl (ev_tmp rfl) (by have hF : ¬ ((F.length : Int) + 1 = 0) := (by omega); simp [hF]) (z_fieldAddr fo_28_2) ?_
                refine yL rfl rfl (ev_tmp rfl) (by have hF : ¬ ((F.length : Int) + 1 = 0) := (by omega); simp [hF]) (z_load sz_26) ?_
                refine yL rfl rfl (ev_tmp rfl) (by have hF : ¬ ((F.length : Int) + 1 = 0) := (by omega); simp [hF]) (z_indexAddr (i := 0) (cs := [.str [120, 45, 97], .str [98], .bool false]) Tryd.underlying26 sz_47 (hb := rfl)) ?_
                refine yL rfl rfl (ev_tmp rfl) (by have hF : ¬ ((F.length : Int) + 1 = 0) := (by omega); simp [hF]) (z_loadRef sz_47) ?_
                refine yL rfl rfl (ev_tmp rfl) (by have hF : ¬ ((F.length : Int) + 1 = 0) := (by omega); simp [hF]) (z_build (pC (pC .nil)) pl_47 zc_47 zl_47) ?_
                refine yL rfl rfl (ev_tmp rfl) (by have hF : ¬ ((F.length : Int) + 1 = 0) := (by omega); simp [hF]) (z_neqA sk_47) ?_
                refine aL z_or ?_
                refine awl_nil (hK49 _ _ ?_)
                clear hK49 K49
                refine aC (fun r14 c14 => ?_) (fun r14 c14 => ?_)
                · exfalso
                  have hF : ¬ ((F.length : Int) + 1 = 0) := (by omega)
                  revert r14
                  simp [hF]
                  rfl
                · refine aw_skip ?_
                  refine hK48 _ _ ?_
                  clear hK48
                  refine aw_seq fun K50 hK50 => ?_
                  refine aw_region fun K51 hK51 => ?_
                  refine aL z_move ?_
                  refine aL z_rem ?_
                  refine aL z_eql ?_
                  refine awl_nil (hK51 _ _ ?_)
                  clear hK51 K51
                  refine aC (fun r15 c15 => ?_) (fun r15 c15 => ?_)
                  · exfalso; omega
                  · refine aw_skip ?_
                    refine hK50 _ _ ?_
                    clear hK50
                    refine aw_region fun K52 hK52 => ?_
                    refine aL (z_fieldAddr fo_28_4) ?_
                    refine aL (z_load sz_4) ?_
                    refine aL z_move ?_
                    refine yL rfl rfl (ev_tmp rfl) (by rfl) (z_move) ?_
                    refine yL rfl rfl (ev_tmp rfl) (by rfl) (z_callG [0, 1, 2] (eC .nil) en_12 hK (pA (pA (pA .nil)))) ?_
                    refine aL z_and ?_
                    refine aL z_assign ?_
                    refine awl_nil (hK52 _ _ ?_)
                    clear hK52 K52
                    refine aw_ret ?_
                    refine (hret _ _ _ _ _ rfl (.tmp rfl .nil) rfl ?_ .nil rfl).1
                    first | rfl | (simp [retD]; done)
        · refine aw_region_last ?_
          refine aL z_move ?_
          refine aL z_addS ?_
          refine aL z_move ?_
          refine aL z_addS ?_
          refine aL z_assign ?_
          refine awl_nil ?_
          refine hK11 _ _ ?_
          clear hK11
          first
            | (have hh0 : (how.toNat : Int).tmod 3 = 0 := c3
               obtain ⟨s, h, hrun, hok, hend⟩ := back_len n (by omega) (by omega) (by omega) (by omega) body hlb
               obtain ⟨T, hTe⟩ : ∃ T, T = headB n ++ [67, 111, 110, 116, 101, 110, 116, 45, 76, 101, 110, 103, 116, 104, 58, 32] ++ digs 10 (body.length : Int) ++ [13, 10, 13, 10] ++ body := ⟨_, rfl⟩
               have hTl : T.length ≤ 100000 := by rw [hTe]; simp [headB]; omega
               rw [← hTe] at hrun
               refine aw_weak (fr' := [(1, .v (.int .u8 (how.toNat : Int))), (5, .v (.int .i64 (n : Int))), (6, .v (.str body)), (8, .v (.str T))]) (ah' := []) (by subst hTe; exact wK) ?_
               clear hTe
               have hT := con_TakeK rfl rfl (ps0_ok false) rfl (by rw [List.length_append, show preB.length = 31 by decide]; omega) hrun
               rw [pre_used] at hT
               obtain ⟨hd9, kk9, ln9, st9, old9, fs9, many9, need9, ended9, toEnd9⟩ := s
               obtain ⟨hh9, hst9, hfs9, hdt9, hfin9⟩ := h
               obtain ⟨o1, o2, o3, ⟨F, o4⟩, o5⟩ := hok
               obtain ⟨p1, p2, p3⟩ := hend
               simp only at o1 o2 o3 o4 p1 p2
               subst o1 o2 o3 o4 p1 p2
               have hsz9 := o5.size
               have hK := con_KeepsE1 (s := ⟨hd9, kk9, ln9, st9, old9, fs9, many9, need9, true, toEnd9⟩) (ov := true) rfl (by omega)
               rw [p3] at hK)
            | (have hh0 : (how.toNat : Int).tmod 3 = 1 := c6
               have hkl : (k : Int) < (body.length : Int) := c11
               have hG := Good.chunk (e := body.drop k) (x := []) hC (by rw [List.length_drop]; omega) (by rw [List.length_drop]; omega) (.inl rfl)
               rw [List.take_append_drop] at hG
               obtain ⟨s, h, hrun, hok, hend⟩ := back_chunks n (by omega) (by omega) (by omega) (by omega) hG
               have hdl : (digs 16 ((body.length : Int) - (k : Int))).length ≤ 4 := by rw [show (body.length : Int) - (k : Int) = ((body.length - k : Nat) : Int) by omega, digs_nat]; exact digs_short 16 (by decide) 3 _ (by omega)
               rw [show headB n ++ [84, 114, 97, 110, 115, 102, 101, 114, 45, 69, 110, 99, 111, 100, 105, 110, 103, 58, 32, 99, 104, 117, 110, 107, 101, 100, 13, 10, 13, 10] ++ (C ++ (digsM 16 (body.drop k).length ++ [] ++ [13, 10] ++ body.drop k ++ [13, 10])) = headB n ++ [84, 114, 97, 110, 115, 102, 101, 114, 45, 69, 110, 99, 111, 100, 105, 110, 103, 58, 32, 99, 104, 117, 110, 107, 101, 100, 13, 10, 13, 10] ++ C ++ digs 16 ((body.length : Int) - (k : Int)) ++ [13, 10] ++ body.drop k ++ [13, 10] by rw [show (body.length : Int) - (k : Int) = ((body.length - k : Nat) : Int) by omega, digs_nat, List.length_drop]; simp] at hrun
               obtain ⟨T, hTe⟩ : ∃ T, T = headB n ++ [84, 114, 97, 110, 115, 102, 101, 114, 45, 69, 110, 99, 111, 100, 105, 110, 103, 58, 32, 99, 104, 117, 110, 107, 101, 100, 13, 10, 13, 10] ++ C ++ digs 16 ((body.length : Int) - (k : Int)) ++ [13, 10] ++ body.drop k ++ [13, 10] ++ [48, 13, 10, 84, 58, 32, 117, 13, 10, 13, 10] := ⟨_, rfl⟩
               have hTl : T.length ≤ 100000 := by rw [hTe]; simp [headB]; omega
               rw [← hTe] at hrun
               refine aw_weak (fr' := [(1, .v (.int .u8 (how.toNat : Int))), (5, .v (.int .i64 (n : Int))), (6, .v (.str body)), (8, .v (.str T))]) (ah' := []) (by subst hTe; exact wK) ?_
               clear hTe
               have hT := con_TakeK rfl rfl (ps0_ok false) rfl (by rw [List.length_append, show preB.length = 31 by decide]; omega) hrun
               rw [pre_used] at hT
               obtain ⟨hd9, kk9, ln9, st9, old9, fs9, many9, need9, ended9, toEnd9⟩ := s
               obtain ⟨hh9, hst9, hfs9, hdt9, hfin9⟩ := h
               obtain ⟨o1, o2, o3, ⟨F, o4⟩, o5⟩ := hok
               obtain ⟨p1, p2, p3⟩ := hend
               simp only at o1 o2 o3 o4 p1 p2
               subst o1 o2 o3 o4 p1 p2
               have hsz9 := o5.size
               have hK := con_KeepsE1 (s := ⟨hd9, kk9, ln9, st9, old9, fs9, many9, need9, true, toEnd9⟩) (ov := true) rfl (by omega)
               rw [p3] at hK)
            | (have hh0 : (how.toNat : Int).tmod 3 = 1 := c6
               have hkl : (body.length : Int) ≤ (k : Int) := c11
               rw [List.take_of_length_le (by omega)] at hC
               obtain ⟨s, h, hrun, hok, hend⟩ := back_chunks n (by omega) (by omega) (by omega) (by omega) hC
               obtain ⟨T, hTe⟩ : ∃ T, T = headB n ++ [84, 114, 97, 110, 115, 102, 101, 114, 45, 69, 110, 99, 111, 100, 105, 110, 103, 58, 32, 99, 104, 117, 110, 107, 101, 100, 13, 10, 13, 10] ++ C ++ [48, 13, 10, 84, 58, 32, 117, 13, 10, 13, 10] := ⟨_, rfl⟩
               have hTl : T.length ≤ 100000 := by rw [hTe]; simp [headB]; omega
               rw [← hTe] at hrun
               refine aw_weak (fr' := [(1, .v (.int .u8 (how.toNat : Int))), (5, .v (.int .i64 (n : Int))), (6, .v (.str body)), (8, .v (.str T))]) (ah' := []) (by subst hTe; exact wK) ?_
               clear hTe
               have hT := con_TakeK rfl rfl (ps0_ok false) rfl (by rw [List.length_append, show preB.length = 31 by decide]; omega) hrun
               rw [pre_used] at hT
               obtain ⟨hd9, kk9, ln9, st9, old9, fs9, many9, need9, ended9, toEnd9⟩ := s
               obtain ⟨hh9, hst9, hfs9, hdt9, hfin9⟩ := h
               obtain ⟨o1, o2, o3, ⟨F, o4⟩, o5⟩ := hok
               obtain ⟨p1, p2, p3⟩ := hend
               simp only at o1 o2 o3 o4 p1 p2
               subst o1 o2 o3 o4 p1 p2
               have hsz9 := o5.size
               have hK := con_KeepsE1 (s := ⟨hd9, kk9, ln9, st9, old9, fs9, many9, need9, true, toEnd9⟩) (ov := true) rfl (by omega)
               rw [p3] at hK)
            | (have hh0 : ¬ (how.toNat : Int).tmod 3 = 1 := c6
               obtain ⟨s, h, hrun, hok, p1, p2, p3, p4⟩ := back_rest n (by omega) (by omega) (by omega) (by omega) body
               obtain ⟨T, hTe⟩ : ∃ T, T = headB n ++ [13, 10] ++ body := ⟨_, rfl⟩
               have hTl : T.length ≤ 100000 := by rw [hTe]; simp [headB]; omega
               rw [← hTe] at hrun
               refine aw_weak (fr' := [(1, .v (.int .u8 (how.toNat : Int))), (5, .v (.int .i64 (n : Int))), (6, .v (.str body)), (8, .v (.str T))]) (ah' := []) (by subst hTe; exact wK) ?_
               clear hTe
               have hT := con_TakeK rfl rfl (ps0_ok false) rfl (by rw [List.length_append, show preB.length = 31 by decide]; omega) hrun
               rw [pre_used] at hT
               obtain ⟨hd9, kk9, ln9, st9, old9, fs9, many9, need9, ended9, toEnd9⟩ := s
               obtain ⟨hh9, hst9, hfs9, hdt9, hfin9⟩ := h
               obtain ⟨o1, o2, o3, ⟨F, o4⟩, o5⟩ := hok
               simp only at o1 o2 o3 o4 p1 p2 p3 p4
               subst o1 o2 o3 o4 p1 p2 p3 p4)
          refine aw_region fun K53 hK53 => ?_
          refine aL (z_callG [0, 1, 2] (eC .nil) en_9 con_New .nil) ?_
          refine aL z_assign ?_
          refine awl_nil (hK53 _ _ ?_)
          clear hK53 K53
          refine aw_region fun K54 hK54 => ?_
          refine aL z_move ?_
          refine aL z_move ?_
          refine aL z_addS ?_
          refine aL (z_convB Tryd.underlying9 Tryd.underlying32 Tryd.underlying5) ?_
          refine aL (z_callG [0, 1, 2] (eC (eC .nil)) en_10 hT (pA (pA (pA .nil)))) ?_
          refine aL z_move ?_
          refine aL z_extract ?_
          refine aL z_extract ?_
          refine aL z_extract ?_
          refine aL (z_alloc 21 zc_28 zl_28) ?_
          refine aL (z_store sz_28) ?_
          refine aL z_assign ?_
          refine aL z_assign ?_
          refine awl_nil (hK54 _ _ ?_)
          clear hK54 K54
          refine aw_seq fun K55 hK55 => ?_
          refine aw_region fun K56 hK56 => ?_
          refine aL z_move ?_
          refine aL z_neq ?_
          refine aL z_move ?_
          refine yL rfl rfl (ev_tmp rfl) (by have hF : ¬ ((F.length : Int) + 1 = 0) := (by omega); simp [hF]) (z_move) ?_
          refine yL rfl rfl (ev_tmp rfl) (by have hF : ¬ ((F.length : Int) + 1 = 0) := (by omega); simp [hF]) (z_move) ?_
          refine yL rfl rfl (ev_tmp rfl) (by have hF : ¬ ((F.length : Int) + 1 = 0) := (by omega); simp [hF]) (z_lenS Tryd.underlying9) ?_
          refine yL rfl rfl (ev_tmp rfl) (by have hF : ¬ ((F.length : Int) + 1 = 0) := (by omega); simp [hF]) (z_add) ?_
          refine yL rfl rfl (ev_tmp rfl) (by have hF : ¬ ((F.length : Int) + 1 = 0) := (by omega); simp [hF]) (z_neq) ?_
          refine aL z_or ?_
          refine aL z_move ?_
          refine yL rfl rfl (ev_tmp rfl) (by have hF : ¬ ((F.length : Int) + 1 = 0) := (by omega); simp [hF]) (z_fieldAddr fo_28_0) ?_
          refine yL rfl rfl (ev_tmp rfl) (by have hF : ¬ ((F.length : Int) + 1 = 0) := (by omega); simp [hF]) (z_load sz_4) ?_
          refine yL rfl rfl (ev_tmp rfl) (by have hF : ¬ ((F.length : Int) + 1 = 0) := (by omega); simp [hF]) (z_not) ?_
          refine aL z_or ?_
          refine aL z_move ?_
          refine yL rfl rfl (ev_tmp rfl) (by have hF : ¬ ((F.length : Int) + 1 = 0) := (by omega); simp [hF]) (z_fieldAddr fo_28_1) ?_
          refine yL rfl rfl (ev_tmp rfl) (by have hF : ¬ ((F.length : Int) + 1 = 0) := (by omega); simp [hF]) (z_load sz_3) ?_
          refine yL rfl rfl (ev_tmp rfl) (by have hF : ¬ ((F.length : Int) + 1 = 0) := (by omega); simp [hF]) (z_move) ?_
          refine yL rfl rfl (ev_tmp rfl) (by have hF : ¬ ((F.length : Int) + 1 = 0) := (by omega); simp [hF]) (z_neq) ?_
          refine aL z_or ?_
          refine aL z_move ?_
          refine yL rfl rfl (ev_tmp rfl) (by have hF : ¬ ((F.length : Int) + 1 = 0) := (by omega); simp [hF]) (z_fieldAddr fo_28_3) ?_
          refine yL rfl rfl (ev_tmp rfl) (by have hF : ¬ ((F.length : Int) + 1 = 0) := (by omega); simp [hF]) (z_load sz_9) ?_
          refine yL rfl rfl (ev_tmp rfl) (by have hF : ¬ ((F.length : Int) + 1 = 0) := (by omega); simp [hF]) (z_move) ?_
          refine yL rfl rfl (ev_tmp rfl) (by have hF : ¬ ((F.length : Int) + 1 = 0) := (by omega); simp [hF]) (z_neqS) ?_
          refine aL z_or ?_
          refine aL z_move ?_
          refine yL rfl rfl (ev_tmp rfl) (by have hF : ¬ ((F.length : Int) + 1 = 0) := (by omega); simp [hF]) (z_fieldAddr fo_28_2) ?_
          refine yL rfl rfl (ev_tmp rfl) (by have hF : ¬ ((F.length : Int) + 1 = 0) := (by omega); simp [hF]) (z_load sz_26) ?_
          refine yL rfl rfl (ev_tmp rfl) (by have hF : ¬ ((F.length : Int) + 1 = 0) := (by omega); simp [hF]) (z_len Tryd.underlying26) ?_
          refine yL rfl rfl (ev_tmp rfl) (by have hF : ¬ ((F.length : Int) + 1 = 0) := (by omega); simp [hF]) (z_eql) ?_
          refine aL z_or ?_
          refine aL z_move ?_
          refine yL rfl rfl (ev_tmp rfl) (by have hF : ¬ ((F.length : Int) + 1 = 0) := (by omega); simp [hF]) (z_fieldAddr fo_28_2) ?_
          refine yL rfl rfl (ev_tmp rfl) (by have hF : ¬ ((F.length : Int) + 1 = 0) := (by omega); simp [hF]) (z_load sz_26) ?_
          refine yL rfl rfl (ev_tmp rfl) (by have hF : ¬ ((F.length : Int) + 1 = 0) := (by omega); simp [hF]) (z_indexAddr (i := 0) (cs := [.str [120, 45, 97], .str [98], .bool false]) Tryd.underlying26 sz_47 (hb := rfl)) ?_
          refine yL rfl rfl (ev_tmp rfl) (by have hF : ¬ ((F.length : Int) + 1 = 0) := (by omega); simp [hF]) (z_loadRef sz_47) ?_
          refine yL rfl rfl (ev_tmp rfl) (by have hF : ¬ ((F.length : Int) + 1 = 0) := (by omega); simp [hF]) (z_build (pC (pC .nil)) pl_47 zc_47 zl_47) ?_
          refine yL rfl rfl (ev_tmp rfl) (by have hF : ¬ ((F.length : Int) + 1 = 0) := (by omega); simp [hF]) (z_neqA sk_47) ?_
          refine aL z_or ?_
          refine awl_nil (hK56 _ _ ?_)
          clear hK56 K56
          refine aC (fun r16 c16 => ?_) (fun r16 c16 => ?_)
          · exfalso
            have hF : ¬ ((F.length : Int) + 1 = 0) := (by omega)
            revert r16
            simp [hF]
            rfl
          · refine aw_skip ?_
            refine hK55 _ _ ?_
            clear hK55
            refine aw_seq fun K57 hK57 => ?_
            refine aw_region fun K58 hK58 => ?_
            refine aL z_move ?_
            refine aL z_rem ?_
            refine aL z_eql ?_
            refine awl_nil (hK58 _ _ ?_)
            clear hK58 K58
            refine aC (fun r17 c17 => ?_) (fun r17 c17 => ?_)
            · refine aw_region fun K59 hK59 => ?_
              refine aL z_move ?_
              refine aL (z_callG [0, 1, 2] (eC .nil) en_17 (con_Close1 (s := ⟨hd9, .all, ln9, st9, old9, fs9, many9, need9, false, true⟩) rfl rfl) (pA (pA (pA .nil)))) ?_
              refine aL z_move ?_
              refine aL z_extract ?_
              refine aL z_extract ?_
              refine aL (z_alloc 22 zc_28 zl_28) ?_
              refine aL (z_store sz_28) ?_
              refine aL z_assign ?_
              refine awl_nil (hK59 _ _ ?_)
              clear hK59 K59
              refine aw_region fun K60 hK60 => ?_
              refine aL (z_fieldAddr fo_28_4) ?_
              refine aL (z_load sz_4) ?_
              refine aL z_not ?_
              refine aL z_move ?_
              refine yL rfl rfl (ev_tmp rfl) (by rfl) (z_fieldAddr fo_28_4) ?_
              refine yL rfl rfl (ev_tmp rfl) (by rfl) (z_load sz_4) ?_
              refine aL z_and ?_
              refine aL z_move ?_
              refine yL rfl rfl (ev_tmp rfl) (by rfl) (z_move) ?_
              refine yL rfl rfl (ev_tmp rfl) (by rfl) (z_eql) ?_
              refine aL z_and ?_
              refine aL z_move ?_
              refine yL rfl rfl (ev_tmp rfl) (by rfl) (z_move) ?_
              refine yL rfl rfl (ev_tmp rfl) (by rfl) (z_callG [0, 1, 2] (eC .nil) en_12 (con_KeepsNF2 (s := ⟨hd9, .all, [], st9, old9, fs9, many9, need9, false, true⟩) (ov := true) rfl) (pA (pA (pA .nil)))) ?_
              refine yL rfl rfl (ev_tmp rfl) (by rfl) (z_not) ?_
              refine aL z_and ?_
              refine aL z_assign ?_
              refine awl_nil (hK60 _ _ ?_)
              clear hK60 K60
              refine aw_ret ?_
              refine (hret _ _ _ _ _ rfl (.tmp rfl .nil) rfl ?_ .nil rfl).1
              first | rfl | (simp [retD]; done)
            · exfalso; omega
end Go.Proofs.YthflfnehdlpmdaaDoor
