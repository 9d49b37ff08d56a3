/- Chapter 15: Keeps, Left, at rows' later versions. No condition but on lengths. -/
import Derived.Test.YthflfnehdlpmdaaDoorRpQ
namespace Go.Proofs.YthflfnehdlpmdaaDoor
set_option linter.all false
open Go Go.RowKit
set_option maxRecDepth 100000
set_option maxHeartbeats 4000000
theorem con_LeftT1 {s : Ps} {ov : Bool} : Con Tryd.prog 15 [.ptr 0 0] (s.ahB true ov 1) 3 (.ret (.v (.int .i64 (s.ln.length : Int)))) (s.ahB true ov 2) := by
  refine con_of Tryd.func15 rfl (by show _ ≤ 10; simp) fun X Q hP hnt hnp hret hpan => ?_
  obtain ⟨P0, nt0, w0, K0, S0, np0, pin0, df0⟩ := X
  simp only at hP hnt hnp
  subst hP hnp
  obtain rfl : nt0 = 10 := hnt
  refine aw_region fun K1 hK1 => ?_
  refine aL z_assign ?_
  refine awl_nil (hK1 _ _ ?_)
  clear hK1 K1
  refine aw_seq fun K2 hK2 => ?_
  refine aw_region fun K3 hK3 => ?_
  refine aL z_move ?_
  refine aL (z_eqlP Tryd.underlying24) ?_
  refine awl_nil (hK3 _ _ ?_)
  clear hK3 K3
  refine aC (fun r1 c1 => ?_) (fun r1 c1 => ?_)
  · exact absurd c1 (by decide)
  · refine aw_skip ?_
    refine hK2 _ _ ?_
    clear hK2
    refine aw_region fun K4 hK4 => ?_
    refine aL z_move ?_
    refine aL z_nilCheck ?_
    refine aL (z_fieldAddr fo_54_2) ?_
    refine aL (z_load sz_32) ?_
    refine aL (z_lenV Tryd.underlying32) ?_
    refine aL z_assign ?_
    refine awl_nil (hK4 _ _ ?_)
    clear hK4 K4
    refine aw_weak (weak_rever 1 2 rfl) (aw_weak (weak_rever 2 2 rfl) ?_)
    refine aw_ret ?_
    refine (hret _ _ _ _ _ rfl (.tmp rfl .nil) rfl ?_ (.box rfl rfl (.row rfl (.row rfl .nil))) rfl).1
    rfl
theorem con_LeftF1 {s : Ps} {ov : Bool} : Con Tryd.prog 15 [.ptr 0 0] (s.ahB false ov 1) 3 (.ret (.v (.int .i64 (s.ln.length : Int)))) (s.ahB false ov 2) := by
  refine con_of Tryd.func15 rfl (by show _ ≤ 10; simp) fun X Q hP hnt hnp hret hpan => ?_
  obtain ⟨P0, nt0, w0, K0, S0, np0, pin0, df0⟩ := X
  simp only at hP hnt hnp
  subst hP hnp
  obtain rfl : nt0 = 10 := hnt
  refine aw_region fun K1 hK1 => ?_
  refine aL z_assign ?_
  refine awl_nil (hK1 _ _ ?_)
  clear hK1 K1
  refine aw_seq fun K2 hK2 => ?_
  refine aw_region fun K3 hK3 => ?_
  refine aL z_move ?_
  refine aL (z_eqlP Tryd.underlying24) ?_
  refine awl_nil (hK3 _ _ ?_)
  clear hK3 K3
  refine aC (fun r1 c1 => ?_) (fun r1 c1 => ?_)
  · exact absurd c1 (by decide)
  · refine aw_skip ?_
    refine hK2 _ _ ?_
    clear hK2
    refine aw_region fun K4 hK4 => ?_
    refine aL z_move ?_
    refine aL z_nilCheck ?_
    refine aL (z_fieldAddr fo_54_2) ?_
    refine aL (z_load sz_32) ?_
    refine aL (z_lenV Tryd.underlying32) ?_
    refine aL z_assign ?_
    refine awl_nil (hK4 _ _ ?_)
    clear hK4 K4
    refine aw_weak (weak_rever 1 2 rfl) (aw_weak (weak_rever 2 2 rfl) ?_)
    refine aw_ret ?_
    refine (hret _ _ _ _ _ rfl (.tmp rfl .nil) rfl ?_ (.box rfl rfl (.row rfl (.row rfl .nil))) rfl).1
    rfl
theorem con_Left1 {s : Ps} {q ov : Bool} : Con Tryd.prog 15 [.ptr 0 0] (s.ahB q ov 1) 3 (.ret (.v (.int .i64 (s.ln.length : Int)))) (s.ahB q ov 2) := by
  cases q
  · exact con_LeftF1
  · exact con_LeftT1
theorem con_LeftT2 {s : Ps} {ov : Bool} : Con Tryd.prog 15 [.ptr 0 0] (s.ahB true ov 2) 3 (.ret (.v (.int .i64 (s.ln.length : Int)))) (s.ahB true ov 3) := by
  refine con_of Tryd.func15 rfl (by show _ ≤ 10; simp) fun X Q hP hnt hnp hret hpan => ?_
  obtain ⟨P0, nt0, w0, K0, S0, np0, pin0, df0⟩ := X
  simp only at hP hnt hnp
  subst hP hnp
  obtain rfl : nt0 = 10 := hnt
  refine aw_region fun K1 hK1 => ?_
  refine aL z_assign ?_
  refine awl_nil (hK1 _ _ ?_)
  clear hK1 K1
  refine aw_seq fun K2 hK2 => ?_
  refine aw_region fun K3 hK3 => ?_
  refine aL z_move ?_
  refine aL (z_eqlP Tryd.underlying24) ?_
  refine awl_nil (hK3 _ _ ?_)
  clear hK3 K3
  refine aC (fun r1 c1 => ?_) (fun r1 c1 => ?_)
  · exact absurd c1 (by decide)
  · refine aw_skip ?_
    refine hK2 _ _ ?_
    clear hK2
    refine aw_region fun K4 hK4 => ?_
    refine aL z_move ?_
    refine aL z_nilCheck ?_
    refine aL (z_fieldAddr fo_54_2) ?_
    refine aL (z_load sz_32) ?_
    refine aL (z_lenV Tryd.underlying32) ?_
    refine aL z_assign ?_
    refine awl_nil (hK4 _ _ ?_)
    clear hK4 K4
    refine aw_weak (weak_rever 1 3 rfl) (aw_weak (weak_rever 2 3 rfl) ?_)
    refine aw_ret ?_
    refine (hret _ _ _ _ _ rfl (.tmp rfl .nil) rfl ?_ (.box rfl rfl (.row rfl (.row rfl .nil))) rfl).1
    rfl
theorem con_LeftF2 {s : Ps} {ov : Bool} : Con Tryd.prog 15 [.ptr 0 0] (s.ahB false ov 2) 3 (.ret (.v (.int .i64 (s.ln.length : Int)))) (s.ahB false ov 3) := by
  refine con_of Tryd.func15 rfl (by show _ ≤ 10; simp) fun X Q hP hnt hnp hret hpan => ?_
  obtain ⟨P0, nt0, w0, K0, S0, np0, pin0, df0⟩ := X
  simp only at hP hnt hnp
  subst hP hnp
  obtain rfl : nt0 = 10 := hnt
  refine aw_region fun K1 hK1 => ?_
  refine aL z_assign ?_
  refine awl_nil (hK1 _ _ ?_)
  clear hK1 K1
  refine aw_seq fun K2 hK2 => ?_
  refine aw_region fun K3 hK3 => ?_
  refine aL z_move ?_
  refine aL (z_eqlP Tryd.underlying24) ?_
  refine awl_nil (hK3 _ _ ?_)
  clear hK3 K3
  refine aC (fun r1 c1 => ?_) (fun r1 c1 => ?_)
  · exact absurd c1 (by decide)
  · refine aw_skip ?_
    refine hK2 _ _ ?_
    clear hK2
    refine aw_region fun K4 hK4 => ?_
    refine aL z_move ?_
    refine aL z_nilCheck ?_
    refine aL (z_fieldAddr fo_54_2) ?_
    refine aL (z_load sz_32) ?_
    refine aL (z_lenV Tryd.underlying32) ?_
    refine aL z_assign ?_
    refine awl_nil (hK4 _ _ ?_)
    clear hK4 K4
    refine aw_weak (weak_rever 1 3 rfl) (aw_weak (weak_rever 2 3 rfl) ?_)
    refine aw_ret ?_
    refine (hret _ _ _ _ _ rfl (.tmp rfl .nil) rfl ?_ (.box rfl rfl (.row rfl (.row rfl .nil))) rfl).1
    rfl
theorem con_Left2 {s : Ps} {q ov : Bool} : Con Tryd.prog 15 [.ptr 0 0] (s.ahB q ov 2) 3 (.ret (.v (.int .i64 (s.ln.length : Int)))) (s.ahB q ov 3) := by
  cases q
  · exact con_LeftF2
  · exact con_LeftT2
theorem con_LeftD2 : Con Tryd.prog 15 [.ptr 0 0] (deadAH 2) 3 (.ret (.v (.int .i64 0))) (deadAH 3) := by
  refine con_of Tryd.func15 rfl (by show _ ≤ 10; simp) fun X Q hP hnt hnp hret hpan => ?_
  obtain ⟨P0, nt0, w0, K0, S0, np0, pin0, df0⟩ := X
  simp only at hP hnt hnp
  subst hP hnp
  obtain rfl : nt0 = 10 := hnt
  refine aw_region fun K1 hK1 => ?_
  refine aL z_assign ?_
  refine awl_nil (hK1 _ _ ?_)
  clear hK1 K1
  refine aw_seq fun K2 hK2 => ?_
  refine aw_region fun K3 hK3 => ?_
  refine aL z_move ?_
  refine aL (z_eqlP Tryd.underlying24) ?_
  refine awl_nil (hK3 _ _ ?_)
  clear hK3 K3
  refine aC (fun r1 c1 => ?_) (fun r1 c1 => ?_)
  · exact absurd c1 (by decide)
  · refine aw_skip ?_
    refine hK2 _ _ ?_
    clear hK2
    refine aw_region fun K4 hK4 => ?_
    refine aL z_move ?_
    refine aL z_nilCheck ?_
    refine aL (z_fieldAddr fo_54_2) ?_
    refine aL (z_load sz_32) ?_
    refine aL (z_lenV Tryd.underlying32) ?_
    refine aL z_assign ?_
    refine awl_nil (hK4 _ _ ?_)
    clear hK4 K4
    refine aw_weak (weak_rever 1 3 rfl) (aw_weak (weak_rever 2 3 rfl) ?_)
    refine aw_ret ?_
    refine (hret _ _ _ _ _ rfl (.tmp rfl .nil) rfl ?_ (.box rfl rfl (.row rfl (.row rfl .nil))) rfl).1
    rfl
theorem con_KeepsE1 {s : Ps} {ov : Bool} (he : s.ended = true) (hs : szM s.fs ≤ 1000000000) : Con Tryd.prog 12 [.ptr 0 0] (s.ahB false ov 1) 3 (.ret (.v (.bool (kpM s)))) (s.ahB false ov 2) := by
  obtain ⟨hd, kk, ln, st, old, fs, many, need, ended, toEnd⟩ := s
  simp only at he hs
  subst he
  have hH := con_Has (l := fs) (k := [99, 111, 110, 110, 101, 99, 116, 105, 111, 110]) (v := [99, 108, 111, 115, 101]) hs (by decide) (by decide)
  unfold kpM
  dsimp only
  refine con_of Tryd.func12 rfl (by show _ ≤ 26; simp) fun X Q hP hnt hnp hret hpan => ?_
  obtain ⟨P0, nt0, w0, K0, S0, np0, pin0, df0⟩ := X
  simp only at hP hnt hnp
  subst hP hnp
  obtain rfl : nt0 = 26 := hnt
  refine aw_region fun K1 hK1 => ?_
  refine aL z_assign ?_
  refine awl_nil (hK1 _ _ ?_)
  clear hK1 K1
  refine aw_region fun K2 hK2 => ?_
  refine aL z_move ?_
  refine aL (z_neqPP Tryd.underlying24) ?_
  refine aL z_move ?_
  refine gL rfl rfl (ev_tmp rfl) (fun hg => z_move) ?_
  refine gL rfl rfl (ev_tmp rfl) (fun hg => z_nilCheck) ?_
  refine gL rfl rfl (ev_tmp rfl) (fun hg => z_fieldAddr fo_54_9) ?_
  refine gL rfl rfl (ev_tmp rfl) (fun hg => z_load sz_4) ?_
  refine aL z_and ?_
  refine aL z_move ?_
  refine gL rfl rfl (ev_tmp rfl) (fun hg => z_move) ?_
  refine gL rfl rfl (ev_tmp rfl) (fun hg => z_nilCheck) ?_
  refine gL rfl rfl (ev_tmp rfl) (fun hg => z_fieldAddr fo_54_4) ?_
  refine gL rfl rfl (ev_tmp rfl) (fun hg => z_load sz_4) ?_
  refine gL rfl rfl (ev_tmp rfl) (fun hg => z_not) ?_
  refine aL z_and ?_
  refine aL z_move ?_
  refine gL rfl rfl (ev_tmp rfl) (fun hg => z_move) ?_
  refine gL rfl rfl (ev_tmp rfl) (fun hg => z_nilCheck) ?_
  refine gL rfl rfl (ev_tmp rfl) (fun hg => z_fieldAddr fo_54_5) ?_
  refine gL rfl rfl (ev_tmp rfl) (fun hg => z_load sz_26) ?_
  refine gL rfl rfl (ev_tmp rfl) (fun hg => z_call0 (eC (eC (eC .nil))) en_22 (hH)) ?_
  refine gL rfl rfl (ev_tmp rfl) (fun hg => z_not) ?_
  refine aL z_and ?_
  refine aL z_assign ?_
  refine awl_nil (hK2 _ _ ?_)
  clear hK2 K2
  refine aw_weak (weak_rever 1 2 rfl) (aw_weak (weak_rever 2 2 rfl) ?_)
  refine aw_ret ?_
  refine (hret _ _ _ _ _ rfl (.tmp rfl .nil) rfl ?_ (.box rfl rfl (.row rfl (.row rfl .nil))) rfl).1
  rfl
theorem con_KeepsNT1 {s : Ps} {ov : Bool} (he : s.ended = false) : Con Tryd.prog 12 [.ptr 0 0] (s.ahB true ov 1) 3 (.ret (.v (.bool false))) (s.ahB true ov 2) := by
  obtain ⟨hd, kk, ln, st, old, fs, many, need, ended, toEnd⟩ := s
  simp only at he
  subst he
  refine con_of Tryd.func12 rfl (by show _ ≤ 26; simp) fun X Q hP hnt hnp hret hpan => ?_
  obtain ⟨P0, nt0, w0, K0, S0, np0, pin0, df0⟩ := X
  simp only at hP hnt hnp
  subst hP hnp
  obtain rfl : nt0 = 26 := hnt
  refine aw_region fun K1 hK1 => ?_
  refine aL z_assign ?_
  refine awl_nil (hK1 _ _ ?_)
  clear hK1 K1
  refine aw_region fun K2 hK2 => ?_
  refine aL z_move ?_
  refine aL (z_neqPP Tryd.underlying24) ?_
  refine aL z_move ?_
  refine gL rfl rfl (ev_tmp rfl) (fun hg => z_move) ?_
  refine gL rfl rfl (ev_tmp rfl) (fun hg => z_nilCheck) ?_
  refine gL rfl rfl (ev_tmp rfl) (fun hg => z_fieldAddr fo_54_9) ?_
  refine gL rfl rfl (ev_tmp rfl) (fun hg => z_load sz_4) ?_
  refine aL z_and ?_
  refine aL z_move ?_
  refine gL rfl rfl (ev_tmp rfl) (fun hg => z_move) ?_
  refine gL rfl rfl (ev_tmp rfl) (fun hg => z_nilCheck) ?_
  refine gL rfl rfl (ev_tmp rfl) (fun hg => z_fieldAddr fo_54_4) ?_
  refine gL rfl rfl (ev_tmp rfl) (fun hg => z_load sz_4) ?_
  refine gL rfl rfl (ev_tmp rfl) (fun hg => ((absurd hg (by simp)) : StepU _ _ _ _ (.v (.bool false)) [] [])) ?_
  refine aL z_and ?_
  refine aL z_move ?_
  refine gL rfl rfl (ev_tmp rfl) (fun hg => z_move) ?_
  refine gL rfl rfl (ev_tmp rfl) (fun hg => z_nilCheck) ?_
  refine gL rfl rfl (ev_tmp rfl) (fun hg => z_fieldAddr fo_54_5) ?_
  refine gL rfl rfl (ev_tmp rfl) (fun hg => z_load sz_26) ?_
  refine gL rfl rfl (ev_tmp rfl) (fun hg => ((absurd hg (by simp)) : StepU _ _ _ _ .any [] [])) ?_
  refine gL rfl rfl (ev_tmp rfl) (fun hg => ((absurd hg (by simp)) : StepU _ _ _ _ (.v (.bool false)) [] [])) ?_
  refine aL z_and ?_
  refine aL z_assign ?_
  refine awl_nil (hK2 _ _ ?_)
  clear hK2 K2
  refine aw_weak (weak_rever 1 2 rfl) (aw_weak (weak_rever 2 2 rfl) ?_)
  refine aw_ret ?_
  refine (hret _ _ _ _ _ rfl (.tmp rfl .nil) rfl ?_ (.box rfl rfl (.row rfl (.row rfl .nil))) rfl).1
  rfl
theorem con_KeepsNF1 {s : Ps} {ov : Bool} (he : s.ended = false) : Con Tryd.prog 12 [.ptr 0 0] (s.ahB false ov 1) 3 (.ret (.v (.bool false))) (s.ahB false ov 2) := by
  obtain ⟨hd, kk, ln, st, old, fs, many, need, ended, toEnd⟩ := s
  simp only at he
  subst he
  refine con_of Tryd.func12 rfl (by show _ ≤ 26; simp) fun X Q hP hnt hnp hret hpan => ?_
  obtain ⟨P0, nt0, w0, K0, S0, np0, pin0, df0⟩ := X
  simp only at hP hnt hnp
  subst hP hnp
  obtain rfl : nt0 = 26 := hnt
  refine aw_region fun K1 hK1 => ?_
  refine aL z_assign ?_
  refine awl_nil (hK1 _ _ ?_)
  clear hK1 K1
  refine aw_region fun K2 hK2 => ?_
  refine aL z_move ?_
  refine aL (z_neqPP Tryd.underlying24) ?_
  refine aL z_move ?_
  refine gL rfl rfl (ev_tmp rfl) (fun hg => z_move) ?_
  refine gL rfl rfl (ev_tmp rfl) (fun hg => z_nilCheck) ?_
  refine gL rfl rfl (ev_tmp rfl) (fun hg => z_fieldAddr fo_54_9) ?_
  refine gL rfl rfl (ev_tmp rfl) (fun hg => z_load sz_4) ?_
  refine aL z_and ?_
  refine aL z_move ?_
  refine gL rfl rfl (ev_tmp rfl) (fun hg => z_move) ?_
  refine gL rfl rfl (ev_tmp rfl) (fun hg => z_nilCheck) ?_
  refine gL rfl rfl (ev_tmp rfl) (fun hg => z_fieldAddr fo_54_4) ?_
  refine gL rfl rfl (ev_tmp rfl) (fun hg => z_load sz_4) ?_
  refine gL rfl rfl (ev_tmp rfl) (fun hg => ((absurd hg (by simp)) : StepU _ _ _ _ (.v (.bool false)) [] [])) ?_
  refine aL z_and ?_
  refine aL z_move ?_
  refine gL rfl rfl (ev_tmp rfl) (fun hg => z_move) ?_
  refine gL rfl rfl (ev_tmp rfl) (fun hg => z_nilCheck) ?_
  refine gL rfl rfl (ev_tmp rfl) (fun hg => z_fieldAddr fo_54_5) ?_
  refine gL rfl rfl (ev_tmp rfl) (fun hg => z_load sz_26) ?_
  refine gL rfl rfl (ev_tmp rfl) (fun hg => ((absurd hg (by simp)) : StepU _ _ _ _ .any [] [])) ?_
  refine gL rfl rfl (ev_tmp rfl) (fun hg => ((absurd hg (by simp)) : StepU _ _ _ _ (.v (.bool false)) [] [])) ?_
  refine aL z_and ?_
  refine aL z_assign ?_
  refine awl_nil (hK2 _ _ ?_)
  clear hK2 K2
  refine aw_weak (weak_rever 1 2 rfl) (aw_weak (weak_rever 2 2 rfl) ?_)
  refine aw_ret ?_
  refine (hret _ _ _ _ _ rfl (.tmp rfl .nil) rfl ?_ (.box rfl rfl (.row rfl (.row rfl .nil))) rfl).1
  rfl
theorem con_Keeps1 {s : Ps} {q ov : Bool} (hq : s.fb = q) (hs : szM s.fs ≤ 1000000000) : Con Tryd.prog 12 [.ptr 0 0] (s.ahB q ov 1) 3 (.ret (.v (.bool (kpM s)))) (s.ahB q ov 2) := by
  cases he : s.ended with
  | true =>
    have : q = false := by rw [← hq]; simp [Ps.fb, he]
    subst this
    exact con_KeepsE1 he hs
  | false =>
    rw [show kpM s = false by unfold kpM; rw [he]; rfl]
    cases q
    · exact con_KeepsNF1 he
    · exact con_KeepsNT1 he
theorem con_KeepsE2 {s : Ps} {ov : Bool} (he : s.ended = true) (hs : szM s.fs ≤ 1000000000) : Con Tryd.prog 12 [.ptr 0 0] (s.ahB false ov 2) 3 (.ret (.v (.bool (kpM s)))) (s.ahB false ov 3) := by
  obtain ⟨hd, kk, ln, st, old, fs, many, need, ended, toEnd⟩ := s
  simp only at he hs
  subst he
  have hH := con_Has (l := fs) (k := [99, 111, 110, 110, 101, 99, 116, 105, 111, 110]) (v := [99, 108, 111, 115, 101]) hs (by decide) (by decide)
  unfold kpM
  dsimp only
  refine con_of Tryd.func12 rfl (by show _ ≤ 26; simp) fun X Q hP hnt hnp hret hpan => ?_
  obtain ⟨P0, nt0, w0, K0, S0, np0, pin0, df0⟩ := X
  simp only at hP hnt hnp
  subst hP hnp
  obtain rfl : nt0 = 26 := hnt
  refine aw_region fun K1 hK1 => ?_
  refine aL z_assign ?_
  refine awl_nil (hK1 _ _ ?_)
  clear hK1 K1
  refine aw_region fun K2 hK2 => ?_
  refine aL z_move ?_
  refine aL (z_neqPP Tryd.underlying24) ?_
  refine aL z_move ?_
  refine gL rfl rfl (ev_tmp rfl) (fun hg => z_move) ?_
  refine gL rfl rfl (ev_tmp rfl) (fun hg => z_nilCheck) ?_
  refine gL rfl rfl (ev_tmp rfl) (fun hg => z_fieldAddr fo_54_9) ?_
  refine gL rfl rfl (ev_tmp rfl) (fun hg => z_load sz_4) ?_
  refine aL z_and ?_
  refine aL z_move ?_
  refine gL rfl rfl (ev_tmp rfl) (fun hg => z_move) ?_
  refine gL rfl rfl (ev_tmp rfl) (fun hg => z_nilCheck) ?_
  refine gL rfl rfl (ev_tmp rfl) (fun hg => z_fieldAddr fo_54_4) ?_
  refine gL rfl rfl (ev_tmp rfl) (fun hg => z_load sz_4) ?_
  refine gL rfl rfl (ev_tmp rfl) (fun hg => z_not) ?_
  refine aL z_and ?_
  refine aL z_move ?_
  refine gL rfl rfl (ev_tmp rfl) (fun hg => z_move) ?_
  refine gL rfl rfl (ev_tmp rfl) (fun hg => z_nilCheck) ?_
  refine gL rfl rfl (ev_tmp rfl) (fun hg => z_fieldAddr fo_54_5) ?_
  refine gL rfl rfl (ev_tmp rfl) (fun hg => z_load sz_26) ?_
  refine gL rfl rfl (ev_tmp rfl) (fun hg => z_call0 (eC (eC (eC .nil))) en_22 (hH)) ?_
  refine gL rfl rfl (ev_tmp rfl) (fun hg => z_not) ?_
  refine aL z_and ?_
  refine aL z_assign ?_
  refine awl_nil (hK2 _ _ ?_)
  clear hK2 K2
  refine aw_weak (weak_rever 1 3 rfl) (aw_weak (weak_rever 2 3 rfl) ?_)
  refine aw_ret ?_
  refine (hret _ _ _ _ _ rfl (.tmp rfl .nil) rfl ?_ (.box rfl rfl (.row rfl (.row rfl .nil))) rfl).1
  rfl
theorem con_KeepsNT2 {s : Ps} {ov : Bool} (he : s.ended = false) : Con Tryd.prog 12 [.ptr 0 0] (s.ahB true ov 2) 3 (.ret (.v (.bool false))) (s.ahB true ov 3) := by
  obtain ⟨hd, kk, ln, st, old, fs, many, need, ended, toEnd⟩ := s
  simp only at he
  subst he
  refine con_of Tryd.func12 rfl (by show _ ≤ 26; simp) fun X Q hP hnt hnp hret hpan => ?_
  obtain ⟨P0, nt0, w0, K0, S0, np0, pin0, df0⟩ := X
  simp only at hP hnt hnp
  subst hP hnp
  obtain rfl : nt0 = 26 := hnt
  refine aw_region fun K1 hK1 => ?_
  refine aL z_assign ?_
  refine awl_nil (hK1 _ _ ?_)
  clear hK1 K1
  refine aw_region fun K2 hK2 => ?_
  refine aL z_move ?_
  refine aL (z_neqPP Tryd.underlying24) ?_
  refine aL z_move ?_
  refine gL rfl rfl (ev_tmp rfl) (fun hg => z_move) ?_
  refine gL rfl rfl (ev_tmp rfl) (fun hg => z_nilCheck) ?_
  refine gL rfl rfl (ev_tmp rfl) (fun hg => z_fieldAddr fo_54_9) ?_
  refine gL rfl rfl (ev_tmp rfl) (fun hg => z_load sz_4) ?_
  refine aL z_and ?_
  refine aL z_move ?_
  refine gL rfl rfl (ev_tmp rfl) (fun hg => z_move) ?_
  refine gL rfl rfl (ev_tmp rfl) (fun hg => z_nilCheck) ?_
  refine gL rfl rfl (ev_tmp rfl) (fun hg => z_fieldAddr fo_54_4) ?_
  refine gL rfl rfl (ev_tmp rfl) (fun hg => z_load sz_4) ?_
  refine gL rfl rfl (ev_tmp rfl) (fun hg => ((absurd hg (by simp)) : StepU _ _ _ _ (.v (.bool false)) [] [])) ?_
  refine aL z_and ?_
  refine aL z_move ?_
  refine gL rfl rfl (ev_tmp rfl) (fun hg => z_move) ?_
  refine gL rfl rfl (ev_tmp rfl) (fun hg => z_nilCheck) ?_
  refine gL rfl rfl (ev_tmp rfl) (fun hg => z_fieldAddr fo_54_5) ?_
  refine gL rfl rfl (ev_tmp rfl) (fun hg => z_load sz_26) ?_
  refine gL rfl rfl (ev_tmp rfl) (fun hg => ((absurd hg (by simp)) : StepU _ _ _ _ .any [] [])) ?_
  refine gL rfl rfl (ev_tmp rfl) (fun hg => ((absurd hg (by simp)) : StepU _ _ _ _ (.v (.bool false)) [] [])) ?_
  refine aL z_and ?_
  refine aL z_assign ?_
  refine awl_nil (hK2 _ _ ?_)
  clear hK2 K2
  refine aw_weak (weak_rever 1 3 rfl) (aw_weak (weak_rever 2 3 rfl) ?_)
  refine aw_ret ?_
  refine (hret _ _ _ _ _ rfl (.tmp rfl .nil) rfl ?_ (.box rfl rfl (.row rfl (.row rfl .nil))) rfl).1
  rfl
theorem con_KeepsNF2 {s : Ps} {ov : Bool} (he : s.ended = false) : Con Tryd.prog 12 [.ptr 0 0] (s.ahB false ov 2) 3 (.ret (.v (.bool false))) (s.ahB false ov 3) := by
  obtain ⟨hd, kk, ln, st, old, fs, many, need, ended, toEnd⟩ := s
  simp only at he
  subst he
  refine con_of Tryd.func12 rfl (by show _ ≤ 26; simp) fun X Q hP hnt hnp hret hpan => ?_
  obtain ⟨P0, nt0, w0, K0, S0, np0, pin0, df0⟩ := X
  simp only at hP hnt hnp
  subst hP hnp
  obtain rfl : nt0 = 26 := hnt
  refine aw_region fun K1 hK1 => ?_
  refine aL z_assign ?_
  refine awl_nil (hK1 _ _ ?_)
  clear hK1 K1
  refine aw_region fun K2 hK2 => ?_
  refine aL z_move ?_
  refine aL (z_neqPP Tryd.underlying24) ?_
  refine aL z_move ?_
  refine gL rfl rfl (ev_tmp rfl) (fun hg => z_move) ?_
  refine gL rfl rfl (ev_tmp rfl) (fun hg => z_nilCheck) ?_
  refine gL rfl rfl (ev_tmp rfl) (fun hg => z_fieldAddr fo_54_9) ?_
  refine gL rfl rfl (ev_tmp rfl) (fun hg => z_load sz_4) ?_
  refine aL z_and ?_
  refine aL z_move ?_
  refine gL rfl rfl (ev_tmp rfl) (fun hg => z_move) ?_
  refine gL rfl rfl (ev_tmp rfl) (fun hg => z_nilCheck) ?_
  refine gL rfl rfl (ev_tmp rfl) (fun hg => z_fieldAddr fo_54_4) ?_
  refine gL rfl rfl (ev_tmp rfl) (fun hg => z_load sz_4) ?_
  refine gL rfl rfl (ev_tmp rfl) (fun hg => ((absurd hg (by simp)) : StepU _ _ _ _ (.v (.bool false)) [] [])) ?_
  refine aL z_and ?_
  refine aL z_move ?_
  refine gL rfl rfl (ev_tmp rfl) (fun hg => z_move) ?_
  refine gL rfl rfl (ev_tmp rfl) (fun hg => z_nilCheck) ?_
  refine gL rfl rfl (ev_tmp rfl) (fun hg => z_fieldAddr fo_54_5) ?_
  refine gL rfl rfl (ev_tmp rfl) (fun hg => z_load sz_26) ?_
  refine gL rfl rfl (ev_tmp rfl) (fun hg => ((absurd hg (by simp)) : StepU _ _ _ _ .any [] [])) ?_
  refine gL rfl rfl (ev_tmp rfl) (fun hg => ((absurd hg (by simp)) : StepU _ _ _ _ (.v (.bool false)) [] [])) ?_
  refine aL z_and ?_
  refine aL z_assign ?_
  refine awl_nil (hK2 _ _ ?_)
  clear hK2 K2
  refine aw_weak (weak_rever 1 3 rfl) (aw_weak (weak_rever 2 3 rfl) ?_)
  refine aw_ret ?_
  refine (hret _ _ _ _ _ rfl (.tmp rfl .nil) rfl ?_ (.box rfl rfl (.row rfl (.row rfl .nil))) rfl).1
  rfl
theorem con_Keeps2 {s : Ps} {q ov : Bool} (hq : s.fb = q) (hs : szM s.fs ≤ 1000000000) : Con Tryd.prog 12 [.ptr 0 0] (s.ahB q ov 2) 3 (.ret (.v (.bool (kpM s)))) (s.ahB q ov 3) := by
  cases he : s.ended with
  | true =>
    have : q = false := by rw [← hq]; simp [Ps.fb, he]
    subst this
    exact con_KeepsE2 he hs
  | false =>
    rw [show kpM s = false by unfold kpM; rw [he]; rfl]
    cases q
    · exact con_KeepsNF2 he
    · exact con_KeepsNT2 he
theorem con_KeepsE3 {s : Ps} {ov : Bool} (he : s.ended = true) (hs : szM s.fs ≤ 1000000000) : Con Tryd.prog 12 [.ptr 0 0] (s.ahB false ov 3) 3 (.ret (.v (.bool (kpM s)))) (s.ahB false ov 4) := by
  obtain ⟨hd, kk, ln, st, old, fs, many, need, ended, toEnd⟩ := s
  simp only at he hs
  subst he
  have hH := con_Has (l := fs) (k := [99, 111, 110, 110, 101, 99, 116, 105, 111, 110]) (v := [99, 108, 111, 115, 101]) hs (by decide) (by decide)
  unfold kpM
  dsimp only
  refine con_of Tryd.func12 rfl (by show _ ≤ 26; simp) fun X Q hP hnt hnp hret hpan => ?_
  obtain ⟨P0, nt0, w0, K0, S0, np0, pin0, df0⟩ := X
  simp only at hP hnt hnp
  subst hP hnp
  obtain rfl : nt0 = 26 := hnt
  refine aw_region fun K1 hK1 => ?_
  refine aL z_assign ?_
  refine awl_nil (hK1 _ _ ?_)
  clear hK1 K1
  refine aw_region fun K2 hK2 => ?_
  refine aL z_move ?_
  refine aL (z_neqPP Tryd.underlying24) ?_
  refine aL z_move ?_
  refine gL rfl rfl (ev_tmp rfl) (fun hg => z_move) ?_
  refine gL rfl rfl (ev_tmp rfl) (fun hg => z_nilCheck) ?_
  refine gL rfl rfl (ev_tmp rfl) (fun hg => z_fieldAddr fo_54_9) ?_
  refine gL rfl rfl (ev_tmp rfl) (fun hg => z_load sz_4) ?_
  refine aL z_and ?_
  refine aL z_move ?_
  refine gL rfl rfl (ev_tmp rfl) (fun hg => z_move) ?_
  refine gL rfl rfl (ev_tmp rfl) (fun hg => z_nilCheck) ?_
  refine gL rfl rfl (ev_tmp rfl) (fun hg => z_fieldAddr fo_54_4) ?_
  refine gL rfl rfl (ev_tmp rfl) (fun hg => z_load sz_4) ?_
  refine gL rfl rfl (ev_tmp rfl) (fun hg => z_not) ?_
  refine aL z_and ?_
  refine aL z_move ?_
  refine gL rfl rfl (ev_tmp rfl) (fun hg => z_move) ?_
  refine gL rfl rfl (ev_tmp rfl) (fun hg => z_nilCheck) ?_
  refine gL rfl rfl (ev_tmp rfl) (fun hg => z_fieldAddr fo_54_5) ?_
  refine gL rfl rfl (ev_tmp rfl) (fun hg => z_load sz_26) ?_
  refine gL rfl rfl (ev_tmp rfl) (fun hg => z_call0 (eC (eC (eC .nil))) en_22 (hH)) ?_
  refine gL rfl rfl (ev_tmp rfl) (fun hg => z_not) ?_
  refine aL z_and ?_
  refine aL z_assign ?_
  refine awl_nil (hK2 _ _ ?_)
  clear hK2 K2
  refine aw_weak (weak_rever 1 4 rfl) (aw_weak (weak_rever 2 4 rfl) ?_)
  refine aw_ret ?_
  refine (hret _ _ _ _ _ rfl (.tmp rfl .nil) rfl ?_ (.box rfl rfl (.row rfl (.row rfl .nil))) rfl).1
  rfl
theorem con_KeepsNT3 {s : Ps} {ov : Bool} (he : s.ended = false) : Con Tryd.prog 12 [.ptr 0 0] (s.ahB true ov 3) 3 (.ret (.v (.bool false))) (s.ahB true ov 4) := by
  obtain ⟨hd, kk, ln, st, old, fs, many, need, ended, toEnd⟩ := s
  simp only at he
  subst he
  refine con_of Tryd.func12 rfl (by show _ ≤ 26; simp) fun X Q hP hnt hnp hret hpan => ?_
  obtain ⟨P0, nt0, w0, K0, S0, np0, pin0, df0⟩ := X
  simp only at hP hnt hnp
  subst hP hnp
  obtain rfl : nt0 = 26 := hnt
  refine aw_region fun K1 hK1 => ?_
  refine aL z_assign ?_
  refine awl_nil (hK1 _ _ ?_)
  clear hK1 K1
  refine aw_region fun K2 hK2 => ?_
  refine aL z_move ?_
  refine aL (z_neqPP Tryd.underlying24) ?_
  refine aL z_move ?_
  refine gL rfl rfl (ev_tmp rfl) (fun hg => z_move) ?_
  refine gL rfl rfl (ev_tmp rfl) (fun hg => z_nilCheck) ?_
  refine gL rfl rfl (ev_tmp rfl) (fun hg => z_fieldAddr fo_54_9) ?_
  refine gL rfl rfl (ev_tmp rfl) (fun hg => z_load sz_4) ?_
  refine aL z_and ?_
  refine aL z_move ?_
  refine gL rfl rfl (ev_tmp rfl) (fun hg => z_move) ?_
  refine gL rfl rfl (ev_tmp rfl) (fun hg => z_nilCheck) ?_
  refine gL rfl rfl (ev_tmp rfl) (fun hg => z_fieldAddr fo_54_4) ?_
  refine gL rfl rfl (ev_tmp rfl) (fun hg => z_load sz_4) ?_
  refine gL rfl rfl (ev_tmp rfl) (fun hg => ((absurd hg (by simp)) : StepU _ _ _ _ (.v (.bool false)) [] [])) ?_
  refine aL z_and ?_
  refine aL z_move ?_
  refine gL rfl rfl (ev_tmp rfl) (fun hg => z_move) ?_
  refine gL rfl rfl (ev_tmp rfl) (fun hg => z_nilCheck) ?_
  refine gL rfl rfl (ev_tmp rfl) (fun hg => z_fieldAddr fo_54_5) ?_
  refine gL rfl rfl (ev_tmp rfl) (fun hg => z_load sz_26) ?_
  refine gL rfl rfl (ev_tmp rfl) (fun hg => ((absurd hg (by simp)) : StepU _ _ _ _ .any [] [])) ?_
  refine gL rfl rfl (ev_tmp rfl) (fun hg => ((absurd hg (by simp)) : StepU _ _ _ _ (.v (.bool false)) [] [])) ?_
  refine aL z_and ?_
  refine aL z_assign ?_
  refine awl_nil (hK2 _ _ ?_)
  clear hK2 K2
  refine aw_weak (weak_rever 1 4 rfl) (aw_weak (weak_rever 2 4 rfl) ?_)
  refine aw_ret ?_
  refine (hret _ _ _ _ _ rfl (.tmp rfl .nil) rfl ?_ (.box rfl rfl (.row rfl (.row rfl .nil))) rfl).1
  rfl
theorem con_KeepsNF3 {s : Ps} {ov : Bool} (he : s.ended = false) : Con Tryd.prog 12 [.ptr 0 0] (s.ahB false ov 3) 3 (.ret (.v (.bool false))) (s.ahB false ov 4) := by
  obtain ⟨hd, kk, ln, st, old, fs, many, need, ended, toEnd⟩ := s
  simp only at he
  subst he
  refine con_of Tryd.func12 rfl (by show _ ≤ 26; simp) fun X Q hP hnt hnp hret hpan => ?_
  obtain ⟨P0, nt0, w0, K0, S0, np0, pin0, df0⟩ := X
  simp only at hP hnt hnp
  subst hP hnp
  obtain rfl : nt0 = 26 := hnt
  refine aw_region fun K1 hK1 => ?_
  refine aL z_assign ?_
  refine awl_nil (hK1 _ _ ?_)
  clear hK1 K1
  refine aw_region fun K2 hK2 => ?_
  refine aL z_move ?_
  refine aL (z_neqPP Tryd.underlying24) ?_
  refine aL z_move ?_
  refine gL rfl rfl (ev_tmp rfl) (fun hg => z_move) ?_
  refine gL rfl rfl (ev_tmp rfl) (fun hg => z_nilCheck) ?_
  refine gL rfl rfl (ev_tmp rfl) (fun hg => z_fieldAddr fo_54_9) ?_
  refine gL rfl rfl (ev_tmp rfl) (fun hg => z_load sz_4) ?_
  refine aL z_and ?_
  refine aL z_move ?_
  refine gL rfl rfl (ev_tmp rfl) (fun hg => z_move) ?_
  refine gL rfl rfl (ev_tmp rfl) (fun hg => z_nilCheck) ?_
  refine gL rfl rfl (ev_tmp rfl) (fun hg => z_fieldAddr fo_54_4) ?_
  refine gL rfl rfl (ev_tmp rfl) (fun hg => z_load sz_4) ?_
  refine gL rfl rfl (ev_tmp rfl) (fun hg => ((absurd hg (by simp)) : StepU _ _ _ _ (.v (.bool false)) [] [])) ?_
  refine aL z_and ?_
  refine aL z_move ?_
  refine gL rfl rfl (ev_tmp rfl) (fun hg => z_move) ?_
  refine gL rfl rfl (ev_tmp rfl) (fun hg => z_nilCheck) ?_
  refine gL rfl rfl (ev_tmp rfl) (fun hg => z_fieldAddr fo_54_5) ?_
  refine gL rfl rfl (ev_tmp rfl) (fun hg => z_load sz_26) ?_
  refine gL rfl rfl (ev_tmp rfl) (fun hg => ((absurd hg (by simp)) : StepU _ _ _ _ .any [] [])) ?_
  refine gL rfl rfl (ev_tmp rfl) (fun hg => ((absurd hg (by simp)) : StepU _ _ _ _ (.v (.bool false)) [] [])) ?_
  refine aL z_and ?_
  refine aL z_assign ?_
  refine awl_nil (hK2 _ _ ?_)
  clear hK2 K2
  refine aw_weak (weak_rever 1 4 rfl) (aw_weak (weak_rever 2 4 rfl) ?_)
  refine aw_ret ?_
  refine (hret _ _ _ _ _ rfl (.tmp rfl .nil) rfl ?_ (.box rfl rfl (.row rfl (.row rfl .nil))) rfl).1
  rfl
theorem con_Keeps3 {s : Ps} {q ov : Bool} (hq : s.fb = q) (hs : szM s.fs ≤ 1000000000) : Con Tryd.prog 12 [.ptr 0 0] (s.ahB q ov 3) 3 (.ret (.v (.bool (kpM s)))) (s.ahB q ov 4) := by
  cases he : s.ended with
  | true =>
    have : q = false := by rw [← hq]; simp [Ps.fb, he]
    subst this
    exact con_KeepsE3 he hs
  | false =>
    rw [show kpM s = false by unfold kpM; rw [he]; rfl]
    cases q
    · exact con_KeepsNF3 he
    · exact con_KeepsNT3 he
end Go.Proofs.YthflfnehdlpmdaaDoor
