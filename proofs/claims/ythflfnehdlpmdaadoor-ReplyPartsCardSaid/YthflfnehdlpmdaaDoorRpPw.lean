/- Chapter 15: however an answer is cut into pieces. No condition but on lengths. -/
import Derived.Test.YthflfnehdlpmdaaDoorRpPz
namespace Go.Proofs.YthflfnehdlpmdaaDoor
set_option linter.all false
open Go Go.RowKit
set_option maxRecDepth 100000
set_option maxHeartbeats 16000000
theorem con_ReplyParts {hd : Bool} {ps : List (List UInt8)} (hl : ps.length ≤ 140737488351232) (hp : ∀ p ∈ ps, p.length ≤ 140737488351232) : Con Tryd.prog 5 [.v (.bool hd), .v (.sl (psV ps))] [] 0 (.ret (.v (.bool true))) [] := by
  have hpsl := psV_len ps
  refine con_of Tryd.func5 rfl (by show _ ≤ 134; simp) fun X Q hP hnt hnp hret hpan => ?_
  obtain ⟨P0, nt0, w0, K0, S0, np0, pin0, df0⟩ := X
  simp only at hP hnt hnp
  subst hP hnp
  obtain rfl : nt0 = 134 := hnt
  refine aw_region fun K1 hK1 => ?_
  refine aL z_assign ?_
  refine awl_nil (hK1 _ _ ?_)
  clear hK1 K1
  refine aw_seq fun K2 hK2 => ?_
  refine aw_region fun K3 hK3 => ?_
  refine aL (z_call0 .nil en_7 (con_awake)) ?_
  refine aL z_not ?_
  refine awl_nil (hK3 _ _ ?_)
  clear hK3 K3
  refine aC (fun r1 c1 => ?_) (fun r1 c1 => ?_)
  · cases r1
  · refine aw_skip ?_
    refine hK2 _ _ ?_
    clear hK2
    refine aw_seq fun K4 hK4 => ?_
    refine aw_region fun K5 hK5 => ?_
    refine aL z_move ?_
    refine aL (z_call0 (eC .nil) en_14 (con_few hl hp)) ?_
    refine aL z_not ?_
    refine awl_nil (hK5 _ _ ?_)
    clear hK5 K5
    refine aC (fun r2 c2 => ?_) (fun r2 c2 => ?_)
    · refine aw_region fun K6 hK6 => ?_
      refine aL z_assign ?_
      refine awl_nil (hK6 _ _ ?_)
      clear hK6 K6
      refine aw_ret ?_
      refine (hret _ _ _ _ _ rfl (.tmp rfl .nil) rfl ?_ .nil rfl).1
      first | rfl | (simp [retD]; done) | (simp [retD]; omega)
    · refine aw_skip ?_
      refine hK4 _ _ ?_
      clear hK4
      refine aw_region fun K7 hK7 => ?_
      have hfew : fewM ps = true := by simpa using r2
      refine aL z_assign ?_
      refine awl_nil (hK7 _ _ ?_)
      clear hK7 K7
      refine aw_region fun K8 hK8 => ?_
      refine aL z_move ?_
      refine aL (z_callG [0, 1, 2] (eC .nil) en_9 con_New .nil) ?_
      refine aL z_assign ?_
      refine awl_nil (hK8 _ _ ?_)
      clear hK8 K8
      refine aw_region fun K9 hK9 => ?_
      refine aL (z_build .nil pl_28 zc_28 zl_28) ?_
      refine aL (z_alloc 7 zc_28 zl_28) ?_
      refine aL (z_store sz_28) ?_
      refine awl_nil (hK9 _ _ ?_)
      clear hK9 K9
      refine aw_weak (weak_boxD 7 2 (d' := .v (.sl (fdV []))) rfl rfl rfl (fun G w m u h => nil_sl h)) ?_
      refine aw_region fun K10 hK10 => ?_
      refine aL z_assign ?_
      refine awl_nil (hK10 _ _ ?_)
      clear hK10 K10
      refine aw_seq fun K11 hK11 => ?_
      refine aw_region fun K12 hK12 => ?_
      refine aL z_assign ?_
      refine awl_nil (hK12 _ _ ?_)
      clear hK12 K12
      refine aw_block ?_
      refine aw_loop (α := {y : P1 // y.ok hd ps}) (fun y => ([(0, .v (.bool hd)), (1, .v (.sl (psV ps))), (5, .view 10 0 0 (ps.take y.1.i).flatten.length), (6, .ptr 0 0), (7, .ptr 7 0), (8, .v (.int .i64 0)), (9, .v (.int .i64 (y.1.i : Int)))], y.1.s.ahB y.1.q false 0 ++ [(7, .box y.1.x.cs), (10, rwB 0 (ps.take y.1.i).flatten)])) (fun y => ps.length - y.1.i) ⟨⟨0, ps0 hd, false, hs0⟩, ⟨Nat.zero_le _, rfl, rfl, rfl⟩⟩ ?_ ?_
      · dsimp only
        refine Weak.trans (weak_nil (t := 5) 10 1 5 (by decide) (Nat.zero_le _) rfl rfl) ?_
        exact wK
      · rintro ⟨⟨i, s, q, x⟩, hy⟩ K13 hK13
        dsimp only
        refine aw_seq fun K14 hK14 => ?_
        refine aw_region fun K15 hK15 => ?_
        refine aL z_move ?_
        refine aL z_move ?_
        refine aL (z_len Tryd.underlying39) ?_
        refine aL z_lss ?_
        refine awl_nil (hK15 _ _ ?_)
        clear hK15 K15
        refine aC (fun r3 c3 => ?_) (fun r3 c3 => ?_)
        · refine aw_skip ?_
          refine hK14 _ _ ?_
          clear hK14
          refine aw_seq fun K16 hK16 => ?_
          refine aw_block ?_
          refine aw_region fun K17 hK17 => ?_
          have hlt : i < ps.length := (by omega)
          have hg := psV_get hlt
          have htk := take_flat hlt
          have hfw := few_at hfew hlt
          have hrun := hy.run
          have hfb := hy.fb
          have hlv := hy.live
          simp only at hrun hfb hlv
          generalize ps[i] = p at hg htk
          obtain ⟨all, hall⟩ : ∃ all, (ps.take i).flatten = all := ⟨_, rfl⟩
          rw [hall] at hrun htk
          rw [hall]
          rw [htk] at hfw
          have hok := (run_ok' _ _ _ _ _ _ (ps0_ok hd) hrun).1
          have hxd := (run_ok' _ _ _ _ _ _ (ps0_ok hd) hrun).2
          have hxf := run_fs _ _ _ _ _ _ (ps0_ok hd) (by simp) hrun
          have hpl := bs_length p
          have hsum : all.length + p.length ≤ 32768 := by have := hfw.1; rwa [List.length_append] at this
          simp only [List.length_nil, Nat.zero_add] at hxd
          refine aL z_move ?_
          refine aL z_move ?_
          refine aL z_move ?_
          refine aL (z_indexAddr Tryd.underlying39 sz_32) ?_
          refine aL (z_loadRef sz_32) ?_
          refine aL (z_app Tryd.underlying32 zi_5 (c' := bs (all ++ p)) (hc := by rw [List.take_of_length_le (by simp)]; simp [bs])) ?_
          refine aL z_assign ?_
          refine awl_nil (hK17 _ _ ?_)
          clear hK17 K17
          rcases hN : runB s hs0 p with e | ⟨s2, h2, r2⟩
          · refine aw_region fun K18 hK18 => ?_
            have hgoE : runB (ps0 hd) hs0 (all ++ p) = .error e := by rw [go_on hrun, hN]; rfl
            have hene := run_err _ _ _ _ hN
            refine aL z_move ?_
            refine aL z_move ?_
            refine aL z_move ?_
            refine aL (z_indexAddr Tryd.underlying39 sz_32) ?_
            refine aL (z_loadRef sz_32) ?_
            refine aL (z_callG [0, 1, 2] (eC (eC .nil)) en_10 (con_TakeE hfb hok hlv (by omega) hN) (by cases q <;> exact pA (pA (pA .nil))) (hB := by cases q <;> rfl) (hpl := by cases q <;> rfl)) ?_
            refine aL z_move ?_
            refine aL z_extract ?_
            refine aL z_extract ?_
            refine aL z_extract ?_
            refine aL (z_alloc 6 zc_28 zl_28) ?_
            refine aL (z_store sz_28) ?_
            refine aL z_assign ?_
            refine aL z_assign ?_
            refine awl_nil (hK18 _ _ ?_)
            clear hK18 K18
            refine aw_seq fun K19 hK19 => ?_
            refine aw_region fun K20 hK20 => ?_
            refine aL z_move ?_
            refine aL (z_callG [0, 1, 2] (eC .nil) en_15 con_LeftD2 (pA (pA (pA .nil)))) ?_
            refine aL z_gtr ?_
            refine awl_nil (hK20 _ _ ?_)
            clear hK20 K20
            refine aC (fun r4 c4 => ?_) (fun r4 c4 => ?_)
            · exact absurd r4 (by decide)
            · refine aw_skip ?_
              refine hK19 _ _ ?_
              clear hK19
              refine aw_region fun K21 hK21 => ?_
              refine aL (z_load sz_28) ?_
              refine aL (z_load sz_28) ?_
              refine aL (z_call0 (eC (eC .nil)) en_16 (con_add (a := x) (b := hs0) (by simp; omega))) ?_
              rw [addH_0]
              refine aL (z_store sz_28) ?_
              refine awl_nil (hK21 _ _ ?_)
              clear hK21 K21
              refine aw_seq fun K22 hK22 => ?_
              refine aw_region fun K23 hK23 => ?_
              refine aL z_move ?_
              refine aL z_neq ?_
              refine awl_nil (hK23 _ _ ?_)
              clear hK23 K23
              refine aC (fun r5 c5 => ?_) (fun r5 c5 => ?_)
              · refine aw_region fun K24 hK24 => ?_
                refine aL z_move ?_
                refine aL z_assign ?_
                refine awl_nil (hK24 _ _ ?_)
                clear hK24 K24
                refine aw_exit ?_
                refine hK11 _ _ ?_
                clear hK11
                refine aw_region fun K25 hK25 => ?_
                skip
                refine aL z_move ?_
                refine aL (z_callG [3, 4, 5] (eC .nil) en_9 con_New .nil) ?_
                refine aL z_assign ?_
                refine awl_nil (hK25 _ _ ?_)
                clear hK25 K25
                refine aw_region fun K26 hK26 => ?_
                refine aL (z_build .nil pl_28 zc_28 zl_28) ?_
                refine aL (z_alloc 8 zc_28 zl_28) ?_
                refine aL (z_store sz_28) ?_
                refine awl_nil (hK26 _ _ ?_)
                clear hK26 K26
                refine aw_weak (weak_boxD 8 2 (d' := .v (.sl (fdV []))) rfl rfl rfl (fun G w m u h => nil_sl h)) ?_
                refine aw_region fun K27 hK27 => ?_
                refine aL z_assign ?_
                refine awl_nil (hK27 _ _ ?_)
                clear hK27 K27
                refine aw_seq fun K28 hK28 => ?_
                refine aw_region fun K29 hK29 => ?_
                refine aL z_assign ?_
                refine awl_nil (hK29 _ _ ?_)
                clear hK29 K29
                refine aw_block ?_
                refine aw_loop (α := {z : P2 // z.ok hd (all ++ p)}) (fun z => ([(5, .v (.sl (bs (all ++ p)))), (7, .ptr 7 0), (8, .v (.int .i64 e)), (13, .ptr 3 0), (14, .ptr 8 0), (15, .v (.int .i64 0)), (16, .v (.int .i64 (z.1.j : Int)))], z.1.s.ah3 z.1.q false 0 ++ [(7, .box x.cs), (8, .box z.1.y.cs)])) (fun z => (all ++ p).length - z.1.j) ⟨⟨0, ps0 hd, false, hs0⟩, ⟨Nat.zero_le _, rfl, rfl, rfl⟩⟩ ?_ ?_
                · dsimp only
                  exact weak_settle 10 rfl (.box rfl rfl (.row rfl (.row rfl (.box rfl rfl (.box rfl rfl .nil))))) rfl (.view rfl (cutW (by simp)) (.keep rfl rfl (.keep rfl rfl (.keep rfl rfl (.keep rfl rfl (.keep rfl rfl (.keep rfl rfl .nil)))))))
                · rintro ⟨⟨j, sB, qB, yB⟩, hz⟩ K30 hK30
                  dsimp only
                  refine aw_seq fun K31 hK31 => ?_
                  refine aw_region fun K32 hK32 => ?_
                  refine aL z_move ?_
                  refine aL z_move ?_
                  refine aL (z_lenB Tryd.underlying32) ?_
                  refine aL z_lss ?_
                  refine awl_nil (hK32 _ _ ?_)
                  clear hK32 K32
                  refine aC (fun r6 c6 => ?_) (fun r6 c6 => ?_)
                  · refine aw_skip ?_
                    refine hK31 _ _ ?_
                    clear hK31
                    refine aw_seq fun K33 hK33 => ?_
                    refine aw_block ?_
                    have hjl : j < (all ++ p).length := (by omega)
                    obtain ⟨c1, hc1⟩ : ∃ c, ((all ++ p))[j]'hjl = c := ⟨_, rfl⟩
                    have hcut : cut j (j + 1) (bs (all ++ p)) = bs [c1] := by rw [bs_cut, Nat.add_sub_cancel_left, drop_at hjl, hc1]; rfl
                    have zok := (run_ok' _ _ _ _ _ _ (ps0_ok hd) hz.run).1
                    have zd := (run_ok' _ _ _ _ _ _ (ps0_ok hd) hz.run).2
                    have zf := run_fs _ _ _ _ _ _ (ps0_ok hd) (by simp) hz.run
                    have zlv := hz.live
                    have zfb := hz.fb
                    dsimp only at zok zd zf zlv zfb
                    have zt : yB.data.length ≤ 40000 := by rw [List.length_take] at zd; simp only [List.length_nil, Nat.zero_add] at zd; have := hfw.1; omega
                    have hbsA := bs_length (all ++ p)
                    rcases hM : runB sB hs0 [c1] with e2 | ⟨s3, h3, r3⟩
                    · refine aw_region fun K34 hK34 => ?_
                      obtain rfl : e2 = e := by
                        have h9 := p2_err hz hjl hc1 hM
                        rw [hgoE] at h9
                        injection h9 with h9
                        exact h9.symm
                      refine aL z_move ?_
                      refine aL z_move ?_
                      refine aL z_move ?_
                      refine aL z_move ?_
                      refine aL z_add ?_
                      refine aL (z_slice Tryd.underlying32 sz_5 (i := some j) (hlo := .yes (ev_tmp rfl) rfl) (j := some (j + 1)) (hhi := .yes (ev_tmp rfl) (by omega)) (c' := bs [c1]) (hc := hcut) (h1 := by simp) (h2 := by rw [hbsA]; exact hjl)) ?_
                      refine aL (z_callG [3, 4, 5] (eC (eC .nil)) en_10 (con_TakeE zfb zok zlv (by simp) hM) (by cases qB <;> exact pA (pA (pA .nil))) (hB := by cases qB <;> rfl) (hpl := by cases qB <;> rfl)) ?_
                      refine aL z_move ?_
                      refine aL z_extract ?_
                      refine aL z_extract ?_
                      refine aL z_extract ?_
                      refine aL (z_alloc 9 zc_28 zl_28) ?_
                      refine aL (z_store sz_28) ?_
                      refine aL z_assign ?_
                      refine aL z_assign ?_
                      refine awl_nil (hK34 _ _ ?_)
                      clear hK34 K34
                      refine aw_region fun K35 hK35 => ?_
                      refine aL (z_load sz_28) ?_
                      refine aL (z_load sz_28) ?_
                      refine aL (z_call0 (eC (eC .nil)) en_16 (con_add (a := yB) (b := hs0) (by simp; omega))) ?_
                      rw [addH_0]
                      refine aL (z_store sz_28) ?_
                      refine awl_nil (hK35 _ _ ?_)
                      clear hK35 K35
                      refine aw_seq fun K36 hK36 => ?_
                      refine aw_region fun K37 hK37 => ?_
                      refine aL z_move ?_
                      refine aL z_neq ?_
                      refine awl_nil (hK37 _ _ ?_)
                      clear hK37 K37
                      refine aC (fun r7 c7 => ?_) (fun r7 c7 => ?_)
                      · refine aw_region fun K38 hK38 => ?_
                        refine aL z_move ?_
                        refine aL z_assign ?_
                        refine awl_nil (hK38 _ _ ?_)
                        clear hK38 K38
                        refine aw_exit ?_
                        refine hK28 _ _ ?_
                        clear hK28
                        refine aw_seq fun K39 hK39 => ?_
                        refine aw_region fun K40 hK40 => ?_
                        skip
                        refine aL z_move ?_
                        refine aL z_move ?_
                        refine aL z_neq ?_
                        refine awl_nil (hK40 _ _ ?_)
                        clear hK40 K40
                        refine aC (fun r8 c8 => ?_) (fun r8 c8 => ?_)
                        · exfalso; simp at r8
                        · refine aw_skip ?_
                          refine hK39 _ _ ?_
                          clear hK39
                          refine aw_seq fun K41 hK41 => ?_
                          refine aw_region fun K42 hK42 => ?_
                          refine aL z_move ?_
                          refine aL z_neq ?_
                          refine awl_nil (hK42 _ _ ?_)
                          clear hK42 K42
                          refine aC (fun r9 c9 => ?_) (fun r9 c9 => ?_)
                          · obtain ⟨w, hw⟩ := p2_data hz hjl hc1 hM hrun
                            have hyf : yB.fin = false := (run_fin _ _ _ _ _ _ rfl hz.run).trans hz.live
                            obtain ⟨y1, y2, y3, y4, y5⟩ := yB
                            simp only at hw hyf
                            subst hw hyf
                            refine aw_regionD mx_all (by kernel_rfl) fun K43 hK43 => ?_
                            refine aD (z_fieldAddr fo_28_3) ?_
                            refine aD (z_load sz_9) ?_
                            refine aD (z_lenS Tryd.underlying9) ?_
                            refine aD (z_fieldAddr fo_28_3) ?_
                            refine aD (z_load sz_9) ?_
                            refine aD (z_lenS Tryd.underlying9) ?_
                            refine aD z_geq ?_
                            refine aD z_move ?_
                            refine yD rfl rfl (ev_tmp rfl) (by (first | (simp; done) | (simp; omega))) (z_fieldAddr fo_28_3) ?_
                            refine yD rfl rfl (ev_tmp rfl) (by (first | (simp; done) | (simp; omega))) (z_load sz_9) ?_
                            refine yD rfl rfl (ev_tmp rfl) (by (first | (simp; done) | (simp; omega))) (z_fieldAddr fo_28_3) ?_
                            refine yD rfl rfl (ev_tmp rfl) (by (first | (simp; done) | (simp; omega))) (z_load sz_9) ?_
                            refine yD rfl rfl (ev_tmp rfl) (by (first | (simp; done) | (simp; omega))) (z_lenS Tryd.underlying9) ?_
                            refine yD rfl rfl (ev_tmp rfl) (by (first | (simp; done) | (simp; omega))) (z_sliceS Tryd.underlying9 (j := some x.data.length) (hhi := .yes (ev_tmp rfl) rfl) (l' := x.data) (hc := by simp)) ?_
                            refine yD rfl rfl (ev_tmp rfl) (by (first | (simp; done) | (simp; omega))) (z_fieldAddr fo_28_3) ?_
                            refine yD rfl rfl (ev_tmp rfl) (by (first | (simp; done) | (simp; omega))) (z_load sz_9) ?_
                            refine yD rfl rfl (ev_tmp rfl) (by (first | (simp; done) | (simp; omega))) (z_eqlS) ?_
                            refine aD z_and ?_
                            refine aD z_move ?_
                            refine yD rfl rfl (ev_tmp rfl) (by (first | (simp; done) | (simp; omega))) (z_fieldAddr fo_28_4) ?_
                            refine yD rfl rfl (ev_tmp rfl) (by (first | (simp; done) | (simp; omega))) (z_load sz_4) ?_
                            refine yD rfl rfl (ev_tmp rfl) (by (first | (simp; done) | (simp; omega))) (z_not) ?_
                            refine aD z_and ?_
                            refine aD z_assign ?_
                            refine awd_nil (by kernel_rfl) (hK43 _ _ ?_)
                            clear hK43 K43
                            refine aw_ret ?_
                            refine (hret _ _ _ _ _ rfl (.tmp rfl .nil) rfl ?_ .nil rfl).1
                            first | rfl | (simp [retD]; done) | (simp [retD]; omega)
                          · exact absurd (by simpa using r9) hene
                      · exact absurd (by simpa using r7) (run_err _ _ _ _ hM)
                    · refine aw_region fun K44 hK44 => ?_
                      obtain ⟨q3, hq3⟩ : ∃ q3, s3.fb = q3 := ⟨_, rfl⟩
                      have hok3 := (run_ok' _ _ _ _ _ _ zok hM).1
                      have hd3 := (run_ok' _ _ _ _ _ _ zok hM).2
                      have hf3 : h3.fin = s3.ended := run_fin _ _ _ _ _ _ (by rw [zlv]) hM
                      refine aL z_move ?_
                      refine aL z_move ?_
                      refine aL z_move ?_
                      refine aL z_move ?_
                      refine aL z_add ?_
                      refine aL (z_slice Tryd.underlying32 sz_5 (i := some j) (hlo := .yes (ev_tmp rfl) rfl) (j := some (j + 1)) (hhi := .yes (ev_tmp rfl) (by omega)) (c' := bs [c1]) (hc := hcut) (h1 := by simp) (h2 := by rw [hbsA]; exact hjl)) ?_
                      refine aL (z_callG [3, 4, 5] (eC (eC .nil)) en_10 (con_TakeK zfb hq3 zok zlv (by simp) hM) (by cases qB <;> exact pA (pA (pA .nil))) (hB := by cases qB <;> rfl) (hpl := by cases qB <;> rfl) (upd := s3.ah3 q3 s3.ended 1) (hu := by cases q3 <;> rfl)) ?_
                      refine aL z_move ?_
                      refine aL z_extract ?_
                      refine aL z_extract ?_
                      refine aL z_extract ?_
                      refine aL (z_alloc 9 zc_28 zl_28) ?_
                      refine aL (z_store sz_28) ?_
                      refine aL z_assign ?_
                      refine aL z_assign ?_
                      refine awl_nil (hK44 _ _ ?_)
                      clear hK44 K44
                      refine aw_region fun K45 hK45 => ?_
                      refine aL (z_load sz_28) ?_
                      refine aL (z_load sz_28) ?_
                      refine aL (z_call0 (eC (eC .nil)) en_16 (con_add (a := yB) (b := h3) (by simp at hd3; omega))) ?_
                      refine aL (z_store sz_28) ?_
                      refine awl_nil (hK45 _ _ ?_)
                      clear hK45 K45
                      refine aw_seq fun K46 hK46 => ?_
                      refine aw_region fun K47 hK47 => ?_
                      refine aL z_move ?_
                      refine aL z_neq ?_
                      refine awl_nil (hK47 _ _ ?_)
                      clear hK47 K47
                      refine aC (fun r10 c10 => ?_) (fun r10 c10 => ?_)
                      · exact absurd r10 (by decide)
                      · refine aw_skip ?_
                        refine hK46 _ _ ?_
                        clear hK46
                        refine aw_region fun K48 hK48 => ?_
                        refine aL (z_fieldAddr fo_28_4) ?_
                        refine aL (z_load sz_4) ?_
                        refine awl_nil (hK48 _ _ ?_)
                        clear hK48 K48
                        refine aC (fun r11 c11 => ?_) (fun r11 c11 => ?_)
                        · exfalso
                          have hend : s3.ended = true := by rw [← hf3]; exact r11
                          obtain ⟨r9', h9⟩ := p2_end hz hjl hc1 hM hend
                          rw [hgoE] at h9
                          cases h9
                        · refine aw_skip ?_
                          refine hK33 _ _ ?_
                          clear hK33
                          refine aw_region_last ?_
                          refine aL z_move ?_
                          refine aL z_add ?_
                          refine aL z_assign ?_
                          refine awl_nil ?_
                          have hnd3 : s3.ended = false := by rw [← hf3]; assumption
                          refine hK30 _ _ ⟨⟨j + 1, s3, q3, addH yB h3⟩, p2_next hz hjl hc1 hM hnd3 hq3⟩ (by dsimp only; omega) ?_
                          rw [hnd3]
                          cases q3 <;> first | exact Weak.trans (f2 := [(5, .v (.sl (bs (all ++ p)))), (7, .ptr 7 0), (8, .v (.int .i64 e)), (13, .ptr 3 0), (14, .ptr 8 0), (15, .v (.int .i64 0)), (16, .v (.int .i64 ((j + 1 : Nat) : Int)))]) (a2 := s3.ah3 true false 1 ++ [(7, .box x.cs), (8, .box (addH yB h3).cs)]) wK (Weak.trans (weak_rever 4 (v := 1) 0 rfl) (weak_rever 5 (v := 1) 0 rfl)) | exact Weak.trans (f2 := [(5, .v (.sl (bs (all ++ p)))), (7, .ptr 7 0), (8, .v (.int .i64 e)), (13, .ptr 3 0), (14, .ptr 8 0), (15, .v (.int .i64 0)), (16, .v (.int .i64 ((j + 1 : Nat) : Int)))]) (a2 := s3.ah3 false false 1 ++ [(7, .box x.cs), (8, .box (addH yB h3).cs)]) wK (Weak.trans (weak_rever 4 (v := 1) 0 rfl) (weak_rever 5 (v := 1) 0 rfl))
                  · exfalso
                    have h9 := p2_all hz (by dsimp only; omega)
                    rw [hgoE] at h9
                    cases h9
              · exact absurd (by simpa using r5) hene
          · refine aw_region fun K49 hK49 => ?_
            obtain ⟨q2, hq2⟩ : ∃ q2, s2.fb = q2 := ⟨_, rfl⟩
            have hgoK : runB (ps0 hd) hs0 (all ++ p) = .ok (s2, addH x h2, r2) := by rw [go_on hrun, hN]; rfl
            have hok2 := (run_ok' _ _ _ _ _ _ hok hN).1
            have hd2 := (run_ok' _ _ _ _ _ _ hok hN).2
            simp only [List.length_nil, Nat.zero_add] at hd2
            have hf2 : h2.fin = s2.ended := run_fin _ _ _ _ _ _ (by rw [hlv]) hN
            have hll := hok2.len
            have hxf2 := run_fs _ _ _ _ _ _ (ps0_ok hd) (by simp) hgoK
            refine aL z_move ?_
            refine aL z_move ?_
            refine aL z_move ?_
            refine aL (z_indexAddr Tryd.underlying39 sz_32) ?_
            refine aL (z_loadRef sz_32) ?_
            refine aL (z_callG [0, 1, 2] (eC (eC .nil)) en_10 (con_TakeK hfb hq2 hok hlv (by omega) hN) (by cases q <;> exact pA (pA (pA .nil))) (hB := by cases q <;> rfl) (hpl := by cases q <;> rfl) (upd := s2.ahB q2 s2.ended 1) (hu := by cases q2 <;> rfl)) ?_
            refine aL z_move ?_
            refine aL z_extract ?_
            refine aL z_extract ?_
            refine aL z_extract ?_
            refine aL (z_alloc 6 zc_28 zl_28) ?_
            refine aL (z_store sz_28) ?_
            refine aL z_assign ?_
            refine aL z_assign ?_
            refine awl_nil (hK49 _ _ ?_)
            clear hK49 K49
            refine aw_seq fun K50 hK50 => ?_
            refine aw_region fun K51 hK51 => ?_
            refine aL z_move ?_
            refine aL (z_callG [0, 1, 2] (eC .nil) en_15 (con_Left1 (s := s2) (q := q2) (ov := s2.ended)) (by cases q2 <;> exact pA (pA (pA .nil))) (hB := by cases q2 <;> rfl) (hpl := by cases q2 <;> rfl) (upd := s2.ahB q2 s2.ended 2) (hu := by cases q2 <;> rfl)) ?_
            refine aL z_gtr ?_
            refine awl_nil (hK51 _ _ ?_)
            clear hK51 K51
            refine aC (fun r12 c12 => ?_) (fun r12 c12 => ?_)
            · exfalso; omega
            · refine aw_skip ?_
              refine hK50 _ _ ?_
              clear hK50
              refine aw_region fun K52 hK52 => ?_
              refine aL (z_load sz_28) ?_
              refine aL (z_load sz_28) ?_
              refine aL (z_call0 (eC (eC .nil)) en_16 (con_add (a := x) (b := h2) (by omega))) ?_
              refine aL (z_store sz_28) ?_
              refine awl_nil (hK52 _ _ ?_)
              clear hK52 K52
              refine aw_seq fun K53 hK53 => ?_
              refine aw_region fun K54 hK54 => ?_
              refine aL z_move ?_
              refine aL z_neq ?_
              refine awl_nil (hK54 _ _ ?_)
              clear hK54 K54
              refine aC (fun r13 c13 => ?_) (fun r13 c13 => ?_)
              · exact absurd r13 (by decide)
              · refine aw_skip ?_
                refine hK53 _ _ ?_
                clear hK53
                refine aw_region fun K55 hK55 => ?_
                refine aL (z_fieldAddr fo_28_4) ?_
                refine aL (z_load sz_4) ?_
                refine awl_nil (hK55 _ _ ?_)
                clear hK55 K55
                refine aC (fun r14 c14 => ?_) (fun r14 c14 => ?_)
                · refine aw_exit ?_
                  refine hK11 _ _ ?_
                  clear hK11
                  refine aw_region fun K56 hK56 => ?_
                  skip
                  refine aL z_move ?_
                  refine aL (z_callG [3, 4, 5] (eC .nil) en_9 con_New .nil) ?_
                  refine aL z_assign ?_
                  refine awl_nil (hK56 _ _ ?_)
                  clear hK56 K56
                  refine aw_region fun K57 hK57 => ?_
                  refine aL (z_build .nil pl_28 zc_28 zl_28) ?_
                  refine aL (z_alloc 8 zc_28 zl_28) ?_
                  refine aL (z_store sz_28) ?_
                  refine awl_nil (hK57 _ _ ?_)
                  clear hK57 K57
                  refine aw_weak (weak_boxD 8 2 (d' := .v (.sl (fdV []))) rfl rfl rfl (fun G w m u h => nil_sl h)) ?_
                  refine aw_region fun K58 hK58 => ?_
                  refine aL z_assign ?_
                  refine awl_nil (hK58 _ _ ?_)
                  clear hK58 K58
                  refine aw_seq fun K59 hK59 => ?_
                  refine aw_region fun K60 hK60 => ?_
                  refine aL z_assign ?_
                  refine awl_nil (hK60 _ _ ?_)
                  clear hK60 K60
                  refine aw_block ?_
                  refine aw_loop (α := {z : P2 // z.ok hd (all ++ p)}) (fun z => ([(5, .v (.sl (bs (all ++ p)))), (6, .ptr 0 0), (7, .ptr 7 0), (8, .v (.int .i64 0)), (13, .ptr 3 0), (14, .ptr 8 0), (15, .v (.int .i64 0)), (16, .v (.int .i64 (z.1.j : Int)))], s2.ahB q2 s2.ended 2 ++ z.1.s.ah3 z.1.q false 0 ++ [(7, .box (addH x h2).cs), (8, .box z.1.y.cs)])) (fun z => (all ++ p).length - z.1.j) ⟨⟨0, ps0 hd, false, hs0⟩, ⟨Nat.zero_le _, rfl, rfl, rfl⟩⟩ ?_ ?_
                  · dsimp only
                    cases q2 <;> exact weak_settle 10 rfl (.box rfl rfl (.row rfl (.row rfl (.box rfl rfl (.row rfl (.row rfl (.box rfl rfl (.box rfl rfl .nil)))))))) rfl (.view rfl (cutW (by simp)) (.keep rfl rfl (.keep rfl rfl (.keep rfl rfl (.keep rfl rfl (.keep rfl rfl (.keep rfl rfl (.keep rfl rfl .nil))))))))
                  · rintro ⟨⟨j, sB, qB, yB⟩, hz⟩ K61 hK61
                    dsimp only
                    refine aw_seq fun K62 hK62 => ?_
                    refine aw_region fun K63 hK63 => ?_
                    refine aL z_move ?_
                    refine aL z_move ?_
                    refine aL (z_lenB Tryd.underlying32) ?_
                    refine aL z_lss ?_
                    refine awl_nil (hK63 _ _ ?_)
                    clear hK63 K63
                    refine aC (fun r15 c15 => ?_) (fun r15 c15 => ?_)
                    · refine aw_skip ?_
                      refine hK62 _ _ ?_
                      clear hK62
                      refine aw_seq fun K64 hK64 => ?_
                      refine aw_block ?_
                      have hjl : j < (all ++ p).length := (by omega)
                      obtain ⟨c1, hc1⟩ : ∃ c, ((all ++ p))[j]'hjl = c := ⟨_, rfl⟩
                      have hcut : cut j (j + 1) (bs (all ++ p)) = bs [c1] := by rw [bs_cut, Nat.add_sub_cancel_left, drop_at hjl, hc1]; rfl
                      have zok := (run_ok' _ _ _ _ _ _ (ps0_ok hd) hz.run).1
                      have zd := (run_ok' _ _ _ _ _ _ (ps0_ok hd) hz.run).2
                      have zf := run_fs _ _ _ _ _ _ (ps0_ok hd) (by simp) hz.run
                      have zlv := hz.live
                      have zfb := hz.fb
                      dsimp only at zok zd zf zlv zfb
                      have zt : yB.data.length ≤ 40000 := by rw [List.length_take] at zd; simp only [List.length_nil, Nat.zero_add] at zd; have := hfw.1; omega
                      have hbsA := bs_length (all ++ p)
                      rcases hM : runB sB hs0 [c1] with e2 | ⟨s3, h3, r3⟩
                      · exfalso
                        have h9 := p2_err hz hjl hc1 hM
                        rw [hgoK] at h9
                        cases h9
                      · refine aw_region fun K65 hK65 => ?_
                        obtain ⟨q3, hq3⟩ : ∃ q3, s3.fb = q3 := ⟨_, rfl⟩
                        have hok3 := (run_ok' _ _ _ _ _ _ zok hM).1
                        have hd3 := (run_ok' _ _ _ _ _ _ zok hM).2
                        have hf3 : h3.fin = s3.ended := run_fin _ _ _ _ _ _ (by rw [zlv]) hM
                        refine aL z_move ?_
                        refine aL z_move ?_
                        refine aL z_move ?_
                        refine aL z_move ?_
                        refine aL z_add ?_
                        refine aL (z_slice Tryd.underlying32 sz_5 (i := some j) (hlo := .yes (ev_tmp rfl) rfl) (j := some (j + 1)) (hhi := .yes (ev_tmp rfl) (by omega)) (c' := bs [c1]) (hc := hcut) (h1 := by simp) (h2 := by rw [hbsA]; exact hjl)) ?_
                        refine aL (z_callG [3, 4, 5] (eC (eC .nil)) en_10 (con_TakeK zfb hq3 zok zlv (by simp) hM) (by cases qB <;> exact pA (pA (pA .nil))) (hB := by cases qB <;> rfl) (hpl := by cases qB <;> rfl) (upd := s3.ah3 q3 s3.ended 1) (hu := by cases q3 <;> rfl)) ?_
                        refine aL z_move ?_
                        refine aL z_extract ?_
                        refine aL z_extract ?_
                        refine aL z_extract ?_
                        refine aL (z_alloc 9 zc_28 zl_28) ?_
                        refine aL (z_store sz_28) ?_
                        refine aL z_assign ?_
                        refine aL z_assign ?_
                        refine awl_nil (hK65 _ _ ?_)
                        clear hK65 K65
                        refine aw_region fun K66 hK66 => ?_
                        refine aL (z_load sz_28) ?_
                        refine aL (z_load sz_28) ?_
                        refine aL (z_call0 (eC (eC .nil)) en_16 (con_add (a := yB) (b := h3) (by simp at hd3; omega))) ?_
                        refine aL (z_store sz_28) ?_
                        refine awl_nil (hK66 _ _ ?_)
                        clear hK66 K66
                        refine aw_seq fun K67 hK67 => ?_
                        refine aw_region fun K68 hK68 => ?_
                        refine aL z_move ?_
                        refine aL z_neq ?_
                        refine awl_nil (hK68 _ _ ?_)
                        clear hK68 K68
                        refine aC (fun r16 c16 => ?_) (fun r16 c16 => ?_)
                        · exact absurd r16 (by decide)
                        · refine aw_skip ?_
                          refine hK67 _ _ ?_
                          clear hK67
                          refine aw_region fun K69 hK69 => ?_
                          refine aL (z_fieldAddr fo_28_4) ?_
                          refine aL (z_load sz_4) ?_
                          refine awl_nil (hK69 _ _ ?_)
                          clear hK69 K69
                          refine aC (fun r17 c17 => ?_) (fun r17 c17 => ?_)
                          · refine aw_exit ?_
                            refine hK59 _ _ ?_
                            clear hK59
                            refine aw_seq fun K70 hK70 => ?_
                            refine aw_region fun K71 hK71 => ?_
                            have hend3 : s3.ended = true := by rw [← hf3]; assumption
                            obtain ⟨r9', h9⟩ := p2_end hz hjl hc1 hM hend3
                            rw [hgoK] at h9
                            injection h9 with h9; injection h9 with e1 h9; injection h9 with e2 e3
                            subst e1
                            rw [← e2]
                            obtain rfl : q2 = q3 := hq2.symm.trans hq3
                            refine aL z_move ?_
                            refine aL z_move ?_
                            refine aL z_neq ?_
                            refine awl_nil (hK71 _ _ ?_)
                            clear hK71 K71
                            refine aC (fun r18 c18 => ?_) (fun r18 c18 => ?_)
                            · exact absurd r18 (by decide)
                            · refine aw_skip ?_
                              refine hK70 _ _ ?_
                              clear hK70
                              refine aw_seq fun K72 hK72 => ?_
                              refine aw_region fun K73 hK73 => ?_
                              refine aL z_move ?_
                              refine aL z_neq ?_
                              refine awl_nil (hK73 _ _ ?_)
                              clear hK73 K73
                              refine aC (fun r19 c19 => ?_) (fun r19 c19 => ?_)
                              · exact absurd r19 (by decide)
                              · refine aw_skip ?_
                                refine hK72 _ _ ?_
                                clear hK72
                                refine aw_region fun K74 hK74 => ?_
                                refine aL (z_load sz_28) ?_
                                refine aL (z_load sz_28) ?_
                                refine aL (z_call0 (eC (eC .nil)) en_11 (con_same (a := addH x h2) (b := addH x h2) (by omega) (by omega))) ?_
                                rw [sameH_refl]
                                refine aL z_move ?_
                                refine yL rfl rfl (ev_tmp rfl) (by (first | rfl | (simp; done))) (z_move) ?_
                                refine yL rfl rfl (ev_tmp rfl) (by (first | rfl | (simp; done))) (z_callG [0, 1, 2] (eC .nil) en_15 (con_Left2 (s := s2) (q := q2) (ov := s2.ended)) (by cases q2 <;> exact pA (pA (pA .nil))) (hB := by cases q2 <;> rfl) (hpl := by cases q2 <;> rfl) (upd := s2.ahB q2 s2.ended 3) (hu := by cases q2 <;> rfl)) ?_
                                refine yL rfl rfl (ev_tmp rfl) (by (first | rfl | (simp; done))) (z_move) ?_
                                refine yL rfl rfl (ev_tmp rfl) (by (first | rfl | (simp; done))) (z_callG [3, 4, 5] (eC .nil) en_15 (con_Left1 (s := s2) (q := q2) (ov := s2.ended)) (by cases q2 <;> exact pA (pA (pA .nil))) (hB := by cases q2 <;> rfl) (hpl := by cases q2 <;> rfl) (upd := s2.ah3 q2 s2.ended 2) (hu := by cases q2 <;> rfl)) ?_
                                refine yL rfl rfl (ev_tmp rfl) (by (first | rfl | (simp; done))) (z_eql) ?_
                                refine aL z_and ?_
                                refine aL z_move ?_
                                refine yL rfl rfl (ev_tmp rfl) (by (first | rfl | (simp; done))) (z_move) ?_
                                refine yL rfl rfl (ev_tmp rfl) (by (first | rfl | (simp; done))) (z_callG [0, 1, 2] (eC .nil) en_12 (con_Keeps3 (s := s2) (q := q2) (ov := s2.ended) hq2 (by have := hok2.size; omega)) (by cases q2 <;> exact pA (pA (pA .nil))) (hB := by cases q2 <;> rfl) (hpl := by cases q2 <;> rfl) (upd := s2.ahB q2 s2.ended 4) (hu := by cases q2 <;> rfl)) ?_
                                refine yL rfl rfl (ev_tmp rfl) (by (first | rfl | (simp; done))) (z_move) ?_
                                refine yL rfl rfl (ev_tmp rfl) (by (first | rfl | (simp; done))) (z_callG [3, 4, 5] (eC .nil) en_12 (con_Keeps2 (s := s2) (q := q2) (ov := s2.ended) hq2 (by have := hok2.size; omega)) (by cases q2 <;> exact pA (pA (pA .nil))) (hB := by cases q2 <;> rfl) (hpl := by cases q2 <;> rfl) (upd := s2.ah3 q2 s2.ended 3) (hu := by cases q2 <;> rfl)) ?_
                                refine yL rfl rfl (ev_tmp rfl) (by (first | rfl | (simp; done))) (z_eqlB Tryd.underlying4) ?_
                                refine aL z_and ?_
                                refine aL z_assign ?_
                                refine awl_nil (hK74 _ _ ?_)
                                clear hK74 K74
                                refine aw_ret ?_
                                refine (hret _ _ _ _ _ rfl (.tmp rfl .nil) rfl ?_ .nil rfl).1
                                first | rfl | (simp [retD]; done) | (simp [retD]; omega)
                          · refine aw_skip ?_
                            refine hK64 _ _ ?_
                            clear hK64
                            refine aw_region_last ?_
                            refine aL z_move ?_
                            refine aL z_add ?_
                            refine aL z_assign ?_
                            refine awl_nil ?_
                            have hnd3 : s3.ended = false := by rw [← hf3]; assumption
                            refine hK61 _ _ ⟨⟨j + 1, s3, q3, addH yB h3⟩, p2_next hz hjl hc1 hM hnd3 hq3⟩ (by dsimp only; omega) ?_
                            rw [hnd3]
                            cases q3 <;> cases q2 <;> first | exact Weak.trans (f2 := [(5, .v (.sl (bs (all ++ p)))), (6, .ptr 0 0), (7, .ptr 7 0), (8, .v (.int .i64 0)), (13, .ptr 3 0), (14, .ptr 8 0), (15, .v (.int .i64 0)), (16, .v (.int .i64 ((j + 1 : Nat) : Int)))]) (a2 := s2.ahB true s2.ended 2 ++ s3.ah3 true false 1 ++ [(7, .box (addH x h2).cs), (8, .box (addH yB h3).cs)]) wK (Weak.trans (weak_rever 4 (v := 1) 0 rfl) (weak_rever 5 (v := 1) 0 rfl)) | exact Weak.trans (f2 := [(5, .v (.sl (bs (all ++ p)))), (6, .ptr 0 0), (7, .ptr 7 0), (8, .v (.int .i64 0)), (13, .ptr 3 0), (14, .ptr 8 0), (15, .v (.int .i64 0)), (16, .v (.int .i64 ((j + 1 : Nat) : Int)))]) (a2 := s2.ahB false s2.ended 2 ++ s3.ah3 true false 1 ++ [(7, .box (addH x h2).cs), (8, .box (addH yB h3).cs)]) wK (Weak.trans (weak_rever 4 (v := 1) 0 rfl) (weak_rever 5 (v := 1) 0 rfl)) | exact Weak.trans (f2 := [(5, .v (.sl (bs (all ++ p)))), (6, .ptr 0 0), (7, .ptr 7 0), (8, .v (.int .i64 0)), (13, .ptr 3 0), (14, .ptr 8 0), (15, .v (.int .i64 0)), (16, .v (.int .i64 ((j + 1 : Nat) : Int)))]) (a2 := s2.ahB true s2.ended 2 ++ s3.ah3 false false 1 ++ [(7, .box (addH x h2).cs), (8, .box (addH yB h3).cs)]) wK (Weak.trans (weak_rever 4 (v := 1) 0 rfl) (weak_rever 5 (v := 1) 0 rfl)) | exact Weak.trans (f2 := [(5, .v (.sl (bs (all ++ p)))), (6, .ptr 0 0), (7, .ptr 7 0), (8, .v (.int .i64 0)), (13, .ptr 3 0), (14, .ptr 8 0), (15, .v (.int .i64 0)), (16, .v (.int .i64 ((j + 1 : Nat) : Int)))]) (a2 := s2.ahB false s2.ended 2 ++ s3.ah3 false false 1 ++ [(7, .box (addH x h2).cs), (8, .box (addH yB h3).cs)]) wK (Weak.trans (weak_rever 4 (v := 1) 0 rfl) (weak_rever 5 (v := 1) 0 rfl))
                    · exfalso
                      have h9 := p2_all hz (by dsimp only; omega)
                      rw [hgoK] at h9
                      injection h9 with h9; injection h9 with e1 h9
                      have hx9 := hz.live
                      dsimp only at hx9 e1
                      rw [← e1, ← hf2, r14] at hx9
                      cases hx9
                · refine aw_skip ?_
                  refine hK16 _ _ ?_
                  clear hK16
                  refine aw_region_last ?_
                  refine aL z_move ?_
                  refine aL z_add ?_
                  refine aL z_assign ?_
                  refine awl_nil ?_
                  have hnd2 : s2.ended = false := by rw [← hf2]; assumption
                  have hr2 := run_rest _ _ _ _ _ _ hN hnd2
                  subst hr2
                  refine hK13 _ _ ⟨⟨i + 1, s2, q2, addH x h2⟩, ⟨by dsimp only; omega, by dsimp only; rw [htk]; exact hgoK, hq2, hnd2⟩⟩ (by dsimp only; omega) ?_
                  dsimp only
                  rw [htk, hnd2]
                  cases q2 <;> first | exact Weak.trans (f2 := [(0, .v (.bool hd)), (1, .v (.sl (psV ps))), (5, .view 10 1 0 (all ++ p).length), (6, .ptr 0 0), (7, .ptr 7 0), (8, .v (.int .i64 0)), (9, .v (.int .i64 ((i + 1 : Nat) : Int)))]) (a2 := s2.ahB true false 2 ++ [(7, .box (addH x h2).cs), (10, rwB 1 (all ++ p))]) wK (Weak.trans (weak_rever 1 (v := 2) 0 rfl) (Weak.trans (weak_rever 2 (v := 2) 0 rfl) (weak_rever 10 (v := 1) 0 rfl))) | exact Weak.trans (f2 := [(0, .v (.bool hd)), (1, .v (.sl (psV ps))), (5, .view 10 1 0 (all ++ p).length), (6, .ptr 0 0), (7, .ptr 7 0), (8, .v (.int .i64 0)), (9, .v (.int .i64 ((i + 1 : Nat) : Int)))]) (a2 := s2.ahB false false 2 ++ [(7, .box (addH x h2).cs), (10, rwB 1 (all ++ p))]) wK (Weak.trans (weak_rever 1 (v := 2) 0 rfl) (Weak.trans (weak_rever 2 (v := 2) 0 rfl) (weak_rever 10 (v := 1) 0 rfl)))
        · refine aw_exit ?_
          refine hK11 _ _ ?_
          clear hK11
          refine aw_region fun K75 hK75 => ?_
          have hleN := hy.le
          dsimp only at hleN
          have hsumN : (ps.take i).flatten.length ≤ 32768 := by
            rcases Nat.eq_zero_or_pos i with h | h
            · subst h; simp
            · have := (few_at hfew (i := i - 1) (by omega)).1
              rwa [show i - 1 + 1 = i by omega] at this
          refine aL z_move ?_
          refine aL (z_callG [3, 4, 5] (eC .nil) en_9 con_New .nil) ?_
          refine aL z_assign ?_
          refine awl_nil (hK75 _ _ ?_)
          clear hK75 K75
          refine aw_region fun K76 hK76 => ?_
          refine aL (z_build .nil pl_28 zc_28 zl_28) ?_
          refine aL (z_alloc 8 zc_28 zl_28) ?_
          refine aL (z_store sz_28) ?_
          refine awl_nil (hK76 _ _ ?_)
          clear hK76 K76
          refine aw_weak (weak_boxD 8 2 (d' := .v (.sl (fdV []))) rfl rfl rfl (fun G w m u h => nil_sl h)) ?_
          refine aw_region fun K77 hK77 => ?_
          refine aL z_assign ?_
          refine awl_nil (hK77 _ _ ?_)
          clear hK77 K77
          refine aw_seq fun K78 hK78 => ?_
          refine aw_region fun K79 hK79 => ?_
          refine aL z_assign ?_
          refine awl_nil (hK79 _ _ ?_)
          clear hK79 K79
          refine aw_block ?_
          refine aw_loop (α := {z : P2 // z.ok hd (ps.take i).flatten}) (fun z => ([(5, .v (.sl (bs (ps.take i).flatten))), (6, .ptr 0 0), (7, .ptr 7 0), (8, .v (.int .i64 0)), (13, .ptr 3 0), (14, .ptr 8 0), (15, .v (.int .i64 0)), (16, .v (.int .i64 (z.1.j : Int)))], s.ahB q false 0 ++ z.1.s.ah3 z.1.q false 0 ++ [(7, .box x.cs), (8, .box z.1.y.cs)])) (fun z => (ps.take i).flatten.length - z.1.j) ⟨⟨0, ps0 hd, false, hs0⟩, ⟨Nat.zero_le _, rfl, rfl, rfl⟩⟩ ?_ ?_
          · dsimp only
            cases q <;> exact weak_settle 10 rfl (.box rfl rfl (.row rfl (.row rfl (.box rfl rfl (.row rfl (.row rfl (.box rfl rfl (.box rfl rfl .nil)))))))) rfl (.view rfl (cutW (by simp)) (.keep rfl rfl (.keep rfl rfl (.keep rfl rfl (.keep rfl rfl (.keep rfl rfl (.keep rfl rfl (.keep rfl rfl .nil))))))))
          · rintro ⟨⟨j, sB, qB, yB⟩, hz⟩ K80 hK80
            dsimp only
            refine aw_seq fun K81 hK81 => ?_
            refine aw_region fun K82 hK82 => ?_
            refine aL z_move ?_
            refine aL z_move ?_
            refine aL (z_lenB Tryd.underlying32) ?_
            refine aL z_lss ?_
            refine awl_nil (hK82 _ _ ?_)
            clear hK82 K82
            refine aC (fun r20 c20 => ?_) (fun r20 c20 => ?_)
            · refine aw_skip ?_
              refine hK81 _ _ ?_
              clear hK81
              refine aw_seq fun K83 hK83 => ?_
              refine aw_block ?_
              have hjl : j < (ps.take i).flatten.length := (by omega)
              obtain ⟨c1, hc1⟩ : ∃ c, ((ps.take i).flatten)[j]'hjl = c := ⟨_, rfl⟩
              have hcut : cut j (j + 1) (bs (ps.take i).flatten) = bs [c1] := by rw [bs_cut, Nat.add_sub_cancel_left, drop_at hjl, hc1]; rfl
              have zok := (run_ok' _ _ _ _ _ _ (ps0_ok hd) hz.run).1
              have zd := (run_ok' _ _ _ _ _ _ (ps0_ok hd) hz.run).2
              have zf := run_fs _ _ _ _ _ _ (ps0_ok hd) (by simp) hz.run
              have zlv := hz.live
              have zfb := hz.fb
              dsimp only at zok zd zf zlv zfb
              have zt : yB.data.length ≤ 40000 := by rw [List.length_take] at zd; simp only [List.length_nil, Nat.zero_add] at zd; have := hsumN; omega
              have hbsA := bs_length (ps.take i).flatten
              rcases hM : runB sB hs0 [c1] with e2 | ⟨s3, h3, r3⟩
              · exfalso
                have h9 := p2_err hz hjl hc1 hM
                rw [hy.run] at h9
                cases h9
              · refine aw_region fun K84 hK84 => ?_
                obtain ⟨q3, hq3⟩ : ∃ q3, s3.fb = q3 := ⟨_, rfl⟩
                have hok3 := (run_ok' _ _ _ _ _ _ zok hM).1
                have hd3 := (run_ok' _ _ _ _ _ _ zok hM).2
                have hf3 : h3.fin = s3.ended := run_fin _ _ _ _ _ _ (by rw [zlv]) hM
                refine aL z_move ?_
                refine aL z_move ?_
                refine aL z_move ?_
                refine aL z_move ?_
                refine aL z_add ?_
                refine aL (z_slice Tryd.underlying32 sz_5 (i := some j) (hlo := .yes (ev_tmp rfl) rfl) (j := some (j + 1)) (hhi := .yes (ev_tmp rfl) (by omega)) (c' := bs [c1]) (hc := hcut) (h1 := by simp) (h2 := by rw [hbsA]; exact hjl)) ?_
                refine aL (z_callG [3, 4, 5] (eC (eC .nil)) en_10 (con_TakeK zfb hq3 zok zlv (by simp) hM) (by cases qB <;> exact pA (pA (pA .nil))) (hB := by cases qB <;> rfl) (hpl := by cases qB <;> rfl) (upd := s3.ah3 q3 s3.ended 1) (hu := by cases q3 <;> rfl)) ?_
                refine aL z_move ?_
                refine aL z_extract ?_
                refine aL z_extract ?_
                refine aL z_extract ?_
                refine aL (z_alloc 9 zc_28 zl_28) ?_
                refine aL (z_store sz_28) ?_
                refine aL z_assign ?_
                refine aL z_assign ?_
                refine awl_nil (hK84 _ _ ?_)
                clear hK84 K84
                refine aw_region fun K85 hK85 => ?_
                refine aL (z_load sz_28) ?_
                refine aL (z_load sz_28) ?_
                refine aL (z_call0 (eC (eC .nil)) en_16 (con_add (a := yB) (b := h3) (by simp at hd3; omega))) ?_
                refine aL (z_store sz_28) ?_
                refine awl_nil (hK85 _ _ ?_)
                clear hK85 K85
                refine aw_seq fun K86 hK86 => ?_
                refine aw_region fun K87 hK87 => ?_
                refine aL z_move ?_
                refine aL z_neq ?_
                refine awl_nil (hK87 _ _ ?_)
                clear hK87 K87
                refine aC (fun r21 c21 => ?_) (fun r21 c21 => ?_)
                · exact absurd r21 (by decide)
                · refine aw_skip ?_
                  refine hK86 _ _ ?_
                  clear hK86
                  refine aw_region fun K88 hK88 => ?_
                  refine aL (z_fieldAddr fo_28_4) ?_
                  refine aL (z_load sz_4) ?_
                  refine awl_nil (hK88 _ _ ?_)
                  clear hK88 K88
                  refine aC (fun r22 c22 => ?_) (fun r22 c22 => ?_)
                  · exfalso
                    have hend : s3.ended = true := by rw [← hf3]; exact r22
                    obtain ⟨r9', h9⟩ := p2_end hz hjl hc1 hM hend
                    rw [hy.run] at h9
                    injection h9 with h9; injection h9 with e1 h9
                    have hx9 := hy.live
                    dsimp only at hx9 e1
                    rw [e1, hend] at hx9
                    cases hx9
                  · refine aw_skip ?_
                    refine hK83 _ _ ?_
                    clear hK83
                    refine aw_region_last ?_
                    refine aL z_move ?_
                    refine aL z_add ?_
                    refine aL z_assign ?_
                    refine awl_nil ?_
                    have hnd3 : s3.ended = false := by rw [← hf3]; assumption
                    refine hK80 _ _ ⟨⟨j + 1, s3, q3, addH yB h3⟩, p2_next hz hjl hc1 hM hnd3 hq3⟩ (by dsimp only; omega) ?_
                    rw [hnd3]
                    cases q3 <;> cases q <;> first | exact Weak.trans (f2 := [(5, .v (.sl (bs (ps.take i).flatten))), (6, .ptr 0 0), (7, .ptr 7 0), (8, .v (.int .i64 0)), (13, .ptr 3 0), (14, .ptr 8 0), (15, .v (.int .i64 0)), (16, .v (.int .i64 ((j + 1 : Nat) : Int)))]) (a2 := s.ahB true false 0 ++ s3.ah3 true false 1 ++ [(7, .box x.cs), (8, .box (addH yB h3).cs)]) wK (Weak.trans (weak_rever 4 (v := 1) 0 rfl) (weak_rever 5 (v := 1) 0 rfl)) | exact Weak.trans (f2 := [(5, .v (.sl (bs (ps.take i).flatten))), (6, .ptr 0 0), (7, .ptr 7 0), (8, .v (.int .i64 0)), (13, .ptr 3 0), (14, .ptr 8 0), (15, .v (.int .i64 0)), (16, .v (.int .i64 ((j + 1 : Nat) : Int)))]) (a2 := s.ahB false false 0 ++ s3.ah3 true false 1 ++ [(7, .box x.cs), (8, .box (addH yB h3).cs)]) wK (Weak.trans (weak_rever 4 (v := 1) 0 rfl) (weak_rever 5 (v := 1) 0 rfl)) | exact Weak.trans (f2 := [(5, .v (.sl (bs (ps.take i).flatten))), (6, .ptr 0 0), (7, .ptr 7 0), (8, .v (.int .i64 0)), (13, .ptr 3 0), (14, .ptr 8 0), (15, .v (.int .i64 0)), (16, .v (.int .i64 ((j + 1 : Nat) : Int)))]) (a2 := s.ahB true false 0 ++ s3.ah3 false false 1 ++ [(7, .box x.cs), (8, .box (addH yB h3).cs)]) wK (Weak.trans (weak_rever 4 (v := 1) 0 rfl) (weak_rever 5 (v := 1) 0 rfl)) | exact Weak.trans (f2 := [(5, .v (.sl (bs (ps.take i).flatten))), (6, .ptr 0 0), (7, .ptr 7 0), (8, .v (.int .i64 0)), (13, .ptr 3 0), (14, .ptr 8 0), (15, .v (.int .i64 0)), (16, .v (.int .i64 ((j + 1 : Nat) : Int)))]) (a2 := s.ahB false false 0 ++ s3.ah3 false false 1 ++ [(7, .box x.cs), (8, .box (addH yB h3).cs)]) wK (Weak.trans (weak_rever 4 (v := 1) 0 rfl) (weak_rever 5 (v := 1) 0 rfl))
            · refine aw_exit ?_
              refine hK78 _ _ ?_
              clear hK78
              refine aw_seq fun K89 hK89 => ?_
              refine aw_region fun K90 hK90 => ?_
              have h9 := p2_all hz (by dsimp only; omega)
              rw [hy.run] at h9
              injection h9 with h9; injection h9 with e1 h9; injection h9 with e2 e3
              dsimp only at e1 e2
              subst e1 e2
              obtain rfl : q = qB := hy.fb.symm.trans hz.fb
              have hxfN := run_fs _ _ _ _ _ _ (ps0_ok hd) (by simp) hy.run
              have hokN := (run_ok' _ _ _ _ _ _ (ps0_ok hd) hy.run).1
              have hszN := hokN.size
              dsimp only at hxfN hszN
              refine aL z_move ?_
              refine aL z_move ?_
              refine aL z_neq ?_
              refine awl_nil (hK90 _ _ ?_)
              clear hK90 K90
              refine aC (fun r23 c23 => ?_) (fun r23 c23 => ?_)
              · exact absurd r23 (by decide)
              · refine aw_skip ?_
                refine hK89 _ _ ?_
                clear hK89
                refine aw_seq fun K91 hK91 => ?_
                refine aw_region fun K92 hK92 => ?_
                refine aL z_move ?_
                refine aL z_neq ?_
                refine awl_nil (hK92 _ _ ?_)
                clear hK92 K92
                refine aC (fun r24 c24 => ?_) (fun r24 c24 => ?_)
                · exact absurd r24 (by decide)
                · refine aw_skip ?_
                  refine hK91 _ _ ?_
                  clear hK91
                  refine aw_region fun K93 hK93 => ?_
                  refine aL (z_load sz_28) ?_
                  refine aL (z_load sz_28) ?_
                  refine aL (z_call0 (eC (eC .nil)) en_11 (con_same (a := x) (b := x) (by omega) (by omega))) ?_
                  rw [sameH_refl]
                  refine aL z_move ?_
                  refine yL rfl rfl (ev_tmp rfl) (by (first | rfl | (simp; done))) (z_move) ?_
                  refine yL rfl rfl (ev_tmp rfl) (by (first | rfl | (simp; done))) (z_callG [0, 1, 2] (eC .nil) en_15 (con_Left (s := s) (q := q) (ov := false)) (by cases q <;> exact pA (pA (pA .nil))) (hB := by cases q <;> rfl) (hpl := by cases q <;> rfl) (upd := s.ahB q false 1) (hu := by cases q <;> rfl)) ?_
                  refine yL rfl rfl (ev_tmp rfl) (by (first | rfl | (simp; done))) (z_move) ?_
                  refine yL rfl rfl (ev_tmp rfl) (by (first | rfl | (simp; done))) (z_callG [3, 4, 5] (eC .nil) en_15 (con_Left (s := s) (q := q) (ov := false)) (by cases q <;> exact pA (pA (pA .nil))) (hB := by cases q <;> rfl) (hpl := by cases q <;> rfl) (upd := s.ah3 q false 1) (hu := by cases q <;> rfl)) ?_
                  refine yL rfl rfl (ev_tmp rfl) (by (first | rfl | (simp; done))) (z_eql) ?_
                  refine aL z_and ?_
                  refine aL z_move ?_
                  refine yL rfl rfl (ev_tmp rfl) (by (first | rfl | (simp; done))) (z_move) ?_
                  refine yL rfl rfl (ev_tmp rfl) (by (first | rfl | (simp; done))) (z_callG [0, 1, 2] (eC .nil) en_12 (con_Keeps1 (s := s) (q := q) (ov := false) hy.fb (by omega)) (by cases q <;> exact pA (pA (pA .nil))) (hB := by cases q <;> rfl) (hpl := by cases q <;> rfl) (upd := s.ahB q false 2) (hu := by cases q <;> rfl)) ?_
                  refine yL rfl rfl (ev_tmp rfl) (by (first | rfl | (simp; done))) (z_move) ?_
                  refine yL rfl rfl (ev_tmp rfl) (by (first | rfl | (simp; done))) (z_callG [3, 4, 5] (eC .nil) en_12 (con_Keeps1 (s := s) (q := q) (ov := false) hy.fb (by omega)) (by cases q <;> exact pA (pA (pA .nil))) (hB := by cases q <;> rfl) (hpl := by cases q <;> rfl) (upd := s.ah3 q false 2) (hu := by cases q <;> rfl)) ?_
                  refine yL rfl rfl (ev_tmp rfl) (by (first | rfl | (simp; done))) (z_eqlB Tryd.underlying4) ?_
                  refine aL z_and ?_
                  refine aL z_assign ?_
                  refine awl_nil (hK93 _ _ ?_)
                  clear hK93 K93
                  refine aw_ret ?_
                  refine (hret _ _ _ _ _ rfl (.tmp rfl .nil) rfl ?_ .nil rfl).1
                  first | rfl | (simp [retD]; done) | (simp [retD]; omega)
end Go.Proofs.YthflfnehdlpmdaaDoor
