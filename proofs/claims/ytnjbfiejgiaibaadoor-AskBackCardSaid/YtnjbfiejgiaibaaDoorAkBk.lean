/- Chapter 14: AskBack, walked. No condition. -/
import Derived.Test.YtnjbfiejgiaibaaDoorAkBlToAkBk0
namespace Go.Proofs.YtnjbfiejgiaibaaDoor
set_option linter.all false
open Go Go.RowKit
set_option maxRecDepth 10000
set_option maxHeartbeats 4000000
theorem con_AskBack {l : List Ak} (hlen : l.length ≤ 4398046511104) (hl : ∀ a ∈ l, a.fits) : Con Tryd.prog 6 [.v (.sl (akV l))] [] 0 (.ret (.v (.bool true))) [] := by
  have hal := akV_len l
  refine con_of Tryd.func6 rfl (by show _ ≤ 109; simp) fun X Q hP hnt hnp hret hpan => ?_
  obtain ⟨P0, nt0, w0, K0, S0, np0, pin0, df0⟩ := X
  simp only at hP hnt hnp
  subst hP hnp
  obtain rfl : nt0 = 109 := hnt
  refine aw_region fun K1 hK1 => ?_
  refine aL z_assign ?_
  refine awl_nil (hK1 _ _ ?_)
  clear hK1 K1
  refine aw_seq fun K2 hK2 => ?_
  refine aw_region fun K3 hK3 => ?_
  refine aL (z_call0 .nil en_7 (con_awake14)) ?_
  refine aL z_not ?_
  refine awl_nil (hK3 _ _ ?_)
  clear hK3 K3
  refine aC (fun r1 c1 => ?_) (fun r1 c1 => ?_)
  · exact absurd c1 (by decide)
  · refine aw_skip ?_
    refine hK2 _ _ ?_
    clear hK2
    refine aw_region fun K4 hK4 => ?_
    refine aL z_assign ?_
    refine awl_nil (hK4 _ _ ?_)
    clear hK4 K4
    refine aw_region fun K5 hK5 => ?_
    refine aL z_assign ?_
    refine awl_nil (hK5 _ _ ?_)
    clear hK5 K5
    refine aw_weak (weak_nil (t := 3) 0 1 5 (by decide) (Nat.zero_le _) rfl rfl) ?_
    refine aw_weak (weak_nil (t := 4) 1 4 24 (by decide) (Nat.zero_le _) rfl rfl) ?_
    refine aw_seq fun K6 hK6 => ?_
    refine aw_region fun K7 hK7 => ?_
    refine aL z_assign ?_
    refine awl_nil (hK7 _ _ ?_)
    clear hK7 K7
    refine aw_block ?_
    refine aw_loop (α := {x : Nat × List Ak // x.1 ≤ l.length ∧ goesA x.2 ∧ (x.2.flatMap goB).length ≤ 2000000 ∧ x.2.length ≤ x.1}) (fun x => ([(0, .v (.sl (akV l))), (3, .view 0 0 0 (x.1.2.flatMap goB).length), (4, .view 1 0 0 (x.1.2.map lowA).length), (5, .v (.int .i64 (x.1.1 : Int)))], [(0, .row 0 1 5 (bs (x.1.2.flatMap goB))), (1, .row 0 4 24 (akV (x.1.2.map lowA)))])) (fun x => l.length - x.1.1) ⟨(0, []), by simp, (fun a h => by cases h), by simp, by simp⟩ ?_ ?_
    · dsimp only
      exact wK
    · rintro ⟨⟨i, src⟩, hx1, hx2, hx3, hx4⟩ K8 hK8
      dsimp only
      dsimp only at hx1 hx2 hx3 hx4
      refine aw_seq fun K9 hK9 => ?_
      refine aw_region fun K10 hK10 => ?_
      refine aL z_move ?_
      refine aL z_move ?_
      first
        | refine aL (z_lenB Tryd.underlying42) ?_
        | refine aL (z_len Tryd.underlying42) ?_
        | refine aL (z_lenV Tryd.underlying42) ?_
      refine aL z_lss ?_
      refine aL z_move ?_
      first
        | refine gL rfl rfl (ev_tmp rfl) (fun hg => z_move) ?_
        | refine hL rfl rfl (ev_tmp rfl) (fun hg => z_move) ?_
      first
        | refine gL rfl rfl (ev_tmp rfl) (fun hg => z_lss) ?_
        | refine hL rfl rfl (ev_tmp rfl) (fun hg => z_lss) ?_
      refine aL z_and ?_
      refine awl_nil (hK10 _ _ ?_)
      clear hK10 K10
      refine aC (fun r2 c2 => ?_) (fun r2 c2 => ?_)
      · refine aw_skip ?_
        refine hK9 _ _ ?_
        clear hK9
        refine aw_seq fun K11 hK11 => ?_
        refine aw_block ?_
        refine aw_region fun K12 hK12 => ?_
        have hlt : i < l.length := by omega
        have hi := akV_get hlt
        obtain ⟨h1, h2, h3, h4, h5⟩ := hl _ (List.getElem_mem hlt)
        refine aL z_move ?_
        refine aL z_move ?_
        first
          | refine aL (z_indexAddr Tryd.underlying42 sz_24) ?_
          | refine aL (z_indexAddrV Tryd.underlying42 sz_24) ?_
        first
          | refine aL (z_load sz_24) ?_
          | refine aL (z_loadRef sz_24) ?_
          | refine aL (z_loadV sz_24) ?_
        refine aL (z_alloc 2 zc_24 zl_24) ?_
        refine aL (z_store sz_24) ?_
        refine awl_nil (hK12 _ _ ?_)
        clear hK12 K12
        refine aw_seq fun K13 hK13 => ?_
        refine aw_region fun K14 hK14 => ?_
        first
          | refine aL (z_fieldAddr fo_24_0) ?_
          | refine aL (z_fieldRef fo_24_0) ?_
          | refine aL (z_fieldV fo_24_0) ?_
        first
          | refine aL (z_load sz_9) ?_
          | refine aL (z_loadRef sz_9) ?_
          | refine aL (z_loadV sz_9) ?_
        refine aL (z_lenS Tryd.underlying9) ?_
        refine aL z_gtr ?_
        refine aL z_move ?_
        first
          | refine gL rfl rfl (ev_tmp rfl) (fun hg => z_fieldAddr fo_24_1) ?_
          | refine gL rfl rfl (ev_tmp rfl) (fun hg => z_fieldRef fo_24_1) ?_
          | refine gL rfl rfl (ev_tmp rfl) (fun hg => z_fieldV fo_24_1) ?_
          | refine hL rfl rfl (ev_tmp rfl) (fun hg => z_fieldAddr fo_24_1) ?_
          | refine hL rfl rfl (ev_tmp rfl) (fun hg => z_fieldRef fo_24_1) ?_
          | refine hL rfl rfl (ev_tmp rfl) (fun hg => z_fieldV fo_24_1) ?_
        first
          | refine gL rfl rfl (ev_tmp rfl) (fun hg => z_load sz_9) ?_
          | refine gL rfl rfl (ev_tmp rfl) (fun hg => z_loadRef sz_9) ?_
          | refine gL rfl rfl (ev_tmp rfl) (fun hg => z_loadV sz_9) ?_
          | refine hL rfl rfl (ev_tmp rfl) (fun hg => z_load sz_9) ?_
          | refine hL rfl rfl (ev_tmp rfl) (fun hg => z_loadRef sz_9) ?_
          | refine hL rfl rfl (ev_tmp rfl) (fun hg => z_loadV sz_9) ?_
        first
          | refine gL rfl rfl (ev_tmp rfl) (fun hg => z_lenS Tryd.underlying9) ?_
          | refine hL rfl rfl (ev_tmp rfl) (fun hg => z_lenS Tryd.underlying9) ?_
        first
          | refine gL rfl rfl (ev_tmp rfl) (fun hg => z_gtr) ?_
          | refine hL rfl rfl (ev_tmp rfl) (fun hg => z_gtr) ?_
        refine aL z_or ?_
        refine aL z_move ?_
        first
          | refine gL rfl rfl (ev_tmp rfl) (fun hg => z_load sz_24) ?_
          | refine gL rfl rfl (ev_tmp rfl) (fun hg => z_loadRef sz_24) ?_
          | refine gL rfl rfl (ev_tmp rfl) (fun hg => z_loadV sz_24) ?_
          | refine hL rfl rfl (ev_tmp rfl) (fun hg => z_load sz_24) ?_
          | refine hL rfl rfl (ev_tmp rfl) (fun hg => z_loadRef sz_24) ?_
          | refine hL rfl rfl (ev_tmp rfl) (fun hg => z_loadV sz_24) ?_
        first
          | refine gL rfl rfl (ev_tmp rfl) (fun hg => z_call0 (eC .nil) en_8 (con_smallA (a := l[i]) h1 h2 h4 h5)) ?_
          | refine hL rfl rfl (ev_tmp rfl) (fun hg => z_call0 (eC .nil) en_8 (con_smallA (a := l[i]) h1 h2 h4 h5)) ?_
        first
          | refine gL rfl rfl (ev_tmp rfl) (fun hg => z_not) ?_
          | refine hL rfl rfl (ev_tmp rfl) (fun hg => z_not) ?_
        refine aL z_or ?_
        refine aL z_move ?_
        first
          | refine gL rfl rfl (ev_tmp rfl) (fun hg => z_move) ?_
          | refine hL rfl rfl (ev_tmp rfl) (fun hg => z_move) ?_
        first
          | refine gL rfl rfl (ev_tmp rfl) (fun hg => z_lenB Tryd.underlying27) ?_
          | refine gL rfl rfl (ev_tmp rfl) (fun hg => z_len Tryd.underlying27) ?_
          | refine gL rfl rfl (ev_tmp rfl) (fun hg => z_lenV Tryd.underlying27) ?_
          | refine hL rfl rfl (ev_tmp rfl) (fun hg => z_lenB Tryd.underlying27) ?_
          | refine hL rfl rfl (ev_tmp rfl) (fun hg => z_len Tryd.underlying27) ?_
          | refine hL rfl rfl (ev_tmp rfl) (fun hg => z_lenV Tryd.underlying27) ?_
        first
          | refine gL rfl rfl (ev_tmp rfl) (fun hg => z_gtr) ?_
          | refine hL rfl rfl (ev_tmp rfl) (fun hg => z_gtr) ?_
        refine aL z_or ?_
        refine awl_nil (hK14 _ _ ?_)
        clear hK14 K14
        refine aC (fun r3 c3 => ?_) (fun r3 c3 => ?_)
        · refine aw_region fun K15 hK15 => ?_
          refine aL z_assign ?_
          refine awl_nil (hK15 _ _ ?_)
          clear hK15 K15
          refine aw_ret ?_
          refine (hret _ _ _ _ _ rfl (.tmp rfl .nil) rfl ?_ .nil rfl).1
          first
            | rfl
            | (simp [sameA_self] at *; done)
            | (simp [retD, *]; done)
        · refine aw_skip ?_
          refine hK13 _ _ ?_
          clear hK13
          refine aw_region fun K16 hK16 => ?_
          have hsm : (l[i]).small := smallA_small (by simp_all)
          have hb3 : (src.flatMap goB).length ≤ 131072 := by simp_all; omega
          first
            | refine aL (z_load sz_24) ?_
            | refine aL (z_loadRef sz_24) ?_
            | refine aL (z_loadV sz_24) ?_
          refine aL (z_call0 (eC .nil) en_9 (con_Put (a := l[i]) hsm)) ?_
          refine aL z_move ?_
          refine aL z_extract ?_
          refine aL z_extract ?_
          refine aL z_assign ?_
          refine aL z_assign ?_
          refine awl_nil (hK16 _ _ ?_)
          clear hK16 K16
          refine aw_region fun K17 hK17 => ?_
          refine aL z_move ?_
          refine aL z_eql ?_
          refine awl_nil (hK17 _ _ ?_)
          clear hK17 K17
          refine aC (fun r4 c4 => ?_) (fun r4 c4 => ?_)
          · refine aw_region fun K18 hK18 => ?_
            have hp0 : putAE l[i] = 0 := by omega
            obtain ⟨hmay, hput, hask⟩ := putA_yes hp0
            have hab := hsm.2.2
            have hpl : (putA l[i]).length = (askA l[i]).length + l[i].b.length := by rw [hput, List.length_append]
            have hg : (goB l[i]).length = (askA l[i]).length + l[i].b.length := by unfold goB; rw [List.length_append]
            refine aL z_move ?_
            refine aL z_move ?_
            refine aL (z_app Tryd.underlying27 zi_5 (c' := bs (src.flatMap goB ++ putA l[i])) (hb := by simp [-List.length_flatMap]; omega)) ?_
            refine aL z_assign ?_
            refine awl_nil (hK18 _ _ ?_)
            clear hK18 K18
            refine aw_region_last ?_
            refine aL z_move ?_
            first
              | refine aL (z_load sz_24) ?_
              | refine aL (z_loadRef sz_24) ?_
              | refine aL (z_loadV sz_24) ?_
            refine aL (z_call0 (eC .nil) en_17 (con_Low (a := l[i]) hsm)) ?_
            refine aL (z_lits (pC .nil) Tryd.underlying42 sz_24 zc_24 zl_24 (c := [(lowA l[i]).vs])) ?_
            refine aL (z_app Tryd.underlying42 zi_24 (c' := akV (src.map lowA ++ [lowA l[i]])) (hc := akV_snoc rfl) (hb := by simp; omega)) ?_
            refine aL z_assign ?_
            refine awl_nil ?_
            refine hK11 _ _ ?_
            clear hK11
            refine aw_region_last ?_
            refine aL z_move ?_
            refine aL z_add ?_
            refine aL z_assign ?_
            refine awl_nil ?_
            first
              | (refine hK8 _ _ ⟨(i + 1, src ++ [l[i]]), by dsimp only; omega, goes_snoc hx2 hmay hab (by omega), by dsimp only; rw [List.flatMap_append, List.length_append]; simp only [List.flatMap_singleton]; show _ + (goB l[i]).length ≤ _; omega, by dsimp only; rw [List.length_append]; simp only [List.length_singleton]; omega⟩ (by dsimp only; omega) ?_
                 have ea : (src ++ [l[i]]).flatMap goB = src.flatMap goB ++ putA l[i] := by rw [List.flatMap_append, hput]; simp [goB]
                 have ew : (src ++ [l[i]]).map lowA = src.map lowA ++ [lowA l[i]] := by simp
                 dsimp only
                 rw [ea, ew]
                 exact Weak.trans (weak_rever 0 0 rfl) (Weak.trans (weak_rever 1 0 rfl) wK))
              | (refine hK8 _ _ ⟨(i + 1, src), by dsimp only; omega, hx2, hx3, by dsimp only; omega⟩ (by dsimp only; omega) ?_
                 exact wK)
          · refine aw_skip ?_
            refine hK11 _ _ ?_
            clear hK11
            refine aw_region_last ?_
            refine aL z_move ?_
            refine aL z_add ?_
            refine aL z_assign ?_
            refine awl_nil ?_
            first
              | (refine hK8 _ _ ⟨(i + 1, src ++ [l[i]]), by dsimp only; omega, goes_snoc hx2 hmay hab (by omega), by dsimp only; rw [List.flatMap_append, List.length_append]; simp only [List.flatMap_singleton]; show _ + (goB l[i]).length ≤ _; omega, by dsimp only; rw [List.length_append]; simp only [List.length_singleton]; omega⟩ (by dsimp only; omega) ?_
                 have ea : (src ++ [l[i]]).flatMap goB = src.flatMap goB ++ putA l[i] := by rw [List.flatMap_append, hput]; simp [goB]
                 have ew : (src ++ [l[i]]).map lowA = src.map lowA ++ [lowA l[i]] := by simp
                 dsimp only
                 rw [ea, ew]
                 exact Weak.trans (weak_rever 0 0 rfl) (Weak.trans (weak_rever 1 0 rfl) wK))
              | (refine hK8 _ _ ⟨(i + 1, src), by dsimp only; omega, hx2, hx3, by dsimp only; omega⟩ (by dsimp only; omega) ?_
                 exact wK)
      · refine aw_exit ?_
        refine hK6 _ _ ?_
        clear hK6
        refine aw_region fun K19 hK19 => ?_
        have hA1 := con_All14 (b := src.flatMap goB) (by omega)
        rw [all_goes hx2] at hA1
        refine awl_weak (fr' := [(3, .v (.sl (bs (src.flatMap goB)))), (4, .view 1 0 0 (src.map lowA).length)]) (ah' := [(1, .row 0 4 24 (akV (src.map lowA)))]) (weak_settle 0 rfl (.row rfl .nil) rfl (.view rfl (cutW (by simp)) (.keep rfl rfl .nil))) ?_
        refine awl_weak (fr' := [(3, .v (.sl (bs (src.flatMap goB)))), (4, .v (.sl (akV (src.map lowA))))]) (ah' := []) (weak_settle 1 rfl .nil rfl (.keep rfl rfl (.view rfl (cutW (by simp)) .nil))) ?_
        refine aL z_move ?_
        first
          | refine aL (z_call0 (eC .nil) en_18 (hA1)) ?_
          | refine aL (z_call0 (eC .nil) en_18 (hA2)) ?_
        refine aL z_move ?_
        refine aL z_extract ?_
        refine aL z_extract ?_
        refine aL z_assign ?_
        refine aL z_assign ?_
        refine awl_nil (hK19 _ _ ?_)
        clear hK19 K19
        refine aw_seq fun K20 hK20 => ?_
        refine aw_region fun K21 hK21 => ?_
        refine aL z_move ?_
        refine aL z_neq ?_
        refine aL z_move ?_
        first
          | refine gL rfl rfl (ev_tmp rfl) (fun hg => z_move) ?_
          | refine hL rfl rfl (ev_tmp rfl) (fun hg => z_move) ?_
        first
          | refine gL rfl rfl (ev_tmp rfl) (fun hg => z_lenB Tryd.underlying42) ?_
          | refine gL rfl rfl (ev_tmp rfl) (fun hg => z_len Tryd.underlying42) ?_
          | refine gL rfl rfl (ev_tmp rfl) (fun hg => z_lenV Tryd.underlying42) ?_
          | refine hL rfl rfl (ev_tmp rfl) (fun hg => z_lenB Tryd.underlying42) ?_
          | refine hL rfl rfl (ev_tmp rfl) (fun hg => z_len Tryd.underlying42) ?_
          | refine hL rfl rfl (ev_tmp rfl) (fun hg => z_lenV Tryd.underlying42) ?_
        first
          | refine gL rfl rfl (ev_tmp rfl) (fun hg => z_move) ?_
          | refine hL rfl rfl (ev_tmp rfl) (fun hg => z_move) ?_
        first
          | refine gL rfl rfl (ev_tmp rfl) (fun hg => z_lenB Tryd.underlying42) ?_
          | refine gL rfl rfl (ev_tmp rfl) (fun hg => z_len Tryd.underlying42) ?_
          | refine gL rfl rfl (ev_tmp rfl) (fun hg => z_lenV Tryd.underlying42) ?_
          | refine hL rfl rfl (ev_tmp rfl) (fun hg => z_lenB Tryd.underlying42) ?_
          | refine hL rfl rfl (ev_tmp rfl) (fun hg => z_len Tryd.underlying42) ?_
          | refine hL rfl rfl (ev_tmp rfl) (fun hg => z_lenV Tryd.underlying42) ?_
        first
          | refine gL rfl rfl (ev_tmp rfl) (fun hg => z_neq) ?_
          | refine hL rfl rfl (ev_tmp rfl) (fun hg => z_neq) ?_
        refine aL z_or ?_
        refine awl_nil (hK21 _ _ ?_)
        clear hK21 K21
        refine aC (fun r5 c5 => ?_) (fun r5 c5 => ?_)
        · refine aw_region fun K22 hK22 => ?_
          refine aL z_assign ?_
          refine awl_nil (hK22 _ _ ?_)
          clear hK22 K22
          refine aw_ret ?_
          refine (hret _ _ _ _ _ rfl (.tmp rfl .nil) rfl ?_ .nil rfl).1
          first
            | rfl
            | (simp [sameA_self] at *; done)
            | (simp [retD, *]; done)
        · refine aw_skip ?_
          refine hK20 _ _ ?_
          clear hK20
          refine aw_seq fun K23 hK23 => ?_
          refine aw_region fun K24 hK24 => ?_
          refine aL z_assign ?_
          refine awl_nil (hK24 _ _ ?_)
          clear hK24 K24
          refine aw_block ?_
          refine aw_loop (α := {k : Nat // k ≤ (src.map lowA).length}) (fun y => ([(9, .v (.sl (akV (src.map lowA)))), (4, .v (.sl (akV (src.map lowA)))), (3, .v (.sl (bs (src.flatMap goB)))), (11, .v (.int .i64 (y.1 : Int)))], [])) (fun y => (src.map lowA).length - y.1) ⟨0, by omega⟩ ?_ ?_
          · dsimp only
            exact wK
          · rintro ⟨k, hk⟩ K25 hK25
            dsimp only
            refine aw_seq fun K26 hK26 => ?_
            refine aw_region fun K27 hK27 => ?_
            refine aL z_move ?_
            refine aL z_move ?_
            first
              | refine aL (z_lenB Tryd.underlying42) ?_
              | refine aL (z_len Tryd.underlying42) ?_
              | refine aL (z_lenV Tryd.underlying42) ?_
            refine aL z_lss ?_
            refine awl_nil (hK27 _ _ ?_)
            clear hK27 K27
            refine aC (fun r6 c6 => ?_) (fun r6 c6 => ?_)
            · refine aw_skip ?_
              refine hK26 _ _ ?_
              clear hK26
              refine aw_seq fun K28 hK28 => ?_
              refine aw_block ?_
              refine aw_regionD mx_all (by kernel_rfl) fun K29 hK29 => ?_
              have hlt2 : k < (src.map lowA).length := by rw [akV_len] at *; omega
              have hms : (src.map lowA).length = src.length := List.length_map ..
              have hi2 := akV_get hlt2
              have hk4 : ((src.map lowA)[k]).fs.length ≤ 4398046511104 := goes_low hx2 _ (List.getElem_mem hlt2)
              refine aD z_move ?_
              refine aD z_move ?_
              first
                | refine aD (z_indexAddr Tryd.underlying42 sz_24) ?_
                | refine aD (z_indexAddrV Tryd.underlying42 sz_24) ?_
              first
                | refine aD (z_load sz_24) ?_
                | refine aD (z_loadRef sz_24) ?_
                | refine aD (z_loadV sz_24) ?_
              refine aD z_move ?_
              refine aD z_move ?_
              first
                | refine aD (z_indexAddr Tryd.underlying42 sz_24) ?_
                | refine aD (z_indexAddrV Tryd.underlying42 sz_24) ?_
              first
                | refine aD (z_load sz_24) ?_
                | refine aD (z_loadRef sz_24) ?_
                | refine aD (z_loadV sz_24) ?_
              refine aD (z_call0 (eC (eC .nil)) en_13 (con_rSameA (a := (src.map lowA)[k]) (b := (src.map lowA)[k]) hk4 hk4)) ?_
              refine aD z_not ?_
              refine awd_nil (by kernel_rfl) (hK29 _ _ ?_)
              clear hK29 K29
              refine aC (fun r7 c7 => ?_) (fun r7 c7 => ?_)
              · refine aw_region fun K30 hK30 => ?_
                refine aL z_assign ?_
                refine awl_nil (hK30 _ _ ?_)
                clear hK30 K30
                refine aw_ret ?_
                refine (hret _ _ _ _ _ rfl (.tmp rfl .nil) rfl ?_ .nil rfl).1
                first
                  | rfl
                  | (simp [sameA_self] at *; done)
                  | (simp [retD, *]; done)
              · refine aw_skip ?_
                refine hK28 _ _ ?_
                clear hK28
                refine aw_region_last ?_
                refine aL z_move ?_
                refine aL z_add ?_
                refine aL z_assign ?_
                refine awl_nil ?_
                refine hK25 _ _ ⟨k + 1, by omega⟩ (by dsimp only; omega) ?_
                dsimp only
                exact wK
            · refine aw_exit ?_
              refine hK23 _ _ ?_
              clear hK23
              refine aw_seq fun K31 hK31 => ?_
              refine aw_region fun K32 hK32 => ?_
              refine aL z_move ?_
              first
                | refine aL (z_lenB Tryd.underlying27) ?_
                | refine aL (z_len Tryd.underlying27) ?_
                | refine aL (z_lenV Tryd.underlying27) ?_
              refine aL z_eql ?_
              refine awl_nil (hK32 _ _ ?_)
              clear hK32 K32
              refine aC (fun r8 c8 => ?_) (fun r8 c8 => ?_)
              · refine aw_region fun K33 hK33 => ?_
                refine aL z_assign ?_
                refine awl_nil (hK33 _ _ ?_)
                clear hK33 K33
                refine aw_ret ?_
                refine (hret _ _ _ _ _ rfl (.tmp rfl .nil) rfl ?_ .nil rfl).1
                first
                  | rfl
                  | (simp [sameA_self] at *; done)
                  | (simp [retD, *]; done)
              · refine aw_skip ?_
                refine hK31 _ _ ?_
                clear hK31
                refine aw_region fun K34 hK34 => ?_
                refine aL z_move ?_
                refine aL z_move ?_
                first
                  | refine aL (z_lenB Tryd.underlying27) ?_
                  | refine aL (z_len Tryd.underlying27) ?_
                  | refine aL (z_lenV Tryd.underlying27) ?_
                refine aL z_sub ?_
                obtain ⟨kn, hkn⟩ : ∃ kn : Nat, ((src.flatMap goB).length : Int) - 1 = (kn : Int) := ⟨(src.flatMap goB).length - 1, by omega⟩
                have hA2 := con_All14 (b := (src.flatMap goB).take kn) (by rw [List.length_take]; omega)
                rw [all_short hx2 (by omega)] at hA2
                refine aL (stepU_slice (c' := bs ((src.flatMap goB).take kn)) rfl Tryd.underlying27 sz_5 (bs_one _) (ev_tmp rfl) .no (.yes (ev_tmp rfl) hkn) (by simp [-List.length_flatMap]) (by simp [-List.length_flatMap]; omega) (by simp [-List.length_flatMap])) ?_
                first
                  | refine aL (z_call0 (eC .nil) en_18 (hA1)) ?_
                  | refine aL (z_call0 (eC .nil) en_18 (hA2)) ?_
                refine aL z_move ?_
                refine aL z_extract ?_
                refine aL z_extract ?_
                refine aL z_assign ?_
                refine aL z_assign ?_
                refine awl_nil (hK34 _ _ ?_)
                clear hK34 K34
                refine aw_region fun K35 hK35 => ?_
                refine aL z_move ?_
                refine aL z_eql ?_
                refine aL z_assign ?_
                refine awl_nil (hK35 _ _ ?_)
                clear hK35 K35
                refine aw_ret ?_
                refine (hret _ _ _ _ _ rfl (.tmp rfl .nil) rfl ?_ .nil rfl).1
                first
                  | rfl
                  | (simp [sameA_self] at *; done)
                  | (simp [retD, *]; done)
end Go.Proofs.YtnjbfiejgiaibaaDoor
