/- Layer 7: the document's All. No condition. -/
import Derived.Test.YtigodfnckjidoaaFrRe
import Derived.Test.YtigodfnckjidoaaChGToChH
namespace Go.Proofs.Ytigodfnckjidoaa
set_option linter.all false
open Go Go.RowKit
set_option maxRecDepth 10000
set_option maxHeartbeats 4000000
/-- What All answers of bytes without a preface. -/
def coreM (m : Int) (b : List UInt8) : List Itm × Int × Bool := ((itemsM m b).1, if (itemsM m b).2.2 = true then 0 else ((itemsM m b).2.1.length : Int), (itemsM m b).2.2)
abbrev allD (t : List Itm × Int × Bool) : Out := .ret (.tup [.v (.sl (itV t.1)), .v (.int .i64 t.2.1), .v (.bool t.2.2)])
theorem none_n0 {b : List UInt8} {m : Int} (h1 : noneT (takeF b m) = false) (h : (takeF b m).n = 0) : overT (takeF b m) = true := by
  rcases take_kinds b m with e | ⟨x, e, hx, hs⟩ | ⟨h9, -, -⟩
  · rw [e] at h1; cases h1
  · rw [e]; simp [overT, hx, hs]
  · omega
theorem over_n0 {b : List UInt8} {m : Int} (h : ¬ (takeF b m).n = 0) : overT (takeF b m) = false := by
  rcases take_kinds b m with e | ⟨x, e, hx, hs⟩ | ⟨h9, -, e | ⟨-, e⟩⟩
  · rw [e] at h; exact absurd rfl h
  · rw [e] at h; exact absurd rfl h
  · simp [overT, e]
  · simp [overT, e]
theorem con_All0 {m : Int} {b : List UInt8} (hb : b.length ≤ 1000000000) : Con Try.prog 12 [.v (.sl (bs b)), .v (.int .i64 m), .v (.bool false)] [] 0 (allD (coreM (max m 0) b)) [] := by
  obtain ⟨its, lf, ov, hI⟩ : ∃ its lf ov, itemsM (max m 0) b = (its, lf, ov) := ⟨_, _, _, rfl⟩
  have hM : coreM (max m 0) b = (its, if ov = true then 0 else (lf.length : Int), ov) := by unfold coreM; rw [hI]
  rw [hM]
  obtain ⟨M, hMM⟩ : ∃ M, max m 0 = M := ⟨_, rfl⟩
  rw [hMM] at hI
  refine con_of Try.func12 rfl (by show _ ≤ 73; simp) fun X Q hP hnt hnp hret hpan => ?_
  obtain ⟨P0, nt0, w0, K0, S0, np0, pin0, df0⟩ := X
  simp only at hP hnt hnp
  subst hP hnp
  obtain rfl : nt0 = 73 := hnt
  refine aw_region fun K1 hK1 => ?_
  refine aL z_assign ?_
  refine aL z_assign ?_
  refine aL z_assign ?_
  refine awl_nil (hK1 _ _ ?_)
  clear hK1 K1
  refine aw_cut ([(0, .v (.sl (bs b))), (1, .v (.int .i64 M)), (2, .v (.bool false))], []) (fun K2 hK2 => ?_) ?_
  rotate_left
  focus
    refine aw_seq fun K3 hK3 => ?_
    refine aw_region fun K4 hK4 => ?_
    refine aL z_move ?_
    refine awl_nil (hK4 _ _ ?_)
    clear hK4 K4
    refine aC (fun r1 c1 => ?_) (fun r1 c1 => ?_)
    · exact absurd c1 (by decide)
    · refine aw_skip ?_
      refine hK3 _ _ ?_
      clear hK3
      refine aw_region fun K5 hK5 => ?_
      refine aL z_assign ?_
      refine awl_nil (hK5 _ _ ?_)
      clear hK5 K5
      refine aw_weak (weak_nil (t := 10) 5 15 42 (by decide) (Nat.zero_le _) rfl rfl) ?_
      refine aw_block ?_
      refine aw_loop (α := {x : List Itm × List UInt8 // x.1 ++ (itemsM M x.2).1 = its ∧ (itemsM M x.2).2 = (lf, ov) ∧ x.2.length + 9 * x.1.length ≤ b.length}) (fun x => ([(0, .v (.sl (bs x.1.2))), (1, .v (.int .i64 M)), (10, .view 5 0 0 x.1.1.length)], [(5, .row 0 15 42 (itV x.1.1))])) (fun x => x.1.2.length) ⟨([], b), by rw [hI]; exact ⟨rfl, rfl, by simp⟩⟩ ?_ ?_
      · dsimp only
        exact wK
      · rintro ⟨⟨done, bb⟩, hx1, hx2, hx3⟩ K6 hK6
        dsimp only
        dsimp only at hx1 hx2 hx3
        have hn := take_le bb M
        refine aw_block ?_
        refine aw_region fun K7 hK7 => ?_
        refine aL z_move ?_
        refine aL z_move ?_
        refine aL (z_call0 (eC (eC .nil)) en_17 (con_refTakeF (by omega))) ?_
        refine aL z_move ?_
        refine aL z_extract ?_
        refine aL z_extract ?_
        refine aL z_extract ?_
        refine aL (z_alloc 6 zc_40 zl_40) ?_
        refine aL (z_alloc 7 zc_37 zl_37) ?_
        refine aL (z_store sz_40) ?_
        refine aL z_assign ?_
        refine aL (z_store sz_37) ?_
        refine awl_nil (hK7 _ _ ?_)
        clear hK7 K7
        refine aw_seq fun K8 hK8 => ?_
        refine aw_region fun K9 hK9 => ?_
        refine aL z_move ?_
        refine aL z_eql ?_
        refine aL z_move ?_
        first
          | refine gL rfl rfl (ev_tmp rfl) (fun hg => z_fieldAddr fo_37_0) ?_
          | refine gL rfl rfl (ev_tmp rfl) (fun hg => z_fieldRef fo_37_0) ?_
          | refine gL rfl rfl (ev_tmp rfl) (fun hg => z_fieldV fo_37_0) ?_
          | refine hL rfl rfl (ev_tmp rfl) (fun hg => z_fieldAddr fo_37_0) ?_
          | refine hL rfl rfl (ev_tmp rfl) (fun hg => z_fieldRef fo_37_0) ?_
          | refine hL rfl rfl (ev_tmp rfl) (fun hg => z_fieldV fo_37_0) ?_
        first
          | refine gL rfl rfl (ev_tmp rfl) (fun hg => z_load sz_4) ?_
          | refine gL rfl rfl (ev_tmp rfl) (fun hg => z_loadRef sz_4) ?_
          | refine gL rfl rfl (ev_tmp rfl) (fun hg => z_loadV sz_4) ?_
          | refine hL rfl rfl (ev_tmp rfl) (fun hg => z_load sz_4) ?_
          | refine hL rfl rfl (ev_tmp rfl) (fun hg => z_loadRef sz_4) ?_
          | refine hL rfl rfl (ev_tmp rfl) (fun hg => z_loadV sz_4) ?_
        first
          | refine gL rfl rfl (ev_tmp rfl) (fun hg => z_not) ?_
          | refine hL rfl rfl (ev_tmp rfl) (fun hg => z_not) ?_
        refine aL z_and ?_
        refine awl_nil (hK9 _ _ ?_)
        clear hK9 K9
        refine aC (fun r2 c2 => ?_) (fun r2 c2 => ?_)
        · refine aw_region fun K10 hK10 => ?_
          refine aL z_move ?_
          refine aL z_move ?_
          first
            | refine aL (z_lenB Try.underlying24) ?_
            | refine aL (z_len Try.underlying24) ?_
            | refine aL (z_lenV Try.underlying24) ?_
          refine aL z_assign ?_
          refine aL z_assign ?_
          refine aL z_assign ?_
          refine awl_nil (hK10 _ _ ?_)
          clear hK10 K10
          first
            | (have hh := c3
               have hN : noneT (takeF bb M) = false := (noneT_eq _).symm.trans r2
               have hV : overT (takeF bb M) = true := none_n0 hN (by omega)
               rw [items_over hN hV] at hx1 hx2
               dsimp only at hx1 hx2
               injection hx2 with y1 y2
               subst hx1 y1 y2
               have hcut : cut 0 (0 + (done ++ [itT (takeF bb M)]).length) (itV (done ++ [itT (takeF bb M)])) = itV (done ++ [itT (takeF bb M)]) := (by have := cut_all (itV (done ++ [itT (takeF bb M)])); rwa [itV_len] at this)
               refine aw_weak (fr' := [(6, .view 5 1 0 (done ++ [itT (takeF bb M)]).length), (7, .v (.int .i64 0)), (8, .v (.bool true))]) (ah' := [(5, .row 1 15 42 (itV (done ++ [itT (takeF bb M)])))]) wK (aw_weak (weak_settle (fr' := [(6, .v (.sl (itV (done ++ [itT (takeF bb M)])))), (7, .v (.int .i64 0)), (8, .v (.bool true))]) (ah' := []) 5 rfl .nil rfl (.view rfl hcut (.keep rfl rfl (.keep rfl rfl .nil)))) ?_))
            | (have hN : noneT (takeF bb M) = true := (noneT_eq _).symm.trans r2
               rw [items_none hN] at hx1 hx2
               dsimp only at hx1 hx2
               rw [List.append_nil] at hx1
               injection hx2 with y1 y2
               subst hx1 y1 y2
               have hcut : cut 0 (0 + done.length) (itV done) = itV done := (by have := cut_all (itV done); rwa [itV_len] at this)
               refine aw_weak (fr' := [(6, .view 5 0 0 done.length), (7, .v (.int .i64 (bb.length : Int))), (8, .v (.bool false))]) (ah' := [(5, .row 0 15 42 (itV done))]) wK (aw_weak (weak_settle (fr' := [(6, .v (.sl (itV done))), (7, .v (.int .i64 (bb.length : Int))), (8, .v (.bool false))]) (ah' := []) 5 rfl .nil rfl (.view rfl hcut (.keep rfl rfl (.keep rfl rfl .nil)))) ?_))
          refine aw_ret ?_
          refine (hret _ _ _ _ _ rfl (.tmp rfl (.tmp rfl (.tmp rfl .nil))) rfl ?_ .nil rfl).1
          rfl
        · refine aw_skip ?_
          refine hK8 _ _ ?_
          clear hK8
          refine aw_region fun K11 hK11 => ?_
          refine aL z_move ?_
          first
            | refine aL (z_load sz_40) ?_
            | refine aL (z_loadRef sz_40) ?_
            | refine aL (z_loadV sz_40) ?_
          first
            | refine aL (z_load sz_37) ?_
            | refine aL (z_loadRef sz_37) ?_
            | refine aL (z_loadV sz_37) ?_
          refine aL (z_build (pC (pC .nil)) pl_42 zc_42 zl_42) ?_
          refine aL (z_lits (pC .nil) Try.underlying29 sz_42 zc_42 zl_42 (c := [(itT (takeF bb M)).vs])) ?_
          refine aL (z_app Try.underlying29 zi_42 (c' := itV (done ++ [itT (takeF bb M)])) (hc := itV_snoc rfl)) ?_
          refine aL z_assign ?_
          refine awl_nil (hK11 _ _ ?_)
          clear hK11 K11
          refine aw_seq fun K12 hK12 => ?_
          refine aw_region fun K13 hK13 => ?_
          refine aL z_move ?_
          refine aL z_eql ?_
          refine awl_nil (hK13 _ _ ?_)
          clear hK13 K13
          refine aC (fun r3 c3 => ?_) (fun r3 c3 => ?_)
          · refine aw_region fun K14 hK14 => ?_
            refine aL z_move ?_
            refine aL z_assign ?_
            refine aL z_assign ?_
            refine aL z_assign ?_
            refine awl_nil (hK14 _ _ ?_)
            clear hK14 K14
            first
              | (have hh := c3
                 have hN : noneT (takeF bb M) = false := (noneT_eq _).symm.trans r2
                 have hV : overT (takeF bb M) = true := none_n0 hN (by omega)
                 rw [items_over hN hV] at hx1 hx2
                 dsimp only at hx1 hx2
                 injection hx2 with y1 y2
                 subst hx1 y1 y2
                 have hcut : cut 0 (0 + (done ++ [itT (takeF bb M)]).length) (itV (done ++ [itT (takeF bb M)])) = itV (done ++ [itT (takeF bb M)]) := (by have := cut_all (itV (done ++ [itT (takeF bb M)])); rwa [itV_len] at this)
                 refine aw_weak (fr' := [(6, .view 5 1 0 (done ++ [itT (takeF bb M)]).length), (7, .v (.int .i64 0)), (8, .v (.bool true))]) (ah' := [(5, .row 1 15 42 (itV (done ++ [itT (takeF bb M)])))]) wK (aw_weak (weak_settle (fr' := [(6, .v (.sl (itV (done ++ [itT (takeF bb M)])))), (7, .v (.int .i64 0)), (8, .v (.bool true))]) (ah' := []) 5 rfl .nil rfl (.view rfl hcut (.keep rfl rfl (.keep rfl rfl .nil)))) ?_))
              | (have hN : noneT (takeF bb M) = true := (noneT_eq _).symm.trans r2
                 rw [items_none hN] at hx1 hx2
                 dsimp only at hx1 hx2
                 rw [List.append_nil] at hx1
                 injection hx2 with y1 y2
                 subst hx1 y1 y2
                 have hcut : cut 0 (0 + done.length) (itV done) = itV done := (by have := cut_all (itV done); rwa [itV_len] at this)
                 refine aw_weak (fr' := [(6, .view 5 0 0 done.length), (7, .v (.int .i64 (bb.length : Int))), (8, .v (.bool false))]) (ah' := [(5, .row 0 15 42 (itV done))]) wK (aw_weak (weak_settle (fr' := [(6, .v (.sl (itV done))), (7, .v (.int .i64 (bb.length : Int))), (8, .v (.bool false))]) (ah' := []) 5 rfl .nil rfl (.view rfl hcut (.keep rfl rfl (.keep rfl rfl .nil)))) ?_))
            refine aw_ret ?_
            refine (hret _ _ _ _ _ rfl (.tmp rfl (.tmp rfl (.tmp rfl .nil))) rfl ?_ .nil rfl).1
            rfl
          · refine aw_skip ?_
            refine hK12 _ _ ?_
            clear hK12
            refine aw_region_last ?_
            refine aL z_move ?_
            refine aL z_move ?_
            refine aL (z_slice Try.underlying24 sz_5) ?_
            refine aL z_assign ?_
            refine awl_nil ?_
            have hN : noneT (takeF bb M) = false := (noneT_eq _).symm.trans r2
            have hV : overT (takeF bb M) = false := over_n0 (by omega)
            rw [items_on hN hV] at hx1 hx2
            dsimp only at hx1 hx2
            obtain ⟨h9, h10⟩ := take_on hN hV
            refine hK6 _ _ ⟨(done ++ [itT (takeF bb M)], bb.drop (takeF bb M).n), by simpa using hx1, hx2, by simp; omega⟩ (by simp; omega) ?_
            exact Weak.trans (weak_rever 5 0 rfl) wK
  refine aw_region fun K15 hK15 => ?_
  refine aL z_move ?_
  refine aL z_lss ?_
  refine awl_nil (hK15 _ _ ?_)
  clear hK15 K15
  refine aC (fun r4 c4 => ?_) (fun r4 c4 => ?_)
  · refine aw_region_last ?_
    refine aL z_assign ?_
    refine awl_nil ?_
    refine hK2 _ _ ?_
    exact wK
  · refine aw_skip ?_
    refine hK2 _ _ ?_
    exact wK
end Go.Proofs.Ytigodfnckjidoaa
