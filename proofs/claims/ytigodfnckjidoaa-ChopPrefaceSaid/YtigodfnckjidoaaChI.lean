/- Layer 7: the document's All. No condition. -/
import Derived.Test.YtigodfnckjidoaaFrRe
import Derived.Test.YtigodfnckjidoaaChE
namespace Go.Proofs.Ytigodfnckjidoaa
set_option linter.all false
open Go Go.RowKit
set_option maxRecDepth 10000
set_option maxHeartbeats 4000000
/-- What All answers of bytes without a preface. -/
def coreM (m : Int) (b : List UInt8) : List Itm × Int × Bool := ((itemsM m b).1, if (itemsM m b).2.2 = true then 0 else ((itemsM m b).2.1.length : Int), (itemsM m b).2.2)
abbrev allD (t : List Itm × Int × Bool) : Out := .ret (.tup [.v (.sl (itV t.1)), .v (.int .i64 t.2.1), .v (.bool t.2.2)])
theorem none_n0 {b : List UInt8} {m : Int} (h1 : noneT (takeF b m) = false) (h : (takeF b m).n = 0) : overT (takeF b m) = true := by
  rcases take_kinds b m with e | ⟨x, e, hx, hs⟩ | ⟨h9, -, -⟩
  · rw [e] at h1; cases h1
  · rw [e]; simp [overT, hx, hs]
  · omega
theorem over_n0 {b : List UInt8} {m : Int} (h : ¬ (takeF b m).n = 0) : overT (takeF b m) = false := by
  rcases take_kinds b m with e | ⟨x, e, hx, hs⟩ | ⟨h9, -, e | ⟨-, e⟩⟩
  · rw [e] at h; exact absurd rfl h
  · rw [e] at h; exact absurd rfl h
  · simp [overT, e]
  · simp [overT, e]
theorem con_All0 {m : Int} {b : List UInt8} (hb : b.length ≤ 1000000000) : Con Try.prog 12 [.v (.sl (bs b)), .v (.int .i64 m), .v (.bool false)] [] 0 (allD (coreM (max m 0) b)) [] := by
  obtain ⟨its, lf, ov, hI⟩ : ∃ its lf ov, itemsM (max m 0) b = (its, lf, ov) := ⟨_, _, _, rfl⟩
  have hM : coreM (max m 0) b = (its, if ov = true then 0 else (lf.length : Int), ov) := by unfold coreM; rw [hI]
  rw [hM]
  obtain ⟨M, hMM⟩ : ∃ M, max m 0 = M := ⟨_, rfl⟩
  rw [hMM] at hI
  refine con_of Try.func12 rfl (by show _ ≤ 73; simp) fun X Q hP hnt hnp hret hpan => ?_
  obtain ⟨P0, nt0, w0, K0, S0, np0, pin0, df0⟩ := X
  simp only at hP hnt hnp
  subst hP hnp
  obtain rfl : nt0 = 73 := hnt
  refine aw_region fun K1 hK1 => ?_
  refine aL z_assign ?_
  refine aL z_assign ?_
  refine aL z_assign ?_
  refine awl_nil (hK1 _ _ ?_)
  clear hK1 K1
  refine aw_cut ([(0, .v (.sl (bs b))), (1, .v (.int .i64 M)), (2, .v (.bool false))], []) (fun K2 hK2 => ?_) ?_
  rotate_left
  focus
    refine aw_seq fun K3 hK3 => ?_
    refine aw_region fun K4 hK4 => ?_
    refine aL z_move ?_
    refine awl_nil (hK4 _ _ ?_)
    clear hK4 K4
    refine aC (fun r1 c1 => ?_) (fun r1 c1 => ?_)
    · exact absurd c1 (by decide)
    · refine aw_skip ?_
      refine hK3 _ _ ?_
      clear hK3
      refine aw_region fun K5 hK5 => ?_
      refine aL z_assign ?_
      refine awl_nil (hK5 _ _ ?_)
      clear hK5 K5
      refine aw_weak (weak_nil (t := 10) 5 15 42 (by decide) (Nat.zero_le _) rfl rfl) ?_
      refine aw_block ?_
      refine aw_loop (α := {x : List Itm × List UInt8 // x.1 ++ (itemsM M x.2).1 = its ∧ (itemsM M x.2).2 = (lf, ov) ∧ x.2.length + 9 * x.1.length ≤ b.length}) (fun x => ([(0, .v (.sl (bs x.1.2))), (1, .v (.int .i64 M)), (10, .view 5 0 0 x.1.1.length)], [(5, .row 0 15 42 (itV x.1.1))])) (fun x => x.1.2.length) ⟨([], b), by rw [hI]; exact ⟨rfl, rfl, by simp⟩⟩ ?_ ?_
      · dsimp only
        exact wK
      · rintro ⟨⟨done, bb⟩, hx1, hx2, hx3⟩ K6 hK6
        dsimp only
        dsimp only at hx1 hx2 hx3
        have hn := take_le bb M
        refine aw_block ?_
        refine aw_region fun K7 hK7 => ?_
        refine aL z_move ?_
        refine aL z_move ?_
        refine aL (z_call0 (eC (eC .nil)) en_17 (con_refTakeF (by omega))) ?_
        refine aL z_move ?_
        refine aL z_extract ?_
        refine aL z_extract ?_
        refine aL z_extract ?_
        refine aL (z_alloc 6 zc_40 zl_40) ?_
        refine aL (z_alloc 7 zc_37 zl_37) ?_
        refine aL (z_store sz_40) ?_
        refine aL z_assign ?_
        refine aL (z_store sz_37) ?_
        refine awl_nil (hK7 _ _ ?_)
        clear hK7 K7
        refine aw_seq fun K8 hK8 => ?_
        refine aw_region fun K9 hK9 => ?_
        refine aL z_move ?_
        refine aL z_eql ?_
        refine aL z_move ?_
        first
          | refine gL rfl rfl (ev_tmp rfl) (fun hg => z_fieldAddr fo_37_0) ?_
          | refine gL rfl rfl (ev_tmp rfl) (fun hg => z_fieldRef fo_37_0) ?_
          | refine gL rfl rfl (ev_tmp rfl) (fun hg => z_fieldV fo_37_0) ?_
          | refine hL rfl rfl (ev_tmp rfl) (fun hg => z_fieldAddr fo_37_0) ?_
          | refine hL rfl rfl (ev_tmp rfl) (fun hg => z_fieldRef fo_37_0) ?_
          | refine hL rfl rfl (ev_tmp rfl) (fun hg => z_fieldV fo_37_0) ?_
        first
          | refine gL rfl rfl (ev_tmp rfl) (fun hg => z_load sz_4) ?_
          | refine gL rfl rfl (ev_tmp rfl) (fun hg => z_loadRef sz_4) ?_
          | refine gL rfl rfl (ev_tmp rfl) (fun hg => z_loadV sz_4) ?_
          | refine hL rfl rfl (ev_tmp rfl) (fun hg => z_load sz_4) ?_
          | refine hL rfl rfl (ev_tmp rfl) (fun hg => z_loadRef sz_4) ?_
          | refine hL rfl rfl (ev_tmp rfl) (fun hg => z_loadV sz_4) ?_
        first
          | refine gL rfl rfl (ev_tmp rfl) (fun hg => z_not) ?_
          | refine hL rfl rfl (ev_tmp rfl) (fun hg => z_not) ?_
        refine aL z_and ?_
        refine awl_nil (hK9 _ _ ?_)
        clear hK9 K9
        refine aC (fun r2 c2 => ?_) (fun r2 c2 => ?_)
        · refine aw_region fun K10 hK10 => ?_
          refine aL z_move ?_
          refine aL z_move ?_
          first
            | refine aL (z_lenB Try.underlying24) ?_
            | refine aL (z_len Try.underlying24) ?_
            | refine aL (z_lenV Try.underlying24) ?_
          refine aL z_assign ?_
          refine aL z_assign ?_
          refine aL z_assign ?_
          refine awl_nil (hK10 _ _ ?_)
          clear hK10 K10
          first
            | (have hh := c3
               have hN : noneT (takeF bb M) = false := (noneT_eq _).symm.trans r2
               have hV : overT (takeF bb M) = true := none_n0 hN (by omega)
               rw [items_over hN hV] at hx1 hx2
               dsimp only at hx1 hx2
               injection hx2 with y1 y2
               subst hx1 y1 y2
               have hcut : cut 0 (0 + (done ++ [itT (takeF bb M)]).length) (itV (done ++ [itT (takeF bb M)])) = itV (done ++ [itT (takeF bb M)]) := (by have := cut_all (itV (done ++ [itT (takeF bb M)])); rwa [itV_len] at this)
               refine aw_weak (fr' := [(6, .view 5 1 0 (done ++ [itT (takeF bb M)]).length), (7, .v (.int .i64 0)), (8, .v (.bool true))]) (ah' := [(5, .row 1 15 42 (itV (done ++ [itT (takeF bb M)])))]) wK (aw_weak (weak_settle (fr' := [(6, .v (.sl (itV (done ++ [itT (takeF bb M)])))), (7, .v (.int .i64 0)), (8, .v (.bool true))]) (ah' := []) 5 rfl .nil rfl (.view rfl hcut (.keep rfl rfl (.keep rfl rfl .nil)))) ?_))
            | (have hN : noneT (takeF bb M) = true := (noneT_eq _).symm.trans r2
               rw [items_none hN] at hx1 hx2
               dsimp only at hx1 hx2
               rw [List.append_nil] at hx1
               injection hx2 with y1 y2
               subst hx1 y1 y2
               have hcut : cut 0 (0 + done.length) (itV done) = itV done := (by have := cut_all (itV done); rwa [itV_len] at this)
               refine aw_weak (fr' := [(6, .view 5 0 0 done.length), (7, .v (.int .i64 (bb.length : Int))), (8, .v (.bool false))]) (ah' := [(5, .row 0 15 42 (itV done))]) wK (aw_weak (weak_settle (fr' := [(6, .v (.sl (itV done))), (7, .v (.int .i64 (bb.length : Int))), (8, .v (.bool false))]) (ah' := []) 5 rfl .nil rfl (.view rfl hcut (.keep rfl rfl (.keep rfl rfl .nil)))) ?_))
          refine aw_ret ?_
          refine (hret _ _ _ _ _ rfl (.tmp rfl (.tmp rfl (.tmp rfl .nil))) rfl ?_ .nil rfl).1
          rfl
        · refine aw_skip ?_
          refine hK8 _ _ ?_
          clear hK8
          refine aw_region fun K11 hK11 => ?_
          refine aL z_move ?_
          first
            | refine aL (z_load sz_40) ?_
            | refine aL (z_loadRef sz_40) ?_
            | refine aL (z_loadV sz_40) ?_
          first
            | refine aL (z_load sz_37) ?_
            | refine aL (z_loadRef sz_37) ?_
            | refine aL (z_loadV sz_37) ?_
          refine aL (z_build (pC (pC .nil)) pl_42 zc_42 zl_42) ?_
          refine aL (z_lits (pC .nil) Try.underlying29 sz_42 zc_42 zl_42 (c := [(itT (takeF bb M)).vs])) ?_
          refine aL (z_app Try.underlying29 zi_42 (c' := itV (done ++ [itT (takeF bb M)])) (hc := itV_snoc rfl)) ?_
          refine aL z_assign ?_
          refine awl_nil (hK11 _ _ ?_)
          clear hK11 K11
          refine aw_seq fun K12 hK12 => ?_
          refine aw_region fun K13 hK13 => ?_
          refine aL z_move ?_
          refine aL z_eql ?_
          refine awl_nil (hK13 _ _ ?_)
          clear hK13 K13
          refine aC (fun r3 c3 => ?_) (fun r3 c3 => ?_)
          · refine aw_region fun K14 hK14 => ?_
            refine aL z_move ?_
            refine aL z_assign ?_
            refine aL z_assign ?_
            refine aL z_assign ?_
            refine awl_nil (hK14 _ _ ?_)
            clear hK14 K14
            first
              | (have hh := c3
                 have hN : noneT (takeF bb M) = false := (noneT_eq _).symm.trans r2
                 have hV : overT (takeF bb M) = true := none_n0 hN (by omega)
                 rw [items_over hN hV] at hx1 hx2
                 dsimp only at hx1 hx2
                 injection hx2 with y1 y2
                 subst hx1 y1 y2
                 have hcut : cut 0 (0 + (done ++ [itT (takeF bb M)]).length) (itV (done ++ [itT (takeF bb M)])) = itV (done ++ [itT (takeF bb M)]) := (by have := cut_all (itV (done ++ [itT (takeF bb M)])); rwa [itV_len] at this)
                 refine aw_weak (fr' := [(6, .view 5 1 0 (done ++ [itT (takeF bb M)]).length), (7, .v (.int .i64 0)), (8, .v (.bool true))]) (ah' := [(5, .row 1 15 42 (itV (done ++ [itT (takeF bb M)])))]) wK (aw_weak (weak_settle (fr' := [(6, .v (.sl (itV (done ++ [itT (takeF bb M)])))), (7, .v (.int .i64 0)), (8, .v (.bool true))]) (ah' := []) 5 rfl .nil rfl (.view rfl hcut (.keep rfl rfl (.keep rfl rfl .nil)))) ?_))
              | (have hN : noneT (takeF bb M) = true := (noneT_eq _).symm.trans r2
                 rw [items_none hN] at hx1 hx2
                 dsimp only at hx1 hx2
                 rw [List.append_nil] at hx1
                 injection hx2 with y1 y2
                 subst hx1 y1 y2
                 have hcut : cut 0 (0 + done.length) (itV done) = itV done := (by have := cut_all (itV done); rwa [itV_len] at this)
                 refine aw_weak (fr' := [(6, .view 5 0 0 done.length), (7, .v (.int .i64 (bb.length : Int))), (8, .v (.bool false))]) (ah' := [(5, .row 0 15 42 (itV done))]) wK (aw_weak (weak_settle (fr' := [(6, .v (.sl (itV done))), (7, .v (.int .i64 (bb.length : Int))), (8, .v (.bool false))]) (ah' := []) 5 rfl .nil rfl (.view rfl hcut (.keep rfl rfl (.keep rfl rfl .nil)))) ?_))
            refine aw_ret ?_
            refine (hret _ _ _ _ _ rfl (.tmp rfl (.tmp rfl (.tmp rfl .nil))) rfl ?_ .nil rfl).1
            rfl
          · refine aw_skip ?_
            refine hK12 _ _ ?_
            clear hK12
            refine aw_region_last ?_
            refine aL z_move ?_
            refine aL z_move ?_
            refine aL (z_slice Try.underlying24 sz_5) ?_
            refine aL z_assign ?_
            refine awl_nil ?_
            have hN : noneT (takeF bb M) = false := (noneT_eq _).symm.trans r2
            have hV : overT (takeF bb M) = false := over_n0 (by omega)
            rw [items_on hN hV] at hx1 hx2
            dsimp only at hx1 hx2
            obtain ⟨h9, h10⟩ := take_on hN hV
            refine hK6 _ _ ⟨(done ++ [itT (takeF bb M)], bb.drop (takeF bb M).n), by simpa using hx1, hx2, by simp; omega⟩ (by simp; omega) ?_
            exact Weak.trans (weak_rever 5 0 rfl) wK
  refine aw_region fun K15 hK15 => ?_
  refine aL z_move ?_
  refine aL z_lss ?_
  refine awl_nil (hK15 _ _ ?_)
  clear hK15 K15
  refine aC (fun r4 c4 => ?_) (fun r4 c4 => ?_)
  · refine aw_region_last ?_
    refine aL z_assign ?_
    refine awl_nil ?_
    refine hK2 _ _ ?_
    exact wK
  · refine aw_skip ?_
    refine hK2 _ _ ?_
    exact wK
end Go.Proofs.Ytigodfnckjidoaa
/- Layer 7: the document's All, with a preface. No condition. -/
namespace Go.Proofs.Ytigodfnckjidoaa
set_option linter.all false
open Go Go.RowKit
set_option maxRecDepth 10000
set_option maxHeartbeats 4000000
theorem drop_at {b : List UInt8} {i : Nat} (h : i < b.length) : ∃ a, b[i]? = some a ∧ b.drop i = a :: b.drop (i + 1) ∧ (bs b)[i]? = some [.int .u8 (a.toNat : Int)] := by
  refine ⟨b[i], List.getElem?_eq_getElem h, List.drop_eq_getElem_cons h, ?_⟩
  simp [bs, h]
theorem pre_at {i : Nat} (h : i < 24) : ∃ z, preL[i]? = some z := ⟨preL[i]'(by exact h), List.getElem?_eq_getElem _⟩
theorem con_AllB {m : Int} {b r : List UInt8} {k : Nat} (hb : b.length ≤ 1000000000) (hg : greetM 0 b = (k, some r)) (hk : k < 24) : Con Try.prog 12 [.v (.sl (bs b)), .v (.int .i64 m), .v (.bool true)] [] 0 (.ret (.tup [NIL, .v (.int .i64 (k : Int)), .v (.bool false)])) [] := by
  obtain ⟨M, hMM⟩ : ∃ M, max m 0 = M := ⟨_, rfl⟩
  refine con_of Try.func12 rfl (by show _ ≤ 73; simp) fun X Q hP hnt hnp hret hpan => ?_
  obtain ⟨P0, nt0, w0, K0, S0, np0, pin0, df0⟩ := X
  simp only at hP hnt hnp
  subst hP hnp
  obtain rfl : nt0 = 73 := hnt
  refine aw_region fun K1 hK1 => ?_
  refine aL z_assign ?_
  refine aL z_assign ?_
  refine aL z_assign ?_
  refine awl_nil (hK1 _ _ ?_)
  clear hK1 K1
  refine aw_cut ([(0, .v (.sl (bs b))), (1, .v (.int .i64 M)), (2, .v (.bool true))], []) (fun K2 hK2 => ?_) ?_
  rotate_left
  focus
    refine aw_seq fun K3 hK3 => ?_
    refine aw_region fun K4 hK4 => ?_
    refine aL z_move ?_
    refine awl_nil (hK4 _ _ ?_)
    clear hK4 K4
    refine aC (fun r1 c1 => ?_) (fun r1 c1 => ?_)
    · refine aw_seq fun K5 hK5 => ?_
      refine aw_region fun K6 hK6 => ?_
      refine aL z_assign ?_
      refine awl_nil (hK6 _ _ ?_)
      clear hK6 K6
      refine aw_block ?_
      refine aw_loop (α := {i : Nat // greetM i (b.drop i) = (k, some r) ∧ i ≤ 24 ∧ i ≤ b.length}) (fun x => ([(0, .v (.sl (bs b))), (1, .v (.int .i64 M)), (9, .v (.int .i64 (x.1 : Int)))], [])) (fun x => 24 - x.1) ⟨0, hg, by omega, by omega⟩ ?_ ?_
      · dsimp only
        exact wK
      · rintro ⟨i, hq, hi24, hil⟩ K7 hK7
        dsimp only
        refine aw_seq fun K8 hK8 => ?_
        refine aw_region fun K9 hK9 => ?_
        refine aL z_move ?_
        refine aL z_move ?_
        first
          | refine aL (z_lenB Try.underlying24) ?_
          | refine aL (z_len Try.underlying24) ?_
          | refine aL (z_lenV Try.underlying24) ?_
        refine aL z_lss ?_
        refine aL z_move ?_
        first
          | refine gL rfl rfl (ev_tmp rfl) (fun hg => z_move) ?_
          | refine hL rfl rfl (ev_tmp rfl) (fun hg => z_move) ?_
        first
          | refine gL rfl rfl (ev_tmp rfl) (fun hg => z_lss) ?_
          | refine hL rfl rfl (ev_tmp rfl) (fun hg => z_lss) ?_
        refine aL z_and ?_
        refine awl_nil (hK9 _ _ ?_)
        clear hK9 K9
        refine aC (fun r2 c2 => ?_) (fun r2 c2 => ?_)
        · refine aw_skip ?_
          refine hK8 _ _ ?_
          clear hK8
          refine aw_seq fun K10 hK10 => ?_
          refine aw_block ?_
          refine aw_regionD mx_all (by kernel_rfl) fun K11 hK11 => ?_
          have hi1 : i < 24 := by omega
          obtain ⟨a, ha, hda, hi⟩ := drop_at (b := b) (i := i) (by omega)
          rw [hda] at hq
          obtain ⟨z, hz⟩ := pre_at hi1
          refine aD z_move ?_
          refine aD z_move ?_
          first
            | refine aD (z_indexAddr Try.underlying24 sz_5) ?_
            | refine aD (z_indexAddrV Try.underlying24 sz_5) ?_
          first
            | refine aD (z_load sz_5) ?_
            | refine aD (z_loadRef sz_5) ?_
            | refine aD (z_loadV sz_5) ?_
          refine aD z_move ?_
          refine aD (z_indexS Try.underlying9) ?_
          refine aD z_neq ?_
          refine awd_nil (by kernel_rfl) (hK11 _ _ ?_)
          clear hK11 K11
          refine aC (fun r3 c3 => ?_) (fun r3 c3 => ?_)
          · have e : none = some r := (greet_bad hq hi1 (fun he => c3 (by rw [hz] at he; injection he with he; rw [he]))).2
            cases e
          · refine aw_skip ?_
            refine hK10 _ _ ?_
            clear hK10
            refine aw_region_last ?_
            refine aL z_move ?_
            refine aL z_add ?_
            refine aL z_assign ?_
            refine awl_nil ?_
            have ez : z = a := UInt8.toNat_inj.1 (by omega)
            subst ez
            refine hK7 _ _ ⟨i + 1, greet_on hq hi1 hz, by omega, by omega⟩ (by dsimp only; omega) ?_
            exact wK
        · refine aw_exit ?_
          refine hK5 _ _ ?_
          clear hK5
          refine aw_seq fun K12 hK12 => ?_
          refine aw_region fun K13 hK13 => ?_
          have he : i = k := (greet_end hq (by rcases c2 with h | h; exact .inl (List.drop_of_length_le (by omega)); right; omega)).1
          refine aL z_move ?_
          first
            | refine aL (z_lenB Try.underlying24) ?_
            | refine aL (z_len Try.underlying24) ?_
            | refine aL (z_lenV Try.underlying24) ?_
          refine aL z_lss ?_
          refine awl_nil (hK13 _ _ ?_)
          clear hK13 K13
          refine aC (fun r4 c4 => ?_) (fun r4 c4 => ?_)
          · refine aw_region fun K14 hK14 => ?_
            refine aL z_move ?_
            first
              | refine aL (z_lenB Try.underlying24) ?_
              | refine aL (z_len Try.underlying24) ?_
              | refine aL (z_lenV Try.underlying24) ?_
            refine aL z_assign ?_
            refine aL z_assign ?_
            refine aL z_assign ?_
            refine awl_nil (hK14 _ _ ?_)
            clear hK14 K14
            refine aw_ret ?_
            refine (hret _ _ _ _ _ rfl (.tmp rfl (.tmp rfl (.tmp rfl .nil))) rfl ?_ .nil rfl).1
            first | rfl | (rw [show (k : Int) = (b.length : Int) by omega]; rfl)
          · omega
    · exact absurd c1 (by decide)
  refine aw_region fun K15 hK15 => ?_
  refine aL z_move ?_
  refine aL z_lss ?_
  refine awl_nil (hK15 _ _ ?_)
  clear hK15 K15
  refine aC (fun r5 c5 => ?_) (fun r5 c5 => ?_)
  · refine aw_region_last ?_
    refine aL z_assign ?_
    refine awl_nil ?_
    refine hK2 _ _ ?_
    exact wK
  · refine aw_skip ?_
    refine hK2 _ _ ?_
    exact wK
theorem con_AllA {m : Int} {b : List UInt8} {k : Nat} (hb : b.length ≤ 1000000000) (hg : greetM 0 b = (k, none)) : Con Try.prog 12 [.v (.sl (bs b)), .v (.int .i64 m), .v (.bool true)] [] 0 (.ret (.tup [.v (.sl (itV [badI])), .v (.int .i64 0), .v (.bool true)])) [] := by
  obtain ⟨M, hMM⟩ : ∃ M, max m 0 = M := ⟨_, rfl⟩
  refine con_of Try.func12 rfl (by show _ ≤ 73; simp) fun X Q hP hnt hnp hret hpan => ?_
  obtain ⟨P0, nt0, w0, K0, S0, np0, pin0, df0⟩ := X
  simp only at hP hnt hnp
  subst hP hnp
  obtain rfl : nt0 = 73 := hnt
  refine aw_region fun K1 hK1 => ?_
  refine aL z_assign ?_
  refine aL z_assign ?_
  refine aL z_assign ?_
  refine awl_nil (hK1 _ _ ?_)
  clear hK1 K1
  refine aw_cut ([(0, .v (.sl (bs b))), (1, .v (.int .i64 M)), (2, .v (.bool true))], []) (fun K2 hK2 => ?_) ?_
  rotate_left
  focus
    refine aw_seq fun K3 hK3 => ?_
    refine aw_region fun K4 hK4 => ?_
    refine aL z_move ?_
    refine awl_nil (hK4 _ _ ?_)
    clear hK4 K4
    refine aC (fun r1 c1 => ?_) (fun r1 c1 => ?_)
    · refine aw_seq fun K5 hK5 => ?_
      refine aw_region fun K6 hK6 => ?_
      refine aL z_assign ?_
      refine awl_nil (hK6 _ _ ?_)
      clear hK6 K6
      refine aw_block ?_
      refine aw_loop (α := {i : Nat // greetM i (b.drop i) = (k, none) ∧ i ≤ 24 ∧ i ≤ b.length}) (fun x => ([(0, .v (.sl (bs b))), (1, .v (.int .i64 M)), (9, .v (.int .i64 (x.1 : Int)))], [])) (fun x => 24 - x.1) ⟨0, hg, by omega, by omega⟩ ?_ ?_
      · dsimp only
        exact wK
      · rintro ⟨i, hq, hi24, hil⟩ K7 hK7
        dsimp only
        refine aw_seq fun K8 hK8 => ?_
        refine aw_region fun K9 hK9 => ?_
        refine aL z_move ?_
        refine aL z_move ?_
        first
          | refine aL (z_lenB Try.underlying24) ?_
          | refine aL (z_len Try.underlying24) ?_
          | refine aL (z_lenV Try.underlying24) ?_
        refine aL z_lss ?_
        refine aL z_move ?_
        first
          | refine gL rfl rfl (ev_tmp rfl) (fun hg => z_move) ?_
          | refine hL rfl rfl (ev_tmp rfl) (fun hg => z_move) ?_
        first
          | refine gL rfl rfl (ev_tmp rfl) (fun hg => z_lss) ?_
          | refine hL rfl rfl (ev_tmp rfl) (fun hg => z_lss) ?_
        refine aL z_and ?_
        refine awl_nil (hK9 _ _ ?_)
        clear hK9 K9
        refine aC (fun r2 c2 => ?_) (fun r2 c2 => ?_)
        · refine aw_skip ?_
          refine hK8 _ _ ?_
          clear hK8
          refine aw_seq fun K10 hK10 => ?_
          refine aw_block ?_
          refine aw_regionD mx_all (by kernel_rfl) fun K11 hK11 => ?_
          have hi1 : i < 24 := by omega
          obtain ⟨a, ha, hda, hi⟩ := drop_at (b := b) (i := i) (by omega)
          rw [hda] at hq
          obtain ⟨z, hz⟩ := pre_at hi1
          refine aD z_move ?_
          refine aD z_move ?_
          first
            | refine aD (z_indexAddr Try.underlying24 sz_5) ?_
            | refine aD (z_indexAddrV Try.underlying24 sz_5) ?_
          first
            | refine aD (z_load sz_5) ?_
            | refine aD (z_loadRef sz_5) ?_
            | refine aD (z_loadV sz_5) ?_
          refine aD z_move ?_
          refine aD (z_indexS Try.underlying9) ?_
          refine aD z_neq ?_
          refine awd_nil (by kernel_rfl) (hK11 _ _ ?_)
          clear hK11 K11
          refine aC (fun r3 c3 => ?_) (fun r3 c3 => ?_)
          · refine aw_region fun K12 hK12 => ?_
            refine aL (z_build (pC (pC .nil)) pl_37 zc_37 zl_37) ?_
            refine aL (z_build (pC .nil) pl_42 zc_42 zl_42) ?_
            refine awl_weak (fr' := [(35, .agg badD)]) (ah' := []) wK ?_
            refine awl_weak (fr' := [(35, .agg (badI.vs.map .v))]) (ah' := []) (weak_one fun G w mm u h => agg_nilsl [.v (.int .i64 0), .v (.int .i64 0), .v (.int .i64 0), .v (.str []), .v (.int .i64 0)] _ h) ?_
            refine aL (z_lits (pC .nil) Try.underlying29 sz_42 zc_42 zl_42 (c := [badI.vs])) ?_
            refine aL z_assign ?_
            refine aL z_assign ?_
            refine aL z_assign ?_
            refine awl_nil (hK12 _ _ ?_)
            clear hK12 K12
            refine aw_ret ?_
            refine (hret _ _ _ _ _ rfl (.tmp rfl (.tmp rfl (.tmp rfl .nil))) rfl ?_ .nil rfl).1
            rfl
          · refine aw_skip ?_
            refine hK10 _ _ ?_
            clear hK10
            refine aw_region_last ?_
            refine aL z_move ?_
            refine aL z_add ?_
            refine aL z_assign ?_
            refine awl_nil ?_
            have ez : z = a := UInt8.toNat_inj.1 (by omega)
            subst ez
            refine hK7 _ _ ⟨i + 1, greet_on hq hi1 hz, by omega, by omega⟩ (by dsimp only; omega) ?_
            exact wK
        · have e : some (b.drop i) = none := (greet_end hq (by rcases c2 with h | h; exact .inl (List.drop_of_length_le (by omega)); right; omega)).2
          cases e
    · exact absurd c1 (by decide)
  refine aw_region fun K13 hK13 => ?_
  refine aL z_move ?_
  refine aL z_lss ?_
  refine awl_nil (hK13 _ _ ?_)
  clear hK13 K13
  refine aC (fun r4 c4 => ?_) (fun r4 c4 => ?_)
  · refine aw_region_last ?_
    refine aL z_assign ?_
    refine awl_nil ?_
    refine hK2 _ _ ?_
    exact wK
  · refine aw_skip ?_
    refine hK2 _ _ ?_
    exact wK
theorem con_AllC {m : Int} {b r : List UInt8} {k : Nat} (hb : b.length ≤ 1000000000) (hg : greetM 0 b = (k, some r)) (hk : 24 ≤ k) : Con Try.prog 12 [.v (.sl (bs b)), .v (.int .i64 m), .v (.bool true)] [] 0 (allD (coreM (max m 0) r)) [] := by
  have hrl := greet_len hg
  obtain ⟨its, lf, ov, hI⟩ : ∃ its lf ov, itemsM (max m 0) r = (its, lf, ov) := ⟨_, _, _, rfl⟩
  have hM : coreM (max m 0) r = (its, if ov = true then 0 else (lf.length : Int), ov) := by unfold coreM; rw [hI]
  rw [hM]
  obtain ⟨M, hMM⟩ : ∃ M, max m 0 = M := ⟨_, rfl⟩
  rw [hMM] at hI
  refine con_of Try.func12 rfl (by show _ ≤ 73; simp) fun X Q hP hnt hnp hret hpan => ?_
  obtain ⟨P0, nt0, w0, K0, S0, np0, pin0, df0⟩ := X
  simp only at hP hnt hnp
  subst hP hnp
  obtain rfl : nt0 = 73 := hnt
  refine aw_region fun K1 hK1 => ?_
  refine aL z_assign ?_
  refine aL z_assign ?_
  refine aL z_assign ?_
  refine awl_nil (hK1 _ _ ?_)
  clear hK1 K1
  refine aw_cut ([(0, .v (.sl (bs b))), (1, .v (.int .i64 M)), (2, .v (.bool true))], []) (fun K2 hK2 => ?_) ?_
  rotate_left
  focus
    refine aw_cut ([(0, .v (.sl (bs r))), (1, .v (.int .i64 M))], []) (fun K3 hK3 => ?_) ?_
    rotate_left
    focus
      refine aw_region fun K4 hK4 => ?_
      refine aL z_assign ?_
      refine awl_nil (hK4 _ _ ?_)
      clear hK4 K4
      refine aw_weak (weak_nil (t := 10) 5 15 42 (by decide) (Nat.zero_le _) rfl rfl) ?_
      refine aw_block ?_
      refine aw_loop (α := {x : List Itm × List UInt8 // x.1 ++ (itemsM M x.2).1 = its ∧ (itemsM M x.2).2 = (lf, ov) ∧ x.2.length + 9 * x.1.length ≤ r.length}) (fun x => ([(0, .v (.sl (bs x.1.2))), (1, .v (.int .i64 M)), (10, .view 5 0 0 x.1.1.length)], [(5, .row 0 15 42 (itV x.1.1))])) (fun x => x.1.2.length) ⟨([], r), by rw [hI]; exact ⟨rfl, rfl, by simp⟩⟩ ?_ ?_
      · dsimp only
        exact wK
      · rintro ⟨⟨done, bb⟩, hx1, hx2, hx3⟩ K5 hK5
        dsimp only
        dsimp only at hx1 hx2 hx3
        have hn := take_le bb M
        refine aw_block ?_
        refine aw_region fun K6 hK6 => ?_
        refine aL z_move ?_
        refine aL z_move ?_
        refine aL (z_call0 (eC (eC .nil)) en_17 (con_refTakeF (by omega))) ?_
        refine aL z_move ?_
        refine aL z_extract ?_
        refine aL z_extract ?_
        refine aL z_extract ?_
        refine aL (z_alloc 6 zc_40 zl_40) ?_
        refine aL (z_alloc 7 zc_37 zl_37) ?_
        refine aL (z_store sz_40) ?_
        refine aL z_assign ?_
        refine aL (z_store sz_37) ?_
        refine awl_nil (hK6 _ _ ?_)
        clear hK6 K6
        refine aw_seq fun K7 hK7 => ?_
        refine aw_region fun K8 hK8 => ?_
        refine aL z_move ?_
        refine aL z_eql ?_
        refine aL z_move ?_
        first
          | refine gL rfl rfl (ev_tmp rfl) (fun hg => z_fieldAddr fo_37_0) ?_
          | refine gL rfl rfl (ev_tmp rfl) (fun hg => z_fieldRef fo_37_0) ?_
          | refine gL rfl rfl (ev_tmp rfl) (fun hg => z_fieldV fo_37_0) ?_
          | refine hL rfl rfl (ev_tmp rfl) (fun hg => z_fieldAddr fo_37_0) ?_
          | refine hL rfl rfl (ev_tmp rfl) (fun hg => z_fieldRef fo_37_0) ?_
          | refine hL rfl rfl (ev_tmp rfl) (fun hg => z_fieldV fo_37_0) ?_
        first
          | refine gL rfl rfl (ev_tmp rfl) (fun hg => z_load sz_4) ?_
          | refine gL rfl rfl (ev_tmp rfl) (fun hg => z_loadRef sz_4) ?_
          | refine gL rfl rfl (ev_tmp rfl) (fun hg => z_loadV sz_4) ?_
          | refine hL rfl rfl (ev_tmp rfl) (fun hg => z_load sz_4) ?_
          | refine hL rfl rfl (ev_tmp rfl) (fun hg => z_loadRef sz_4) ?_
          | refine hL rfl rfl (ev_tmp rfl) (fun hg => z_loadV sz_4) ?_
        first
          | refine gL rfl rfl (ev_tmp rfl) (fun hg => z_not) ?_
          | refine hL rfl rfl (ev_tmp rfl) (fun hg => z_not) ?_
        refine aL z_and ?_
        refine awl_nil (hK8 _ _ ?_)
        clear hK8 K8
        refine aC (fun r1 c1 => ?_) (fun r1 c1 => ?_)
        · refine aw_region fun K9 hK9 => ?_
          refine aL z_move ?_
          refine aL z_move ?_
          first
            | refine aL (z_lenB Try.underlying24) ?_
            | refine aL (z_len Try.underlying24) ?_
            | refine aL (z_lenV Try.underlying24) ?_
          refine aL z_assign ?_
          refine aL z_assign ?_
          refine aL z_assign ?_
          refine awl_nil (hK9 _ _ ?_)
          clear hK9 K9
          first
            | (have hh := c2
               have hN : noneT (takeF bb M) = false := (noneT_eq _).symm.trans r1
               have hV : overT (takeF bb M) = true := none_n0 hN (by omega)
               rw [items_over hN hV] at hx1 hx2
               dsimp only at hx1 hx2
               injection hx2 with y1 y2
               subst hx1 y1 y2
               have hcut : cut 0 (0 + (done ++ [itT (takeF bb M)]).length) (itV (done ++ [itT (takeF bb M)])) = itV (done ++ [itT (takeF bb M)]) := (by have := cut_all (itV (done ++ [itT (takeF bb M)])); rwa [itV_len] at this)
               refine aw_weak (fr' := [(6, .view 5 1 0 (done ++ [itT (takeF bb M)]).length), (7, .v (.int .i64 0)), (8, .v (.bool true))]) (ah' := [(5, .row 1 15 42 (itV (done ++ [itT (takeF bb M)])))]) wK (aw_weak (weak_settle (fr' := [(6, .v (.sl (itV (done ++ [itT (takeF bb M)])))), (7, .v (.int .i64 0)), (8, .v (.bool true))]) (ah' := []) 5 rfl .nil rfl (.view rfl hcut (.keep rfl rfl (.keep rfl rfl .nil)))) ?_))
            | (have hN : noneT (takeF bb M) = true := (noneT_eq _).symm.trans r1
               rw [items_none hN] at hx1 hx2
               dsimp only at hx1 hx2
               rw [List.append_nil] at hx1
               injection hx2 with y1 y2
               subst hx1 y1 y2
               have hcut : cut 0 (0 + done.length) (itV done) = itV done := (by have := cut_all (itV done); rwa [itV_len] at this)
               refine aw_weak (fr' := [(6, .view 5 0 0 done.length), (7, .v (.int .i64 (bb.length : Int))), (8, .v (.bool false))]) (ah' := [(5, .row 0 15 42 (itV done))]) wK (aw_weak (weak_settle (fr' := [(6, .v (.sl (itV done))), (7, .v (.int .i64 (bb.length : Int))), (8, .v (.bool false))]) (ah' := []) 5 rfl .nil rfl (.view rfl hcut (.keep rfl rfl (.keep rfl rfl .nil)))) ?_))
          refine aw_ret ?_
          refine (hret _ _ _ _ _ rfl (.tmp rfl (.tmp rfl (.tmp rfl .nil))) rfl ?_ .nil rfl).1
          rfl
        · refine aw_skip ?_
          refine hK7 _ _ ?_
          clear hK7
          refine aw_region fun K10 hK10 => ?_
          refine aL z_move ?_
          first
            | refine aL (z_load sz_40) ?_
            | refine aL (z_loadRef sz_40) ?_
            | refine aL (z_loadV sz_40) ?_
          first
            | refine aL (z_load sz_37) ?_
            | refine aL (z_loadRef sz_37) ?_
            | refine aL (z_loadV sz_37) ?_
          refine aL (z_build (pC (pC .nil)) pl_42 zc_42 zl_42) ?_
          refine aL (z_lits (pC .nil) Try.underlying29 sz_42 zc_42 zl_42 (c := [(itT (takeF bb M)).vs])) ?_
          refine aL (z_app Try.underlying29 zi_42 (c' := itV (done ++ [itT (takeF bb M)])) (hc := itV_snoc rfl)) ?_
          refine aL z_assign ?_
          refine awl_nil (hK10 _ _ ?_)
          clear hK10 K10
          refine aw_seq fun K11 hK11 => ?_
          refine aw_region fun K12 hK12 => ?_
          refine aL z_move ?_
          refine aL z_eql ?_
          refine awl_nil (hK12 _ _ ?_)
          clear hK12 K12
          refine aC (fun r2 c2 => ?_) (fun r2 c2 => ?_)
          · refine aw_region fun K13 hK13 => ?_
            refine aL z_move ?_
            refine aL z_assign ?_
            refine aL z_assign ?_
            refine aL z_assign ?_
            refine awl_nil (hK13 _ _ ?_)
            clear hK13 K13
            first
              | (have hh := c2
                 have hN : noneT (takeF bb M) = false := (noneT_eq _).symm.trans r1
                 have hV : overT (takeF bb M) = true := none_n0 hN (by omega)
                 rw [items_over hN hV] at hx1 hx2
                 dsimp only at hx1 hx2
                 injection hx2 with y1 y2
                 subst hx1 y1 y2
                 have hcut : cut 0 (0 + (done ++ [itT (takeF bb M)]).length) (itV (done ++ [itT (takeF bb M)])) = itV (done ++ [itT (takeF bb M)]) := (by have := cut_all (itV (done ++ [itT (takeF bb M)])); rwa [itV_len] at this)
                 refine aw_weak (fr' := [(6, .view 5 1 0 (done ++ [itT (takeF bb M)]).length), (7, .v (.int .i64 0)), (8, .v (.bool true))]) (ah' := [(5, .row 1 15 42 (itV (done ++ [itT (takeF bb M)])))]) wK (aw_weak (weak_settle (fr' := [(6, .v (.sl (itV (done ++ [itT (takeF bb M)])))), (7, .v (.int .i64 0)), (8, .v (.bool true))]) (ah' := []) 5 rfl .nil rfl (.view rfl hcut (.keep rfl rfl (.keep rfl rfl .nil)))) ?_))
              | (have hN : noneT (takeF bb M) = true := (noneT_eq _).symm.trans r1
                 rw [items_none hN] at hx1 hx2
                 dsimp only at hx1 hx2
                 rw [List.append_nil] at hx1
                 injection hx2 with y1 y2
                 subst hx1 y1 y2
                 have hcut : cut 0 (0 + done.length) (itV done) = itV done := (by have := cut_all (itV done); rwa [itV_len] at this)
                 refine aw_weak (fr' := [(6, .view 5 0 0 done.length), (7, .v (.int .i64 (bb.length : Int))), (8, .v (.bool false))]) (ah' := [(5, .row 0 15 42 (itV done))]) wK (aw_weak (weak_settle (fr' := [(6, .v (.sl (itV done))), (7, .v (.int .i64 (bb.length : Int))), (8, .v (.bool false))]) (ah' := []) 5 rfl .nil rfl (.view rfl hcut (.keep rfl rfl (.keep rfl rfl .nil)))) ?_))
            refine aw_ret ?_
            refine (hret _ _ _ _ _ rfl (.tmp rfl (.tmp rfl (.tmp rfl .nil))) rfl ?_ .nil rfl).1
            rfl
          · refine aw_skip ?_
            refine hK11 _ _ ?_
            clear hK11
            refine aw_region_last ?_
            refine aL z_move ?_
            refine aL z_move ?_
            refine aL (z_slice Try.underlying24 sz_5) ?_
            refine aL z_assign ?_
            refine awl_nil ?_
            have hN : noneT (takeF bb M) = false := (noneT_eq _).symm.trans r1
            have hV : overT (takeF bb M) = false := over_n0 (by omega)
            rw [items_on hN hV] at hx1 hx2
            dsimp only at hx1 hx2
            obtain ⟨h9, h10⟩ := take_on hN hV
            refine hK5 _ _ ⟨(done ++ [itT (takeF bb M)], bb.drop (takeF bb M).n), by simpa using hx1, hx2, by simp; omega⟩ (by simp; omega) ?_
            exact Weak.trans (weak_rever 5 0 rfl) wK
    refine aw_region fun K14 hK14 => ?_
    refine aL z_move ?_
    refine awl_nil (hK14 _ _ ?_)
    clear hK14 K14
    refine aC (fun r3 c3 => ?_) (fun r3 c3 => ?_)
    · refine aw_seq fun K15 hK15 => ?_
      refine aw_region fun K16 hK16 => ?_
      refine aL z_assign ?_
      refine awl_nil (hK16 _ _ ?_)
      clear hK16 K16
      refine aw_block ?_
      refine aw_loop (α := {i : Nat // greetM i (b.drop i) = (k, some r) ∧ i ≤ 24 ∧ i ≤ b.length}) (fun x => ([(0, .v (.sl (bs b))), (1, .v (.int .i64 M)), (9, .v (.int .i64 (x.1 : Int)))], [])) (fun x => 24 - x.1) ⟨0, hg, by omega, by omega⟩ ?_ ?_
      · dsimp only
        exact wK
      · rintro ⟨i, hq, hi24, hil⟩ K17 hK17
        dsimp only
        refine aw_seq fun K18 hK18 => ?_
        refine aw_region fun K19 hK19 => ?_
        refine aL z_move ?_
        refine aL z_move ?_
        first
          | refine aL (z_lenB Try.underlying24) ?_
          | refine aL (z_len Try.underlying24) ?_
          | refine aL (z_lenV Try.underlying24) ?_
        refine aL z_lss ?_
        refine aL z_move ?_
        first
          | refine gL rfl rfl (ev_tmp rfl) (fun hg => z_move) ?_
          | refine hL rfl rfl (ev_tmp rfl) (fun hg => z_move) ?_
        first
          | refine gL rfl rfl (ev_tmp rfl) (fun hg => z_lss) ?_
          | refine hL rfl rfl (ev_tmp rfl) (fun hg => z_lss) ?_
        refine aL z_and ?_
        refine awl_nil (hK19 _ _ ?_)
        clear hK19 K19
        refine aC (fun r4 c4 => ?_) (fun r4 c4 => ?_)
        · refine aw_skip ?_
          refine hK18 _ _ ?_
          clear hK18
          refine aw_seq fun K20 hK20 => ?_
          refine aw_block ?_
          refine aw_regionD mx_all (by kernel_rfl) fun K21 hK21 => ?_
          have hi1 : i < 24 := by omega
          obtain ⟨a, ha, hda, hi⟩ := drop_at (b := b) (i := i) (by omega)
          rw [hda] at hq
          obtain ⟨z, hz⟩ := pre_at hi1
          refine aD z_move ?_
          refine aD z_move ?_
          first
            | refine aD (z_indexAddr Try.underlying24 sz_5) ?_
            | refine aD (z_indexAddrV Try.underlying24 sz_5) ?_
          first
            | refine aD (z_load sz_5) ?_
            | refine aD (z_loadRef sz_5) ?_
            | refine aD (z_loadV sz_5) ?_
          refine aD z_move ?_
          refine aD (z_indexS Try.underlying9) ?_
          refine aD z_neq ?_
          refine awd_nil (by kernel_rfl) (hK21 _ _ ?_)
          clear hK21 K21
          refine aC (fun r5 c5 => ?_) (fun r5 c5 => ?_)
          · have e : none = some r := (greet_bad hq hi1 (fun he => c5 (by rw [hz] at he; injection he with he; rw [he]))).2
            cases e
          · refine aw_skip ?_
            refine hK20 _ _ ?_
            clear hK20
            refine aw_region_last ?_
            refine aL z_move ?_
            refine aL z_add ?_
            refine aL z_assign ?_
            refine awl_nil ?_
            have ez : z = a := UInt8.toNat_inj.1 (by omega)
            subst ez
            refine hK17 _ _ ⟨i + 1, greet_on hq hi1 hz, by omega, by omega⟩ (by dsimp only; omega) ?_
            exact wK
        · refine aw_exit ?_
          refine hK15 _ _ ?_
          clear hK15
          refine aw_seq fun K22 hK22 => ?_
          refine aw_region fun K23 hK23 => ?_
          have hcc : b.drop i = [] ∨ 24 ≤ i := (by rcases c4 with h | h; exact .inl (List.drop_of_length_le (by omega)); right; omega)
          have he2 : some (b.drop i) = some r := (greet_end hq hcc).2
          have he : i = k := (greet_end hq (by rcases c4 with h | h; exact .inl (List.drop_of_length_le (by omega)); right; omega)).1
          refine aL z_move ?_
          first
            | refine aL (z_lenB Try.underlying24) ?_
            | refine aL (z_len Try.underlying24) ?_
            | refine aL (z_lenV Try.underlying24) ?_
          refine aL z_lss ?_
          refine awl_nil (hK23 _ _ ?_)
          clear hK23 K23
          refine aC (fun r6 c6 => ?_) (fun r6 c6 => ?_)
          · omega
          · refine aw_skip ?_
            refine hK22 _ _ ?_
            clear hK22
            refine aw_region_last ?_
            refine aL z_move ?_
            refine aL (z_slice Try.underlying24 sz_5) ?_
            refine aL z_assign ?_
            refine awl_nil ?_
            refine hK3 _ _ ?_
            have h24 : i = 24 := by omega
            subst h24
            rw [← Option.some.inj he2]
            exact wK
    · exact absurd c3 (by decide)
  refine aw_region fun K24 hK24 => ?_
  refine aL z_move ?_
  refine aL z_lss ?_
  refine awl_nil (hK24 _ _ ?_)
  clear hK24 K24
  refine aC (fun r7 c7 => ?_) (fun r7 c7 => ?_)
  · refine aw_region_last ?_
    refine aL z_assign ?_
    refine awl_nil ?_
    refine hK2 _ _ ?_
    exact wK
  · refine aw_skip ?_
    refine hK2 _ _ ?_
    exact wK
end Go.Proofs.Ytigodfnckjidoaa
/- Layer 7: the document's All, whole; the same items. No condition. -/
namespace Go.Proofs.Ytigodfnckjidoaa
set_option linter.all false
open Go Go.RowKit
set_option maxRecDepth 10000
set_option maxHeartbeats 4000000
def allM (b : List UInt8) (m : Int) (p : Bool) : List Itm × Int × Bool :=
  if p = true then (match greetM 0 b with
    | (_, none) => ([badI], 0, true)
    | (k, some r) => if k < 24 then ([], (k : Int), false) else coreM (max m 0) r)
  else coreM (max m 0) b
theorem tup_nilsl {G : Gh} {w : World} {m : Mem} {ds : List D} {u : Value} (h : RepD G w m (.tup (NIL :: ds)) u) : RepD G w m (.tup (.v (.sl []) :: ds)) u := by
  cases h with
  | tup _ us hl h =>
    refine .tup _ us (by rw [hl]; rfl) fun i d u hd hu => ?_
    cases i with
    | zero => injection hd with hd; subst hd; exact nil_sl (h 0 NIL u rfl hu)
    | succ i => exact h (i + 1) d u hd hu
theorem con_All {m : Int} {b : List UInt8} {p : Bool} (hb : b.length ≤ 1000000000) : Con Try.prog 12 [.v (.sl (bs b)), .v (.int .i64 m), .v (.bool p)] [] 0 (allD (allM b m p)) [] := by
  cases p with
  | false => exact con_All0 hb
  | true =>
    cases hg : greetM 0 b with
    | mk k o =>
      cases o with
      | none =>
        have e : allM b m true = ([badI], 0, true) := by unfold allM; rw [if_pos rfl]; simp only [hg]
        rw [e]; exact con_AllA hb hg
      | some r =>
        by_cases hk : k < 24
        · have e : allM b m true = ([], (k : Int), false) := by unfold allM; rw [if_pos rfl]; simp only [hg]; rw [if_pos hk]
          rw [e]
          exact con_weak (con_AllB hb hg hk) fun X _ => weak_one fun G w mm u h => tup_nilsl h
        · have e : allM b m true = coreM (max m 0) r := by unfold allM; rw [if_pos rfl]; simp only [hg]; rw [if_neg hk]
          rw [e]; exact con_AllC hb hg (by omega)
/-- The same items? -/
def sameX (x y : Flt) : Bool := x.is == y.is && x.code == y.code && x.st == y.st
theorem sameX_iff (x y : Flt) : sameX x y = true ↔ x = y := by
  cases x; cases y; simp [sameX, and_assoc]
theorem eqx (x y : Flt) : eqXs [V.bool x.is, V.int .i64 x.code, V.int .i64 x.st] [V.bool y.is, V.int .i64 y.code, V.int .i64 y.st] = sameX x y := by simp [eqXs, eqX, sameX, Bool.and_assoc]
theorem itm_ext {i j : Itm} (h1 : i.x = j.x) (h2 : i.f = j.f) : i = j := by cases i; cases j; simp_all
def sameI : List Itm → List Itm → Bool
  | [], [] => true
  | i :: a, j :: b => sameX i.x j.x && sameB i.f j.f && sameI a b
  | _, _ => false
theorem sameI_iff : ∀ a b : List Itm, sameI a b = true ↔ a = b
  | [], [] => by simp [sameI]
  | [], _ :: _ => by simp [sameI]
  | _ :: _, [] => by simp [sameI]
  | i :: a, j :: b => by
    simp only [sameI, Bool.and_eq_true, sameX_iff, sameB_iff, sameI_iff a b, List.cons.injEq]
    constructor
    · rintro ⟨⟨h1, h2⟩, h3⟩; cases i; cases j; simp_all
    · rintro ⟨rfl, rfl⟩; exact ⟨⟨rfl, rfl⟩, rfl⟩
theorem con_Same7 {a b : List Itm} (ha : a.length ≤ 1000000000) (hl : ∀ i ∈ a, i.f.sets.length ≤ 100000000) : Con Try.prog 13 [.v (.sl (itV a)), .v (.sl (itV b))] [] 0 (.ret (.v (.bool (sameI a b)))) [] := by
  have hA := itV_len a
  have hB := itV_len b
  have key : ¬ a = b → sameI a b = false := fun h => by
    cases hs : sameI a b with
    | false => rfl
    | true => exact absurd ((sameI_iff a b).1 hs) h
  refine con_of Try.func13 rfl (by show _ ≤ 42; simp) fun X Q hP hnt hnp hret hpan => ?_
  obtain ⟨P0, nt0, w0, K0, S0, np0, pin0, df0⟩ := X
  simp only at hP hnt hnp
  subst hP hnp
  obtain rfl : nt0 = 42 := hnt
  refine aw_region fun K1 hK1 => ?_
  refine aL z_assign ?_
  refine awl_nil (hK1 _ _ ?_)
  clear hK1 K1
  refine aw_seq fun K2 hK2 => ?_
  refine aw_region fun K3 hK3 => ?_
  refine aL z_move ?_
  first
    | refine aL (z_lenB Try.underlying29) ?_
    | refine aL (z_len Try.underlying29) ?_
    | refine aL (z_lenV Try.underlying29) ?_
  refine aL z_move ?_
  first
    | refine aL (z_lenB Try.underlying29) ?_
    | refine aL (z_len Try.underlying29) ?_
    | refine aL (z_lenV Try.underlying29) ?_
  refine aL z_neq ?_
  refine awl_nil (hK3 _ _ ?_)
  clear hK3 K3
  refine aC (fun r1 c1 => ?_) (fun r1 c1 => ?_)
  · refine aw_region fun K4 hK4 => ?_
    refine aL z_assign ?_
    refine awl_nil (hK4 _ _ ?_)
    clear hK4 K4
    refine aw_ret ?_
    refine (hret _ _ _ _ _ rfl (.tmp rfl .nil) rfl ?_ .nil rfl).1
    first
      | (have hne : ¬ a = b := (fun h => c1 (by rw [h]))
         rw [key hne]; rfl)
      | (have hh := c3
         have hne : ¬ a = b := (fun h => by
           subst h
           rcases c3 with h | h
           · rw [eqx, (sameX_iff _ _).2 rfl] at h; cases h
           · rw [(sameB_iff _ _).2 rfl] at h; cases h)
         rw [key hne]; rfl)
      | (have he : a = b := (by rw [List.take_of_length_le (by omega), List.take_of_length_le (by omega)] at hq; exact hq)
         rw [(sameI_iff a b).2 he]; rfl)
  · refine aw_skip ?_
    refine hK2 _ _ ?_
    clear hK2
    refine aw_seq fun K5 hK5 => ?_
    refine aw_region fun K6 hK6 => ?_
    refine aL z_assign ?_
    refine awl_nil (hK6 _ _ ?_)
    clear hK6 K6
    refine aw_block ?_
    refine aw_loop (α := {k : Nat // k ≤ a.length ∧ a.take k = b.take k}) (fun x => ([(0, .v (.sl (itV a))), (1, .v (.sl (itV b))), (5, .v (.int .i64 (x.1 : Int)))], [])) (fun x => a.length - x.1) ⟨0, by omega, rfl⟩ ?_ ?_
    · dsimp only
      exact wK
    · rintro ⟨k, hk, hq⟩ K7 hK7
      dsimp only
      refine aw_seq fun K8 hK8 => ?_
      refine aw_region fun K9 hK9 => ?_
      refine aL z_move ?_
      refine aL z_move ?_
      first
        | refine aL (z_lenB Try.underlying29) ?_
        | refine aL (z_len Try.underlying29) ?_
        | refine aL (z_lenV Try.underlying29) ?_
      refine aL z_lss ?_
      refine awl_nil (hK9 _ _ ?_)
      clear hK9 K9
      refine aC (fun r2 c2 => ?_) (fun r2 c2 => ?_)
      · refine aw_skip ?_
        refine hK8 _ _ ?_
        clear hK8
        refine aw_seq fun K10 hK10 => ?_
        refine aw_block ?_
        refine aw_regionD mx_all (by kernel_rfl) fun K11 hK11 => ?_
        have hlt : k < a.length := by omega
        have hlt' : k < b.length := by omega
        have hi : (itV a)[k]? = some a[k].vs := itV_get hlt
        have hi' : (itV b)[k]? = some b[k].vs := itV_get hlt'
        refine aD z_move ?_
        refine aD z_move ?_
        first
          | refine aD (z_indexAddr Try.underlying29 sz_42) ?_
          | refine aD (z_indexAddrV Try.underlying29 sz_42) ?_
        first
          | refine aD (z_fieldAddr fo_42_1) ?_
          | refine aD (z_fieldRef fo_42_1) ?_
          | refine aD (z_fieldV fo_42_1) ?_
        first
          | refine aD (z_load sz_37) ?_
          | refine aD (z_loadRef sz_37) ?_
          | refine aD (z_loadV sz_37) ?_
        refine aD z_move ?_
        refine aD z_move ?_
        first
          | refine aD (z_indexAddr Try.underlying29 sz_42) ?_
          | refine aD (z_indexAddrV Try.underlying29 sz_42) ?_
        first
          | refine aD (z_fieldAddr fo_42_1) ?_
          | refine aD (z_fieldRef fo_42_1) ?_
          | refine aD (z_fieldV fo_42_1) ?_
        first
          | refine aD (z_load sz_37) ?_
          | refine aD (z_loadRef sz_37) ?_
          | refine aD (z_loadV sz_37) ?_
        refine aD (z_neqA sk_37) ?_
        refine aD z_move ?_
        first
          | refine gD rfl rfl (ev_tmp rfl) (fun hg => z_move) ?_
          | refine hD rfl rfl (ev_tmp rfl) (fun hg => z_move) ?_
        first
          | refine gD rfl rfl (ev_tmp rfl) (fun hg => z_move) ?_
          | refine hD rfl rfl (ev_tmp rfl) (fun hg => z_move) ?_
        first
          | refine gD rfl rfl (ev_tmp rfl) (fun hg => z_indexAddr Try.underlying29 sz_42) ?_
          | refine gD rfl rfl (ev_tmp rfl) (fun hg => z_indexAddrV Try.underlying29 sz_42) ?_
          | refine hD rfl rfl (ev_tmp rfl) (fun hg => z_indexAddr Try.underlying29 sz_42) ?_
          | refine hD rfl rfl (ev_tmp rfl) (fun hg => z_indexAddrV Try.underlying29 sz_42) ?_
        first
          | refine gD rfl rfl (ev_tmp rfl) (fun hg => z_fieldAddr fo_42_0) ?_
          | refine gD rfl rfl (ev_tmp rfl) (fun hg => z_fieldRef fo_42_0) ?_
          | refine gD rfl rfl (ev_tmp rfl) (fun hg => z_fieldV fo_42_0) ?_
          | refine hD rfl rfl (ev_tmp rfl) (fun hg => z_fieldAddr fo_42_0) ?_
          | refine hD rfl rfl (ev_tmp rfl) (fun hg => z_fieldRef fo_42_0) ?_
          | refine hD rfl rfl (ev_tmp rfl) (fun hg => z_fieldV fo_42_0) ?_
        first
          | refine gD rfl rfl (ev_tmp rfl) (fun hg => z_load sz_40) ?_
          | refine gD rfl rfl (ev_tmp rfl) (fun hg => z_loadRef sz_40) ?_
          | refine gD rfl rfl (ev_tmp rfl) (fun hg => z_loadV sz_40) ?_
          | refine hD rfl rfl (ev_tmp rfl) (fun hg => z_load sz_40) ?_
          | refine hD rfl rfl (ev_tmp rfl) (fun hg => z_loadRef sz_40) ?_
          | refine hD rfl rfl (ev_tmp rfl) (fun hg => z_loadV sz_40) ?_
        first
          | refine gD rfl rfl (ev_tmp rfl) (fun hg => z_move) ?_
          | refine hD rfl rfl (ev_tmp rfl) (fun hg => z_move) ?_
        first
          | refine gD rfl rfl (ev_tmp rfl) (fun hg => z_move) ?_
          | refine hD rfl rfl (ev_tmp rfl) (fun hg => z_move) ?_
        first
          | refine gD rfl rfl (ev_tmp rfl) (fun hg => z_indexAddr Try.underlying29 sz_42) ?_
          | refine gD rfl rfl (ev_tmp rfl) (fun hg => z_indexAddrV Try.underlying29 sz_42) ?_
          | refine hD rfl rfl (ev_tmp rfl) (fun hg => z_indexAddr Try.underlying29 sz_42) ?_
          | refine hD rfl rfl (ev_tmp rfl) (fun hg => z_indexAddrV Try.underlying29 sz_42) ?_
        first
          | refine gD rfl rfl (ev_tmp rfl) (fun hg => z_fieldAddr fo_42_0) ?_
          | refine gD rfl rfl (ev_tmp rfl) (fun hg => z_fieldRef fo_42_0) ?_
          | refine gD rfl rfl (ev_tmp rfl) (fun hg => z_fieldV fo_42_0) ?_
          | refine hD rfl rfl (ev_tmp rfl) (fun hg => z_fieldAddr fo_42_0) ?_
          | refine hD rfl rfl (ev_tmp rfl) (fun hg => z_fieldRef fo_42_0) ?_
          | refine hD rfl rfl (ev_tmp rfl) (fun hg => z_fieldV fo_42_0) ?_
        first
          | refine gD rfl rfl (ev_tmp rfl) (fun hg => z_load sz_40) ?_
          | refine gD rfl rfl (ev_tmp rfl) (fun hg => z_loadRef sz_40) ?_
          | refine gD rfl rfl (ev_tmp rfl) (fun hg => z_loadV sz_40) ?_
          | refine hD rfl rfl (ev_tmp rfl) (fun hg => z_load sz_40) ?_
          | refine hD rfl rfl (ev_tmp rfl) (fun hg => z_loadRef sz_40) ?_
          | refine hD rfl rfl (ev_tmp rfl) (fun hg => z_loadV sz_40) ?_
        first
          | refine gD rfl rfl (ev_tmp rfl) (fun hg => z_call0 (eC (eC .nil)) en_18 (con_Same (f := a[k].f) (g := b[k].f) (hl _ (List.getElem_mem _)))) ?_
          | refine hD rfl rfl (ev_tmp rfl) (fun hg => z_call0 (eC (eC .nil)) en_18 (con_Same (f := a[k].f) (g := b[k].f) (hl _ (List.getElem_mem _)))) ?_
        first
          | refine gD rfl rfl (ev_tmp rfl) (fun hg => z_not) ?_
          | refine hD rfl rfl (ev_tmp rfl) (fun hg => z_not) ?_
        refine aD z_or ?_
        refine awd_nil (by kernel_rfl) (hK11 _ _ ?_)
        clear hK11 K11
        refine aC (fun r3 c3 => ?_) (fun r3 c3 => ?_)
        · refine aw_region fun K12 hK12 => ?_
          refine aL z_assign ?_
          refine awl_nil (hK12 _ _ ?_)
          clear hK12 K12
          refine aw_ret ?_
          refine (hret _ _ _ _ _ rfl (.tmp rfl .nil) rfl ?_ .nil rfl).1
          first
            | (have hne : ¬ a = b := (fun h => c1 (by rw [h]))
               rw [key hne]; rfl)
            | (have hh := c3
               have hne : ¬ a = b := (fun h => by
                 subst h
                 rcases c3 with h | h
                 · rw [eqx, (sameX_iff _ _).2 rfl] at h; cases h
                 · rw [(sameB_iff _ _).2 rfl] at h; cases h)
               rw [key hne]; rfl)
            | (have he : a = b := (by rw [List.take_of_length_le (by omega), List.take_of_length_le (by omega)] at hq; exact hq)
               rw [(sameI_iff a b).2 he]; rfl)
        · refine aw_skip ?_
          refine hK10 _ _ ?_
          clear hK10
          refine aw_region_last ?_
          refine aL z_move ?_
          refine aL z_add ?_
          refine aL z_assign ?_
          refine awl_nil ?_
          have e3 : sameX a[k].x b[k].x = true := (eqx _ _).symm.trans c3.1
          have e4 : a[k] = b[k] := itm_ext ((sameX_iff _ _).1 e3) ((sameB_iff _ _).1 c3.2)
          refine hK7 _ _ ⟨k + 1, by omega, by rw [List.take_add_one, List.take_add_one, hq, List.getElem?_eq_getElem hlt, List.getElem?_eq_getElem hlt', e4]⟩ (by dsimp only; omega) ?_
          exact wK
      · refine aw_exit ?_
        refine hK5 _ _ ?_
        clear hK5
        refine aw_region fun K13 hK13 => ?_
        refine aL z_assign ?_
        refine awl_nil (hK13 _ _ ?_)
        clear hK13 K13
        refine aw_ret ?_
        refine (hret _ _ _ _ _ rfl (.tmp rfl .nil) rfl ?_ .nil rfl).1
        first
          | (have hne : ¬ a = b := (fun h => c1 (by rw [h]))
             rw [key hne]; rfl)
          | (have hh := c3
             have hne : ¬ a = b := (fun h => by
               subst h
               rcases c3 with h | h
               · rw [eqx, (sameX_iff _ _).2 rfl] at h; cases h
               · rw [(sameB_iff _ _).2 rfl] at h; cases h)
             rw [key hne]; rfl)
          | (have he : a = b := (by rw [List.take_of_length_le (by omega), List.take_of_length_le (by omega)] at hq; exact hq)
             rw [(sameI_iff a b).2 he]; rfl)
end Go.Proofs.Ytigodfnckjidoaa
