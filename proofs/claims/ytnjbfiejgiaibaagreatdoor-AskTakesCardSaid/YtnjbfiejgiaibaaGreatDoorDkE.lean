/- Chapter 14: the document's Take, walked. No condition but on lengths. -/
import Derived.Test.YtnjbfiejgiaibaaGreatDoorHdSLToDkD
namespace Go.Proofs.YtnjbfiejgiaibaaGreatDoor
set_option linter.all false
open Go Go.RowKit
set_option maxRecDepth 10000
set_option maxHeartbeats 4000000
theorem con_rTake {b : List UInt8} (hb : b.length ≤ 1000000000) : Con Tryz.prog 7 [.v (.sl (bs b))] [] 0 (.ret (takeD b.length (takeA b))) [] := by
  have hbl := bs_length b
  refine con_of Tryz.func7 rfl (by show _ ≤ 101; simp) fun X Q hP hnt hnp hret hpan => ?_
  obtain ⟨P0, nt0, w0, K0, S0, np0, pin0, df0⟩ := X
  simp only at hP hnt hnp
  subst hP hnp
  obtain rfl : nt0 = 101 := hnt
  refine aw_region fun K1 hK1 => ?_
  refine aL (z_alloc 0 zc_26 zl_26) ?_
  refine aL z_assign ?_
  refine aL z_assign ?_
  refine awl_nil (hK1 _ _ ?_)
  clear hK1 K1
  refine aw_region fun K2 hK2 => ?_
  refine aL (z_build .nil pl_26 zc_26 zl_26) ?_
  refine aL (z_alloc 1 zc_26 zl_26) ?_
  refine aL (z_store sz_26) ?_
  refine awl_nil (hK2 _ _ ?_)
  clear hK2 K2
  refine aw_region fun K3 hK3 => ?_
  refine aL z_move ?_
  obtain ⟨s, n1, e1, hD1, hsl1, hR1⟩ := lineU b (k := 0) (Nat.zero_le _)
  have hcL := con_rLine (b := b) (k := 0) (Nat.zero_le _) hb
  rw [hD1] at hcL
  rw [List.drop_zero] at hR1
  first
    | refine aL (z_call0 (eC (eC .nil)) en_23 (hcL)) ?_
    | refine aL (z_call0 (eC (eC .nil)) en_23 (hcM)) ?_
  refine aL z_move ?_
  refine aL z_extract ?_
  refine aL z_extract ?_
  refine aL z_extract ?_
  refine aL z_assign ?_
  refine aL z_assign ?_
  refine aL z_assign ?_
  refine awl_nil (hK3 _ _ ?_)
  clear hK3 K3
  refine aw_seq fun K4 hK4 => ?_
  refine aw_region fun K5 hK5 => ?_
  refine aL z_move ?_
  refine aL z_neq ?_
  refine awl_nil (hK5 _ _ ?_)
  clear hK5 K5
  refine aC (fun r1 c1 => ?_) (fun r1 c1 => ?_)
  · refine aw_region fun K6 hK6 => ?_
    first
      | refine aL (z_load sz_26) ?_
      | refine aL (z_loadRef sz_26) ?_
      | refine aL (z_loadV sz_26) ?_
    refine aL z_move ?_
    refine aL (z_store sz_26) ?_
    refine aL z_assign ?_
    refine aL z_assign ?_
    refine awl_nil (hK6 _ _ ?_)
    clear hK6 K6
    refine aw_ret ?_
    refine (hret _ _ _ _ _ rfl (rCe sz_26 (.tmp rfl (.tmp rfl .nil))) rfl ?_ .nil rfl).1
    first
      | (have hz : takeA b = .error e1 := take_e1 (by
           rcases hR1 with ⟨-, h⟩ | ⟨h, -⟩
           · exact h
           · exact absurd h (by assumption))
         rw [hz]; rfl)
      | (have hz : takeA b = .error 150 := take_e2 hl1 (hRF.resolve_right (fun h => by rw [h.1] at c2; exact absurd c2 (by decide))).2
         rw [hz]; rfl)
      | (have hz : takeA b = .error e2 := hx.trans (hdrF_e (by
           rcases hR2 with ⟨-, h⟩ | ⟨h, -⟩
           · exact h
           · exact absurd h (by assumption)))
         rw [hz]; rfl)
      | (have hz : takeA b = .error 150 := by
           rw [hx, hdrF_o hq1, flds_bad c4 (hRD.resolve_right (fun h => by rw [h.1] at c7; exact absurd c7 (by decide))).2]; rfl
         rw [hz]; rfl)
      | (have hz : takeA b = .error 151 := hx2.trans (tail_e (by rw [hbd, if_pos (by simpa [or_assoc] using c5)]))
         rw [hz]; rfl)
      | (have hz : takeA b = .error 12 := hx2.trans (tail_e (by rw [hbd, if_neg (by simpa [and_assoc] using c5), if_pos (by omega)]))
         rw [hz]; rfl)
      | (have hz := hx2.trans (tail_o (b := (b.drop n2).take nn) (by rw [hbd, if_neg (by simpa [and_assoc] using c5), if_neg (by omega)]))
         rw [hz]
         have hu : b.length - ((b.drop n2).drop ((b.drop n2).take nn).length).length = n2 + nn := by simp; omega
         simp only [takeD, hu]
         rfl)
  · refine aw_skip ?_
    refine hK4 _ _ ?_
    clear hK4
    refine aw_region fun K7 hK7 => ?_
    refine aL z_move ?_
    have hl1 : lnM b = .ok (s, b.drop n1) ∧ n1 = 0 + s.length + 2 ∧ n1 ≤ b.length := by
      rcases hR1 with ⟨h, -⟩ | ⟨-, h⟩
      · exact absurd (by omega) h
      · exact h
    obtain ⟨hl1, hn1, hnb⟩ := hl1
    obtain ⟨m, t, ok1, hDF, hRF⟩ := fstU s
    have hcF := con_rfirst (s := s) (by omega)
    rw [hDF] at hcF
    refine aL (z_call0 (eC .nil) en_24 (hcF)) ?_
    refine aL z_move ?_
    refine aL z_extract ?_
    refine aL z_extract ?_
    refine aL (z_alloc 2 zc_26 zl_26) ?_
    refine aL (z_store sz_26) ?_
    refine aL z_assign ?_
    refine awl_nil (hK7 _ _ ?_)
    clear hK7 K7
    refine aw_seq fun K8 hK8 => ?_
    refine aw_region fun K9 hK9 => ?_
    refine aL z_move ?_
    refine aL z_not ?_
    refine awl_nil (hK9 _ _ ?_)
    clear hK9 K9
    refine aC (fun r2 c2 => ?_) (fun r2 c2 => ?_)
    · refine aw_region fun K10 hK10 => ?_
      first
        | refine aL (z_load sz_26) ?_
        | refine aL (z_loadRef sz_26) ?_
        | refine aL (z_loadV sz_26) ?_
      refine aL (z_store sz_26) ?_
      refine aL z_assign ?_
      refine aL z_assign ?_
      refine awl_nil (hK10 _ _ ?_)
      clear hK10 K10
      refine aw_ret ?_
      refine (hret _ _ _ _ _ rfl (rCe sz_26 (.tmp rfl (.tmp rfl .nil))) rfl ?_ .nil rfl).1
      first
        | (have hz : takeA b = .error e1 := take_e1 (by
             rcases hR1 with ⟨-, h⟩ | ⟨h, -⟩
             · exact h
             · exact absurd h (by assumption))
           rw [hz]; rfl)
        | (have hz : takeA b = .error 150 := take_e2 hl1 (hRF.resolve_right (fun h => by rw [h.1] at c2; exact absurd c2 (by decide))).2
           rw [hz]; rfl)
        | (have hz : takeA b = .error e2 := hx.trans (hdrF_e (by
             rcases hR2 with ⟨-, h⟩ | ⟨h, -⟩
             · exact h
             · exact absurd h (by assumption)))
           rw [hz]; rfl)
        | (have hz : takeA b = .error 150 := by
             rw [hx, hdrF_o hq1, flds_bad c4 (hRD.resolve_right (fun h => by rw [h.1] at c7; exact absurd c7 (by decide))).2]; rfl
           rw [hz]; rfl)
        | (have hz : takeA b = .error 151 := hx2.trans (tail_e (by rw [hbd, if_pos (by simpa [or_assoc] using c5)]))
           rw [hz]; rfl)
        | (have hz : takeA b = .error 12 := hx2.trans (tail_e (by rw [hbd, if_neg (by simpa [and_assoc] using c5), if_pos (by omega)]))
           rw [hz]; rfl)
        | (have hz := hx2.trans (tail_o (b := (b.drop n2).take nn) (by rw [hbd, if_neg (by simpa [and_assoc] using c5), if_neg (by omega)]))
           rw [hz]
           have hu : b.length - ((b.drop n2).drop ((b.drop n2).take nn).length).length = n2 + nn := by simp; omega
           simp only [takeD, hu]
           rfl)
    · refine aw_skip ?_
      refine hK8 _ _ ?_
      clear hK8
      refine aw_region fun K11 hK11 => ?_
      have hf1 : firstM s = some (m, t) := by
        rcases hRF with ⟨h, -⟩ | ⟨-, h⟩
        · rw [h] at c2; simp at c2
        · exact h
      have hA : takeA b = hdrF m t [] (b.drop n1) := take_h hl1 hf1
      refine aL z_assign ?_
      refine awl_nil (hK11 _ _ ?_)
      clear hK11 K11
      refine aw_weak (weak_nil (t := 11) 3 3 46 (by decide) (Nat.zero_le _) rfl rfl) ?_
      refine aw_seq fun K12 hK12 => ?_
      refine aw_block ?_
      refine aw_loop (α := {x : List Fd × Nat // takeA b = hdrF m t x.1 (b.drop x.2) ∧ x.2 ≤ b.length ∧ szM x.1 + 32 ≤ 34 * x.2}) (fun x => ([(0, .v (.sl (bs b))), (2, .ptr 0 0), (5, .ptr 1 0), (7, .v (.int .i64 (x.1.2 : Int))), (9, .ptr 2 0), (11, .view 3 0 0 x.1.1.length)], [(0, .box akZ), (1, .box akZ), (2, .box (Ak.csX ⟨m, t, [], []⟩ NIL)), (3, .row 0 3 46 (fdV x.1.1))])) (fun x => b.length - x.1.2) ⟨([], n1), hA, hnb, by simp [szM]; omega⟩ ?_ ?_
      · dsimp only
        exact wK
      · rintro ⟨⟨fs, k⟩, hx, hk, hsz⟩ K13 hK13
        dsimp only
        dsimp only at hx hk hsz
        have hfl := szM_len fs
        refine aw_block ?_
        refine aw_region fun K14 hK14 => ?_
        refine aL z_move ?_
        refine aL z_move ?_
        obtain ⟨s2, n2, e2, hD2, hsl2, hR2⟩ := lineU b (k := k) hk
        have hcM := con_rLine (b := b) (k := k) hk hb
        rw [hD2] at hcM
        first
          | refine aL (z_call0 (eC (eC .nil)) en_23 (hcL)) ?_
          | refine aL (z_call0 (eC (eC .nil)) en_23 (hcM)) ?_
        refine aL z_move ?_
        refine aL z_extract ?_
        refine aL z_extract ?_
        refine aL z_extract ?_
        refine aL z_assign ?_
        refine aL z_assign ?_
        refine aL z_assign ?_
        refine awl_nil (hK14 _ _ ?_)
        clear hK14 K14
        refine aw_seq fun K15 hK15 => ?_
        refine aw_region fun K16 hK16 => ?_
        refine aL z_move ?_
        refine aL z_neq ?_
        refine awl_nil (hK16 _ _ ?_)
        clear hK16 K16
        refine aC (fun r3 c3 => ?_) (fun r3 c3 => ?_)
        · refine aw_region fun K17 hK17 => ?_
          first
            | refine aL (z_load sz_26) ?_
            | refine aL (z_loadRef sz_26) ?_
            | refine aL (z_loadV sz_26) ?_
          refine aL z_move ?_
          refine aL (z_store sz_26) ?_
          refine aL z_assign ?_
          refine aL z_assign ?_
          refine awl_nil (hK17 _ _ ?_)
          clear hK17 K17
          refine aw_ret ?_
          refine (hret _ _ _ _ _ rfl (rCe sz_26 (.tmp rfl (.tmp rfl .nil))) rfl ?_ .nil rfl).1
          first
            | (have hz : takeA b = .error e1 := take_e1 (by
                 rcases hR1 with ⟨-, h⟩ | ⟨h, -⟩
                 · exact h
                 · exact absurd h (by assumption))
               rw [hz]; rfl)
            | (have hz : takeA b = .error 150 := take_e2 hl1 (hRF.resolve_right (fun h => by rw [h.1] at c2; exact absurd c2 (by decide))).2
               rw [hz]; rfl)
            | (have hz : takeA b = .error e2 := hx.trans (hdrF_e (by
                 rcases hR2 with ⟨-, h⟩ | ⟨h, -⟩
                 · exact h
                 · exact absurd h (by assumption)))
               rw [hz]; rfl)
            | (have hz : takeA b = .error 150 := by
                 rw [hx, hdrF_o hq1, flds_bad c4 (hRD.resolve_right (fun h => by rw [h.1] at c7; exact absurd c7 (by decide))).2]; rfl
               rw [hz]; rfl)
            | (have hz : takeA b = .error 151 := hx2.trans (tail_e (by rw [hbd, if_pos (by simpa [or_assoc] using c5)]))
               rw [hz]; rfl)
            | (have hz : takeA b = .error 12 := hx2.trans (tail_e (by rw [hbd, if_neg (by simpa [and_assoc] using c5), if_pos (by omega)]))
               rw [hz]; rfl)
            | (have hz := hx2.trans (tail_o (b := (b.drop n2).take nn) (by rw [hbd, if_neg (by simpa [and_assoc] using c5), if_neg (by omega)]))
               rw [hz]
               have hu : b.length - ((b.drop n2).drop ((b.drop n2).take nn).length).length = n2 + nn := by simp; omega
               simp only [takeD, hu]
               rfl)
        · refine aw_skip ?_
          refine hK15 _ _ ?_
          clear hK15
          refine aw_seq fun K18 hK18 => ?_
          refine aw_region fun K19 hK19 => ?_
          refine aL z_move ?_
          refine aL z_eqlS ?_
          refine awl_nil (hK19 _ _ ?_)
          clear hK19 K19
          refine aC (fun r4 c4 => ?_) (fun r4 c4 => ?_)
          · refine aw_exit ?_
            refine hK12 _ _ ?_
            clear hK12
            refine aw_region fun K20 hK20 => ?_
            have hq : lnM (b.drop k) = .ok (s2, b.drop n2) ∧ n2 = k + s2.length + 2 ∧ n2 ≤ b.length := by
              rcases hR2 with ⟨h, -⟩ | ⟨-, h⟩
              · exact absurd (by omega) h
              · exact h
            obtain ⟨hq1, hq2, hq3⟩ := hq
            have hs2 : s2 = [] := c4
            have hx2 : takeA b = tailM m t (.ok (fs, b.drop n2)) := by rw [hx, hdrF_o hq1, hs2, flds_end]
            obtain ⟨nn, hn⟩ : ∃ n : Nat, (lenM fs).1 = (n : Int) := ⟨(lenM fs).1.toNat, by have := lenGo_nn (valuesM fs [99, 111, 110, 116, 101, 110, 116, 45, 108, 101, 110, 103, 116, 104]) 0 false (by decide); exact (Int.toNat_of_nonneg this).symm⟩
            obtain ⟨tl, htl⟩ : ∃ b, (lenM fs).2.1 = b := ⟨_, rfl⟩
            obtain ⟨e, he⟩ : ∃ e, (lenM fs).2.2 = e := ⟨_, rfl⟩
            have hcl := con_rLength (l := fs) (by omega)
            rw [hn, htl, he] at hcl
            have hcA := con_Among (n := [116, 114, 97, 110, 115, 102, 101, 114, 45, 101, 110, 99, 111, 100, 105, 110, 103]) (ks := fs.map (·.n)) (by decide) (by rw [List.length_map]; omega) (fun k hk => by obtain ⟨f, hf, rfl⟩ := List.mem_map.1 hk; have := szM_mem hf; omega)
            rw [show lowM [116, 114, 97, 110, 115, 102, 101, 114, 45, 101, 110, 99, 111, 100, 105, 110, 103] = lowM kTE from rfl, among_hv] at hcA
            have hbd : bodyM fs (b.drop n2) = if ¬ e = 0 ∨ 2147483647 < (nn : Int) ∨ 0 < (hvM fs kTE).length then .error 151 else if ((b.length - n2 : Nat) : Int) < (nn : Int) then .error 12 else .ok ((b.drop n2).take nn) := by unfold bodyM; rw [hn, he, List.length_drop]; rfl
            refine awl_weak (fr' := [(0, .v (.sl (bs b))), (2, .ptr 0 0), (5, .ptr 1 0), (7, .v (.int .i64 (n2 : Int))), (9, .ptr 2 0), (11, .v (.sl (fdV fs)))]) (ah' := [(0, .box akZ), (1, .box akZ), (2, .box (Ak.csX ⟨m, t, [], []⟩ NIL))]) (weak_all (some (3, 0, fdV fs)) ⟨rfl, _, _, rfl⟩ (.box rfl (.same rfl) (.box rfl (.same rfl) (.box rfl (.same rfl) .nil))) (.cons rfl (.keep rfl) (.cons rfl (.keep rfl) (.cons rfl (.keep rfl) (.cons rfl (.keep rfl) (.cons rfl (.keep rfl) (.cons rfl (.view rfl (cutW (by simp))) .nil))))))) ?_
            refine aL z_move ?_
            refine aL (z_call0 (eC .nil) en_26 (hcl)) ?_
            refine aL z_move ?_
            refine aL z_extract ?_
            refine aL z_extract ?_
            refine aL z_extract ?_
            refine aL z_assign ?_
            refine aL z_assign ?_
            refine aL z_assign ?_
            refine awl_nil (hK20 _ _ ?_)
            clear hK20 K20
            refine aw_seq fun K21 hK21 => ?_
            refine aw_region fun K22 hK22 => ?_
            refine aL z_move ?_
            refine aL z_neq ?_
            refine aL z_move ?_
            first
              | refine gL rfl rfl (ev_tmp rfl) (fun hg => z_move) ?_
              | refine hL rfl rfl (ev_tmp rfl) (fun hg => z_move) ?_
            first
              | refine gL rfl rfl (ev_tmp rfl) (fun hg => z_gtr) ?_
              | refine hL rfl rfl (ev_tmp rfl) (fun hg => z_gtr) ?_
            refine aL z_or ?_
            refine aL z_move ?_
            first
              | refine gL rfl rfl (ev_tmp rfl) (fun hg => z_move) ?_
              | refine hL rfl rfl (ev_tmp rfl) (fun hg => z_move) ?_
            first
              | refine gL rfl rfl (ev_tmp rfl) (fun hg => z_call0 (eC .nil) en_28 (con_names (l := fs) (by omega))) ?_
              | refine hL rfl rfl (ev_tmp rfl) (fun hg => z_call0 (eC .nil) en_28 (con_names (l := fs) (by omega))) ?_
            first
              | refine gL rfl rfl (ev_tmp rfl) (fun hg => z_call0 (eC (eC .nil)) en_27 (hcA)) ?_
              | refine hL rfl rfl (ev_tmp rfl) (fun hg => z_call0 (eC (eC .nil)) en_27 (hcA)) ?_
            refine aL z_or ?_
            refine awl_nil (hK22 _ _ ?_)
            clear hK22 K22
            refine aC (fun r5 c5 => ?_) (fun r5 c5 => ?_)
            · refine aw_region fun K23 hK23 => ?_
              first
                | refine aL (z_load sz_26) ?_
                | refine aL (z_loadRef sz_26) ?_
                | refine aL (z_loadV sz_26) ?_
              refine aL (z_store sz_26) ?_
              refine aL z_assign ?_
              refine aL z_assign ?_
              refine awl_nil (hK23 _ _ ?_)
              clear hK23 K23
              refine aw_ret ?_
              refine (hret _ _ _ _ _ rfl (rCe sz_26 (.tmp rfl (.tmp rfl .nil))) rfl ?_ .nil rfl).1
              first
                | (have hz : takeA b = .error e1 := take_e1 (by
                     rcases hR1 with ⟨-, h⟩ | ⟨h, -⟩
                     · exact h
                     · exact absurd h (by assumption))
                   rw [hz]; rfl)
                | (have hz : takeA b = .error 150 := take_e2 hl1 (hRF.resolve_right (fun h => by rw [h.1] at c2; exact absurd c2 (by decide))).2
                   rw [hz]; rfl)
                | (have hz : takeA b = .error e2 := hx.trans (hdrF_e (by
                     rcases hR2 with ⟨-, h⟩ | ⟨h, -⟩
                     · exact h
                     · exact absurd h (by assumption)))
                   rw [hz]; rfl)
                | (have hz : takeA b = .error 150 := by
                     rw [hx, hdrF_o hq1, flds_bad c4 (hRD.resolve_right (fun h => by rw [h.1] at c7; exact absurd c7 (by decide))).2]; rfl
                   rw [hz]; rfl)
                | (have hz : takeA b = .error 151 := hx2.trans (tail_e (by rw [hbd, if_pos (by simpa [or_assoc] using c5)]))
                   rw [hz]; rfl)
                | (have hz : takeA b = .error 12 := hx2.trans (tail_e (by rw [hbd, if_neg (by simpa [and_assoc] using c5), if_pos (by omega)]))
                   rw [hz]; rfl)
                | (have hz := hx2.trans (tail_o (b := (b.drop n2).take nn) (by rw [hbd, if_neg (by simpa [and_assoc] using c5), if_neg (by omega)]))
                   rw [hz]
                   have hu : b.length - ((b.drop n2).drop ((b.drop n2).take nn).length).length = n2 + nn := by simp; omega
                   simp only [takeD, hu]
                   rfl)
            · refine aw_skip ?_
              refine hK21 _ _ ?_
              clear hK21
              refine aw_seq fun K24 hK24 => ?_
              refine aw_region fun K25 hK25 => ?_
              refine aL z_move ?_
              first
                | refine aL (z_lenB Tryz.underlying22) ?_
                | refine aL (z_len Tryz.underlying22) ?_
                | refine aL (z_lenV Tryz.underlying22) ?_
              refine aL z_move ?_
              refine aL z_sub ?_
              refine aL z_move ?_
              refine aL z_lss ?_
              refine awl_nil (hK25 _ _ ?_)
              clear hK25 K25
              refine aC (fun r6 c6 => ?_) (fun r6 c6 => ?_)
              · refine aw_region fun K26 hK26 => ?_
                first
                  | refine aL (z_load sz_26) ?_
                  | refine aL (z_loadRef sz_26) ?_
                  | refine aL (z_loadV sz_26) ?_
                refine aL (z_store sz_26) ?_
                refine aL z_assign ?_
                refine aL z_assign ?_
                refine awl_nil (hK26 _ _ ?_)
                clear hK26 K26
                refine aw_ret ?_
                refine (hret _ _ _ _ _ rfl (rCe sz_26 (.tmp rfl (.tmp rfl .nil))) rfl ?_ .nil rfl).1
                first
                  | (have hz : takeA b = .error e1 := take_e1 (by
                       rcases hR1 with ⟨-, h⟩ | ⟨h, -⟩
                       · exact h
                       · exact absurd h (by assumption))
                     rw [hz]; rfl)
                  | (have hz : takeA b = .error 150 := take_e2 hl1 (hRF.resolve_right (fun h => by rw [h.1] at c2; exact absurd c2 (by decide))).2
                     rw [hz]; rfl)
                  | (have hz : takeA b = .error e2 := hx.trans (hdrF_e (by
                       rcases hR2 with ⟨-, h⟩ | ⟨h, -⟩
                       · exact h
                       · exact absurd h (by assumption)))
                     rw [hz]; rfl)
                  | (have hz : takeA b = .error 150 := by
                       rw [hx, hdrF_o hq1, flds_bad c4 (hRD.resolve_right (fun h => by rw [h.1] at c7; exact absurd c7 (by decide))).2]; rfl
                     rw [hz]; rfl)
                  | (have hz : takeA b = .error 151 := hx2.trans (tail_e (by rw [hbd, if_pos (by simpa [or_assoc] using c5)]))
                     rw [hz]; rfl)
                  | (have hz : takeA b = .error 12 := hx2.trans (tail_e (by rw [hbd, if_neg (by simpa [and_assoc] using c5), if_pos (by omega)]))
                     rw [hz]; rfl)
                  | (have hz := hx2.trans (tail_o (b := (b.drop n2).take nn) (by rw [hbd, if_neg (by simpa [and_assoc] using c5), if_neg (by omega)]))
                     rw [hz]
                     have hu : b.length - ((b.drop n2).drop ((b.drop n2).take nn).length).length = n2 + nn := by simp; omega
                     simp only [takeD, hu]
                     rfl)
              · refine aw_skip ?_
                refine hK24 _ _ ?_
                clear hK24
                refine aw_region fun K27 hK27 => ?_
                have hle : n2 + nn ≤ b.length := by omega
                refine aL z_move ?_
                refine aL z_move ?_
                refine aL z_move ?_
                refine aL z_move ?_
                refine aL z_add ?_
                refine aL (z_slice Tryz.underlying22 sz_5 (i := some n2) (j := some (n2 + nn)) (hlo := .yes (ev_tmp rfl) rfl) (hhi := .yes (ev_tmp rfl) (by omega)) (c' := bs ((b.drop n2).take nn)) (hc := by rw [bs_cut]; show bs ((b.drop n2).take (n2 + nn - n2)) = _; rw [show n2 + nn - n2 = nn from by omega])) ?_
                first
                  | refine aL (z_convS Tryz.underlying22 Tryz.underlying5 Tryz.underlying9) ?_
                  | refine aL (z_convSV Tryz.underlying22 Tryz.underlying5 Tryz.underlying9) ?_
                first
                  | refine aL (z_fieldAddr fo_26_3) ?_
                  | refine aL (z_fieldRef fo_26_3) ?_
                  | refine aL (z_fieldV fo_26_3) ?_
                refine aL (z_store sz_9) ?_
                refine awl_nil (hK27 _ _ ?_)
                clear hK27 K27
                refine aw_region fun K28 hK28 => ?_
                refine aL z_move ?_
                refine aL (z_lits (pC .nil) Tryz.underlying68 sz_9 zc_9 zl_9 (c := [[V.str kCL]])) ?_
                refine aL (z_call0 (eC (eC .nil)) en_29 (con_rWithout (l := fs) (names := [kCL]) (by omega) (fun f hf => by have := szM_mem hf; omega) (by decide) (by decide))) ?_
                first
                  | refine aL (z_fieldAddr fo_26_2) ?_
                  | refine aL (z_fieldRef fo_26_2) ?_
                  | refine aL (z_fieldV fo_26_2) ?_
                refine aL (z_store sz_24) ?_
                refine awl_nil (hK28 _ _ ?_)
                clear hK28 K28
                refine aw_region fun K29 hK29 => ?_
                first
                  | refine aL (z_load sz_26) ?_
                  | refine aL (z_loadRef sz_26) ?_
                  | refine aL (z_loadV sz_26) ?_
                refine aL z_move ?_
                refine aL z_move ?_
                refine aL z_add ?_
                refine aL (z_store sz_26) ?_
                refine aL z_assign ?_
                refine aL z_assign ?_
                refine awl_nil (hK29 _ _ ?_)
                clear hK29 K29
                refine aw_ret ?_
                refine (hret _ _ _ _ _ rfl (rCe sz_26 (.tmp rfl (.tmp rfl .nil))) rfl ?_ .nil rfl).1
                first
                  | (have hz : takeA b = .error e1 := take_e1 (by
                       rcases hR1 with ⟨-, h⟩ | ⟨h, -⟩
                       · exact h
                       · exact absurd h (by assumption))
                     rw [hz]; rfl)
                  | (have hz : takeA b = .error 150 := take_e2 hl1 (hRF.resolve_right (fun h => by rw [h.1] at c2; exact absurd c2 (by decide))).2
                     rw [hz]; rfl)
                  | (have hz : takeA b = .error e2 := hx.trans (hdrF_e (by
                       rcases hR2 with ⟨-, h⟩ | ⟨h, -⟩
                       · exact h
                       · exact absurd h (by assumption)))
                     rw [hz]; rfl)
                  | (have hz : takeA b = .error 150 := by
                       rw [hx, hdrF_o hq1, flds_bad c4 (hRD.resolve_right (fun h => by rw [h.1] at c7; exact absurd c7 (by decide))).2]; rfl
                     rw [hz]; rfl)
                  | (have hz : takeA b = .error 151 := hx2.trans (tail_e (by rw [hbd, if_pos (by simpa [or_assoc] using c5)]))
                     rw [hz]; rfl)
                  | (have hz : takeA b = .error 12 := hx2.trans (tail_e (by rw [hbd, if_neg (by simpa [and_assoc] using c5), if_pos (by omega)]))
                     rw [hz]; rfl)
                  | (have hz := hx2.trans (tail_o (b := (b.drop n2).take nn) (by rw [hbd, if_neg (by simpa [and_assoc] using c5), if_neg (by omega)]))
                     rw [hz]
                     have hu : b.length - ((b.drop n2).drop ((b.drop n2).take nn).length).length = n2 + nn := by simp; omega
                     simp only [takeD, hu]
                     rfl)
          · refine aw_skip ?_
            refine hK18 _ _ ?_
            clear hK18
            refine aw_region fun K30 hK30 => ?_
            refine aL z_move ?_
            have hq : lnM (b.drop k) = .ok (s2, b.drop n2) ∧ n2 = k + s2.length + 2 ∧ n2 ≤ b.length := by
              rcases hR2 with ⟨h, -⟩ | ⟨-, h⟩
              · exact absurd (by omega) h
              · exact h
            obtain ⟨hq1, hq2, hq3⟩ := hq
            obtain ⟨x2, y2, ok2, hDD, hRD⟩ := fdU s2
            have hcD := con_rFieldLine (s := s2) (by omega)
            rw [hDD] at hcD
            refine aL (z_call0 (eC .nil) en_25 (hcD)) ?_
            refine aL z_move ?_
            refine aL z_extract ?_
            refine aL z_extract ?_
            refine aL (z_alloc 4 zc_46 zl_46) ?_
            refine aL (z_store sz_46) ?_
            refine aL z_assign ?_
            refine awl_nil (hK30 _ _ ?_)
            clear hK30 K30
            refine aw_seq fun K31 hK31 => ?_
            refine aw_region fun K32 hK32 => ?_
            refine aL z_move ?_
            refine aL z_not ?_
            refine awl_nil (hK32 _ _ ?_)
            clear hK32 K32
            refine aC (fun r7 c7 => ?_) (fun r7 c7 => ?_)
            · refine aw_region fun K33 hK33 => ?_
              first
                | refine aL (z_load sz_26) ?_
                | refine aL (z_loadRef sz_26) ?_
                | refine aL (z_loadV sz_26) ?_
              refine aL (z_store sz_26) ?_
              refine aL z_assign ?_
              refine aL z_assign ?_
              refine awl_nil (hK33 _ _ ?_)
              clear hK33 K33
              refine aw_ret ?_
              refine (hret _ _ _ _ _ rfl (rCe sz_26 (.tmp rfl (.tmp rfl .nil))) rfl ?_ .nil rfl).1
              first
                | (have hz : takeA b = .error e1 := take_e1 (by
                     rcases hR1 with ⟨-, h⟩ | ⟨h, -⟩
                     · exact h
                     · exact absurd h (by assumption))
                   rw [hz]; rfl)
                | (have hz : takeA b = .error 150 := take_e2 hl1 (hRF.resolve_right (fun h => by rw [h.1] at c2; exact absurd c2 (by decide))).2
                   rw [hz]; rfl)
                | (have hz : takeA b = .error e2 := hx.trans (hdrF_e (by
                     rcases hR2 with ⟨-, h⟩ | ⟨h, -⟩
                     · exact h
                     · exact absurd h (by assumption)))
                   rw [hz]; rfl)
                | (have hz : takeA b = .error 150 := by
                     rw [hx, hdrF_o hq1, flds_bad c4 (hRD.resolve_right (fun h => by rw [h.1] at c7; exact absurd c7 (by decide))).2]; rfl
                   rw [hz]; rfl)
                | (have hz : takeA b = .error 151 := hx2.trans (tail_e (by rw [hbd, if_pos (by simpa [or_assoc] using c5)]))
                   rw [hz]; rfl)
                | (have hz : takeA b = .error 12 := hx2.trans (tail_e (by rw [hbd, if_neg (by simpa [and_assoc] using c5), if_pos (by omega)]))
                   rw [hz]; rfl)
                | (have hz := hx2.trans (tail_o (b := (b.drop n2).take nn) (by rw [hbd, if_neg (by simpa [and_assoc] using c5), if_neg (by omega)]))
                   rw [hz]
                   have hu : b.length - ((b.drop n2).drop ((b.drop n2).take nn).length).length = n2 + nn := by simp; omega
                   simp only [takeD, hu]
                   rfl)
            · refine aw_skip ?_
              refine hK31 _ _ ?_
              clear hK31
              refine aw_region_last ?_
              refine aL z_move ?_
              first
                | refine aL (z_load sz_46) ?_
                | refine aL (z_loadRef sz_46) ?_
                | refine aL (z_loadV sz_46) ?_
              refine aL (z_lits (pC .nil) Tryz.underlying24 sz_46 zc_46 zl_46 (c := [[_, _, _]])) ?_
              refine aL (z_app Tryz.underlying24 zi_46 (c' := fdV (fs ++ [⟨x2, y2, false⟩])) (hc := fdV_snoc (f := ⟨x2, y2, false⟩) rfl) (hb := by simp; omega)) ?_
              refine aL z_assign ?_
              refine awl_nil ?_
              have hfd : fieldM s2 = some ⟨x2, y2, false⟩ := by
                rcases hRD with ⟨h, -⟩ | ⟨-, h⟩
                · rw [h] at c7; simp at c7
                · exact h
              obtain ⟨hfn, hfv⟩ := field_len hfd
              dsimp only at hfn hfv
              refine hK13 _ _ ⟨(fs ++ [⟨x2, y2, false⟩], n2), by dsimp only; rw [hx, hdrF_o hq1, hdrF_on c4 hfd], hq3, by dsimp only; rw [szM_app, show szM [(⟨x2, y2, false⟩ : Fd)] = x2.length + y2.length + 32 by simp [szM]]; omega⟩ (by dsimp only; omega) ?_
              exact Weak.trans (weak_rever 3 0 rfl) wK
end Go.Proofs.YtnjbfiejgiaibaaGreatDoor
