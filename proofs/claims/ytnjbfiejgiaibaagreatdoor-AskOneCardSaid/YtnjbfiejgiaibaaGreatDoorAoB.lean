/- Chapter 14: AskOne, walked. No condition but on lengths. -/
import Derived.Test.YtnjbfiejgiaibaaGreatDoorAoA
import Derived.Test.YtnjbfiejgiaibaaGreatDoorAkPToAkQ
namespace Go.Proofs.YtnjbfiejgiaibaaGreatDoor
set_option linter.all false
open Go Go.RowKit
set_option maxRecDepth 10000
set_option maxHeartbeats 4000000
/-- What goes is one request, which asks the same. -/
theorem one_facts {l : List Fd} {b who : List UInt8} (h : readE l = 0) (hw : valueM ([50, 32] ++ who) = true) (hl : szM l ≤ 16384) (hw2 : who.length ≤ 1000) (hb : b.length ≤ 65536) : ∃ F : List Fd,
    Con Tryz.prog 9 [.v (.sl (bs (putA (ofM (readR l) b who))))] [] 0 (.ret (.tup [.v (.sl (akV [⟨(readR l).m, (readR l).p, F, b⟩])), .v (.int .i64 0)])) [] ∧ 2 ≤ F.length ∧ F.length ≤ 4398046511104 ∧ (fdV F)[0]? = some [.str [104, 111, 115, 116], .str (readR l).a, .bool false] ∧
    ∀ k (hk : k < F.length), ((F[k]).n = [104, 111, 115, 116] ↔ k = 0) ∧ ¬ (F[k]).n = [99, 111, 110, 110, 101, 99, 116, 105, 111, 110] ∧ ¬ (F[k]).n = [116, 114, 97, 110, 115, 102, 101, 114, 45, 101, 110, 99, 111, 100, 105, 110, 103] ∧ ¬ (F[k]).n = [116, 101] := by
  obtain ⟨h1, h2, h3⟩ := ofM_put h hw hl hw2 hb
  have hA := con_All14 (b := putA (ofM (readR l) b who)) (by omega)
  have hat := fun k hk => ofM_at (b := b) (who := who) (k := k) h hk
  rw [h2] at hA
  have e := ofM_low (b := b) (who := who) h
  obtain ⟨hs, -⟩ := ofM_sz (b := b) (who := who) h hl hw2 hb
  have hn := szM_len (ofM (readR l) b who).fs
  have hn2 : (ofM (readR l) b who).fs.length = (restO l).length + 2 := by rw [ofM_eq h]; simp
  have hs2 := hs.2.1
  generalize lowA (ofM (readR l) b who) = A at hA hat e
  subst e
  refine ⟨_, hA, by simp, by simp; omega, rfl, hat⟩
theorem con_AskOne {l : List Fd} {b who : List UInt8} (hl : InL l) (hb : b.length ≤ 140737488351232) (hw : who.length ≤ 140737488351232) : Con Tryz.prog 4 [.v (.sl (fdV l)), .v (.str b), .v (.str who)] [] 0 (.ret (.v (.bool true))) [] := by
  refine con_of Tryz.func4 rfl (by show _ ≤ 146; simp) fun X Q hP hnt hnp hret hpan => ?_
  obtain ⟨P0, nt0, w0, K0, S0, np0, pin0, df0⟩ := X
  simp only at hP hnt hnp
  subst hP hnp
  obtain rfl : nt0 = 146 := hnt
  refine aw_region fun K1 hK1 => ?_
  refine aL z_assign ?_
  refine awl_nil (hK1 _ _ ?_)
  clear hK1 K1
  refine aw_seq fun K2 hK2 => ?_
  refine aw_region fun K3 hK3 => ?_
  refine aL (z_call0 .nil en_5 (con_awake14)) ?_
  refine aL z_not ?_
  refine awl_nil (hK3 _ _ ?_)
  clear hK3 K3
  refine aC (fun r1 c1 => ?_) (fun r1 c1 => ?_)
  · cases r1
  · refine aw_skip ?_
    refine hK2 _ _ ?_
    clear hK2
    refine aw_seq fun K4 hK4 => ?_
    refine aw_region fun K5 hK5 => ?_
    refine aL z_move ?_
    refine aL (z_call0 (eC .nil) en_12 (con_Bytes hl.1 hl.2)) ?_
    refine aL z_gtr ?_
    refine aL z_move ?_
    refine gL rfl rfl (ev_tmp rfl) (fun hg => z_move) ?_
    refine gL rfl rfl (ev_tmp rfl) (fun hg => z_lenS Tryz.underlying9) ?_
    refine gL rfl rfl (ev_tmp rfl) (fun hg => z_gtr) ?_
    refine aL z_or ?_
    refine aL z_move ?_
    refine gL rfl rfl (ev_tmp rfl) (fun hg => z_move) ?_
    refine gL rfl rfl (ev_tmp rfl) (fun hg => z_addS) ?_
    refine gL rfl rfl (ev_tmp rfl) (fun hg => z_call0 (eC .nil) en_13 (con_rValue (l := [50, 32] ++ who) (by simp; unfold maxLen; omega))) ?_
    refine gL rfl rfl (ev_tmp rfl) (fun hg => z_not) ?_
    refine aL z_or ?_
    refine aL z_move ?_
    refine gL rfl rfl (ev_tmp rfl) (fun hg => z_move) ?_
    refine gL rfl rfl (ev_tmp rfl) (fun hg => z_lenS Tryz.underlying9) ?_
    refine gL rfl rfl (ev_tmp rfl) (fun hg => z_gtr) ?_
    refine aL z_or ?_
    refine awl_nil (hK5 _ _ ?_)
    clear hK5 K5
    refine aC (fun r2 c2 => ?_) (fun r2 c2 => ?_)
    · refine aw_region fun K6 hK6 => ?_
      refine aL z_assign ?_
      refine awl_nil (hK6 _ _ ?_)
      clear hK6 K6
      refine aw_ret ?_
      refine (hret _ _ _ _ _ rfl (.tmp rfl .nil) rfl ?_ .nil rfl).1
      first
        | rfl
        | (simp [retD]; done)
        | (simp [retD]; omega)
    · refine aw_skip ?_
      refine hK4 _ _ ?_
      clear hK4
      refine aw_region fun K7 hK7 => ?_
      have hby : byM 0 l ≤ 16384 := by have := c2.1.1.1; omega
      have hsz : szM l ≤ 16384 := by have := byM_sz l 0 (by omega); omega
      have hw2 : who.length ≤ 1000 := by have := c2.2; omega
      have hb2 : b.length ≤ 65536 := by have := c2.1.1.2; omega
      have hv : valueM ([50, 32] ++ who) = true := c2.1.2
      refine aL z_move ?_
      refine aL (z_call0 (eC .nil) en_14 (con_rRead (Nat.le_trans hsz (by decide)))) ?_
      refine aL z_move ?_
      refine aL z_extract ?_
      refine aL z_extract ?_
      refine aL (z_alloc 2 zc_39 zl_39) ?_
      refine aL (z_store sz_39) ?_
      refine aL z_assign ?_
      refine awl_nil (hK7 _ _ ?_)
      clear hK7 K7
      refine aw_seq fun K8 hK8 => ?_
      refine aw_region fun K9 hK9 => ?_
      refine aL z_move ?_
      refine aL z_neq ?_
      refine awl_nil (hK9 _ _ ?_)
      clear hK9 K9
      refine aC (fun r3 c3 => ?_) (fun r3 c3 => ?_)
      · refine aw_region fun K10 hK10 => ?_
        refine aL z_assign ?_
        refine awl_nil (hK10 _ _ ?_)
        clear hK10 K10
        refine aw_ret ?_
        refine (hret _ _ _ _ _ rfl (.tmp rfl .nil) rfl ?_ .nil rfl).1
        first
          | rfl
          | (simp [retD]; done)
          | (simp [retD]; omega)
      · refine aw_skip ?_
        refine hK8 _ _ ?_
        clear hK8
        refine aw_region fun K11 hK11 => ?_
        have hE : readE l = 0 := c3
        have hrs : szM (readR l).f ≤ 1000000000 := by have := readO_sz hE; omega
        obtain ⟨hp1, hp2, hp3⟩ := ofM_put (b := b) (who := who) hE hv hsz hw2 hb2
        obtain ⟨hsm, -⟩ := ofM_sz (b := b) (who := who) hE hsz hw2 hb2
        obtain ⟨F, hA, hF2, hFl, hF0, hat⟩ := one_facts (b := b) (who := who) hE hv hsz hw2 hb2
        have hFl2 := fdV_len F
        refine aL (z_load sz_39) ?_
        refine aL z_move ?_
        refine aL z_move ?_
        refine aL (z_call0 (eC (eC (eC .nil))) en_16 (con_Of (r := readR l) (b := b) (who := who) hrs (by omega))) ?_
        refine aL (z_call0 (eC .nil) en_15 (con_Put (a := ofM (readR l) b who) hsm)) ?_
        refine aL z_move ?_
        refine aL z_extract ?_
        refine aL z_extract ?_
        refine aL z_assign ?_
        refine aL z_assign ?_
        refine awl_nil (hK11 _ _ ?_)
        clear hK11 K11
        refine aw_seq fun K12 hK12 => ?_
        refine aw_region fun K13 hK13 => ?_
        refine aL z_move ?_
        refine aL z_neq ?_
        refine awl_nil (hK13 _ _ ?_)
        clear hK13 K13
        refine aC (fun r4 c4 => ?_) (fun r4 c4 => ?_)
        · exact absurd hp1 c4
        · refine aw_skip ?_
          refine hK12 _ _ ?_
          clear hK12
          refine aw_region fun K14 hK14 => ?_
          refine aL z_move ?_
          refine aL (z_call0 (eC .nil) en_9 (hA)) ?_
          refine aL z_move ?_
          refine aL z_extract ?_
          refine aL z_extract ?_
          refine aL z_assign ?_
          refine aL z_assign ?_
          refine awl_nil (hK14 _ _ ?_)
          clear hK14 K14
          refine aw_seq fun K15 hK15 => ?_
          refine aw_region fun K16 hK16 => ?_
          refine aL z_move ?_
          refine aL z_neq ?_
          refine aL z_move ?_
          refine gL rfl rfl (ev_tmp rfl) (fun hg => z_move) ?_
          refine gL rfl rfl (ev_tmp rfl) (fun hg => z_len Tryz.underlying31) ?_
          refine gL rfl rfl (ev_tmp rfl) (fun hg => z_neq) ?_
          refine aL z_or ?_
          refine awl_nil (hK16 _ _ ?_)
          clear hK16 K16
          refine aC (fun r5 c5 => ?_) (fun r5 c5 => ?_)
          · simp [akV] at c5
          · refine aw_skip ?_
            refine hK15 _ _ ?_
            clear hK15
            refine aw_region fun K17 hK17 => ?_
            have hi1 : (akV [(⟨(readR l).m, (readR l).p, F, b⟩ : Ak)])[0]? = some [.str (readR l).m, .str (readR l).p, .sl (fdV F), .str b] := rfl
            refine aL z_move ?_
            refine aL (z_indexAddr Tryz.underlying31 sz_26) ?_
            refine aL (z_loadRef sz_26) ?_
            refine aL (z_alloc 3 zc_26 zl_26) ?_
            refine aL (z_store sz_26) ?_
            refine awl_nil (hK17 _ _ ?_)
            clear hK17 K17
            refine aw_seq fun K18 hK18 => ?_
            refine aw_regionD mx_all (by kernel_rfl) fun K19 hK19 => ?_
            refine aD (z_fieldAddr fo_26_0) ?_
            refine aD (z_load sz_9) ?_
            refine aD (z_fieldAddr fo_39_0) ?_
            refine aD (z_load sz_9) ?_
            refine aD z_neqS ?_
            refine aD z_move ?_
            refine gD rfl rfl (ev_tmp rfl) (fun hg => z_fieldAddr fo_26_1) ?_
            refine gD rfl rfl (ev_tmp rfl) (fun hg => z_load sz_9) ?_
            refine gD rfl rfl (ev_tmp rfl) (fun hg => z_fieldAddr fo_39_3) ?_
            refine gD rfl rfl (ev_tmp rfl) (fun hg => z_load sz_9) ?_
            refine gD rfl rfl (ev_tmp rfl) (fun hg => z_neqS) ?_
            refine aD z_or ?_
            refine aD z_move ?_
            refine gD rfl rfl (ev_tmp rfl) (fun hg => z_fieldAddr fo_26_3) ?_
            refine gD rfl rfl (ev_tmp rfl) (fun hg => z_load sz_9) ?_
            refine gD rfl rfl (ev_tmp rfl) (fun hg => z_move) ?_
            refine gD rfl rfl (ev_tmp rfl) (fun hg => z_neqS) ?_
            refine aD z_or ?_
            refine aD z_move ?_
            refine gD rfl rfl (ev_tmp rfl) (fun hg => z_fieldAddr fo_26_2) ?_
            refine gD rfl rfl (ev_tmp rfl) (fun hg => z_load sz_24) ?_
            refine gD rfl rfl (ev_tmp rfl) (fun hg => z_len Tryz.underlying24) ?_
            refine gD rfl rfl (ev_tmp rfl) (fun hg => z_lss) ?_
            refine aD z_or ?_
            refine aD z_move ?_
            refine gD rfl rfl (ev_tmp rfl) (fun hg => z_fieldAddr fo_26_2) ?_
            refine gD rfl rfl (ev_tmp rfl) (fun hg => z_load sz_24) ?_
            refine gD rfl rfl (ev_tmp rfl) (fun hg => z_indexAddr Tryz.underlying24 sz_46) ?_
            refine gD rfl rfl (ev_tmp rfl) (fun hg => z_loadRef sz_46) ?_
            refine gD rfl rfl (ev_tmp rfl) (fun hg => z_fieldAddr fo_39_2) ?_
            refine gD rfl rfl (ev_tmp rfl) (fun hg => z_load sz_9) ?_
            refine gD rfl rfl (ev_tmp rfl) (fun hg => z_build (pC (pC .nil)) pl_46 zc_46 zl_46) ?_
            refine gD rfl rfl (ev_tmp rfl) (fun hg => z_neqA sk_46) ?_
            refine aD z_or ?_
            refine awd_nil (by kernel_rfl) (hK19 _ _ ?_)
            clear hK19 K19
            refine aC (fun r6 c6 => ?_) (fun r6 c6 => ?_)
            · have he := eqF ⟨[104, 111, 115, 116], (readR l).a, false⟩ ⟨[104, 111, 115, 116], (readR l).a, false⟩
              rw [decide_eq_true rfl] at he
              rcases c6 with (((c6 | c6) | c6) | c6) | c6 <;> first | exact absurd rfl c6 | (rw [hFl2] at c6; omega) | exact absurd (he.symm.trans c6) (by decide)
            · refine aw_skip ?_
              refine hK18 _ _ ?_
              clear hK18
              refine aw_region fun K20 hK20 => ?_
              refine aL z_assign ?_
              refine awl_nil (hK20 _ _ ?_)
              clear hK20 K20
              refine aw_seq fun K21 hK21 => ?_
              refine aw_region fun K22 hK22 => ?_
              refine aL z_assign ?_
              refine awl_nil (hK22 _ _ ?_)
              clear hK22 K22
              refine aw_block ?_
              refine aw_loop (α := {k : Nat // k ≤ F.length}) (fun x => ([(13, .ptr 3 0), (14, .v (.int .i64 (if x.1 = 0 then 0 else 1))), (15, .v (.int .i64 (x.1 : Int)))], [(3, .box [.v (.str (readR l).m), .v (.str (readR l).p), .v (.sl (fdV F)), .v (.str b)])])) (fun x => F.length - x.1) ⟨0, by omega⟩ ?_ ?_
              · dsimp only
                exact wK
              · rintro ⟨k, hk⟩ K23 hK23
                dsimp only
                refine aw_seq fun K24 hK24 => ?_
                refine aw_region fun K25 hK25 => ?_
                refine aL z_move ?_
                refine aL (z_fieldAddr fo_26_2) ?_
                refine aL (z_load sz_24) ?_
                refine aL (z_len Tryz.underlying24) ?_
                refine aL z_lss ?_
                refine awl_nil (hK25 _ _ ?_)
                clear hK25 K25
                refine aC (fun r7 c7 => ?_) (fun r7 c7 => ?_)
                · refine aw_skip ?_
                  refine hK24 _ _ ?_
                  clear hK24
                  refine aw_seq fun K26 hK26 => ?_
                  refine aw_block ?_
                  refine aw_seq fun K27 hK27 => ?_
                  refine aw_region fun K28 hK28 => ?_
                  have hlt : k < F.length := by omega
                  have hi := fdV_get hlt
                  obtain ⟨n1, n2, n3, n4⟩ := hat k hlt
                  refine aL (z_fieldAddr fo_26_2) ?_
                  refine aL (z_load sz_24) ?_
                  refine aL z_move ?_
                  refine aL (z_indexAddr Tryz.underlying24 sz_46) ?_
                  refine aL (z_fieldRef fo_46_0) ?_
                  refine aL (z_loadRef sz_9) ?_
                  refine aL z_eqlS ?_
                  refine awl_nil (hK28 _ _ ?_)
                  clear hK28 K28
                  refine aC (fun r8 c8 => ?_) (fun r8 c8 => ?_)
                  · refine aw_region_last ?_
                    refine aL z_move ?_
                    refine aL z_add ?_
                    refine aL z_assign ?_
                    refine awl_nil ?_
                    refine hK27 _ _ ?_
                    clear hK27
                    refine aw_region fun K29 hK29 => ?_
                    refine aL (z_fieldAddr fo_26_2) ?_
                    refine aL (z_load sz_24) ?_
                    refine aL z_move ?_
                    refine aL (z_indexAddr Tryz.underlying24 sz_46) ?_
                    refine aL (z_fieldRef fo_46_0) ?_
                    refine aL (z_loadRef sz_9) ?_
                    refine aL z_eqlS ?_
                    refine aL z_move ?_
                    refine gL rfl rfl (ev_tmp rfl) (fun hg => z_fieldAddr fo_26_2) ?_
                    refine gL rfl rfl (ev_tmp rfl) (fun hg => z_load sz_24) ?_
                    refine gL rfl rfl (ev_tmp rfl) (fun hg => z_move) ?_
                    refine gL rfl rfl (ev_tmp rfl) (fun hg => z_indexAddr Tryz.underlying24 sz_46) ?_
                    refine gL rfl rfl (ev_tmp rfl) (fun hg => z_fieldRef fo_46_0) ?_
                    refine gL rfl rfl (ev_tmp rfl) (fun hg => z_loadRef sz_9) ?_
                    refine gL rfl rfl (ev_tmp rfl) (fun hg => z_eqlS) ?_
                    refine aL z_or ?_
                    refine aL z_move ?_
                    refine gL rfl rfl (ev_tmp rfl) (fun hg => z_fieldAddr fo_26_2) ?_
                    refine gL rfl rfl (ev_tmp rfl) (fun hg => z_load sz_24) ?_
                    refine gL rfl rfl (ev_tmp rfl) (fun hg => z_move) ?_
                    refine gL rfl rfl (ev_tmp rfl) (fun hg => z_indexAddr Tryz.underlying24 sz_46) ?_
                    refine gL rfl rfl (ev_tmp rfl) (fun hg => z_fieldRef fo_46_0) ?_
                    refine gL rfl rfl (ev_tmp rfl) (fun hg => z_loadRef sz_9) ?_
                    refine gL rfl rfl (ev_tmp rfl) (fun hg => z_eqlS) ?_
                    refine aL z_or ?_
                    refine awl_nil (hK29 _ _ ?_)
                    clear hK29 K29
                    refine aC (fun r9 c9 => ?_) (fun r9 c9 => ?_)
                    · rcases c9 with (c9 | c9) | c9
                      · exact absurd c9 n2
                      · exact absurd c9 n3
                      · exact absurd c9 n4
                    · refine aw_skip ?_
                      refine hK26 _ _ ?_
                      clear hK26
                      refine aw_region_last ?_
                      refine aL z_move ?_
                      refine aL z_add ?_
                      refine aL z_assign ?_
                      refine awl_nil ?_
                      first
                        | (have hk0 : k = 0 := n1.1 c8
                           subst hk0
                           refine hK23 _ _ ⟨1, by omega⟩ (by dsimp only; omega) ?_
                           exact wK)
                        | (have hk0 : ¬ k = 0 := fun e => c8 (n1.2 e)
                           have e1 : (if k = 0 then (0 : Int) else 1) = 1 := if_neg hk0
                           have e2 : (if k + 1 = 0 then (0 : Int) else 1) = 1 := if_neg (by omega)
                           refine hK23 _ _ ⟨k + 1, by omega⟩ (by dsimp only; omega) ?_
                           simp only [e1, e2]
                           exact wK)
                  · refine aw_skip ?_
                    refine hK27 _ _ ?_
                    clear hK27
                    refine aw_region fun K30 hK30 => ?_
                    refine aL (z_fieldAddr fo_26_2) ?_
                    refine aL (z_load sz_24) ?_
                    refine aL z_move ?_
                    refine aL (z_indexAddr Tryz.underlying24 sz_46) ?_
                    refine aL (z_fieldRef fo_46_0) ?_
                    refine aL (z_loadRef sz_9) ?_
                    refine aL z_eqlS ?_
                    refine aL z_move ?_
                    refine gL rfl rfl (ev_tmp rfl) (fun hg => z_fieldAddr fo_26_2) ?_
                    refine gL rfl rfl (ev_tmp rfl) (fun hg => z_load sz_24) ?_
                    refine gL rfl rfl (ev_tmp rfl) (fun hg => z_move) ?_
                    refine gL rfl rfl (ev_tmp rfl) (fun hg => z_indexAddr Tryz.underlying24 sz_46) ?_
                    refine gL rfl rfl (ev_tmp rfl) (fun hg => z_fieldRef fo_46_0) ?_
                    refine gL rfl rfl (ev_tmp rfl) (fun hg => z_loadRef sz_9) ?_
                    refine gL rfl rfl (ev_tmp rfl) (fun hg => z_eqlS) ?_
                    refine aL z_or ?_
                    refine aL z_move ?_
                    refine gL rfl rfl (ev_tmp rfl) (fun hg => z_fieldAddr fo_26_2) ?_
                    refine gL rfl rfl (ev_tmp rfl) (fun hg => z_load sz_24) ?_
                    refine gL rfl rfl (ev_tmp rfl) (fun hg => z_move) ?_
                    refine gL rfl rfl (ev_tmp rfl) (fun hg => z_indexAddr Tryz.underlying24 sz_46) ?_
                    refine gL rfl rfl (ev_tmp rfl) (fun hg => z_fieldRef fo_46_0) ?_
                    refine gL rfl rfl (ev_tmp rfl) (fun hg => z_loadRef sz_9) ?_
                    refine gL rfl rfl (ev_tmp rfl) (fun hg => z_eqlS) ?_
                    refine aL z_or ?_
                    refine awl_nil (hK30 _ _ ?_)
                    clear hK30 K30
                    refine aC (fun r10 c10 => ?_) (fun r10 c10 => ?_)
                    · rcases c10 with (c10 | c10) | c10
                      · exact absurd c10 n2
                      · exact absurd c10 n3
                      · exact absurd c10 n4
                    · refine aw_skip ?_
                      refine hK26 _ _ ?_
                      clear hK26
                      refine aw_region_last ?_
                      refine aL z_move ?_
                      refine aL z_add ?_
                      refine aL z_assign ?_
                      refine awl_nil ?_
                      first
                        | (have hk0 : k = 0 := n1.1 c8
                           subst hk0
                           refine hK23 _ _ ⟨1, by omega⟩ (by dsimp only; omega) ?_
                           exact wK)
                        | (have hk0 : ¬ k = 0 := fun e => c8 (n1.2 e)
                           have e1 : (if k = 0 then (0 : Int) else 1) = 1 := if_neg hk0
                           have e2 : (if k + 1 = 0 then (0 : Int) else 1) = 1 := if_neg (by omega)
                           refine hK23 _ _ ⟨k + 1, by omega⟩ (by dsimp only; omega) ?_
                           simp only [e1, e2]
                           exact wK)
                · refine aw_exit ?_
                  refine hK21 _ _ ?_
                  clear hK21
                  refine aw_region fun K31 hK31 => ?_
                  refine aL z_move ?_
                  refine aL z_eql ?_
                  refine aL z_assign ?_
                  refine awl_nil (hK31 _ _ ?_)
                  clear hK31 K31
                  refine aw_ret ?_
                  refine (hret _ _ _ _ _ rfl (.tmp rfl .nil) rfl ?_ .nil rfl).1
                  first
                    | rfl
                    | (simp [retD]; done)
                    | (simp [retD]; omega)
end Go.Proofs.YtnjbfiejgiaibaaGreatDoor
