/- Layer 7: ChopKeeps, walked. No condition. -/
import Derived.Test.YtigodfnckjidoaaChW
namespace Go.Proofs.Ytigodfnckjidoaa
set_option linter.all false
open Go Go.RowKit
set_option maxRecDepth 10000
set_option maxHeartbeats 4000000
theorem con_KeepsN {m : Int} {p : Bool} {ps : List (List UInt8)} (hl : ps.length ≤ 9223372036854775807) (hR : joinM ps = none) : Con Try.prog 5 [.v (.int .i64 m), .v (.bool p), .v (.sl (psV ps))] [] 0 (.ret (.v (.bool true))) [] := by
  refine con_of Try.func5 rfl (by show _ ≤ 131; simp) fun X Q hP hnt hnp hret hpan => ?_
  obtain ⟨P0, nt0, w0, K0, S0, np0, pin0, df0⟩ := X
  simp only at hP hnt hnp
  subst hP hnp
  obtain rfl : nt0 = 131 := hnt
  refine aw_region fun K1 hK1 => ?_
  refine aL z_assign ?_
  refine awl_nil (hK1 _ _ ?_)
  clear hK1 K1
  refine aw_seq fun K2 hK2 => ?_
  refine aw_region fun K3 hK3 => ?_
  refine aL (z_call0 .nil en_8 (con_awake)) ?_
  refine aL z_not ?_
  refine awl_nil (hK3 _ _ ?_)
  clear hK3 K3
  refine aC (fun r1 c1 => ?_) (fun r1 c1 => ?_)
  · exact absurd c1 (by decide)
  · refine aw_skip ?_
    refine hK2 _ _ ?_
    clear hK2
    refine aw_seq fun K4 hK4 => ?_
    refine aw_region fun K5 hK5 => ?_
    refine aL z_move ?_
    refine aL (z_call0 (eC .nil) en_9 (con_joined (R := none) hR hl)) ?_
    refine aL z_move ?_
    refine aL z_extract ?_
    refine aL z_extract ?_
    refine aL z_assign ?_
    refine aL z_assign ?_
    refine awl_nil (hK5 _ _ ?_)
    clear hK5 K5
    refine aw_region fun K6 hK6 => ?_
    refine aL z_move ?_
    refine aL z_not ?_
    refine awl_nil (hK6 _ _ ?_)
    clear hK6 K6
    refine aC (fun r2 c2 => ?_) (fun r2 c2 => ?_)
    · refine aw_region fun K7 hK7 => ?_
      refine aL z_assign ?_
      refine awl_nil (hK7 _ _ ?_)
      clear hK7 K7
      refine aw_ret ?_
      refine (hret _ _ _ _ _ rfl (.tmp rfl .nil) rfl ?_ .nil rfl).1
      rfl
    · exact absurd c2 (by decide)
theorem con_KeepsS {m : Int} {p : Bool} {ps : List (List UInt8)} {all : List UInt8} (hl : ps.length ≤ 9223372036854775807) (hR : joinM ps = some all) : Con Try.prog 5 [.v (.int .i64 m), .v (.bool p), .v (.sl (psV ps))] [] 0 (.ret (.v (.bool true))) [] := by
  obtain ⟨hall, hal⟩ := join_some (show joinGo [] 0 ps = some all from hR)
  rw [List.nil_append] at hall
  have hal := hal (by simp)
  obtain ⟨f0, hf0⟩ : ∃ f, Fd7.new m p = f := ⟨_, rfl⟩
  obtain ⟨hok, hov, hlf⟩ := new_ok m p
  have hli := new_little m p
  have hmo : (Fd7.new m p).most = max m 0 := rfl
  rw [hf0] at hok hov hlf hli hmo
  have hz0 : f0.left.length = 0 := by rw [hlf]; rfl
  have hz := psV_len ps
  obtain ⟨lim, hlim⟩ : ∃ l, (if 0 < m ∧ m < 131072 then m else 0) = l := ⟨_, rfl⟩
  refine con_of Try.func5 rfl (by show _ ≤ 131; simp) fun X Q hP hnt hnp hret hpan => ?_
  obtain ⟨P0, nt0, w0, K0, S0, np0, pin0, df0⟩ := X
  simp only at hP hnt hnp
  subst hP hnp
  obtain rfl : nt0 = 131 := hnt
  refine aw_region fun K1 hK1 => ?_
  refine aL z_assign ?_
  refine awl_nil (hK1 _ _ ?_)
  clear hK1 K1
  refine aw_seq fun K2 hK2 => ?_
  refine aw_region fun K3 hK3 => ?_
  refine aL (z_call0 .nil en_8 (con_awake)) ?_
  refine aL z_not ?_
  refine awl_nil (hK3 _ _ ?_)
  clear hK3 K3
  refine aC (fun r1 c1 => ?_) (fun r1 c1 => ?_)
  · exact absurd c1 (by decide)
  · refine aw_skip ?_
    refine hK2 _ _ ?_
    clear hK2
    refine aw_seq fun K4 hK4 => ?_
    refine aw_region fun K5 hK5 => ?_
    refine aL z_move ?_
    refine aL (z_call0 (eC .nil) en_9 (con_joined (R := some all) hR hl)) ?_
    refine aL z_move ?_
    refine aL z_extract ?_
    refine aL z_extract ?_
    refine aL z_assign ?_
    refine aL z_assign ?_
    refine awl_nil (hK5 _ _ ?_)
    clear hK5 K5
    refine aw_region fun K6 hK6 => ?_
    refine aL z_move ?_
    refine aL z_not ?_
    refine awl_nil (hK6 _ _ ?_)
    clear hK6 K6
    refine aC (fun r2 c2 => ?_) (fun r2 c2 => ?_)
    · exact absurd c2 (by decide)
    · refine aw_skip ?_
      refine hK4 _ _ ?_
      clear hK4
      refine aw_region fun K7 hK7 => ?_
      refine aL z_assign ?_
      refine awl_nil (hK7 _ _ ?_)
      clear hK7 K7
      refine aw_seq fun K8 hK8 => ?_
      refine aw_region fun K9 hK9 => ?_
      refine aL z_move ?_
      refine aL (z_lits (pC .nil) Try.underlying24 sz_5 zc_5 zl_5 (c := bs [1])) ?_
      refine aL (z_call0 (eC (eC .nil)) en_11 (con_TakeN)) ?_
      first
        | refine aL (z_lenB Try.underlying29) ?_
        | refine aL (z_len Try.underlying29) ?_
        | refine aL (z_lenV Try.underlying29) ?_
      refine aL z_neq ?_
      refine aL z_move ?_
      first
        | refine gL rfl rfl (ev_tmp rfl) (fun hg => z_move) ?_
        | refine hL rfl rfl (ev_tmp rfl) (fun hg => z_move) ?_
      first
        | refine gL rfl rfl (ev_tmp rfl) (fun hg => z_call0 (eC .nil) en_14 (con_LeftN)) ?_
        | refine hL rfl rfl (ev_tmp rfl) (fun hg => z_call0 (eC .nil) en_14 (con_LeftN)) ?_
      first
        | refine gL rfl rfl (ev_tmp rfl) (fun hg => z_neq) ?_
        | refine hL rfl rfl (ev_tmp rfl) (fun hg => z_neq) ?_
      refine aL z_or ?_
      refine aL z_move ?_
      first
        | refine gL rfl rfl (ev_tmp rfl) (fun hg => z_move) ?_
        | refine hL rfl rfl (ev_tmp rfl) (fun hg => z_move) ?_
      first
        | refine gL rfl rfl (ev_tmp rfl) (fun hg => z_call0 (eC .nil) en_15 (con_OverN)) ?_
        | refine hL rfl rfl (ev_tmp rfl) (fun hg => z_call0 (eC .nil) en_15 (con_OverN)) ?_
      first
        | refine gL rfl rfl (ev_tmp rfl) (fun hg => z_not) ?_
        | refine hL rfl rfl (ev_tmp rfl) (fun hg => z_not) ?_
      refine aL z_or ?_
      refine awl_nil (hK9 _ _ ?_)
      clear hK9 K9
      refine aC (fun r3 c3 => ?_) (fun r3 c3 => ?_)
      · exact absurd c3 (by decide)
      · refine aw_skip ?_
        refine hK8 _ _ ?_
        clear hK8
        refine aw_region fun K10 hK10 => ?_
        refine aL z_move ?_
        refine aL z_move ?_
        refine aL (z_callG [0, 1] (eC (eC .nil)) en_10 (con_NewF hf0) .nil) ?_
        refine aL z_assign ?_
        refine awl_nil (hK10 _ _ ?_)
        clear hK10 K10
        refine aw_region fun K11 hK11 => ?_
        refine aL z_assign ?_
        refine awl_nil (hK11 _ _ ?_)
        clear hK11 K11
        refine aw_cut ([(0, .v (.int .i64 m)), (2, .v (.sl (psV ps))), (10, .ptr 0 0), (11, .v (.int .i64 lim))], [(0, .box (fdI 1 f0 0)), (1, rw1 0 f0.left)]) (fun K12 hK12 => ?_) ?_
        rotate_left
        focus
          refine aw_seq fun K13 hK13 => ?_
          refine aw_region fun K14 hK14 => ?_
          refine aL z_assign ?_
          refine awl_nil (hK14 _ _ ?_)
          clear hK14 K14
          refine aw_block ?_
          refine aw_loop (α := {x : Nat × Fd7 // x.2.ok ∧ x.2.little ∧ x.2.most = max m 0 ∧ x.1 ≤ ps.length ∧ x.2.left.length ≤ (ps.take x.1).flatten.length}) (fun x => ([(0, .v (.int .i64 m)), (2, .v (.sl (psV ps))), (10, .ptr 0 0), (11, .v (.int .i64 lim)), (12, .v (.int .i64 (x.1.1 : Int)))], [(0, .box (fdI 1 x.1.2 0)), (1, rw1 0 x.1.2.left)])) (fun x => ps.length - x.1.1) ⟨(0, f0), hok, hli, hmo, Nat.zero_le _, by rw [hz0]; exact Nat.zero_le _⟩ ?_ ?_
          · dsimp only
            exact wK
          · rintro ⟨⟨i, f⟩, hfo, hfl, hfm, hil, hle⟩ K15 hK15
            dsimp only
            dsimp only at hfo hfl hfm hil hle
            refine aw_seq fun K16 hK16 => ?_
            refine aw_region fun K17 hK17 => ?_
            refine aL z_move ?_
            refine aL z_move ?_
            first
              | refine aL (z_lenB Try.underlying22) ?_
              | refine aL (z_len Try.underlying22) ?_
              | refine aL (z_lenV Try.underlying22) ?_
            refine aL z_lss ?_
            refine awl_nil (hK17 _ _ ?_)
            clear hK17 K17
            refine aC (fun r4 c4 => ?_) (fun r4 c4 => ?_)
            · refine aw_skip ?_
              refine hK16 _ _ ?_
              clear hK16
              refine aw_seq fun K18 hK18 => ?_
              refine aw_block ?_
              refine aw_region fun K19 hK19 => ?_
              have hlt : i < ps.length := by omega
              have hi : (psV ps)[i]? = some [V.sl (bs ps[i])] := psV_get hlt
              have hpi := flat_at hlt
              rw [← hall] at hpi
              have hfl2 := feed_len f ps[i]
              obtain ⟨its, g, hT⟩ : ∃ a b, f.take ps[i] = (a, b) := ⟨_, _, rfl⟩
              have hz2 := itV_len its
              have hgo := take_okF hfo ps[i]
              have hgl := take_little hfl ps[i]
              have hgm := (take_most f ps[i]).trans hfm
              have hlast := take_last f ps[i]
              rw [hT] at hfl2 hgo hgl hgm hlast
              dsimp only at hfl2 hgo hgl hgm hlast
              refine aL z_move ?_
              refine aL (z_callF 0 1 en_15 con_OverR (lentI (f := f))) ?_
              refine aL z_assign ?_
              refine awl_nil (hK19 _ _ ?_)
              clear hK19 K19
              refine aw_region fun K20 hK20 => ?_
              refine aL z_move ?_
              refine aL z_move ?_
              refine aL z_move ?_
              first
                | refine aL (z_indexAddr Try.underlying22 sz_24) ?_
                | refine aL (z_indexAddrV Try.underlying22 sz_24) ?_
              first
                | refine aL (z_load sz_24) ?_
                | refine aL (z_loadRef sz_24) ?_
                | refine aL (z_loadV sz_24) ?_
              refine aL (z_callG [0, 1] (eC (eC .nil)) en_11 (con_TakeE hT 0 hfo.1 (by omega)) (pA (pA .nil))) ?_
              refine aL z_assign ?_
              refine awl_nil (hK20 _ _ ?_)
              clear hK20 K20
              refine aw_seq fun K21 hK21 => ?_
              refine aw_region fun K22 hK22 => ?_
              refine aL z_move ?_
              refine aL z_move ?_
              first
                | refine gL rfl rfl (ev_tmp rfl) (fun hg => z_move) ?_
                | refine hL rfl rfl (ev_tmp rfl) (fun hg => z_move) ?_
              first
                | refine gL rfl rfl (ev_tmp rfl) (fun hg => z_lenB Try.underlying29) ?_
                | refine gL rfl rfl (ev_tmp rfl) (fun hg => z_len Try.underlying29) ?_
                | refine gL rfl rfl (ev_tmp rfl) (fun hg => z_lenV Try.underlying29) ?_
                | refine hL rfl rfl (ev_tmp rfl) (fun hg => z_lenB Try.underlying29) ?_
                | refine hL rfl rfl (ev_tmp rfl) (fun hg => z_len Try.underlying29) ?_
                | refine hL rfl rfl (ev_tmp rfl) (fun hg => z_lenV Try.underlying29) ?_
              first
                | refine gL rfl rfl (ev_tmp rfl) (fun hg => z_neq) ?_
                | refine hL rfl rfl (ev_tmp rfl) (fun hg => z_neq) ?_
              first
                | refine gL rfl rfl (ev_tmp rfl) (fun hg => z_move) ?_
                | refine hL rfl rfl (ev_tmp rfl) (fun hg => z_move) ?_
              first
                | refine gL rfl rfl (ev_tmp rfl) (fun hg => z_move) ?_
                | refine hL rfl rfl (ev_tmp rfl) (fun hg => z_move) ?_
              first
                | refine gL rfl rfl (ev_tmp rfl) (fun hg => z_callF 0 1 en_15 con_OverR (lentI (f := g))) ?_
                | refine hL rfl rfl (ev_tmp rfl) (fun hg => z_callF 0 1 en_15 con_OverR (lentI (f := g))) ?_
              first
                | refine gL rfl rfl (ev_tmp rfl) (fun hg => z_not) ?_
                | refine hL rfl rfl (ev_tmp rfl) (fun hg => z_not) ?_
              first
                | refine gL rfl rfl (ev_tmp rfl) (fun hg => z_or) ?_
                | refine hL rfl rfl (ev_tmp rfl) (fun hg => z_or) ?_
              refine aL z_and ?_
              refine aL z_move ?_
              first
                | refine gL rfl rfl (ev_tmp rfl) (fun hg => z_move) ?_
                | refine hL rfl rfl (ev_tmp rfl) (fun hg => z_move) ?_
              first
                | refine gL rfl rfl (ev_tmp rfl) (fun hg => z_callF 0 1 en_15 con_OverR (lentI (f := g))) ?_
                | refine hL rfl rfl (ev_tmp rfl) (fun hg => z_callF 0 1 en_15 con_OverR (lentI (f := g))) ?_
              first
                | refine gL rfl rfl (ev_tmp rfl) (fun hg => z_move) ?_
                | refine hL rfl rfl (ev_tmp rfl) (fun hg => z_move) ?_
              first
                | refine gL rfl rfl (ev_tmp rfl) (fun hg => z_move) ?_
                | refine hL rfl rfl (ev_tmp rfl) (fun hg => z_move) ?_
              first
                | refine gL rfl rfl (ev_tmp rfl) (fun hg => z_callF 0 1 en_14 con_LeftR (lentI (f := g))) ?_
                | refine hL rfl rfl (ev_tmp rfl) (fun hg => z_callF 0 1 en_14 con_LeftR (lentI (f := g))) ?_
              first
                | refine gL rfl rfl (ev_tmp rfl) (fun hg => z_neq) ?_
                | refine hL rfl rfl (ev_tmp rfl) (fun hg => z_neq) ?_
              first
                | refine gL rfl rfl (ev_tmp rfl) (fun hg => z_and) ?_
                | refine hL rfl rfl (ev_tmp rfl) (fun hg => z_and) ?_
              refine aL z_or ?_
              refine awl_nil (hK22 _ _ ?_)
              clear hK22 K22
              refine aC (fun r5 c5 => ?_) (fun r5 c5 => ?_)
              · exfalso
                rcases c5 with ⟨h1, h2⟩ | ⟨h1, h2⟩
                · rw [take_over h1] at hT
                  injection hT with e1 e2
                  subst e1 e2
                  rcases h2 with h2 | h2
                  · exact h2 rfl
                  · rw [h1] at h2; cases h2
                · exact h2 (if_pos h1)
              · refine aw_skip ?_
                refine hK21 _ _ ?_
                clear hK21
                refine aw_seq fun K23 hK23 => ?_
                refine aw_region fun K24 hK24 => ?_
                refine aL z_move ?_
                refine aL z_lss ?_
                refine aL z_move ?_
                first
                  | refine gL rfl rfl (ev_tmp rfl) (fun hg => z_move) ?_
                  | refine hL rfl rfl (ev_tmp rfl) (fun hg => z_move) ?_
                first
                  | refine gL rfl rfl (ev_tmp rfl) (fun hg => z_callF 0 1 en_14 con_LeftR (lentI (f := g))) ?_
                  | refine hL rfl rfl (ev_tmp rfl) (fun hg => z_callF 0 1 en_14 con_LeftR (lentI (f := g))) ?_
                first
                  | refine gL rfl rfl (ev_tmp rfl) (fun hg => z_move) ?_
                  | refine hL rfl rfl (ev_tmp rfl) (fun hg => z_move) ?_
                first
                  | refine gL rfl rfl (ev_tmp rfl) (fun hg => z_add) ?_
                  | refine hL rfl rfl (ev_tmp rfl) (fun hg => z_add) ?_
                first
                  | refine gL rfl rfl (ev_tmp rfl) (fun hg => z_gtr) ?_
                  | refine hL rfl rfl (ev_tmp rfl) (fun hg => z_gtr) ?_
                refine aL z_and ?_
                refine aL z_move ?_
                first
                  | refine gL rfl rfl (ev_tmp rfl) (fun hg => z_move) ?_
                  | refine hL rfl rfl (ev_tmp rfl) (fun hg => z_move) ?_
                first
                  | refine gL rfl rfl (ev_tmp rfl) (fun hg => z_callF 0 1 en_14 con_LeftR (lentI (f := g))) ?_
                  | refine hL rfl rfl (ev_tmp rfl) (fun hg => z_callF 0 1 en_14 con_LeftR (lentI (f := g))) ?_
                first
                  | refine gL rfl rfl (ev_tmp rfl) (fun hg => z_gtr) ?_
                  | refine hL rfl rfl (ev_tmp rfl) (fun hg => z_gtr) ?_
                refine aL z_and ?_
                refine awl_nil (hK24 _ _ ?_)
                clear hK24 K24
                refine aC (fun r6 c6 => ?_) (fun r6 c6 => ?_)
                · exact (left_little hgl (lim := lim) (by rw [hgm, ← hlim]; split <;> omega) c6.1.2 c6.2).elim
                · refine aw_skip ?_
                  refine hK23 _ _ ?_
                  clear hK23
                  refine aw_region fun K25 hK25 => ?_
                  refine aL z_assign ?_
                  refine awl_nil (hK25 _ _ ?_)
                  clear hK25 K25
                  refine aw_block ?_
                  refine aw_loop (α := {k : Nat // k ≤ its.length}) (fun x => ([(0, .v (.int .i64 m)), (2, .v (.sl (psV ps))), (10, .ptr 0 0), (11, .v (.int .i64 lim)), (12, .v (.int .i64 (i : Int))), (14, .v (.sl (itV its))), (15, .v (.int .i64 (x.1 : Int)))], [(0, .box (fdI 1 g 0)), (1, rw1 0 g.left)])) (fun x => its.length - x.1) ⟨0, Nat.zero_le _⟩ ?_ ?_
                  · dsimp only
                    exact Weak.trans (weak_rever 1 0 rfl) wK
                  · rintro ⟨k, hk⟩ K26 hK26
                    dsimp only
                    refine aw_seq fun K27 hK27 => ?_
                    refine aw_region fun K28 hK28 => ?_
                    refine aL z_move ?_
                    refine aL z_move ?_
                    first
                      | refine aL (z_lenB Try.underlying29) ?_
                      | refine aL (z_len Try.underlying29) ?_
                      | refine aL (z_lenV Try.underlying29) ?_
                    refine aL z_lss ?_
                    refine awl_nil (hK28 _ _ ?_)
                    clear hK28 K28
                    refine aC (fun r7 c7 => ?_) (fun r7 c7 => ?_)
                    · refine aw_skip ?_
                      refine hK27 _ _ ?_
                      clear hK27
                      refine aw_seq fun K29 hK29 => ?_
                      refine aw_block ?_
                      refine aw_region fun K30 hK30 => ?_
                      have hkl : k < its.length := by omega
                      have hi2 : (itV its)[k]? = some (its[k]).vs := itV_get hkl
                      refine aL z_move ?_
                      refine aL z_move ?_
                      first
                        | refine aL (z_indexAddr Try.underlying29 sz_42) ?_
                        | refine aL (z_indexAddrV Try.underlying29 sz_42) ?_
                      first
                        | refine aL (z_fieldAddr fo_42_1) ?_
                        | refine aL (z_fieldRef fo_42_1) ?_
                        | refine aL (z_fieldV fo_42_1) ?_
                      first
                        | refine aL (z_fieldAddr fo_37_0) ?_
                        | refine aL (z_fieldRef fo_37_0) ?_
                        | refine aL (z_fieldV fo_37_0) ?_
                      first
                        | refine aL (z_load sz_4) ?_
                        | refine aL (z_loadRef sz_4) ?_
                        | refine aL (z_loadV sz_4) ?_
                      refine aL z_move ?_
                      first
                        | refine gL rfl rfl (ev_tmp rfl) (fun hg => z_move) ?_
                        | refine hL rfl rfl (ev_tmp rfl) (fun hg => z_move) ?_
                      first
                        | refine gL rfl rfl (ev_tmp rfl) (fun hg => z_move) ?_
                        | refine hL rfl rfl (ev_tmp rfl) (fun hg => z_move) ?_
                      first
                        | refine gL rfl rfl (ev_tmp rfl) (fun hg => z_indexAddr Try.underlying29 sz_42) ?_
                        | refine gL rfl rfl (ev_tmp rfl) (fun hg => z_indexAddrV Try.underlying29 sz_42) ?_
                        | refine hL rfl rfl (ev_tmp rfl) (fun hg => z_indexAddr Try.underlying29 sz_42) ?_
                        | refine hL rfl rfl (ev_tmp rfl) (fun hg => z_indexAddrV Try.underlying29 sz_42) ?_
                      first
                        | refine gL rfl rfl (ev_tmp rfl) (fun hg => z_fieldAddr fo_42_1) ?_
                        | refine gL rfl rfl (ev_tmp rfl) (fun hg => z_fieldRef fo_42_1) ?_
                        | refine gL rfl rfl (ev_tmp rfl) (fun hg => z_fieldV fo_42_1) ?_
                        | refine hL rfl rfl (ev_tmp rfl) (fun hg => z_fieldAddr fo_42_1) ?_
                        | refine hL rfl rfl (ev_tmp rfl) (fun hg => z_fieldRef fo_42_1) ?_
                        | refine hL rfl rfl (ev_tmp rfl) (fun hg => z_fieldV fo_42_1) ?_
                      first
                        | refine gL rfl rfl (ev_tmp rfl) (fun hg => z_fieldAddr fo_37_2) ?_
                        | refine gL rfl rfl (ev_tmp rfl) (fun hg => z_fieldRef fo_37_2) ?_
                        | refine gL rfl rfl (ev_tmp rfl) (fun hg => z_fieldV fo_37_2) ?_
                        | refine hL rfl rfl (ev_tmp rfl) (fun hg => z_fieldAddr fo_37_2) ?_
                        | refine hL rfl rfl (ev_tmp rfl) (fun hg => z_fieldRef fo_37_2) ?_
                        | refine hL rfl rfl (ev_tmp rfl) (fun hg => z_fieldV fo_37_2) ?_
                      first
                        | refine gL rfl rfl (ev_tmp rfl) (fun hg => z_load sz_3) ?_
                        | refine gL rfl rfl (ev_tmp rfl) (fun hg => z_loadRef sz_3) ?_
                        | refine gL rfl rfl (ev_tmp rfl) (fun hg => z_loadV sz_3) ?_
                        | refine hL rfl rfl (ev_tmp rfl) (fun hg => z_load sz_3) ?_
                        | refine hL rfl rfl (ev_tmp rfl) (fun hg => z_loadRef sz_3) ?_
                        | refine hL rfl rfl (ev_tmp rfl) (fun hg => z_loadV sz_3) ?_
                      first
                        | refine gL rfl rfl (ev_tmp rfl) (fun hg => z_eql) ?_
                        | refine hL rfl rfl (ev_tmp rfl) (fun hg => z_eql) ?_
                      refine aL z_and ?_
                      refine aL z_assign ?_
                      refine awl_nil (hK30 _ _ ?_)
                      clear hK30 K30
                      refine aw_region fun K31 hK31 => ?_
                      refine aL z_move ?_
                      refine aL z_move ?_
                      refine aL z_move ?_
                      first
                        | refine aL (z_lenB Try.underlying29) ?_
                        | refine aL (z_len Try.underlying29) ?_
                        | refine aL (z_lenV Try.underlying29) ?_
                      refine aL z_sub ?_
                      refine aL z_eql ?_
                      refine aL z_move ?_
                      first
                        | refine gL rfl rfl (ev_tmp rfl) (fun hg => z_move) ?_
                        | refine hL rfl rfl (ev_tmp rfl) (fun hg => z_move) ?_
                      first
                        | refine gL rfl rfl (ev_tmp rfl) (fun hg => z_callF 0 1 en_15 con_OverR (lentI (f := g))) ?_
                        | refine hL rfl rfl (ev_tmp rfl) (fun hg => z_callF 0 1 en_15 con_OverR (lentI (f := g))) ?_
                      refine aL z_and ?_
                      refine aL (z_neqB Try.underlying4) ?_
                      refine awl_nil (hK31 _ _ ?_)
                      clear hK31 K31
                      refine aC (fun r8 c8 => ?_) (fun r8 c8 => ?_)
                      · exfalso
                        have h := hlast k its[k] (List.getElem?_eq_getElem hkl)
                        have e2 : ((k : Int) == ((itV its).length : Int) - 1) = decide (k + 1 = its.length) := (by rw [hz2]; exact decide_eq_decide.2 (by omega))
                        rw [e2] at c8
                        change (overI its[k] == _) = false at c8
                        rw [h] at c8
                        simp at c8
                      · refine aw_skip ?_
                        refine hK29 _ _ ?_
                        clear hK29
                        refine aw_region_last ?_
                        refine aL z_move ?_
                        refine aL z_add ?_
                        refine aL z_assign ?_
                        refine awl_nil ?_
                        refine hK26 _ _ ⟨k + 1, by omega⟩ (by dsimp only; omega) ?_
                        exact wK
                    · refine aw_exit ?_
                      refine hK18 _ _ ?_
                      clear hK18
                      refine aw_region_last ?_
                      refine aL z_move ?_
                      refine aL z_add ?_
                      refine aL z_assign ?_
                      refine awl_nil ?_
                      refine hK15 _ _ ⟨(i + 1, g), hgo, hgl, hgm, by dsimp only; omega, by dsimp only; rw [flat_take hlt, List.length_append]; omega⟩ (by dsimp only; omega) ?_
                      exact wK
            · refine aw_exit ?_
              refine hK13 _ _ ?_
              clear hK13
              refine aw_region fun K32 hK32 => ?_
              refine aL z_assign ?_
              refine awl_nil (hK32 _ _ ?_)
              clear hK32 K32
              refine aw_ret ?_
              refine (hret _ _ _ _ _ rfl (.tmp rfl .nil) rfl ?_ .nil rfl).1
              rfl
        refine aw_region fun K33 hK33 => ?_
        refine aL z_move ?_
        refine aL z_gtr ?_
        refine aL z_move ?_
        first
          | refine gL rfl rfl (ev_tmp rfl) (fun hg => z_move) ?_
          | refine hL rfl rfl (ev_tmp rfl) (fun hg => z_move) ?_
        first
          | refine gL rfl rfl (ev_tmp rfl) (fun hg => z_lss) ?_
          | refine hL rfl rfl (ev_tmp rfl) (fun hg => z_lss) ?_
        refine aL z_and ?_
        refine awl_nil (hK33 _ _ ?_)
        clear hK33 K33
        refine aC (fun r9 c9 => ?_) (fun r9 c9 => ?_)
        · refine aw_region_last ?_
          refine aL z_move ?_
          refine aL z_assign ?_
          refine awl_nil ?_
          refine hK12 _ _ ?_
          first
            | (have hh : 0 < m ∧ m < 131072 := (by omega)
               have e : lim = m := (by rw [← hlim, if_pos hh])
               rw [e]
               exact wK)
            | (have hh : ¬ (0 < m ∧ m < 131072) := (by omega)
               have e : lim = 0 := (by rw [← hlim, if_neg hh])
               rw [e]
               exact wK)
        · refine aw_skip ?_
          refine hK12 _ _ ?_
          first
            | (have hh : 0 < m ∧ m < 131072 := (by omega)
               have e : lim = m := (by rw [← hlim, if_pos hh])
               rw [e]
               exact wK)
            | (have hh : ¬ (0 < m ∧ m < 131072) := (by omega)
               have e : lim = 0 := (by rw [← hlim, if_neg hh])
               rw [e]
               exact wK)
theorem con_ChopKeeps {m : Int} {p : Bool} {ps : List (List UInt8)} (hl : ps.length ≤ maxLen) : Con Try.prog 5 [.v (.int .i64 m), .v (.bool p), .v (.sl (psV ps))] [] 0 (.ret (.v (.bool true))) [] := by
  have hl : ps.length ≤ 9223372036854775807 := by simpa [maxLen] using hl
  cases h : joinM ps with
  | none => exact con_KeepsN hl h
  | some all => exact con_KeepsS hl h
end Go.Proofs.Ytigodfnckjidoaa
