/- Layer 7: ChopParts, walked. No condition. -/
import Derived.Test.YtigodfnckjidoaaChQ
namespace Go.Proofs.Ytigodfnckjidoaa
set_option linter.all false
open Go Go.RowKit
set_option maxRecDepth 10000
set_option maxHeartbeats 4000000
theorem one_cut {l : List UInt8} {k : Nat} (h : k < l.length) : cut ((some k).getD 0) ((some (k + 1)).getD (bs l).length) (bs l) = bs [l[k]] := by
  show cut k (k + 1) (bs l) = _
  have e : (l.drop k).take (k + 1 - k) = [l[k]] := by rw [List.drop_eq_getElem_cons h, Nat.add_sub_cancel_left]; rfl
  rw [bs_cut, e]
theorem cutI (a : List Itm) : cut 0 (0 + a.length) (itV a) = itV a := by have := cut_all (itV a); rwa [itV_len] at this
theorem cutI2 (a b : List Itm) : cut 0 (0 + (a.length + (itV b).length)) (itV (a ++ b)) = itV (a ++ b) := by
  have := cut_all (itV (a ++ b)); rw [itV_len, List.length_append] at this; rw [itV_len]; exact this
theorem con_PartsS {m : Int} {p : Bool} {ps : List (List UInt8)} {all : List UInt8} (hl : ps.length ≤ 9223372036854775807) (hR : joinM ps = some all) : Con Try.prog 4 [.v (.int .i64 m), .v (.bool p), .v (.sl (psV ps))] [] 0 (.ret (.v (.bool true))) [] := by
  obtain ⟨hall, hal⟩ := join_some (show joinGo [] 0 ps = some all from hR)
  rw [List.nil_append] at hall
  have hal := hal (by simp)
  obtain ⟨f0, hf0⟩ : ∃ f, Fd7.new m p = f := ⟨_, rfl⟩
  obtain ⟨hok, hov, hlf⟩ := new_ok m p
  rw [hf0] at hok hov hlf
  have hz0 : f0.left.length = 0 := by rw [hlf]; rfl
  obtain ⟨X, FA, hXA⟩ : ∃ X F, f0.take all = (X, F) := ⟨_, _, rfl⟩
  have hz := psV_len ps
  have hXl := feed_len f0 all
  rw [hXA] at hXl
  dsimp only at hXl
  have hXs : ∀ i ∈ X, i.f.sets.length ≤ 100000000 := fun i hi => by
    have := feed_sets f0 all i (by rw [hXA]; exact hi)
    omega
  refine con_of Try.func4 rfl (by show _ ≤ 116; simp) fun X Q hP hnt hnp hret hpan => ?_
  obtain ⟨P0, nt0, w0, K0, S0, np0, pin0, df0⟩ := X
  simp only at hP hnt hnp
  subst hP hnp
  obtain rfl : nt0 = 116 := hnt
  refine aw_region fun K1 hK1 => ?_
  refine aL z_assign ?_
  refine awl_nil (hK1 _ _ ?_)
  clear hK1 K1
  refine aw_seq fun K2 hK2 => ?_
  refine aw_region fun K3 hK3 => ?_
  refine aL (z_call0 .nil en_8 (con_awake)) ?_
  refine aL z_not ?_
  refine awl_nil (hK3 _ _ ?_)
  clear hK3 K3
  refine aC (fun r1 c1 => ?_) (fun r1 c1 => ?_)
  · exact absurd c1 (by decide)
  · refine aw_skip ?_
    refine hK2 _ _ ?_
    clear hK2
    refine aw_region fun K4 hK4 => ?_
    refine aL z_move ?_
    refine aL (z_call0 (eC .nil) en_9 (con_joined (R := some all) hR hl)) ?_
    refine aL z_move ?_
    refine aL z_extract ?_
    refine aL z_extract ?_
    refine aL z_assign ?_
    refine aL z_assign ?_
    refine awl_nil (hK4 _ _ ?_)
    clear hK4 K4
    refine aw_seq fun K5 hK5 => ?_
    refine aw_region fun K6 hK6 => ?_
    refine aL z_move ?_
    refine aL z_not ?_
    refine awl_nil (hK6 _ _ ?_)
    clear hK6 K6
    refine aC (fun r2 c2 => ?_) (fun r2 c2 => ?_)
    · exact absurd c2 (by decide)
    · refine aw_skip ?_
      refine hK5 _ _ ?_
      clear hK5
      refine aw_region fun K7 hK7 => ?_
      refine aL z_move ?_
      refine aL z_move ?_
      refine aL (z_callG [0, 1] (eC (eC .nil)) en_10 (con_NewF hf0) .nil) ?_
      refine aL z_assign ?_
      refine awl_nil (hK7 _ _ ?_)
      clear hK7 K7
      refine aw_region fun K8 hK8 => ?_
      refine aL z_move ?_
      refine aL z_move ?_
      refine aL (z_callG [2, 3] (eC (eC .nil)) en_10 (con_NewF hf0) .nil) ?_
      refine aL z_assign ?_
      refine awl_nil (hK8 _ _ ?_)
      clear hK8 K8
      refine aw_region fun K9 hK9 => ?_
      refine aL z_move ?_
      refine aL z_move ?_
      refine aL (z_callG [4, 5] (eC (eC .nil)) en_10 (con_NewF hf0) .nil) ?_
      refine aL z_assign ?_
      refine awl_nil (hK9 _ _ ?_)
      clear hK9 K9
      refine aw_region fun K10 hK10 => ?_
      refine aL z_move ?_
      refine aL z_move ?_
      refine aL (z_callG [0, 1] (eC (eC .nil)) en_11 (con_TakeE hXA 0 hok.1 (by omega)) (pA (pA .nil))) ?_
      refine aL z_assign ?_
      refine awl_nil (hK10 _ _ ?_)
      clear hK10 K10
      refine aw_region fun K11 hK11 => ?_
      refine aL z_assign ?_
      refine awl_nil (hK11 _ _ ?_)
      clear hK11 K11
      refine aw_weak (weak_nil (t := 13) 7 15 42 (by decide) (Nat.zero_le _) rfl rfl) ?_
      refine aw_seq fun K12 hK12 => ?_
      refine aw_region fun K13 hK13 => ?_
      refine aL z_assign ?_
      refine awl_nil (hK13 _ _ ?_)
      clear hK13 K13
      refine aw_block ?_
      refine aw_loop (α := {x : Nat × List Itm × Fd7 // Fed f0 (ps.take x.1).flatten x.2.1 x.2.2 ∧ x.2.2.ok ∧ x.1 ≤ ps.length ∧ x.2.2.left.length ≤ (ps.take x.1).flatten.length}) (fun x => ([(2, .v (.sl (psV ps))), (7, .v (.sl (bs all))), (9, .ptr 0 0), (10, .ptr 2 0), (11, .ptr 4 0), (12, .v (.sl (itV X))), (13, .view 7 0 0 x.1.2.1.length), (14, .v (.int .i64 (x.1.1 : Int)))], [(0, .box (fdI 1 FA 0)), (1, rw1 0 FA.left), (2, .box (fdI 3 x.1.2.2 0)), (3, rw1 0 x.1.2.2.left), (4, .box (fdI 5 f0 0)), (5, rw1 0 f0.left), (7, .row 0 15 42 (itV x.1.2.1))])) (fun x => ps.length - x.1.1) ⟨(0, [], f0), Fed.nil hov hlf, hok, Nat.zero_le _, by rw [hz0]; exact Nat.zero_le _⟩ ?_ ?_
      · dsimp only
        exact Weak.trans (weak_rever 1 0 rfl) wK
      · rintro ⟨⟨i, told, f⟩, hx, hfo, hil, hfl⟩ K14 hK14
        dsimp only
        dsimp only at hx hfo hil hfl
        refine aw_seq fun K15 hK15 => ?_
        refine aw_region fun K16 hK16 => ?_
        refine aL z_move ?_
        refine aL z_move ?_
        first
          | refine aL (z_lenB Try.underlying22) ?_
          | refine aL (z_len Try.underlying22) ?_
          | refine aL (z_lenV Try.underlying22) ?_
        refine aL z_lss ?_
        refine awl_nil (hK16 _ _ ?_)
        clear hK16 K16
        refine aC (fun r3 c3 => ?_) (fun r3 c3 => ?_)
        · refine aw_skip ?_
          refine hK15 _ _ ?_
          clear hK15
          refine aw_seq fun K17 hK17 => ?_
          refine aw_block ?_
          refine aw_region_last ?_
          have hlt : i < ps.length := by omega
          have hi : (psV ps)[i]? = some [V.sl (bs ps[i])] := psV_get hlt
          have hpi := flat_at hlt
          rw [← hall] at hpi
          have htl := hx.len hlf
          have hfl2 := feed_len f ps[i]
          refine aL z_move ?_
          refine aL z_move ?_
          refine aL z_move ?_
          refine aL z_move ?_
          first
            | refine aL (z_indexAddr Try.underlying22 sz_24) ?_
            | refine aL (z_indexAddrV Try.underlying22 sz_24) ?_
          first
            | refine aL (z_load sz_24) ?_
            | refine aL (z_loadRef sz_24) ?_
            | refine aL (z_loadV sz_24) ?_
          refine aL (z_callG [2, 3] (eC (eC .nil)) en_11 (con_Take (f := f) (b := ps[i]) 0 hfo.1 (by omega)) (pA (pA .nil))) ?_
          refine aL (z_app Try.underlying29 zi_42 (c' := itV (told ++ (f.take ps[i]).1)) (hc := itV_join rfl) (hs := itV_one _) (hb := by simp; omega)) ?_
          refine aL z_assign ?_
          refine awl_nil ?_
          refine hK17 _ _ ?_
          clear hK17
          refine aw_region_last ?_
          refine aL z_move ?_
          refine aL z_add ?_
          refine aL z_assign ?_
          refine awl_nil ?_
          have hfd := Fed.step hok hx ps[i]
          rw [← flat_take hlt] at hfd
          refine hK14 _ _ ⟨(i + 1, told ++ (f.take ps[i]).1, (f.take ps[i]).2), hfd, take_okF hfo _, by dsimp only; omega, by dsimp only; rw [flat_take hlt, List.length_append]; omega⟩ (by dsimp only; omega) ?_
          exact Weak.trans (weak_rever 3 0 rfl) (Weak.trans (weak_rever 7 0 rfl) wK)
        · refine aw_exit ?_
          refine hK12 _ _ ?_
          clear hK12
          refine aw_region fun K18 hK18 => ?_
          refine aL z_assign ?_
          refine awl_nil (hK18 _ _ ?_)
          clear hK18 K18
          refine aw_weak (weak_nil (t := 15) 9 15 42 (by decide) (Nat.zero_le _) rfl rfl) ?_
          refine aw_seq fun K19 hK19 => ?_
          refine aw_region fun K20 hK20 => ?_
          refine aL z_assign ?_
          refine awl_nil (hK20 _ _ ?_)
          clear hK20 K20
          refine aw_block ?_
          refine aw_loop (α := {x : Nat × List Itm × Fd7 // Fed f0 (all.take x.1) x.2.1 x.2.2 ∧ x.2.2.ok ∧ x.1 ≤ all.length ∧ x.1 ≤ 600 ∧ x.2.2.left.length ≤ x.1}) (fun x => ([(7, .v (.sl (bs all))), (9, .ptr 0 0), (10, .ptr 2 0), (11, .ptr 4 0), (12, .v (.sl (itV X))), (13, .view 7 0 0 told.length), (15, .view 9 0 0 x.1.2.1.length), (16, .v (.int .i64 (x.1.1 : Int)))], [(0, .box (fdI 1 FA 0)), (1, rw1 0 FA.left), (2, .box (fdI 3 f 0)), (3, rw1 0 f.left), (4, .box (fdI 5 x.1.2.2 0)), (5, rw1 0 x.1.2.2.left), (7, .row 0 15 42 (itV told)), (9, .row 0 15 42 (itV x.1.2.1))])) (fun x => all.length - x.1.1) ⟨(0, [], f0), Fed.nil hov hlf, hok, Nat.zero_le _, Nat.zero_le _, by rw [hz0]; exact Nat.zero_le _⟩ ?_ ?_
          · dsimp only
            exact wK
          · rintro ⟨⟨k, tz, g⟩, hy, hgo, hka, hk6, hgl⟩ K21 hK21
            dsimp only
            dsimp only at hy hgo hka hk6 hgl
            refine aw_seq fun K22 hK22 => ?_
            refine aw_region fun K23 hK23 => ?_
            refine aL z_move ?_
            refine aL z_move ?_
            first
              | refine aL (z_lenB Try.underlying24) ?_
              | refine aL (z_len Try.underlying24) ?_
              | refine aL (z_lenV Try.underlying24) ?_
            refine aL z_lss ?_
            refine aL z_move ?_
            first
              | refine gL rfl rfl (ev_tmp rfl) (fun hg => z_move) ?_
              | refine hL rfl rfl (ev_tmp rfl) (fun hg => z_move) ?_
            first
              | refine gL rfl rfl (ev_tmp rfl) (fun hg => z_lss) ?_
              | refine hL rfl rfl (ev_tmp rfl) (fun hg => z_lss) ?_
            refine aL z_and ?_
            refine awl_nil (hK23 _ _ ?_)
            clear hK23 K23
            refine aC (fun r4 c4 => ?_) (fun r4 c4 => ?_)
            · refine aw_skip ?_
              refine hK22 _ _ ?_
              clear hK22
              refine aw_seq fun K24 hK24 => ?_
              refine aw_block ?_
              refine aw_region_last ?_
              have hlt : k < all.length := by omega
              have hgl2 := (feed_len g [all[k]]).2
              have htz := hy.len hlf
              have htz2 := (feed_len g [all[k]]).1
              have hkt : (all.take k).length = k := by simp; omega
              simp at htz2
              refine aL z_move ?_
              refine aL z_move ?_
              refine aL z_move ?_
              refine aL z_move ?_
              refine aL z_move ?_
              refine aL z_add ?_
              refine aL (z_slice Try.underlying24 sz_5 (j := some (k + 1)) (hhi := .yes (ev_tmp rfl) rfl) (c' := bs [all[k]]) (hc := one_cut hlt)) ?_
              refine aL (z_callG [4, 5] (eC (eC .nil)) en_11 (con_Take (f := g) (b := [all[k]]) 0 hgo.1 (by simp; omega)) (pA (pA .nil))) ?_
              refine aL (z_app Try.underlying29 zi_42 (c' := itV (tz ++ (g.take [all[k]]).1)) (hc := itV_join rfl) (hs := itV_one _) (hb := by simp; omega)) ?_
              refine aL z_assign ?_
              refine awl_nil ?_
              refine hK24 _ _ ?_
              clear hK24
              refine aw_region_last ?_
              refine aL z_move ?_
              refine aL z_add ?_
              refine aL z_assign ?_
              refine awl_nil ?_
              have hfd := Fed.step hok hy [all[k]]
              have e1 : all.take k ++ [all[k]] = all.take (k + 1) := by rw [List.take_add_one, List.getElem?_eq_getElem hlt]; rfl
              rw [e1] at hfd
              refine hK21 _ _ ⟨(k + 1, tz ++ (g.take [all[k]]).1, (g.take [all[k]]).2), hfd, take_okF hgo _, by dsimp only; omega, by dsimp only; omega, by dsimp only; simp at hgl2; omega⟩ (by dsimp only; omega) ?_
              exact Weak.trans (weak_rever 5 0 rfl) (Weak.trans (weak_rever 9 0 rfl) wK)
            · refine aw_exit ?_
              refine hK19 _ _ ?_
              clear hK19
              refine aw_seq fun K25 hK25 => ?_
              refine aw_region fun K26 hK26 => ?_
              refine aL z_move ?_
              first
                | refine aL (z_lenB Try.underlying24) ?_
                | refine aL (z_len Try.underlying24) ?_
                | refine aL (z_lenV Try.underlying24) ?_
              refine aL z_gtr ?_
              refine awl_nil (hK26 _ _ ?_)
              clear hK26 K26
              refine aC (fun r5 c5 => ?_) (fun r5 c5 => ?_)
              · refine aw_region_last ?_
                have hk6e : k = 600 := by omega
                have hgl3 := feed_len g (all.drop 600)
                have htz := hy.len hlf
                have hkt : (all.take k).length = k := by simp; omega
                have hd6 : (all.drop 600).length = all.length - 600 := by simp
                refine aL z_move ?_
                refine aL z_move ?_
                refine aL z_move ?_
                refine aL (z_slice Try.underlying24 sz_5) ?_
                refine aL (z_callG [4, 5] (eC (eC .nil)) en_11 (con_Take (f := g) (b := all.drop 600) 0 hgo.1 (by omega)) (pA (pA .nil))) ?_
                refine aL (z_app Try.underlying29 zi_42 (c' := itV (tz ++ (g.take (all.drop 600)).1)) (hc := itV_join rfl) (hs := itV_one _) (hb := by simp; omega)) ?_
                refine aL z_assign ?_
                refine awl_nil ?_
                refine hK25 _ _ ?_
                clear hK25
                refine aw_region fun K27 hK27 => ?_
                have hie : i = ps.length := by omega
                have hxx := hx
                rw [hie, List.take_length, ← hall] at hxx
                have et : told = X := hxx.told.trans (by rw [hXA])
                have hcy : cut 0 (0 + told.length) (itV told) = itV told := (by have := cut_all (itV told); rwa [itV_len] at this)
                first
                  | (have hh := hk6e
                     have hyy := Fed.step hok hy (all.drop 600)
                     rw [hk6e, List.take_append_drop] at hyy)
                  | (have hyy := hy
                     rw [List.take_of_length_le (by omega)] at hyy)
                refine aL z_move ?_
                refine aL z_move ?_
                refine aL (z_callL 7 (eC (eC .nil)) en_13 (con_Same7 (a := X) (b := told) (by omega) hXs) (hl := .same rfl (.view (by first | exact cutI _ | exact cutI2 _ _) .nil))) ?_
                refine aL z_move ?_
                first
                  | refine gL rfl rfl (ev_tmp rfl) (fun hg => z_move) ?_
                  | refine hL rfl rfl (ev_tmp rfl) (fun hg => z_move) ?_
                first
                  | refine gL rfl rfl (ev_tmp rfl) (fun hg => z_move) ?_
                  | refine hL rfl rfl (ev_tmp rfl) (fun hg => z_move) ?_
                first
                  | refine gL rfl rfl (ev_tmp rfl) (fun hg => z_callL 9 (eC (eC .nil)) en_13 (con_Same7 (a := X) (b := tz) (by omega) hXs) (hl := .same rfl (.view (by first | exact cutI _ | exact cutI2 _ _) .nil))) ?_
                  | refine gL rfl rfl (ev_tmp rfl) (fun hg => z_callL 9 (eC (eC .nil)) en_13 (con_Same7 (a := X) (b := tz ++ (g.take (all.drop 600)).1) (by omega) hXs) (hl := .same rfl (.view (by first | exact cutI _ | exact cutI2 _ _) .nil))) ?_
                  | refine hL rfl rfl (ev_tmp rfl) (fun hg => z_callL 9 (eC (eC .nil)) en_13 (con_Same7 (a := X) (b := tz) (by omega) hXs) (hl := .same rfl (.view (by first | exact cutI _ | exact cutI2 _ _) .nil))) ?_
                  | refine hL rfl rfl (ev_tmp rfl) (fun hg => z_callL 9 (eC (eC .nil)) en_13 (con_Same7 (a := X) (b := tz ++ (g.take (all.drop 600)).1) (by omega) hXs) (hl := .same rfl (.view (by first | exact cutI _ | exact cutI2 _ _) .nil))) ?_
                refine aL z_and ?_
                refine aL z_move ?_
                first
                  | refine gL rfl rfl (ev_tmp rfl) (fun hg => z_move) ?_
                  | refine hL rfl rfl (ev_tmp rfl) (fun hg => z_move) ?_
                first
                  | refine gL rfl rfl (ev_tmp rfl) (fun hg => z_callF 0 1 en_14 con_LeftR (lentI (f := FA))) ?_
                  | refine hL rfl rfl (ev_tmp rfl) (fun hg => z_callF 0 1 en_14 con_LeftR (lentI (f := FA))) ?_
                first
                  | refine gL rfl rfl (ev_tmp rfl) (fun hg => z_move) ?_
                  | refine hL rfl rfl (ev_tmp rfl) (fun hg => z_move) ?_
                first
                  | refine gL rfl rfl (ev_tmp rfl) (fun hg => z_callF 2 3 en_14 con_LeftR (lentI (f := f))) ?_
                  | refine hL rfl rfl (ev_tmp rfl) (fun hg => z_callF 2 3 en_14 con_LeftR (lentI (f := f))) ?_
                first
                  | refine gL rfl rfl (ev_tmp rfl) (fun hg => z_eql) ?_
                  | refine hL rfl rfl (ev_tmp rfl) (fun hg => z_eql) ?_
                refine aL z_and ?_
                refine aL z_move ?_
                first
                  | refine gL rfl rfl (ev_tmp rfl) (fun hg => z_move) ?_
                  | refine hL rfl rfl (ev_tmp rfl) (fun hg => z_move) ?_
                first
                  | refine gL rfl rfl (ev_tmp rfl) (fun hg => z_callF 0 1 en_14 con_LeftR (lentI (f := FA))) ?_
                  | refine hL rfl rfl (ev_tmp rfl) (fun hg => z_callF 0 1 en_14 con_LeftR (lentI (f := FA))) ?_
                first
                  | refine gL rfl rfl (ev_tmp rfl) (fun hg => z_move) ?_
                  | refine hL rfl rfl (ev_tmp rfl) (fun hg => z_move) ?_
                first
                  | refine gL rfl rfl (ev_tmp rfl) (fun hg => z_callF 4 5 en_14 con_LeftR (lentI (f := g))) ?_
                  | refine gL rfl rfl (ev_tmp rfl) (fun hg => z_callF 4 5 en_14 con_LeftR (lentI (f := (g.take (all.drop 600)).2))) ?_
                  | refine hL rfl rfl (ev_tmp rfl) (fun hg => z_callF 4 5 en_14 con_LeftR (lentI (f := g))) ?_
                  | refine hL rfl rfl (ev_tmp rfl) (fun hg => z_callF 4 5 en_14 con_LeftR (lentI (f := (g.take (all.drop 600)).2))) ?_
                first
                  | refine gL rfl rfl (ev_tmp rfl) (fun hg => z_eql) ?_
                  | refine hL rfl rfl (ev_tmp rfl) (fun hg => z_eql) ?_
                refine aL z_and ?_
                refine aL z_move ?_
                first
                  | refine gL rfl rfl (ev_tmp rfl) (fun hg => z_move) ?_
                  | refine hL rfl rfl (ev_tmp rfl) (fun hg => z_move) ?_
                first
                  | refine gL rfl rfl (ev_tmp rfl) (fun hg => z_callF 0 1 en_15 con_OverR (lentI (f := FA))) ?_
                  | refine hL rfl rfl (ev_tmp rfl) (fun hg => z_callF 0 1 en_15 con_OverR (lentI (f := FA))) ?_
                first
                  | refine gL rfl rfl (ev_tmp rfl) (fun hg => z_move) ?_
                  | refine hL rfl rfl (ev_tmp rfl) (fun hg => z_move) ?_
                first
                  | refine gL rfl rfl (ev_tmp rfl) (fun hg => z_callF 2 3 en_15 con_OverR (lentI (f := f))) ?_
                  | refine hL rfl rfl (ev_tmp rfl) (fun hg => z_callF 2 3 en_15 con_OverR (lentI (f := f))) ?_
                first
                  | refine gL rfl rfl (ev_tmp rfl) (fun hg => z_eqlB Try.underlying4) ?_
                  | refine hL rfl rfl (ev_tmp rfl) (fun hg => z_eqlB Try.underlying4) ?_
                refine aL z_and ?_
                refine aL z_move ?_
                first
                  | refine gL rfl rfl (ev_tmp rfl) (fun hg => z_move) ?_
                  | refine hL rfl rfl (ev_tmp rfl) (fun hg => z_move) ?_
                first
                  | refine gL rfl rfl (ev_tmp rfl) (fun hg => z_callF 0 1 en_15 con_OverR (lentI (f := FA))) ?_
                  | refine hL rfl rfl (ev_tmp rfl) (fun hg => z_callF 0 1 en_15 con_OverR (lentI (f := FA))) ?_
                first
                  | refine gL rfl rfl (ev_tmp rfl) (fun hg => z_move) ?_
                  | refine hL rfl rfl (ev_tmp rfl) (fun hg => z_move) ?_
                first
                  | refine gL rfl rfl (ev_tmp rfl) (fun hg => z_callF 4 5 en_15 con_OverR (lentI (f := g))) ?_
                  | refine gL rfl rfl (ev_tmp rfl) (fun hg => z_callF 4 5 en_15 con_OverR (lentI (f := (g.take (all.drop 600)).2))) ?_
                  | refine hL rfl rfl (ev_tmp rfl) (fun hg => z_callF 4 5 en_15 con_OverR (lentI (f := g))) ?_
                  | refine hL rfl rfl (ev_tmp rfl) (fun hg => z_callF 4 5 en_15 con_OverR (lentI (f := (g.take (all.drop 600)).2))) ?_
                first
                  | refine gL rfl rfl (ev_tmp rfl) (fun hg => z_eqlB Try.underlying4) ?_
                  | refine hL rfl rfl (ev_tmp rfl) (fun hg => z_eqlB Try.underlying4) ?_
                refine aL z_and ?_
                refine aL z_assign ?_
                refine awl_nil (hK27 _ _ ?_)
                clear hK27 K27
                refine aw_ret ?_
                refine (hret _ _ _ _ _ rfl (.tmp rfl .nil) rfl ?_ .nil rfl).1
                have e1 := (sameI_iff _ _).2 et.symm
                have e2 := (sameI_iff _ _).2 (hyy.told.trans (show (f0.take all).1 = X by rw [hXA])).symm
                have e3 := hxx.left.trans (show (f0.take all).2.leftM = FA.leftM by rw [hXA])
                have e4 := hyy.left.trans (show (f0.take all).2.leftM = FA.leftM by rw [hXA])
                have e5 := hxx.over.trans (show (f0.take all).2.over = FA.over by rw [hXA])
                have e6 := hyy.over.trans (show (f0.take all).2.over = FA.over by rw [hXA])
                simp only [retD, e1, e2, e3, e4, e5, e6, beq_self_eq_true, Bool.and_self, Bool.and_true, Bool.true_and, Bool.true_eq_false, if_true]
              · refine aw_skip ?_
                refine hK25 _ _ ?_
                clear hK25
                refine aw_region fun K28 hK28 => ?_
                have hie : i = ps.length := by omega
                have hxx := hx
                rw [hie, List.take_length, ← hall] at hxx
                have et : told = X := hxx.told.trans (by rw [hXA])
                have hcy : cut 0 (0 + told.length) (itV told) = itV told := (by have := cut_all (itV told); rwa [itV_len] at this)
                first
                  | (have hh := hk6e
                     have hyy := Fed.step hok hy (all.drop 600)
                     rw [hk6e, List.take_append_drop] at hyy)
                  | (have hyy := hy
                     rw [List.take_of_length_le (by omega)] at hyy)
                refine aL z_move ?_
                refine aL z_move ?_
                refine aL (z_callL 7 (eC (eC .nil)) en_13 (con_Same7 (a := X) (b := told) (by omega) hXs) (hl := .same rfl (.view (by first | exact cutI _ | exact cutI2 _ _) .nil))) ?_
                refine aL z_move ?_
                first
                  | refine gL rfl rfl (ev_tmp rfl) (fun hg => z_move) ?_
                  | refine hL rfl rfl (ev_tmp rfl) (fun hg => z_move) ?_
                first
                  | refine gL rfl rfl (ev_tmp rfl) (fun hg => z_move) ?_
                  | refine hL rfl rfl (ev_tmp rfl) (fun hg => z_move) ?_
                first
                  | refine gL rfl rfl (ev_tmp rfl) (fun hg => z_callL 9 (eC (eC .nil)) en_13 (con_Same7 (a := X) (b := tz) (by omega) hXs) (hl := .same rfl (.view (by first | exact cutI _ | exact cutI2 _ _) .nil))) ?_
                  | refine gL rfl rfl (ev_tmp rfl) (fun hg => z_callL 9 (eC (eC .nil)) en_13 (con_Same7 (a := X) (b := tz ++ (g.take (all.drop 600)).1) (by omega) hXs) (hl := .same rfl (.view (by first | exact cutI _ | exact cutI2 _ _) .nil))) ?_
                  | refine hL rfl rfl (ev_tmp rfl) (fun hg => z_callL 9 (eC (eC .nil)) en_13 (con_Same7 (a := X) (b := tz) (by omega) hXs) (hl := .same rfl (.view (by first | exact cutI _ | exact cutI2 _ _) .nil))) ?_
                  | refine hL rfl rfl (ev_tmp rfl) (fun hg => z_callL 9 (eC (eC .nil)) en_13 (con_Same7 (a := X) (b := tz ++ (g.take (all.drop 600)).1) (by omega) hXs) (hl := .same rfl (.view (by first | exact cutI _ | exact cutI2 _ _) .nil))) ?_
                refine aL z_and ?_
                refine aL z_move ?_
                first
                  | refine gL rfl rfl (ev_tmp rfl) (fun hg => z_move) ?_
                  | refine hL rfl rfl (ev_tmp rfl) (fun hg => z_move) ?_
                first
                  | refine gL rfl rfl (ev_tmp rfl) (fun hg => z_callF 0 1 en_14 con_LeftR (lentI (f := FA))) ?_
                  | refine hL rfl rfl (ev_tmp rfl) (fun hg => z_callF 0 1 en_14 con_LeftR (lentI (f := FA))) ?_
                first
                  | refine gL rfl rfl (ev_tmp rfl) (fun hg => z_move) ?_
                  | refine hL rfl rfl (ev_tmp rfl) (fun hg => z_move) ?_
                first
                  | refine gL rfl rfl (ev_tmp rfl) (fun hg => z_callF 2 3 en_14 con_LeftR (lentI (f := f))) ?_
                  | refine hL rfl rfl (ev_tmp rfl) (fun hg => z_callF 2 3 en_14 con_LeftR (lentI (f := f))) ?_
                first
                  | refine gL rfl rfl (ev_tmp rfl) (fun hg => z_eql) ?_
                  | refine hL rfl rfl (ev_tmp rfl) (fun hg => z_eql) ?_
                refine aL z_and ?_
                refine aL z_move ?_
                first
                  | refine gL rfl rfl (ev_tmp rfl) (fun hg => z_move) ?_
                  | refine hL rfl rfl (ev_tmp rfl) (fun hg => z_move) ?_
                first
                  | refine gL rfl rfl (ev_tmp rfl) (fun hg => z_callF 0 1 en_14 con_LeftR (lentI (f := FA))) ?_
                  | refine hL rfl rfl (ev_tmp rfl) (fun hg => z_callF 0 1 en_14 con_LeftR (lentI (f := FA))) ?_
                first
                  | refine gL rfl rfl (ev_tmp rfl) (fun hg => z_move) ?_
                  | refine hL rfl rfl (ev_tmp rfl) (fun hg => z_move) ?_
                first
                  | refine gL rfl rfl (ev_tmp rfl) (fun hg => z_callF 4 5 en_14 con_LeftR (lentI (f := g))) ?_
                  | refine gL rfl rfl (ev_tmp rfl) (fun hg => z_callF 4 5 en_14 con_LeftR (lentI (f := (g.take (all.drop 600)).2))) ?_
                  | refine hL rfl rfl (ev_tmp rfl) (fun hg => z_callF 4 5 en_14 con_LeftR (lentI (f := g))) ?_
                  | refine hL rfl rfl (ev_tmp rfl) (fun hg => z_callF 4 5 en_14 con_LeftR (lentI (f := (g.take (all.drop 600)).2))) ?_
                first
                  | refine gL rfl rfl (ev_tmp rfl) (fun hg => z_eql) ?_
                  | refine hL rfl rfl (ev_tmp rfl) (fun hg => z_eql) ?_
                refine aL z_and ?_
                refine aL z_move ?_
                first
                  | refine gL rfl rfl (ev_tmp rfl) (fun hg => z_move) ?_
                  | refine hL rfl rfl (ev_tmp rfl) (fun hg => z_move) ?_
                first
                  | refine gL rfl rfl (ev_tmp rfl) (fun hg => z_callF 0 1 en_15 con_OverR (lentI (f := FA))) ?_
                  | refine hL rfl rfl (ev_tmp rfl) (fun hg => z_callF 0 1 en_15 con_OverR (lentI (f := FA))) ?_
                first
                  | refine gL rfl rfl (ev_tmp rfl) (fun hg => z_move) ?_
                  | refine hL rfl rfl (ev_tmp rfl) (fun hg => z_move) ?_
                first
                  | refine gL rfl rfl (ev_tmp rfl) (fun hg => z_callF 2 3 en_15 con_OverR (lentI (f := f))) ?_
                  | refine hL rfl rfl (ev_tmp rfl) (fun hg => z_callF 2 3 en_15 con_OverR (lentI (f := f))) ?_
                first
                  | refine gL rfl rfl (ev_tmp rfl) (fun hg => z_eqlB Try.underlying4) ?_
                  | refine hL rfl rfl (ev_tmp rfl) (fun hg => z_eqlB Try.underlying4) ?_
                refine aL z_and ?_
                refine aL z_move ?_
                first
                  | refine gL rfl rfl (ev_tmp rfl) (fun hg => z_move) ?_
                  | refine hL rfl rfl (ev_tmp rfl) (fun hg => z_move) ?_
                first
                  | refine gL rfl rfl (ev_tmp rfl) (fun hg => z_callF 0 1 en_15 con_OverR (lentI (f := FA))) ?_
                  | refine hL rfl rfl (ev_tmp rfl) (fun hg => z_callF 0 1 en_15 con_OverR (lentI (f := FA))) ?_
                first
                  | refine gL rfl rfl (ev_tmp rfl) (fun hg => z_move) ?_
                  | refine hL rfl rfl (ev_tmp rfl) (fun hg => z_move) ?_
                first
                  | refine gL rfl rfl (ev_tmp rfl) (fun hg => z_callF 4 5 en_15 con_OverR (lentI (f := g))) ?_
                  | refine gL rfl rfl (ev_tmp rfl) (fun hg => z_callF 4 5 en_15 con_OverR (lentI (f := (g.take (all.drop 600)).2))) ?_
                  | refine hL rfl rfl (ev_tmp rfl) (fun hg => z_callF 4 5 en_15 con_OverR (lentI (f := g))) ?_
                  | refine hL rfl rfl (ev_tmp rfl) (fun hg => z_callF 4 5 en_15 con_OverR (lentI (f := (g.take (all.drop 600)).2))) ?_
                first
                  | refine gL rfl rfl (ev_tmp rfl) (fun hg => z_eqlB Try.underlying4) ?_
                  | refine hL rfl rfl (ev_tmp rfl) (fun hg => z_eqlB Try.underlying4) ?_
                refine aL z_and ?_
                refine aL z_assign ?_
                refine awl_nil (hK28 _ _ ?_)
                clear hK28 K28
                refine aw_ret ?_
                refine (hret _ _ _ _ _ rfl (.tmp rfl .nil) rfl ?_ .nil rfl).1
                have e1 := (sameI_iff _ _).2 et.symm
                have e2 := (sameI_iff _ _).2 (hyy.told.trans (show (f0.take all).1 = X by rw [hXA])).symm
                have e3 := hxx.left.trans (show (f0.take all).2.leftM = FA.leftM by rw [hXA])
                have e4 := hyy.left.trans (show (f0.take all).2.leftM = FA.leftM by rw [hXA])
                have e5 := hxx.over.trans (show (f0.take all).2.over = FA.over by rw [hXA])
                have e6 := hyy.over.trans (show (f0.take all).2.over = FA.over by rw [hXA])
                simp only [retD, e1, e2, e3, e4, e5, e6, beq_self_eq_true, Bool.and_self, Bool.and_true, Bool.true_and, Bool.true_eq_false, if_true]
theorem con_ChopParts {m : Int} {p : Bool} {ps : List (List UInt8)} (hl : ps.length ≤ 9223372036854775807) : Con Try.prog 4 [.v (.int .i64 m), .v (.bool p), .v (.sl (psV ps))] [] 0 (.ret (.v (.bool true))) [] := by
  cases h : joinM ps with
  | none => exact con_PartsN hl h
  | some all => exact con_PartsS hl h
end Go.Proofs.Ytigodfnckjidoaa
