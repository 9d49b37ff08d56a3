/- Layer 7: ChopTakes, walked. No condition. -/
import Derived.Test.YtigodfnckjidoaaChU
import Derived.Test.YtigodfnckjidoaaChY
import Derived.Test.YtigodfnckjidoaaBk
namespace Go.Proofs.Ytigodfnckjidoaa
set_option linter.all false
open Go Go.RowKit
set_option maxRecDepth 10000
set_option maxHeartbeats 4000000
theorem con_TakesN {m : Int} {p : Bool} {ps : List (List UInt8)} (hl : ps.length ≤ 9223372036854775807) (hR : joinM ps = none) : Con Try.prog 3 [.v (.int .i64 m), .v (.bool p), .v (.sl (psV ps))] [] 0 (.ret (.v (.bool true))) [] := by
  refine con_of Try.func3 rfl (by show _ ≤ 91; simp) fun X Q hP hnt hnp hret hpan => ?_
  obtain ⟨P0, nt0, w0, K0, S0, np0, pin0, df0⟩ := X
  simp only at hP hnt hnp
  subst hP hnp
  obtain rfl : nt0 = 91 := hnt
  refine aw_region fun K1 hK1 => ?_
  refine aL z_assign ?_
  refine awl_nil (hK1 _ _ ?_)
  clear hK1 K1
  refine aw_seq fun K2 hK2 => ?_
  refine aw_region fun K3 hK3 => ?_
  refine aL (z_call0 .nil en_8 (con_awake)) ?_
  refine aL z_not ?_
  refine awl_nil (hK3 _ _ ?_)
  clear hK3 K3
  refine aC (fun r1 c1 => ?_) (fun r1 c1 => ?_)
  · exact absurd c1 (by decide)
  · refine aw_skip ?_
    refine hK2 _ _ ?_
    clear hK2
    refine aw_seq fun K4 hK4 => ?_
    refine aw_region fun K5 hK5 => ?_
    refine aL z_move ?_
    refine aL (z_call0 (eC .nil) en_9 (con_joined (R := none) hR hl)) ?_
    refine aL z_move ?_
    refine aL z_extract ?_
    refine aL z_extract ?_
    refine aL z_assign ?_
    refine aL z_assign ?_
    refine awl_nil (hK5 _ _ ?_)
    clear hK5 K5
    refine aw_region fun K6 hK6 => ?_
    refine aL z_move ?_
    refine aL z_not ?_
    refine aL z_move ?_
    first
      | refine gL rfl rfl (ev_tmp rfl) (fun hg => z_move) ?_
      | refine hL rfl rfl (ev_tmp rfl) (fun hg => z_move) ?_
    first
      | refine gL rfl rfl (ev_tmp rfl) (fun hg => z_lenB Try.underlying22) ?_
      | refine gL rfl rfl (ev_tmp rfl) (fun hg => z_len Try.underlying22) ?_
      | refine gL rfl rfl (ev_tmp rfl) (fun hg => z_lenV Try.underlying22) ?_
      | refine hL rfl rfl (ev_tmp rfl) (fun hg => z_lenB Try.underlying22) ?_
      | refine hL rfl rfl (ev_tmp rfl) (fun hg => z_len Try.underlying22) ?_
      | refine hL rfl rfl (ev_tmp rfl) (fun hg => z_lenV Try.underlying22) ?_
    first
      | refine gL rfl rfl (ev_tmp rfl) (fun hg => z_gtr) ?_
      | refine hL rfl rfl (ev_tmp rfl) (fun hg => z_gtr) ?_
    refine aL z_or ?_
    refine awl_nil (hK6 _ _ ?_)
    clear hK6 K6
    refine aC (fun r2 c2 => ?_) (fun r2 c2 => ?_)
    · refine aw_region fun K7 hK7 => ?_
      refine aL z_assign ?_
      refine awl_nil (hK7 _ _ ?_)
      clear hK7 K7
      refine aw_ret ?_
      refine (hret _ _ _ _ _ rfl (.tmp rfl .nil) rfl ?_ .nil rfl).1
      rfl
    · exact absurd c2.1 (by decide)
theorem run_TakeKE {f f' : Fd7} {b : List UInt8} {its : List Itm} (he : f.take b = (its, f')) (v : Nat) (hp : f.pre ≤ 24) (hb : f.left.length + b.length ≤ 1000000000) : RunK Try.prog 11 (.ptr 0 0) b (f.ah v) (f'.ah (v + 1)) 2 (fun _ _ => .v (.sl (itV its))) := by
  have h := run_TakeK (f := f) (b := b) v hp hb
  rw [he] at h; exact h
theorem cutB (l : List UInt8) : cut 0 (0 + l.length) (bs l) = bs l := by have := cut_all (bs l); rwa [bs_length] at this
theorem con_TakesS {m : Int} {p : Bool} {ps : List (List UInt8)} {all : List UInt8} (hl : ps.length ≤ 9223372036854775807) (hR : joinM ps = some all) : Con Try.prog 3 [.v (.int .i64 m), .v (.bool p), .v (.sl (psV ps))] [] 0 (.ret (.v (.bool true))) [] := by
  obtain ⟨hall, hal⟩ := join_some (show joinGo [] 0 ps = some all from hR)
  rw [List.nil_append] at hall
  have hal := hal (by simp)
  obtain ⟨f0, hf0⟩ : ∃ f, Fd7.new m p = f := ⟨_, rfl⟩
  obtain ⟨hok, hov, hlf⟩ := new_ok m p
  have hat : ∀ came, allM came m p = ((f0.take came).1, (f0.take came).2.leftM, (f0.take came).2.over) := fun came => by rw [← hf0]; exact all_take came m p
  rw [hf0] at hok hov hlf
  have hz0 : f0.left.length = 0 := by rw [hlf]; rfl
  have hz := psV_len ps
  refine con_of Try.func3 rfl (by show _ ≤ 91; simp) fun X Q hP hnt hnp hret hpan => ?_
  obtain ⟨P0, nt0, w0, K0, S0, np0, pin0, df0⟩ := X
  simp only at hP hnt hnp
  subst hP hnp
  obtain rfl : nt0 = 91 := hnt
  refine aw_region fun K1 hK1 => ?_
  refine aL z_assign ?_
  refine awl_nil (hK1 _ _ ?_)
  clear hK1 K1
  refine aw_seq fun K2 hK2 => ?_
  refine aw_region fun K3 hK3 => ?_
  refine aL (z_call0 .nil en_8 (con_awake)) ?_
  refine aL z_not ?_
  refine awl_nil (hK3 _ _ ?_)
  clear hK3 K3
  refine aC (fun r1 c1 => ?_) (fun r1 c1 => ?_)
  · exact absurd c1 (by decide)
  · refine aw_skip ?_
    refine hK2 _ _ ?_
    clear hK2
    refine aw_seq fun K4 hK4 => ?_
    refine aw_region fun K5 hK5 => ?_
    refine aL z_move ?_
    refine aL (z_call0 (eC .nil) en_9 (con_joined (R := some all) hR hl)) ?_
    refine aL z_move ?_
    refine aL z_extract ?_
    refine aL z_extract ?_
    refine aL z_assign ?_
    refine aL z_assign ?_
    refine awl_nil (hK5 _ _ ?_)
    clear hK5 K5
    refine aw_region fun K6 hK6 => ?_
    refine aL z_move ?_
    refine aL z_not ?_
    refine aL z_move ?_
    first
      | refine gL rfl rfl (ev_tmp rfl) (fun hg => z_move) ?_
      | refine hL rfl rfl (ev_tmp rfl) (fun hg => z_move) ?_
    first
      | refine gL rfl rfl (ev_tmp rfl) (fun hg => z_lenB Try.underlying22) ?_
      | refine gL rfl rfl (ev_tmp rfl) (fun hg => z_len Try.underlying22) ?_
      | refine gL rfl rfl (ev_tmp rfl) (fun hg => z_lenV Try.underlying22) ?_
      | refine hL rfl rfl (ev_tmp rfl) (fun hg => z_lenB Try.underlying22) ?_
      | refine hL rfl rfl (ev_tmp rfl) (fun hg => z_len Try.underlying22) ?_
      | refine hL rfl rfl (ev_tmp rfl) (fun hg => z_lenV Try.underlying22) ?_
    first
      | refine gL rfl rfl (ev_tmp rfl) (fun hg => z_gtr) ?_
      | refine hL rfl rfl (ev_tmp rfl) (fun hg => z_gtr) ?_
    refine aL z_or ?_
    refine awl_nil (hK6 _ _ ?_)
    clear hK6 K6
    refine aC (fun r2 c2 => ?_) (fun r2 c2 => ?_)
    · refine aw_region fun K7 hK7 => ?_
      refine aL z_assign ?_
      refine awl_nil (hK7 _ _ ?_)
      clear hK7 K7
      refine aw_ret ?_
      refine (hret _ _ _ _ _ rfl (.tmp rfl .nil) rfl ?_ .nil rfl).1
      rfl
    · refine aw_skip ?_
      refine hK4 _ _ ?_
      clear hK4
      refine aw_region fun K8 hK8 => ?_
      refine aL z_move ?_
      refine aL z_move ?_
      refine aL (z_callG [0, 1] (eC (eC .nil)) en_10 (con_NewF hf0) .nil) ?_
      refine aL z_assign ?_
      refine awl_nil (hK8 _ _ ?_)
      clear hK8 K8
      refine aw_region fun K9 hK9 => ?_
      refine aL z_assign ?_
      refine awl_nil (hK9 _ _ ?_)
      clear hK9 K9
      refine aw_weak (weak_nil (t := 10) 7 1 5 (by decide) (Nat.zero_le _) rfl rfl) ?_
      refine aw_region fun K10 hK10 => ?_
      refine aL z_assign ?_
      refine awl_nil (hK10 _ _ ?_)
      clear hK10 K10
      refine aw_weak (weak_nil (t := 11) 8 15 42 (by decide) (Nat.zero_le _) rfl rfl) ?_
      refine aw_seq fun K11 hK11 => ?_
      refine aw_region fun K12 hK12 => ?_
      refine aL z_assign ?_
      refine awl_nil (hK12 _ _ ?_)
      clear hK12 K12
      refine aw_block ?_
      refine aw_loop (α := {x : Nat × List Itm × Fd7 // Fed f0 (ps.take x.1).flatten x.2.1 x.2.2 ∧ x.2.2.ok ∧ x.1 ≤ ps.length ∧ x.2.2.left.length ≤ (ps.take x.1).flatten.length}) (fun x => ([(0, .v (.int .i64 m)), (1, .v (.bool p)), (2, .v (.sl (psV ps))), (9, .ptr 0 0), (10, .view 7 0 0 (ps.take x.1.1).flatten.length), (11, .view 8 0 0 x.1.2.1.length), (12, .v (.int .i64 (x.1.1 : Int)))], [(0, .box (fdI 1 x.1.2.2 0)), (1, rw1 0 x.1.2.2.left), (7, .row 0 1 5 (bs (ps.take x.1.1).flatten)), (8, .row 0 15 42 (itV x.1.2.1))])) (fun x => ps.length - x.1.1) ⟨(0, [], f0), Fed.nil hov hlf, hok, Nat.zero_le _, by rw [hz0]; exact Nat.zero_le _⟩ ?_ ?_
      · dsimp only
        exact wK
      · rintro ⟨⟨i, told, f⟩, hx, hfo, hil, hfl⟩ K13 hK13
        dsimp only
        dsimp only at hx hfo hil hfl
        refine aw_seq fun K14 hK14 => ?_
        refine aw_region fun K15 hK15 => ?_
        refine aL z_move ?_
        refine aL z_move ?_
        first
          | refine aL (z_lenB Try.underlying22) ?_
          | refine aL (z_len Try.underlying22) ?_
          | refine aL (z_lenV Try.underlying22) ?_
        refine aL z_lss ?_
        refine awl_nil (hK15 _ _ ?_)
        clear hK15 K15
        refine aC (fun r3 c3 => ?_) (fun r3 c3 => ?_)
        · refine aw_skip ?_
          refine hK14 _ _ ?_
          clear hK14
          refine aw_seq fun K16 hK16 => ?_
          refine aw_block ?_
          refine aw_region fun K17 hK17 => ?_
          have hlt : i < ps.length := by omega
          have hi : (psV ps)[i]? = some [V.sl (bs ps[i])] := psV_get hlt
          have hpi := flat_at hlt
          rw [← hall] at hpi
          have htl := hx.len hlf
          have hfl2 := feed_len f ps[i]
          obtain ⟨its, g, hT⟩ : ∃ its g, f.take ps[i] = (its, g) := ⟨_, _, rfl⟩
          have hgo := take_okF hfo ps[i]
          have hfd := Fed.step hok hx ps[i]
          rw [← flat_take hlt] at hfd
          rw [hT] at hfl2 hgo hfd
          dsimp only at hfl2 hgo hfd
          obtain ⟨came, hcame⟩ : ∃ c, (ps.take i).flatten = c := ⟨_, rfl⟩
          obtain ⟨cam, hcam⟩ : ∃ c, came ++ ps[i] = c := ⟨_, rfl⟩
          obtain ⟨tld, htld⟩ : ∃ c, told ++ its = c := ⟨_, rfl⟩
          have hcam2 : (ps.take (i + 1)).flatten = cam := by rw [flat_take hlt, hcame, hcam]
          rw [hcam2, htld] at hfd
          rw [hcame] at hpi htl hfl hx
          rw [hcame]
          have hcl2 : cam.length = came.length + ps[i].length := by rw [← hcam, List.length_append]
          have htl2 : tld.length = told.length + its.length := by rw [← htld, List.length_append]
          have hil2 : (itV its).length = its.length := itV_len its
          have hbl2 : (bs ps[i]).length = ps[i].length := bs_length _
          have hgl : g.left.length ≤ cam.length := by omega
          have htk : tld = (f0.take cam).1 := hfd.told
          have hts : ∀ x ∈ tld, x.f.sets.length ≤ 100000000 := fun x hx => by
            have := feed_sets f0 cam x (by rw [← htk]; exact hx)
            omega
          refine aL (z_row 9 .nil Try.underlying24 sz_5 zc_5 zl_5 (c := [])) ?_
          refine aL z_move ?_
          refine aL z_move ?_
          first
            | refine aL (z_indexAddr Try.underlying22 sz_24) ?_
            | refine aL (z_indexAddrV Try.underlying22 sz_24) ?_
          first
            | refine aL (z_load sz_24) ?_
            | refine aL (z_loadRef sz_24) ?_
            | refine aL (z_loadV sz_24) ?_
          refine aL (z_app Try.underlying24 zi_5 (c' := bs ps[i])) ?_
          refine aL z_assign ?_
          refine awl_nil (hK17 _ _ ?_)
          clear hK17 K17
          refine aw_weak (fr' := [(0, .v (.int .i64 m)), (1, .v (.bool p)), (2, .v (.sl (psV ps))), (9, .ptr 0 0), (10, .view 7 0 0 came.length), (11, .view 8 0 0 told.length), (12, .v (.int .i64 (i : Int))), (13, .view 9 1 0 ps[i].length)]) (ah' := [(0, .box (fdI 1 f 0)), (1, rw1 0 f.left), (7, .row 0 1 5 (bs came)), (8, .row 0 15 42 (itV told)), (9, .row 1 1 5 (bs ps[i]))]) wK ?_
          refine aw_region fun K18 hK18 => ?_
          refine aL z_move ?_
          refine aL z_move ?_
          refine aL z_move ?_
          refine aL (z_callKV (b := ps[i]) (r := 9) (ver := 1) [0, 1] rfl en_11 (run_TakeKE hT 0 hfo.1 (by omega)) (pA (pA .nil))) ?_
          refine aL (z_app Try.underlying29 zi_42 (c' := itV tld) (hc := by rw [← htld]; exact itV_join rfl) (hs := itV_one _) (hb := by simp; omega)) ?_
          refine aL z_assign ?_
          refine awl_nil (hK18 _ _ ?_)
          clear hK18 K18
          refine aw_seq fun K19 hK19 => ?_
          refine aw_region fun K20 hK20 => ?_
          refine aL z_assign ?_
          refine awl_nil (hK20 _ _ ?_)
          clear hK20 K20
          refine aw_block ?_
          refine aw_loop (α := {x : Nat × List UInt8 // x.2.length = ps[i].length ∧ x.1 ≤ ps[i].length}) (fun x => ([(0, .v (.int .i64 m)), (1, .v (.bool p)), (2, .v (.sl (psV ps))), (9, .ptr 0 0), (10, .view 7 0 0 came.length), (11, .view 8 1 0 tld.length), (12, .v (.int .i64 (i : Int))), (13, .view 9 1 0 ps[i].length), (14, .v (.int .i64 (x.1.1 : Int)))], [(0, .box (fdI 1 g 1)), (1, rw1 1 g.left), (7, .row 0 1 5 (bs came)), (8, .row 1 15 42 (itV tld)), (9, .row 1 1 5 (bs x.1.2))])) (fun x => ps[i].length - x.1.1) ⟨(0, ps[i]), rfl, Nat.zero_le _⟩ ?_ ?_
          · dsimp only
            exact wK
          · rintro ⟨⟨k, c⟩, hcl, hkl⟩ K21 hK21
            dsimp only
            dsimp only at hcl hkl
            refine aw_seq fun K22 hK22 => ?_
            refine aw_region fun K23 hK23 => ?_
            refine aL z_move ?_
            refine aL z_move ?_
            first
              | refine aL (z_lenB Try.underlying24) ?_
              | refine aL (z_len Try.underlying24) ?_
              | refine aL (z_lenV Try.underlying24) ?_
            refine aL z_lss ?_
            refine awl_nil (hK23 _ _ ?_)
            clear hK23 K23
            refine aC (fun r4 c4 => ?_) (fun r4 c4 => ?_)
            · refine aw_skip ?_
              refine hK22 _ _ ?_
              clear hK22
              refine aw_seq fun K24 hK24 => ?_
              refine aw_block ?_
              refine aw_region_last ?_
              refine aL z_move ?_
              refine aL z_move ?_
              first
                | refine aL (z_indexAddr Try.underlying24 sz_5) ?_
                | refine aL (z_indexAddrV Try.underlying24 sz_5) ?_
              refine aL (z_storeV sz_5 (i := 0 + k) (j := 0) (e0 := [V.int .u8 (c[k].toNat : Int)]) (xs := [V.int .u8 0]) (c' := bs (c.set k 0)) (hc := by rw [Nat.zero_add]; exact bs_get (List.getElem?_eq_getElem _)) (hc' := by rw [Nat.zero_add]; simp [bs, List.map_set])) ?_
              refine awl_nil ?_
              refine hK24 _ _ ?_
              clear hK24
              refine aw_region_last ?_
              refine aL z_move ?_
              refine aL z_add ?_
              refine aL z_assign ?_
              refine awl_nil ?_
              refine hK21 _ _ ⟨(k + 1, c.set k 0), by simpa using hcl, by dsimp only; omega⟩ (by dsimp only; omega) ?_
              exact wK
            · refine aw_exit ?_
              refine hK19 _ _ ?_
              clear hK19
              refine aw_region fun K25 hK25 => ?_
              refine aL z_move ?_
              refine aL z_move ?_
              refine aL z_move ?_
              first
                | refine aL (z_indexAddr Try.underlying22 sz_24) ?_
                | refine aL (z_indexAddrV Try.underlying22 sz_24) ?_
              first
                | refine aL (z_load sz_24) ?_
                | refine aL (z_loadRef sz_24) ?_
                | refine aL (z_loadV sz_24) ?_
              refine aL (z_app Try.underlying24 zi_5 (c' := bs cam) (hc := by rw [← hcam, List.take_of_length_le (by simp), bs_append]) (hb := by simp; omega)) ?_
              refine aL z_assign ?_
              refine awl_nil (hK25 _ _ ?_)
              clear hK25 K25
              refine aw_weak (fr' := [(0, .v (.int .i64 m)), (1, .v (.bool p)), (2, .v (.sl (psV ps))), (9, .ptr 0 0), (10, .view 7 1 0 cam.length), (11, .view 8 1 0 tld.length), (12, .v (.int .i64 (i : Int)))]) (ah' := [(0, .box (fdI 1 g 1)), (1, rw1 1 g.left), (7, .row 1 1 5 (bs cam)), (8, .row 1 15 42 (itV tld))]) (by first | exact wK | (refine Weak.trans (weak_rever 7 1 rfl) wK)) ?_
              refine aw_still2 (fr1 := [(0, .v (.int .i64 m)), (1, .v (.bool p)), (2, .v (.sl (psV ps))), (9, .ptr 0 0), (10, .view 7 1 0 cam.length), (11, .view 8 1 0 tld.length), (12, .v (.int .i64 (i : Int)))]) [0, 1, 2, 9, 10, 11, 12] (fun t h => look_keys h) (fun t d h => h) (fun Y G w a hS hY => ?_) (fun h => h)
              have e0 := all_v hS.ok (show RepD G w _ (.v (.int .i64 m)) (a.tmps.getD 0 undef) from hS.fr 0)
              have e1 := all_v hS.ok (show RepD G w _ (.v (.bool p)) (a.tmps.getD 1 undef) from hS.fr 1)
              have e9 : RepD (gAll w) w (look []) (.ref g.vs) (a.tmps.getD 9 undef) := all_ref hS.ok (show RepD G w _ (.ptr 0 0) (a.tmps.getD 9 undef) from hS.fr 9) rfl rfl (lentI (f := g))
              have e10 := all_view hS.ok (show RepD G w _ (.view 7 1 0 cam.length) (a.tmps.getD 10 undef) from hS.fr 10) rfl
              have e11 := all_view hS.ok (show RepD G w _ (.view 8 1 0 tld.length) (a.tmps.getD 11 undef) from hS.fr 11) rfl
              rw [cutB] at e10
              rw [cutI] at e11
              refine ⟨[(0, .v (.lit (a.tmps.getD 0 undef))), (1, .v (.lit (a.tmps.getD 1 undef))), (2, .v (.lit (a.tmps.getD 2 undef))), (9, .v (.lit (a.tmps.getD 9 undef))), (10, .v (.lit (a.tmps.getD 10 undef))), (11, .v (.lit (a.tmps.getD 11 undef))), (12, .v (.lit (a.tmps.getD 12 undef)))], frok_cons (all_lit (fr_one hS 0 rfl rfl)) (frok_cons (all_lit (fr_one hS 1 rfl rfl)) (frok_cons (all_lit (fr_one hS 2 rfl rfl)) (frok_cons (all_lit (fr_one hS 9 rfl rfl)) (frok_cons (all_lit (fr_one hS 10 rfl rfl)) (frok_cons (all_lit (fr_one hS 11 rfl rfl)) (frok_cons (all_lit (fr_one hS 12 rfl rfl)) frok_nil)))))), ?_⟩
              obtain ⟨P1, nt1, w1, K1, S1, np1, pin1, df1⟩ := Y
              have hY2 := hY
              obtain ⟨y1, y2, y3, y4, y5, y6, y7⟩ := hY2
              simp only at y1 y2 y3 y4 y5 y6 y7
              subst y1 y2 y3 y6
              refine aw_region fun K26 hK26 => ?_
              refine aL z_move ?_
              refine awl_weak (weak_lit hY e10) ?_
              refine aL z_move ?_
              refine awl_weak (weak_lit hY e0) ?_
              refine aL z_move ?_
              refine awl_weak (weak_lit hY e1) ?_
              refine aL (z_call0 (eC (eC (eC .nil))) en_12 (con_All (m := m) (p := p) (b := cam) (by omega))) ?_
              refine aL z_move ?_
              refine aL z_extract ?_
              refine aL z_extract ?_
              refine aL z_extract ?_
              refine aL z_assign ?_
              refine aL z_assign ?_
              refine aL z_assign ?_
              refine awl_nil (hK26 _ _ ?_)
              clear hK26 K26
              refine aw_region fun K27 hK27 => ?_
              refine aL z_move ?_
              refine awl_weak (weak_lit hY e11) ?_
              refine aL z_move ?_
              refine aL (z_call0 (eC (eC .nil)) en_13 (con_Same7 (a := tld) (b := (allM cam m p).1) (by omega) hts)) ?_
              refine aL z_not ?_
              refine aL z_move ?_
              first
                | refine gL rfl rfl (ev_tmp rfl) (fun hg => z_move) ?_
                | refine hL rfl rfl (ev_tmp rfl) (fun hg => z_move) ?_
              refine awl_weak (weak_litC hY e9) ?_
              first
                | refine gL rfl rfl (ev_tmp rfl) (fun hg => z_call0 (eC .nil) en_14 (con_LeftR (f := g))) ?_
                | refine hL rfl rfl (ev_tmp rfl) (fun hg => z_call0 (eC .nil) en_14 (con_LeftR (f := g))) ?_
              first
                | refine gL rfl rfl (ev_tmp rfl) (fun hg => z_move) ?_
                | refine hL rfl rfl (ev_tmp rfl) (fun hg => z_move) ?_
              first
                | refine gL rfl rfl (ev_tmp rfl) (fun hg => z_neq) ?_
                | refine hL rfl rfl (ev_tmp rfl) (fun hg => z_neq) ?_
              refine aL z_or ?_
              refine aL z_move ?_
              first
                | refine gL rfl rfl (ev_tmp rfl) (fun hg => z_move) ?_
                | refine hL rfl rfl (ev_tmp rfl) (fun hg => z_move) ?_
              refine awl_weak (weak_litC hY e9) ?_
              first
                | refine gL rfl rfl (ev_tmp rfl) (fun hg => z_call0 (eC .nil) en_15 (con_OverR (f := g))) ?_
                | refine hL rfl rfl (ev_tmp rfl) (fun hg => z_call0 (eC .nil) en_15 (con_OverR (f := g))) ?_
              first
                | refine gL rfl rfl (ev_tmp rfl) (fun hg => z_move) ?_
                | refine hL rfl rfl (ev_tmp rfl) (fun hg => z_move) ?_
              first
                | refine gL rfl rfl (ev_tmp rfl) (fun hg => z_neqB Try.underlying4) ?_
                | refine hL rfl rfl (ev_tmp rfl) (fun hg => z_neqB Try.underlying4) ?_
              refine aL z_or ?_
              refine awl_nil (hK27 _ _ ?_)
              clear hK27 K27
              refine aC (fun r5 c5 => ?_) (fun r5 c5 => ?_)
              · have q1 := (sameI_iff tld (allM cam m p).1).2 (by rw [hat]; exact htk)
                have q2 : g.leftM = (allM cam m p).2.1 := by rw [hat]; exact hfd.left
                have q3 : g.over = (allM cam m p).2.2 := by rw [hat]; exact hfd.over
                rw [q1, ← q2, ← q3] at r5
                exfalso
                cases g.over <;> simp at r5
              · refine aw_skip ?_
                refine ⟨sameC rfl (sameC rfl (sameC rfl (sameC rfl (sameC rfl (sameC rfl (sameC rfl sameN)))))), ?_⟩
                refine hK16 _ _ ?_
                clear hK16
                refine aw_region_last ?_
                refine aL z_move ?_
                refine aL z_add ?_
                refine aL z_assign ?_
                refine awl_nil ?_
                refine hK13 _ _ ⟨(i + 1, tld, g), by dsimp only; rw [hcam2]; exact hfd, hgo, by dsimp only; omega, by dsimp only; rw [hcam2]; exact hgl⟩ (by dsimp only; omega) ?_
                refine Weak.trans (weak_rever 1 0 rfl) (Weak.trans (weak_rever 7 0 rfl) (Weak.trans (weak_rever 8 0 rfl) ?_))
                dsimp only
                rw [hcam2]
                exact wK
        · refine aw_exit ?_
          refine hK11 _ _ ?_
          clear hK11
          refine aw_region fun K28 hK28 => ?_
          refine aL z_assign ?_
          refine awl_nil (hK28 _ _ ?_)
          clear hK28 K28
          refine aw_ret ?_
          refine (hret _ _ _ _ _ rfl (.tmp rfl .nil) rfl ?_ .nil rfl).1
          rfl
theorem con_ChopTakes {m : Int} {p : Bool} {ps : List (List UInt8)} (hl : ps.length ≤ 9223372036854775807) : Con Try.prog 3 [.v (.int .i64 m), .v (.bool p), .v (.sl (psV ps))] [] 0 (.ret (.v (.bool true))) [] := by
  cases h : joinM ps with
  | none => exact con_TakesN hl h
  | some all => exact con_TakesS hl h
end Go.Proofs.Ytigodfnckjidoaa
