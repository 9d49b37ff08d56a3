/- Layers 11 and 14: the document's Strip, Of; the same request. No condition. -/
import Derived.Test.YtnjbfiejgiaibaaDoorHpF
namespace Go.Proofs.YtnjbfiejgiaibaaDoor
set_option linter.all false
open Go Go.RowKit
set_option maxRecDepth 10000
set_option maxHeartbeats 4000000
theorem con_rAll11 {l : List Fd} {k : List UInt8} (hs : szM l ≤ 1000000000) (hk : k.length ≤ 140737488351232) : Con Tryd.prog 52 [.v (.sl (fdV l)), .v (.str k)] [] 0 (.ret (.v (.sl (stV (hallM l k))))) [] := by
  obtain ⟨h1, h2⟩ := fsz hs
  obtain ⟨vs, hvs⟩ : ∃ vs, hvM l k = vs := ⟨_, rfl⟩
  have hvz : vsz vs ≤ szM l := by rw [← hvs]; exact hv_sz l k
  have hvl : vs.length ≤ l.length := by rw [← hvs]; exact hvM_le l k
  have hvm : ∀ v ∈ vs, v.length ≤ 1000000000 := fun v hv => by
    rw [← hvs] at hv
    obtain ⟨f, hf, rfl⟩ := hvM_mem hv
    exact (h2 f hf).2
  have hst := stV_len vs
  have e : hallM l k = vs.flatMap elM := by unfold hallM; rw [hvs]
  rw [e]
  have hV := con_rValues11 (l := l) (k := k) h1 (fun f hf => (h2 f hf).1) hk
  rw [hvs] at hV
  refine con_of Tryd.func52 rfl (by show _ ≤ 25; simp) fun X Q hP hnt hnp hret hpan => ?_
  obtain ⟨P0, nt0, w0, K0, S0, np0, pin0, df0⟩ := X
  simp only at hP hnt hnp
  subst hP hnp
  obtain rfl : nt0 = 25 := hnt
  refine aw_region fun K1 hK1 => ?_
  refine aL z_assign ?_
  refine awl_nil (hK1 _ _ ?_)
  clear hK1 K1
  refine aw_region fun K2 hK2 => ?_
  refine aL z_move ?_
  refine aL z_move ?_
  refine aL (z_call0 (eC (eC .nil)) en_71 (hV)) ?_
  refine aL z_assign ?_
  refine awl_nil (hK2 _ _ ?_)
  clear hK2 K2
  refine aw_region fun K3 hK3 => ?_
  refine aL z_assign ?_
  refine awl_nil (hK3 _ _ ?_)
  clear hK3 K3
  refine aw_seq fun K4 hK4 => ?_
  refine aw_region fun K5 hK5 => ?_
  refine aL z_assign ?_
  refine awl_nil (hK5 _ _ ?_)
  clear hK5 K5
  refine aw_block ?_
  refine aw_loop (α := {q : Nat // q ≤ vs.length}) (fun x => ([(5, .v (.sl (stV vs))), (6, .view 2 0 0 ((vs.take x.1).flatMap elM).length), (7, .v (.int .i64 (x.1 : Int)))], [(2, .row 0 1 9 (stV ((vs.take x.1).flatMap elM)))])) (fun x => vs.length - x.1) ⟨0, Nat.zero_le _⟩ ?_ ?_
  · dsimp only
    refine Weak.trans (weak_nil (t := 6) 2 1 9 (by decide) (Nat.zero_le _) rfl rfl) ?_
    exact wK
  · rintro ⟨q, hq⟩ K6 hK6
    dsimp only
    refine aw_seq fun K7 hK7 => ?_
    refine aw_region fun K8 hK8 => ?_
    refine aL z_move ?_
    refine aL z_move ?_
    first
      | refine aL (z_lenB Tryd.underlying64) ?_
      | refine aL (z_len Tryd.underlying64) ?_
      | refine aL (z_lenV Tryd.underlying64) ?_
    refine aL z_lss ?_
    refine awl_nil (hK8 _ _ ?_)
    clear hK8 K8
    refine aC (fun r1 c1 => ?_) (fun r1 c1 => ?_)
    · refine aw_skip ?_
      refine hK7 _ _ ?_
      clear hK7
      refine aw_seq fun K9 hK9 => ?_
      refine aw_block ?_
      refine aw_region_last ?_
      have hlt : q < vs.length := by omega
      have hi := stV_get hlt
      have hfl1 := elfl_len (vs.take q)
      have hfl2 := vsz_take vs q
      have hfl3 := elM_len vs[q]
      have hfl4 := hvm _ (List.getElem_mem hlt)
      refine aL z_move ?_
      refine aL z_move ?_
      refine aL z_move ?_
      first
        | refine aL (z_indexAddr Tryd.underlying64 sz_9) ?_
        | refine aL (z_indexAddrV Tryd.underlying64 sz_9) ?_
      first
        | refine aL (z_load sz_9) ?_
        | refine aL (z_loadRef sz_9) ?_
        | refine aL (z_loadV sz_9) ?_
      refine aL (z_call0 (eC .nil) en_72 (con_rElements (v := vs[q]) (hvm _ (List.getElem_mem hlt)))) ?_
      refine aL (z_app Tryd.underlying64 zi_9 (c' := stV ((vs.take q).flatMap elM ++ elM vs[q])) (hc := stV_join rfl) (hs := stV_one _) (hb := by simp only [stV_len]; omega)) ?_
      refine aL z_assign ?_
      refine awl_nil ?_
      refine hK9 _ _ ?_
      clear hK9
      refine aw_region_last ?_
      refine aL z_move ?_
      refine aL z_add ?_
      refine aL z_assign ?_
      refine awl_nil ?_
      have e1 : (vs.take (q + 1)).flatMap elM = (vs.take q).flatMap elM ++ elM vs[q] := by rw [List.take_add_one, List.getElem?_eq_getElem hlt, List.flatMap_append]; simp
      refine hK6 _ _ ⟨q + 1, by omega⟩ (by dsimp only; omega) ?_
      dsimp only
      rw [e1]
      exact Weak.trans (weak_rever 2 0 rfl) wK
    · refine aw_exit ?_
      refine hK4 _ _ ?_
      clear hK4
      refine aw_region fun K10 hK10 => ?_
      refine aL z_move ?_
      refine aL z_assign ?_
      refine awl_nil (hK10 _ _ ?_)
      clear hK10 K10
      obtain rfl : q = vs.length := (by omega)
      rw [List.take_length]
      refine aw_weak (weak_all (fr' := [(4, .v (.sl (stV (vs.flatMap elM))))]) (ah' := []) (some (2, 0, stV (vs.flatMap elM))) ⟨rfl, _, _, rfl⟩ .nil (.cons rfl (.view rfl (cutW (by simp))) .nil)) ?_
      refine aw_ret ?_
      refine (hret _ _ _ _ _ rfl (.tmp rfl .nil) rfl ?_ .nil rfl).1
      rfl
theorem con_Own : Con Tryd.prog 53 [] [] 0 (.ret (.v (.sl (stV own9)))) [] := by
  refine con_of Tryd.func53 rfl (by show _ ≤ 2; simp) fun X Q hP hnt hnp hret hpan => ?_
  obtain ⟨P0, nt0, w0, K0, S0, np0, pin0, df0⟩ := X
  simp only at hP hnt hnp
  subst hP hnp
  obtain rfl : nt0 = 2 := hnt
  refine aw_region fun K1 hK1 => ?_
  refine aL z_assign ?_
  refine awl_nil (hK1 _ _ ?_)
  clear hK1 K1
  refine aw_region fun K2 hK2 => ?_
  refine aL (z_lits (pC (pC (pC (pC (pC (pC (pC (pC (pC .nil))))))))) Tryd.underlying64 sz_9 zc_9 zl_9 (c := stV own9) (hcn := ⟨rfl, stV_one _⟩)) ?_
  refine aL z_assign ?_
  refine awl_nil (hK2 _ _ ?_)
  clear hK2 K2
  refine aw_ret ?_
  refine (hret _ _ _ _ _ rfl (.tmp rfl .nil) rfl ?_ .nil rfl).1
  rfl
theorem noM_noM (l : List Fd) (a b : List (List UInt8)) : noM (noM l a) b = noM l (b ++ a) := by
  unfold noM
  rw [List.filter_filter]
  congr 1
  funext f
  rw [List.map_append, Bool.eq_iff_iff]
  simp only [Bool.and_eq_true, Bool.not_eq_true', ← Bool.not_eq_true, List.contains_iff_mem, List.mem_append, not_or]
theorem con_rStrip {l : List Fd} (hs : szM l ≤ 1000000000) : Con Tryd.prog 31 [.v (.sl (fdV l))] [] 0 (.ret (.v (.sl (fdV (stripM l))))) [] := by
  obtain ⟨h1, h2⟩ := fsz hs
  have hal := hall_len l [99, 111, 110, 110, 101, 99, 116, 105, 111, 110]
  have e : noM (noM l (hallM l [99, 111, 110, 110, 101, 99, 116, 105, 111, 110])) own9 = stripM l := noM_noM _ _ _
  have hn1 : (noM l (hallM l [99, 111, 110, 110, 101, 99, 116, 105, 111, 110])).length ≤ l.length := noM_le _ _
  rw [← e]
  refine con_of Tryd.func31 rfl (by show _ ≤ 9; simp) fun X Q hP hnt hnp hret hpan => ?_
  obtain ⟨P0, nt0, w0, K0, S0, np0, pin0, df0⟩ := X
  simp only at hP hnt hnp
  subst hP hnp
  obtain rfl : nt0 = 9 := hnt
  refine aw_region fun K1 hK1 => ?_
  refine aL z_assign ?_
  refine awl_nil (hK1 _ _ ?_)
  clear hK1 K1
  refine aw_region fun K2 hK2 => ?_
  refine aL z_move ?_
  refine aL z_move ?_
  refine aL (z_call0 (eC (eC .nil)) en_52 (con_rAll11 (k := [99, 111, 110, 110, 101, 99, 116, 105, 111, 110]) hs (by decide))) ?_
  first
    | refine aL (z_call0 (eC (eC .nil)) en_30 (con_rWithout (l := l) (names := hallM l [99, 111, 110, 110, 101, 99, 116, 105, 111, 110]) h1 (fun f hf => (h2 f hf).1) (by omega) (fun k hk => by have := hall_mem hk; omega))) ?_
    | refine aL (z_call0 (eC (eC .nil)) en_30 (con_rWithout (l := noM l (hallM l [99, 111, 110, 110, 101, 99, 116, 105, 111, 110])) (names := own9) (by omega) (fun f hf => (h2 f (noM_mem hf)).1) (by decide) (fun k hk => Nat.le_trans (own9_le k hk) (by decide)))) ?_
  refine aL (z_call0 .nil en_53 (con_Own)) ?_
  first
    | refine aL (z_call0 (eC (eC .nil)) en_30 (con_rWithout (l := l) (names := hallM l [99, 111, 110, 110, 101, 99, 116, 105, 111, 110]) h1 (fun f hf => (h2 f hf).1) (by omega) (fun k hk => by have := hall_mem hk; omega))) ?_
    | refine aL (z_call0 (eC (eC .nil)) en_30 (con_rWithout (l := noM l (hallM l [99, 111, 110, 110, 101, 99, 116, 105, 111, 110])) (names := own9) (by omega) (fun f hf => (h2 f (noM_mem hf)).1) (by decide) (fun k hk => Nat.le_trans (own9_le k hk) (by decide)))) ?_
  refine aL z_assign ?_
  refine awl_nil (hK2 _ _ ?_)
  clear hK2 K2
  refine aw_ret ?_
  refine (hret _ _ _ _ _ rfl (.tmp rfl .nil) rfl ?_ .nil rfl).1
  rfl
theorem con_rOf {r : Rq} {b who : List UInt8} (hs : szM r.f ≤ 1000000000) (hw : who.length ≤ 140737488355328) : Con Tryd.prog 15 [.agg r.cs, .v (.str b), .v (.str who)] [] 0 (.ret (.agg (ofM r b who).cs)) [] := by
  obtain ⟨h1, h2⟩ := fsz hs
  have h3 := szM_len r.f
  have hn1 : (stripM r.f).length ≤ r.f.length := noM_le _ _
  have hn2 : (noM (stripM r.f) clh).length ≤ (stripM r.f).length := noM_le _ _
  refine con_of Tryd.func15 rfl (by show _ ≤ 32; simp) fun X Q hP hnt hnp hret hpan => ?_
  obtain ⟨P0, nt0, w0, K0, S0, np0, pin0, df0⟩ := X
  simp only at hP hnt hnp
  subst hP hnp
  obtain rfl : nt0 = 32 := hnt
  refine aw_region fun K1 hK1 => ?_
  refine aL (z_box 5) ?_
  refine aL (z_alloc 6 zc_24 zl_24) ?_
  refine awl_nil (hK1 _ _ ?_)
  clear hK1 K1
  refine aw_region fun K2 hK2 => ?_
  first
    | refine aL (z_fieldAddr fo_33_2) ?_
    | refine aL (z_fieldRef fo_33_2) ?_
    | refine aL (z_fieldV fo_33_2) ?_
  first
    | refine aL (z_load sz_9) ?_
    | refine aL (z_loadRef sz_9) ?_
    | refine aL (z_loadV sz_9) ?_
  refine aL (z_build (pC (pC .nil)) pl_47 zc_47 zl_47) ?_
  refine aL (z_row 7 (pC .nil) Tryd.underlying22 sz_47 zc_47 zl_47 (c := fdV [hostF r.a]) (hcn := ⟨rfl, fdV_one _⟩)) ?_
  refine aL z_assign ?_
  refine awl_nil (hK2 _ _ ?_)
  clear hK2 K2
  refine aw_region fun K3 hK3 => ?_
  refine aL z_move ?_
  first
    | refine aL (z_fieldAddr fo_33_4) ?_
    | refine aL (z_fieldRef fo_33_4) ?_
    | refine aL (z_fieldV fo_33_4) ?_
  first
    | refine aL (z_load sz_22) ?_
    | refine aL (z_loadRef sz_22) ?_
    | refine aL (z_loadV sz_22) ?_
  refine aL (z_call0 (eC .nil) en_31 (con_rStrip hs)) ?_
  refine aL (z_lits (pC (pC .nil)) Tryd.underlying64 sz_9 zc_9 zl_9 (c := stV clh) (hcn := ⟨rfl, stV_one _⟩)) ?_
  refine aL (z_call0 (eC (eC .nil)) en_30 (con_rWithout (l := stripM r.f) (names := clh) (by omega) (fun f hf => (h2 f (noM_mem hf)).1) (by decide) (fun k hk => Nat.le_trans (clh_le k hk) (by decide)))) ?_
  refine aL (z_app Tryd.underlying22 zi_47 (c' := fdV (hostF r.a :: noM (stripM r.f) clh)) (hs := fdV_one _) (hc := rfl) (hb := by simp; omega)) ?_
  refine aL z_assign ?_
  refine awl_nil (hK3 _ _ ?_)
  clear hK3 K3
  refine aw_region fun K4 hK4 => ?_
  refine aL z_move ?_
  refine aL z_move ?_
  refine aL z_addS ?_
  refine aL (z_build (pC (pC .nil)) pl_47 zc_47 zl_47) ?_
  refine aL (z_lits (pC .nil) Tryd.underlying22 sz_47 zc_47 zl_47 (c := [[_, _, _]])) ?_
  refine aL (StepU.settle (z_app Tryd.underlying22 zi_47 (c' := fdV (hostF r.a :: noM (stripM r.f) clh ++ [viaF ([50, 32] ++ who)])) (hc := fdV_snoc (by simp; omega)) (hb := by simp; omega)) (hl := by simp; omega)) ?_
  refine aL z_assign ?_
  refine awl_nil (hK4 _ _ ?_)
  clear hK4 K4
  refine aw_region fun K5 hK5 => ?_
  first
    | refine aL (z_fieldAddr fo_33_0) ?_
    | refine aL (z_fieldRef fo_33_0) ?_
    | refine aL (z_fieldV fo_33_0) ?_
  first
    | refine aL (z_load sz_9) ?_
    | refine aL (z_loadRef sz_9) ?_
    | refine aL (z_loadV sz_9) ?_
  first
    | refine aL (z_fieldAddr fo_33_3) ?_
    | refine aL (z_fieldRef fo_33_3) ?_
    | refine aL (z_fieldV fo_33_3) ?_
  first
    | refine aL (z_load sz_9) ?_
    | refine aL (z_loadRef sz_9) ?_
    | refine aL (z_loadV sz_9) ?_
  refine aL z_move ?_
  refine aL z_move ?_
  refine aL (z_build (pC (pC (pC (pC .nil)))) pl_24 zc_24 zl_24) ?_
  refine aL (z_store sz_24) ?_
  refine awl_nil (hK5 _ _ ?_)
  clear hK5 K5
  refine aw_ret ?_
  refine (hret _ _ _ _ _ rfl (rCe sz_24 .nil) rfl ?_ .nil rfl).1
  rfl
def sameA (a b : Ak) : Bool := a.m == b.m && a.t == b.t && a.b == b.b && decide (a.fs = b.fs)
theorem eqF14 (f g : Fd) : eqXs f.vs g.vs = decide (f = g) := eqF f g
theorem con_rSameA {a b : Ak} (ha : a.fs.length ≤ 4398046511104) (hb : b.fs.length ≤ 4398046511104) : Con Tryd.prog 13 [.agg a.cs, .agg b.cs] [] 0 (.ret (.v (.bool (sameA a b)))) [] := by
  have hfa := fdV_len a.fs
  have hfb := fdV_len b.fs
  refine con_of Tryd.func13 rfl (by show _ ≤ 52; simp) fun X Q hP hnt hnp hret hpan => ?_
  obtain ⟨P0, nt0, w0, K0, S0, np0, pin0, df0⟩ := X
  simp only at hP hnt hnp
  subst hP hnp
  obtain rfl : nt0 = 52 := hnt
  refine aw_region fun K1 hK1 => ?_
  refine aL (z_box 0) ?_
  refine aL (z_box 1) ?_
  refine aL z_assign ?_
  refine awl_nil (hK1 _ _ ?_)
  clear hK1 K1
  refine aw_seq fun K2 hK2 => ?_
  refine aw_region fun K3 hK3 => ?_
  first
    | refine aL (z_fieldAddr fo_24_0) ?_
    | refine aL (z_fieldRef fo_24_0) ?_
    | refine aL (z_fieldV fo_24_0) ?_
  first
    | refine aL (z_load sz_9) ?_
    | refine aL (z_loadRef sz_9) ?_
    | refine aL (z_loadV sz_9) ?_
  first
    | refine aL (z_fieldAddr fo_24_0) ?_
    | refine aL (z_fieldRef fo_24_0) ?_
    | refine aL (z_fieldV fo_24_0) ?_
  first
    | refine aL (z_load sz_9) ?_
    | refine aL (z_loadRef sz_9) ?_
    | refine aL (z_loadV sz_9) ?_
  refine aL z_neqS ?_
  refine aL z_move ?_
  first
    | refine gL rfl rfl (ev_tmp rfl) (fun hg => z_fieldAddr fo_24_1) ?_
    | refine gL rfl rfl (ev_tmp rfl) (fun hg => z_fieldRef fo_24_1) ?_
    | refine gL rfl rfl (ev_tmp rfl) (fun hg => z_fieldV fo_24_1) ?_
    | refine hL rfl rfl (ev_tmp rfl) (fun hg => z_fieldAddr fo_24_1) ?_
    | refine hL rfl rfl (ev_tmp rfl) (fun hg => z_fieldRef fo_24_1) ?_
    | refine hL rfl rfl (ev_tmp rfl) (fun hg => z_fieldV fo_24_1) ?_
  first
    | refine gL rfl rfl (ev_tmp rfl) (fun hg => z_load sz_9) ?_
    | refine gL rfl rfl (ev_tmp rfl) (fun hg => z_loadRef sz_9) ?_
    | refine gL rfl rfl (ev_tmp rfl) (fun hg => z_loadV sz_9) ?_
    | refine hL rfl rfl (ev_tmp rfl) (fun hg => z_load sz_9) ?_
    | refine hL rfl rfl (ev_tmp rfl) (fun hg => z_loadRef sz_9) ?_
    | refine hL rfl rfl (ev_tmp rfl) (fun hg => z_loadV sz_9) ?_
  first
    | refine gL rfl rfl (ev_tmp rfl) (fun hg => z_fieldAddr fo_24_1) ?_
    | refine gL rfl rfl (ev_tmp rfl) (fun hg => z_fieldRef fo_24_1) ?_
    | refine gL rfl rfl (ev_tmp rfl) (fun hg => z_fieldV fo_24_1) ?_
    | refine hL rfl rfl (ev_tmp rfl) (fun hg => z_fieldAddr fo_24_1) ?_
    | refine hL rfl rfl (ev_tmp rfl) (fun hg => z_fieldRef fo_24_1) ?_
    | refine hL rfl rfl (ev_tmp rfl) (fun hg => z_fieldV fo_24_1) ?_
  first
    | refine gL rfl rfl (ev_tmp rfl) (fun hg => z_load sz_9) ?_
    | refine gL rfl rfl (ev_tmp rfl) (fun hg => z_loadRef sz_9) ?_
    | refine gL rfl rfl (ev_tmp rfl) (fun hg => z_loadV sz_9) ?_
    | refine hL rfl rfl (ev_tmp rfl) (fun hg => z_load sz_9) ?_
    | refine hL rfl rfl (ev_tmp rfl) (fun hg => z_loadRef sz_9) ?_
    | refine hL rfl rfl (ev_tmp rfl) (fun hg => z_loadV sz_9) ?_
  first
    | refine gL rfl rfl (ev_tmp rfl) (fun hg => z_neqS) ?_
    | refine hL rfl rfl (ev_tmp rfl) (fun hg => z_neqS) ?_
  refine aL z_or ?_
  refine aL z_move ?_
  first
    | refine gL rfl rfl (ev_tmp rfl) (fun hg => z_fieldAddr fo_24_3) ?_
    | refine gL rfl rfl (ev_tmp rfl) (fun hg => z_fieldRef fo_24_3) ?_
    | refine gL rfl rfl (ev_tmp rfl) (fun hg => z_fieldV fo_24_3) ?_
    | refine hL rfl rfl (ev_tmp rfl) (fun hg => z_fieldAddr fo_24_3) ?_
    | refine hL rfl rfl (ev_tmp rfl) (fun hg => z_fieldRef fo_24_3) ?_
    | refine hL rfl rfl (ev_tmp rfl) (fun hg => z_fieldV fo_24_3) ?_
  first
    | refine gL rfl rfl (ev_tmp rfl) (fun hg => z_load sz_9) ?_
    | refine gL rfl rfl (ev_tmp rfl) (fun hg => z_loadRef sz_9) ?_
    | refine gL rfl rfl (ev_tmp rfl) (fun hg => z_loadV sz_9) ?_
    | refine hL rfl rfl (ev_tmp rfl) (fun hg => z_load sz_9) ?_
    | refine hL rfl rfl (ev_tmp rfl) (fun hg => z_loadRef sz_9) ?_
    | refine hL rfl rfl (ev_tmp rfl) (fun hg => z_loadV sz_9) ?_
  first
    | refine gL rfl rfl (ev_tmp rfl) (fun hg => z_fieldAddr fo_24_3) ?_
    | refine gL rfl rfl (ev_tmp rfl) (fun hg => z_fieldRef fo_24_3) ?_
    | refine gL rfl rfl (ev_tmp rfl) (fun hg => z_fieldV fo_24_3) ?_
    | refine hL rfl rfl (ev_tmp rfl) (fun hg => z_fieldAddr fo_24_3) ?_
    | refine hL rfl rfl (ev_tmp rfl) (fun hg => z_fieldRef fo_24_3) ?_
    | refine hL rfl rfl (ev_tmp rfl) (fun hg => z_fieldV fo_24_3) ?_
  first
    | refine gL rfl rfl (ev_tmp rfl) (fun hg => z_load sz_9) ?_
    | refine gL rfl rfl (ev_tmp rfl) (fun hg => z_loadRef sz_9) ?_
    | refine gL rfl rfl (ev_tmp rfl) (fun hg => z_loadV sz_9) ?_
    | refine hL rfl rfl (ev_tmp rfl) (fun hg => z_load sz_9) ?_
    | refine hL rfl rfl (ev_tmp rfl) (fun hg => z_loadRef sz_9) ?_
    | refine hL rfl rfl (ev_tmp rfl) (fun hg => z_loadV sz_9) ?_
  first
    | refine gL rfl rfl (ev_tmp rfl) (fun hg => z_neqS) ?_
    | refine hL rfl rfl (ev_tmp rfl) (fun hg => z_neqS) ?_
  refine aL z_or ?_
  refine aL z_move ?_
  first
    | refine gL rfl rfl (ev_tmp rfl) (fun hg => z_fieldAddr fo_24_2) ?_
    | refine gL rfl rfl (ev_tmp rfl) (fun hg => z_fieldRef fo_24_2) ?_
    | refine gL rfl rfl (ev_tmp rfl) (fun hg => z_fieldV fo_24_2) ?_
    | refine hL rfl rfl (ev_tmp rfl) (fun hg => z_fieldAddr fo_24_2) ?_
    | refine hL rfl rfl (ev_tmp rfl) (fun hg => z_fieldRef fo_24_2) ?_
    | refine hL rfl rfl (ev_tmp rfl) (fun hg => z_fieldV fo_24_2) ?_
  first
    | refine gL rfl rfl (ev_tmp rfl) (fun hg => z_load sz_22) ?_
    | refine gL rfl rfl (ev_tmp rfl) (fun hg => z_loadRef sz_22) ?_
    | refine gL rfl rfl (ev_tmp rfl) (fun hg => z_loadV sz_22) ?_
    | refine hL rfl rfl (ev_tmp rfl) (fun hg => z_load sz_22) ?_
    | refine hL rfl rfl (ev_tmp rfl) (fun hg => z_loadRef sz_22) ?_
    | refine hL rfl rfl (ev_tmp rfl) (fun hg => z_loadV sz_22) ?_
  first
    | refine gL rfl rfl (ev_tmp rfl) (fun hg => z_lenB Tryd.underlying22) ?_
    | refine gL rfl rfl (ev_tmp rfl) (fun hg => z_len Tryd.underlying22) ?_
    | refine gL rfl rfl (ev_tmp rfl) (fun hg => z_lenV Tryd.underlying22) ?_
    | refine hL rfl rfl (ev_tmp rfl) (fun hg => z_lenB Tryd.underlying22) ?_
    | refine hL rfl rfl (ev_tmp rfl) (fun hg => z_len Tryd.underlying22) ?_
    | refine hL rfl rfl (ev_tmp rfl) (fun hg => z_lenV Tryd.underlying22) ?_
  first
    | refine gL rfl rfl (ev_tmp rfl) (fun hg => z_fieldAddr fo_24_2) ?_
    | refine gL rfl rfl (ev_tmp rfl) (fun hg => z_fieldRef fo_24_2) ?_
    | refine gL rfl rfl (ev_tmp rfl) (fun hg => z_fieldV fo_24_2) ?_
    | refine hL rfl rfl (ev_tmp rfl) (fun hg => z_fieldAddr fo_24_2) ?_
    | refine hL rfl rfl (ev_tmp rfl) (fun hg => z_fieldRef fo_24_2) ?_
    | refine hL rfl rfl (ev_tmp rfl) (fun hg => z_fieldV fo_24_2) ?_
  first
    | refine gL rfl rfl (ev_tmp rfl) (fun hg => z_load sz_22) ?_
    | refine gL rfl rfl (ev_tmp rfl) (fun hg => z_loadRef sz_22) ?_
    | refine gL rfl rfl (ev_tmp rfl) (fun hg => z_loadV sz_22) ?_
    | refine hL rfl rfl (ev_tmp rfl) (fun hg => z_load sz_22) ?_
    | refine hL rfl rfl (ev_tmp rfl) (fun hg => z_loadRef sz_22) ?_
    | refine hL rfl rfl (ev_tmp rfl) (fun hg => z_loadV sz_22) ?_
  first
    | refine gL rfl rfl (ev_tmp rfl) (fun hg => z_lenB Tryd.underlying22) ?_
    | refine gL rfl rfl (ev_tmp rfl) (fun hg => z_len Tryd.underlying22) ?_
    | refine gL rfl rfl (ev_tmp rfl) (fun hg => z_lenV Tryd.underlying22) ?_
    | refine hL rfl rfl (ev_tmp rfl) (fun hg => z_lenB Tryd.underlying22) ?_
    | refine hL rfl rfl (ev_tmp rfl) (fun hg => z_len Tryd.underlying22) ?_
    | refine hL rfl rfl (ev_tmp rfl) (fun hg => z_lenV Tryd.underlying22) ?_
  first
    | refine gL rfl rfl (ev_tmp rfl) (fun hg => z_neq) ?_
    | refine hL rfl rfl (ev_tmp rfl) (fun hg => z_neq) ?_
  refine aL z_or ?_
  refine awl_nil (hK3 _ _ ?_)
  clear hK3 K3
  refine aC (fun r1 c1 => ?_) (fun r1 c1 => ?_)
  · refine aw_region fun K4 hK4 => ?_
    refine aL z_assign ?_
    refine awl_nil (hK4 _ _ ?_)
    clear hK4 K4
    refine aw_ret ?_
    refine (hret _ _ _ _ _ rfl (.tmp rfl .nil) rfl ?_ .nil rfl).1
    first
      | (have he : sameA a b = false := (by unfold sameA; rcases c1 with ((h | h) | h) | h; simp [h]; simp [h]; simp [h]; (have h2 : ¬ a.fs = b.fs := (fun h2 => h (by rw [h2])); simp [h2]))
         rw [he]; rfl)
      | (have hf : ¬ a.fs = b.fs := (fun h => by have h2 := c3; rw [eqF] at h2; have h3 : a.fs[q] = b.fs[q] := (by simp only [h]); rw [h3] at h2; simp at h2)
         have he : sameA a b = false := (by unfold sameA; simp [hf])
         rw [he]; rfl)
      | (have hf : a.fs = b.fs := (by have hx : q = a.fs.length := (by omega); subst hx; rw [List.take_length, List.take_of_length_le (by omega)] at ht; exact ht)
         have he : sameA a b = true := (by unfold sameA; rw [c1.1.1.1, c1.1.1.2, c1.1.2, hf]; simp)
         rw [he]; rfl)
  · refine aw_skip ?_
    refine hK2 _ _ ?_
    clear hK2
    refine aw_seq fun K5 hK5 => ?_
    refine aw_region fun K6 hK6 => ?_
    refine aL z_assign ?_
    refine awl_nil (hK6 _ _ ?_)
    clear hK6 K6
    refine aw_block ?_
    refine aw_loop (α := {x : Nat // x ≤ a.fs.length ∧ a.fs.take x = b.fs.take x}) (fun x => ([(2, .ptr 0 0), (3, .ptr 1 0), (5, .v (.int .i64 (x.1 : Int)))], [(0, .box a.cs), (1, .box b.cs)])) (fun x => a.fs.length - x.1) ⟨0, by omega, rfl⟩ ?_ ?_
    · dsimp only
      exact wK
    · rintro ⟨q, hq, ht⟩ K7 hK7
      dsimp only
      refine aw_seq fun K8 hK8 => ?_
      refine aw_region fun K9 hK9 => ?_
      refine aL z_move ?_
      first
        | refine aL (z_fieldAddr fo_24_2) ?_
        | refine aL (z_fieldRef fo_24_2) ?_
        | refine aL (z_fieldV fo_24_2) ?_
      first
        | refine aL (z_load sz_22) ?_
        | refine aL (z_loadRef sz_22) ?_
        | refine aL (z_loadV sz_22) ?_
      first
        | refine aL (z_lenB Tryd.underlying22) ?_
        | refine aL (z_len Tryd.underlying22) ?_
        | refine aL (z_lenV Tryd.underlying22) ?_
      refine aL z_lss ?_
      refine awl_nil (hK9 _ _ ?_)
      clear hK9 K9
      refine aC (fun r2 c2 => ?_) (fun r2 c2 => ?_)
      · refine aw_skip ?_
        refine hK8 _ _ ?_
        clear hK8
        refine aw_seq fun K10 hK10 => ?_
        refine aw_block ?_
        refine aw_regionD mx_all (by kernel_rfl) fun K11 hK11 => ?_
        have hla : q < a.fs.length := by omega
        have hlb : q < b.fs.length := by omega
        have hi := fdV_get hla
        have hi2 := fdV_get hlb
        first
          | refine aD (z_fieldAddr fo_24_2) ?_
          | refine aD (z_fieldRef fo_24_2) ?_
          | refine aD (z_fieldV fo_24_2) ?_
        first
          | refine aD (z_load sz_22) ?_
          | refine aD (z_loadRef sz_22) ?_
          | refine aD (z_loadV sz_22) ?_
        refine aD z_move ?_
        first
          | refine aD (z_indexAddr Tryd.underlying22 sz_47) ?_
          | refine aD (z_indexAddrV Tryd.underlying22 sz_47) ?_
        first
          | refine aD (z_load sz_47) ?_
          | refine aD (z_loadRef sz_47) ?_
          | refine aD (z_loadV sz_47) ?_
        first
          | refine aD (z_fieldAddr fo_24_2) ?_
          | refine aD (z_fieldRef fo_24_2) ?_
          | refine aD (z_fieldV fo_24_2) ?_
        first
          | refine aD (z_load sz_22) ?_
          | refine aD (z_loadRef sz_22) ?_
          | refine aD (z_loadV sz_22) ?_
        refine aD z_move ?_
        first
          | refine aD (z_indexAddr Tryd.underlying22 sz_47) ?_
          | refine aD (z_indexAddrV Tryd.underlying22 sz_47) ?_
        first
          | refine aD (z_load sz_47) ?_
          | refine aD (z_loadRef sz_47) ?_
          | refine aD (z_loadV sz_47) ?_
        refine aD (z_neqA sk_47) ?_
        refine awd_nil (by kernel_rfl) (hK11 _ _ ?_)
        clear hK11 K11
        refine aC (fun r3 c3 => ?_) (fun r3 c3 => ?_)
        · refine aw_region fun K12 hK12 => ?_
          refine aL z_assign ?_
          refine awl_nil (hK12 _ _ ?_)
          clear hK12 K12
          refine aw_ret ?_
          refine (hret _ _ _ _ _ rfl (.tmp rfl .nil) rfl ?_ .nil rfl).1
          first
            | (have he : sameA a b = false := (by unfold sameA; rcases c1 with ((h | h) | h) | h; simp [h]; simp [h]; simp [h]; (have h2 : ¬ a.fs = b.fs := (fun h2 => h (by rw [h2])); simp [h2]))
               rw [he]; rfl)
            | (have hf : ¬ a.fs = b.fs := (fun h => by have h2 := c3; rw [eqF] at h2; have h3 : a.fs[q] = b.fs[q] := (by simp only [h]); rw [h3] at h2; simp at h2)
               have he : sameA a b = false := (by unfold sameA; simp [hf])
               rw [he]; rfl)
            | (have hf : a.fs = b.fs := (by have hx : q = a.fs.length := (by omega); subst hx; rw [List.take_length, List.take_of_length_le (by omega)] at ht; exact ht)
               have he : sameA a b = true := (by unfold sameA; rw [c1.1.1.1, c1.1.1.2, c1.1.2, hf]; simp)
               rw [he]; rfl)
        · refine aw_skip ?_
          refine hK10 _ _ ?_
          clear hK10
          refine aw_region_last ?_
          refine aL z_move ?_
          refine aL z_add ?_
          refine aL z_assign ?_
          refine awl_nil ?_
          have he : a.fs[q] = b.fs[q] := (by have h := c3; rw [eqF, decide_eq_true_iff] at h; exact h)
          refine hK7 _ _ ⟨q + 1, by omega, take_eq_succ hla hlb ht he⟩ (by dsimp only; omega) ?_
          dsimp only
          exact wK
      · refine aw_exit ?_
        refine hK5 _ _ ?_
        clear hK5
        refine aw_region fun K13 hK13 => ?_
        refine aL z_assign ?_
        refine awl_nil (hK13 _ _ ?_)
        clear hK13 K13
        refine aw_ret ?_
        refine (hret _ _ _ _ _ rfl (.tmp rfl .nil) rfl ?_ .nil rfl).1
        first
          | (have he : sameA a b = false := (by unfold sameA; rcases c1 with ((h | h) | h) | h; simp [h]; simp [h]; simp [h]; (have h2 : ¬ a.fs = b.fs := (fun h2 => h (by rw [h2])); simp [h2]))
             rw [he]; rfl)
          | (have hf : ¬ a.fs = b.fs := (fun h => by have h2 := c3; rw [eqF] at h2; have h3 : a.fs[q] = b.fs[q] := (by simp only [h]); rw [h3] at h2; simp at h2)
             have he : sameA a b = false := (by unfold sameA; simp [hf])
             rw [he]; rfl)
          | (have hf : a.fs = b.fs := (by have hx : q = a.fs.length := (by omega); subst hx; rw [List.take_length, List.take_of_length_le (by omega)] at ht; exact ht)
             have he : sameA a b = true := (by unfold sameA; rw [c1.1.1.1, c1.1.1.2, c1.1.2, hf]; simp)
             rw [he]; rfl)
end Go.Proofs.YtnjbfiejgiaibaaDoor
