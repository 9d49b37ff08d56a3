/- Layer 14: AskPuts, walked. No condition. -/
import Derived.Test.YtnjbfiejgiaibaaDoorAkP
import Derived.Test.YtnjbfiejgiaibaaDoorAkC0
import Derived.Test.YtnjbfiejgiaibaaDoorOctT
namespace Go.Proofs.YtnjbfiejgiaibaaDoor
set_option linter.all false
open Go Go.RowKit
set_option maxRecDepth 10000
set_option maxHeartbeats 4000000
theorem ds2 {G : Gh} {w : World} {m : Mem} {d d' : D} {us : List Value} (h : RepDs G w m [d, d'] us) : ∃ u u', us = [u, u'] ∧ RepD G w m d u ∧ RepD G w m d' u' := by
  match us, h.1 with
  | [u, u'], _ => exact ⟨u, u', rfl, h.2 0 d u rfl rfl, h.2 1 d' u' rfl rfl⟩
theorem con_bytesEq {l r : List UInt8} : Con Tryd.prog 11 [.v (.sl (bs l)), .v (.sl (bs r))] [] 0 (.ret (.v (.bool (decide (l = r))))) [] :=
  con_pure fun G w us hl hA => by
    obtain ⟨u, u', rfl, h1, h2⟩ := ds2 hA
    obtain ⟨A, c, rfl, _, _, hr⟩ := rd_of (rep_sl h1) hl
    obtain ⟨A', c', rfl, _, _, hr'⟩ := rd_of (rep_sl h2) hl
    refine (bytes_any l r A A' c c' w w.heap.size hr hr').mono fun e w' ⟨he, hw⟩ => ?_
    subst hw
    exact ⟨_, he, fun m => mk_bool _, Below.refl _ _⟩
theorem con_AskPuts {a : Ak} (ha : a.fits) : Con Tryd.prog 3 [.agg a.cs] [] 0 (.ret (.v (.bool true))) [] := by
  obtain ⟨h1, h2, h3, h4, h5⟩ := ha
  refine con_of Tryd.func3 rfl (by show _ ≤ 42; simp) fun X Q hP hnt hnp hret hpan => ?_
  obtain ⟨P0, nt0, w0, K0, S0, np0, pin0, df0⟩ := X
  simp only at hP hnt hnp
  subst hP hnp
  obtain rfl : nt0 = 42 := hnt
  refine aw_region fun K1 hK1 => ?_
  refine aL (z_box 0) ?_
  refine aL z_assign ?_
  refine awl_nil (hK1 _ _ ?_)
  clear hK1 K1
  refine aw_seq fun K2 hK2 => ?_
  refine aw_region fun K3 hK3 => ?_
  refine aL (z_call0 .nil en_7 (con_awake14)) ?_
  refine aL z_not ?_
  refine awl_nil (hK3 _ _ ?_)
  clear hK3 K3
  refine aC (fun r1 c1 => ?_) (fun r1 c1 => ?_)
  · exact absurd c1 (by decide)
  · refine aw_skip ?_
    refine hK2 _ _ ?_
    clear hK2
    refine aw_seq fun K4 hK4 => ?_
    refine aw_region fun K5 hK5 => ?_
    first
      | refine aL (z_fieldAddr fo_24_0) ?_
      | refine aL (z_fieldRef fo_24_0) ?_
      | refine aL (z_fieldV fo_24_0) ?_
    first
      | refine aL (z_load sz_9) ?_
      | refine aL (z_loadRef sz_9) ?_
      | refine aL (z_loadV sz_9) ?_
    refine aL (z_lenS Tryd.underlying9) ?_
    refine aL z_gtr ?_
    refine aL z_move ?_
    first
      | refine gL rfl rfl (ev_tmp rfl) (fun hg => z_fieldAddr fo_24_1) ?_
      | refine gL rfl rfl (ev_tmp rfl) (fun hg => z_fieldRef fo_24_1) ?_
      | refine gL rfl rfl (ev_tmp rfl) (fun hg => z_fieldV fo_24_1) ?_
      | refine hL rfl rfl (ev_tmp rfl) (fun hg => z_fieldAddr fo_24_1) ?_
      | refine hL rfl rfl (ev_tmp rfl) (fun hg => z_fieldRef fo_24_1) ?_
      | refine hL rfl rfl (ev_tmp rfl) (fun hg => z_fieldV fo_24_1) ?_
    first
      | refine gL rfl rfl (ev_tmp rfl) (fun hg => z_load sz_9) ?_
      | refine gL rfl rfl (ev_tmp rfl) (fun hg => z_loadRef sz_9) ?_
      | refine gL rfl rfl (ev_tmp rfl) (fun hg => z_loadV sz_9) ?_
      | refine hL rfl rfl (ev_tmp rfl) (fun hg => z_load sz_9) ?_
      | refine hL rfl rfl (ev_tmp rfl) (fun hg => z_loadRef sz_9) ?_
      | refine hL rfl rfl (ev_tmp rfl) (fun hg => z_loadV sz_9) ?_
    first
      | refine gL rfl rfl (ev_tmp rfl) (fun hg => z_lenS Tryd.underlying9) ?_
      | refine hL rfl rfl (ev_tmp rfl) (fun hg => z_lenS Tryd.underlying9) ?_
    first
      | refine gL rfl rfl (ev_tmp rfl) (fun hg => z_gtr) ?_
      | refine hL rfl rfl (ev_tmp rfl) (fun hg => z_gtr) ?_
    refine aL z_or ?_
    refine aL z_move ?_
    first
      | refine gL rfl rfl (ev_tmp rfl) (fun hg => z_load sz_24) ?_
      | refine gL rfl rfl (ev_tmp rfl) (fun hg => z_loadRef sz_24) ?_
      | refine gL rfl rfl (ev_tmp rfl) (fun hg => z_loadV sz_24) ?_
      | refine hL rfl rfl (ev_tmp rfl) (fun hg => z_load sz_24) ?_
      | refine hL rfl rfl (ev_tmp rfl) (fun hg => z_loadRef sz_24) ?_
      | refine hL rfl rfl (ev_tmp rfl) (fun hg => z_loadV sz_24) ?_
    first
      | refine gL rfl rfl (ev_tmp rfl) (fun hg => z_call0 (eC .nil) en_8 (con_smallA (a := a) h1 h2 h4 h5)) ?_
      | refine hL rfl rfl (ev_tmp rfl) (fun hg => z_call0 (eC .nil) en_8 (con_smallA (a := a) h1 h2 h4 h5)) ?_
    first
      | refine gL rfl rfl (ev_tmp rfl) (fun hg => z_not) ?_
      | refine hL rfl rfl (ev_tmp rfl) (fun hg => z_not) ?_
    refine aL z_or ?_
    refine awl_nil (hK5 _ _ ?_)
    clear hK5 K5
    refine aC (fun r2 c2 => ?_) (fun r2 c2 => ?_)
    · refine aw_region fun K6 hK6 => ?_
      refine aL z_assign ?_
      refine awl_nil (hK6 _ _ ?_)
      clear hK6 K6
      refine aw_ret ?_
      refine (hret _ _ _ _ _ rfl (.tmp rfl .nil) rfl ?_ .nil rfl).1
      first
        | rfl
        | (simp [retD]; done)
    · refine aw_skip ?_
      refine hK4 _ _ ?_
      clear hK4
      refine aw_region fun K7 hK7 => ?_
      have hsm : a.small := smallA_small (by simp_all)
      first
        | refine aL (z_load sz_24) ?_
        | refine aL (z_loadRef sz_24) ?_
        | refine aL (z_loadV sz_24) ?_
      refine aL (z_call0 (eC .nil) en_9 (con_Put (a := a) hsm)) ?_
      refine aL z_move ?_
      refine aL z_extract ?_
      refine aL z_extract ?_
      refine aL z_assign ?_
      refine aL z_assign ?_
      refine awl_nil (hK7 _ _ ?_)
      clear hK7 K7
      refine aw_region fun K8 hK8 => ?_
      first
        | refine aL (z_load sz_24) ?_
        | refine aL (z_loadRef sz_24) ?_
        | refine aL (z_loadV sz_24) ?_
      refine aL (z_call0 (eC .nil) en_10 (con_rPut (a := a) hsm)) ?_
      refine aL z_move ?_
      refine aL z_extract ?_
      refine aL z_extract ?_
      refine aL z_assign ?_
      refine aL z_assign ?_
      refine awl_nil (hK8 _ _ ?_)
      clear hK8 K8
      refine aw_region fun K9 hK9 => ?_
      refine aL z_move ?_
      refine aL z_move ?_
      refine aL z_eql ?_
      refine aL z_move ?_
      first
        | refine gL rfl rfl (ev_tmp rfl) (fun hg => z_move) ?_
        | refine hL rfl rfl (ev_tmp rfl) (fun hg => z_move) ?_
      first
        | refine gL rfl rfl (ev_tmp rfl) (fun hg => z_move) ?_
        | refine hL rfl rfl (ev_tmp rfl) (fun hg => z_move) ?_
      first
        | refine gL rfl rfl (ev_tmp rfl) (fun hg => z_call0 (eC (eC .nil)) en_11 (con_bytesEq)) ?_
        | refine hL rfl rfl (ev_tmp rfl) (fun hg => z_call0 (eC (eC .nil)) en_11 (con_bytesEq)) ?_
      refine aL z_and ?_
      refine aL z_assign ?_
      refine awl_nil (hK9 _ _ ?_)
      clear hK9 K9
      refine aw_ret ?_
      refine (hret _ _ _ _ _ rfl (.tmp rfl .nil) rfl ?_ .nil rfl).1
      first
        | rfl
        | (simp [retD]; done)
end Go.Proofs.YtnjbfiejgiaibaaDoor
