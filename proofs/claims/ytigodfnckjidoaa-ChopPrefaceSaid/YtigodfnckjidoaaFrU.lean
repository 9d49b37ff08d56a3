/- Layer 6: what is wrong with settings. No condition. -/
import Derived.Test.YtigodfnckjidoaaFrT
namespace Go.Proofs.Ytigodfnckjidoaa
set_option linter.all false
open Go Go.RowKit
set_option maxRecDepth 10000
theorem unfit_at : ∀ (l : List (Int × Int)) (k : Nat) (h : k < l.length) (c : Int), (∀ j (hj : j < l.length), j < k → badSet l[j] = none) → badSet l[k] = some c → unfitM l = Flt.whole c
  | s :: l, 0, h, c, _, hc => by simp at hc; simp [unfitM, hc]
  | s :: l, k + 1, h, c, hn, hc => by
    have h0 := hn 0 (by simp) (by omega)
    simp at h0
    simp only [unfitM, h0]
    exact unfit_at l k (by simp at h; omega) c (fun j hj hk => by have := hn (j + 1) (by simp; omega) (by omega); simpa using this) (by simpa using hc)
theorem unfit_no : ∀ (l : List (Int × Int)), (∀ j (hj : j < l.length), badSet l[j] = none) → unfitM l = Flt.no
  | [], _ => rfl
  | s :: l, hn => by
    have h0 := hn 0 (by simp)
    simp at h0
    simp only [unfitM, h0]
    exact unfit_no l (fun j hj => by have := hn (j + 1) (by simp; omega); simpa using this)
theorem con_unfit {l : List (Int × Int)} (hl : l.length ≤ 20000000) : Con Try.prog 41 [.v (.sl (setV l))] [] 0 (.ret (.agg (unfitM l).cs)) [] := by
  have hz : (setV l).length = l.length := by simp [setV]
  have hs2 : ∀ e ∈ setV l, e.length = 2 := by intro e he; obtain ⟨s, _, rfl⟩ := List.mem_map.1 he; rfl
  refine con_of Try.func41 rfl (by show _ ≤ 46; simp) fun X Q hP hnt hnp hret hpan => ?_
  obtain ⟨P0, nt0, w0, K0, S0, np0, pin0, df0⟩ := X
  simp only at hP hnt hnp
  subst hP hnp
  obtain rfl : nt0 = 46 := hnt
  refine aw_region fun K1 hK1 => ?_
  refine aL (z_alloc 0 zc_37 zl_37) ?_
  refine awl_nil (hK1 _ _ ?_)
  clear hK1 K1
  refine aw_seq fun K2 hK2 => ?_
  refine aw_region fun K3 hK3 => ?_
  refine aL z_move ?_
  first
    | refine aL (z_lenB Try.underlying38) ?_
    | refine aL (z_len Try.underlying38) ?_
    | refine aL (z_lenV Try.underlying38) ?_
  refine aL z_move ?_
  refine awl_nil (hK3 _ _ ?_)
  clear hK3 K3
  rw [hz]
  refine aw_block ?_
  refine aw_loop (α := {k : Nat // k ≤ l.length ∧ ∀ j (hj : j < l.length), j < k → badSet l[j] = none}) (fun x => ([(2, .ptr 0 0), (5, .v (.sl (setV l))), (6, .v (.int .i64 (l.length : Int))), (7, .v (.int .i64 (x.1 : Int)))], [(0, .box [.v (.bool false), .v (.int .i64 0), .v (.int .i64 0)])])) (fun x => l.length - x.1) ⟨0, by omega, fun j _ h => by omega⟩ ?_ ?_
  · dsimp only
    exact wK
  · rintro ⟨k, hk, hq⟩ K4 hK4
    dsimp only
    refine aw_region fun K5 hK5 => ?_
    refine aL z_lss ?_
    refine awl_nil (hK5 _ _ ?_)
    clear hK5 K5
    refine aw_seq fun K6 hK6 => ?_
    refine aC (fun r1 c1 => ?_) (fun r1 c1 => ?_)
    · refine aw_skip ?_
      refine hK6 _ _ ?_
      clear hK6
      refine aw_seq fun K7 hK7 => ?_
      refine aw_block ?_
      refine aw_region fun K8 hK8 => ?_
      have hlt : k < l.length := by omega
      have hi : (setV l)[k]? = some [V.int .i64 (l[k]).1, V.int .i64 (l[k]).2] := by simp [setV, hlt]
      first
        | refine aL (z_indexAddr Try.underlying38 sz_70) ?_
        | refine aL (z_indexAddrV Try.underlying38 sz_70) ?_
      first
        | refine aL (z_load sz_70) ?_
        | refine aL (z_loadRef sz_70) ?_
        | refine aL (z_loadV sz_70) ?_
      refine aL (z_alloc 1 zc_70 zl_70) ?_
      refine aL (z_store sz_70) ?_
      refine awl_nil (hK8 _ _ ?_)
      clear hK8 K8
      refine aw_block ?_
      refine aw_seq fun K9 hK9 => ?_
      refine aw_region fun K10 hK10 => ?_
      first
        | refine aL (z_fieldAddr fo_70_0) ?_
        | refine aL (z_fieldRef fo_70_0) ?_
        | refine aL (z_fieldV fo_70_0) ?_
      first
        | refine aL (z_load sz_3) ?_
        | refine aL (z_loadRef sz_3) ?_
        | refine aL (z_loadV sz_3) ?_
      refine aL z_eql ?_
      refine aL z_move ?_
      first
        | refine gL rfl rfl (ev_tmp rfl) (fun hg => z_fieldAddr fo_70_1) ?_
        | refine gL rfl rfl (ev_tmp rfl) (fun hg => z_fieldRef fo_70_1) ?_
        | refine gL rfl rfl (ev_tmp rfl) (fun hg => z_fieldV fo_70_1) ?_
        | refine hL rfl rfl (ev_tmp rfl) (fun hg => z_fieldAddr fo_70_1) ?_
        | refine hL rfl rfl (ev_tmp rfl) (fun hg => z_fieldRef fo_70_1) ?_
        | refine hL rfl rfl (ev_tmp rfl) (fun hg => z_fieldV fo_70_1) ?_
      first
        | refine gL rfl rfl (ev_tmp rfl) (fun hg => z_load sz_2) ?_
        | refine gL rfl rfl (ev_tmp rfl) (fun hg => z_loadRef sz_2) ?_
        | refine gL rfl rfl (ev_tmp rfl) (fun hg => z_loadV sz_2) ?_
        | refine hL rfl rfl (ev_tmp rfl) (fun hg => z_load sz_2) ?_
        | refine hL rfl rfl (ev_tmp rfl) (fun hg => z_loadRef sz_2) ?_
        | refine hL rfl rfl (ev_tmp rfl) (fun hg => z_loadV sz_2) ?_
      first
        | refine gL rfl rfl (ev_tmp rfl) (fun hg => z_gtr) ?_
        | refine hL rfl rfl (ev_tmp rfl) (fun hg => z_gtr) ?_
      refine aL z_and ?_
      refine aL z_assign ?_
      refine awl_nil (hK10 _ _ ?_)
      clear hK10 K10
      refine aC (fun r2 c2 => ?_) (fun r2 c2 => ?_)
      · refine aw_skip ?_
        refine hK9 _ _ ?_
        clear hK9
        refine aw_condT (ev_tmp rfl) r2 ?_
        refine aw_region fun K11 hK11 => ?_
        refine aL (z_call0 (eC .nil) en_36 (con_whole)) ?_
        refine aL (z_store sz_37) ?_
        refine awl_nil (hK11 _ _ ?_)
        clear hK11 K11
        refine aw_ret ?_
        refine (hret _ _ _ _ _ rfl (rCe sz_37 .nil) rfl ?_ .nil rfl).1
        first
          | (rw [unfit_at l k (by omega) 1 hq (by unfold badSet; rw [if_pos (by omega)])]; rfl)
          | (rw [unfit_at l k (by omega) 3 hq (by unfold badSet; rw [if_neg (by omega), if_pos (by omega)])]; rfl)
          | (rw [unfit_no l (fun j hj => hq j hj (by omega))]; rfl)
      · refine aw_region_last ?_
        first
          | refine aL (z_fieldAddr fo_70_0) ?_
          | refine aL (z_fieldRef fo_70_0) ?_
          | refine aL (z_fieldV fo_70_0) ?_
        first
          | refine aL (z_load sz_3) ?_
          | refine aL (z_loadRef sz_3) ?_
          | refine aL (z_loadV sz_3) ?_
        refine aL z_eql ?_
        refine aL z_move ?_
        first
          | refine gL rfl rfl (ev_tmp rfl) (fun hg => z_fieldAddr fo_70_1) ?_
          | refine gL rfl rfl (ev_tmp rfl) (fun hg => z_fieldRef fo_70_1) ?_
          | refine gL rfl rfl (ev_tmp rfl) (fun hg => z_fieldV fo_70_1) ?_
          | refine hL rfl rfl (ev_tmp rfl) (fun hg => z_fieldAddr fo_70_1) ?_
          | refine hL rfl rfl (ev_tmp rfl) (fun hg => z_fieldRef fo_70_1) ?_
          | refine hL rfl rfl (ev_tmp rfl) (fun hg => z_fieldV fo_70_1) ?_
        first
          | refine gL rfl rfl (ev_tmp rfl) (fun hg => z_load sz_2) ?_
          | refine gL rfl rfl (ev_tmp rfl) (fun hg => z_loadRef sz_2) ?_
          | refine gL rfl rfl (ev_tmp rfl) (fun hg => z_loadV sz_2) ?_
          | refine hL rfl rfl (ev_tmp rfl) (fun hg => z_load sz_2) ?_
          | refine hL rfl rfl (ev_tmp rfl) (fun hg => z_loadRef sz_2) ?_
          | refine hL rfl rfl (ev_tmp rfl) (fun hg => z_loadV sz_2) ?_
        first
          | refine gL rfl rfl (ev_tmp rfl) (fun hg => z_lss) ?_
          | refine hL rfl rfl (ev_tmp rfl) (fun hg => z_lss) ?_
        first
          | refine gL rfl rfl (ev_tmp rfl) (fun hg => z_move) ?_
          | refine hL rfl rfl (ev_tmp rfl) (fun hg => z_move) ?_
        first
          | refine gL rfl rfl (ev_tmp rfl) (fun hg => z_fieldAddr fo_70_1) ?_
          | refine gL rfl rfl (ev_tmp rfl) (fun hg => z_fieldRef fo_70_1) ?_
          | refine gL rfl rfl (ev_tmp rfl) (fun hg => z_fieldV fo_70_1) ?_
          | refine hL rfl rfl (ev_tmp rfl) (fun hg => z_fieldAddr fo_70_1) ?_
          | refine hL rfl rfl (ev_tmp rfl) (fun hg => z_fieldRef fo_70_1) ?_
          | refine hL rfl rfl (ev_tmp rfl) (fun hg => z_fieldV fo_70_1) ?_
        first
          | refine gL rfl rfl (ev_tmp rfl) (fun hg => z_load sz_2) ?_
          | refine gL rfl rfl (ev_tmp rfl) (fun hg => z_loadRef sz_2) ?_
          | refine gL rfl rfl (ev_tmp rfl) (fun hg => z_loadV sz_2) ?_
          | refine hL rfl rfl (ev_tmp rfl) (fun hg => z_load sz_2) ?_
          | refine hL rfl rfl (ev_tmp rfl) (fun hg => z_loadRef sz_2) ?_
          | refine hL rfl rfl (ev_tmp rfl) (fun hg => z_loadV sz_2) ?_
        first
          | refine gL rfl rfl (ev_tmp rfl) (fun hg => z_gtr) ?_
          | refine hL rfl rfl (ev_tmp rfl) (fun hg => z_gtr) ?_
        first
          | refine gL rfl rfl (ev_tmp rfl) (fun hg => z_or) ?_
          | refine hL rfl rfl (ev_tmp rfl) (fun hg => z_or) ?_
        refine aL z_and ?_
        refine aL z_assign ?_
        refine awl_nil ?_
        refine hK9 _ _ ?_
        clear hK9
        refine aC (fun r3 c3 => ?_) (fun r3 c3 => ?_)
        · refine aw_region fun K12 hK12 => ?_
          refine aL (z_call0 (eC .nil) en_36 (con_whole)) ?_
          refine aL (z_store sz_37) ?_
          refine awl_nil (hK12 _ _ ?_)
          clear hK12 K12
          refine aw_ret ?_
          refine (hret _ _ _ _ _ rfl (rCe sz_37 .nil) rfl ?_ .nil rfl).1
          first
            | (rw [unfit_at l k (by omega) 1 hq (by unfold badSet; rw [if_pos (by omega)])]; rfl)
            | (rw [unfit_at l k (by omega) 3 hq (by unfold badSet; rw [if_neg (by omega), if_pos (by omega)])]; rfl)
            | (rw [unfit_no l (fun j hj => hq j hj (by omega))]; rfl)
        · refine aw_region fun K13 hK13 => ?_
          first
            | refine aL (z_fieldAddr fo_70_0) ?_
            | refine aL (z_fieldRef fo_70_0) ?_
            | refine aL (z_fieldV fo_70_0) ?_
          first
            | refine aL (z_load sz_3) ?_
            | refine aL (z_loadRef sz_3) ?_
            | refine aL (z_loadV sz_3) ?_
          refine aL z_eql ?_
          refine aL z_move ?_
          first
            | refine gL rfl rfl (ev_tmp rfl) (fun hg => z_fieldAddr fo_70_1) ?_
            | refine gL rfl rfl (ev_tmp rfl) (fun hg => z_fieldRef fo_70_1) ?_
            | refine gL rfl rfl (ev_tmp rfl) (fun hg => z_fieldV fo_70_1) ?_
            | refine hL rfl rfl (ev_tmp rfl) (fun hg => z_fieldAddr fo_70_1) ?_
            | refine hL rfl rfl (ev_tmp rfl) (fun hg => z_fieldRef fo_70_1) ?_
            | refine hL rfl rfl (ev_tmp rfl) (fun hg => z_fieldV fo_70_1) ?_
          first
            | refine gL rfl rfl (ev_tmp rfl) (fun hg => z_load sz_2) ?_
            | refine gL rfl rfl (ev_tmp rfl) (fun hg => z_loadRef sz_2) ?_
            | refine gL rfl rfl (ev_tmp rfl) (fun hg => z_loadV sz_2) ?_
            | refine hL rfl rfl (ev_tmp rfl) (fun hg => z_load sz_2) ?_
            | refine hL rfl rfl (ev_tmp rfl) (fun hg => z_loadRef sz_2) ?_
            | refine hL rfl rfl (ev_tmp rfl) (fun hg => z_loadV sz_2) ?_
          first
            | refine gL rfl rfl (ev_tmp rfl) (fun hg => z_gtr) ?_
            | refine hL rfl rfl (ev_tmp rfl) (fun hg => z_gtr) ?_
          refine aL z_and ?_
          refine aL z_assign ?_
          refine awl_nil (hK13 _ _ ?_)
          clear hK13 K13
          refine aC (fun r4 c4 => ?_) (fun r4 c4 => ?_)
          · refine aw_region fun K14 hK14 => ?_
            refine aL (z_call0 (eC .nil) en_36 (con_whole)) ?_
            refine aL (z_store sz_37) ?_
            refine awl_nil (hK14 _ _ ?_)
            clear hK14 K14
            refine aw_ret ?_
            refine (hret _ _ _ _ _ rfl (rCe sz_37 .nil) rfl ?_ .nil rfl).1
            first
              | (rw [unfit_at l k (by omega) 1 hq (by unfold badSet; rw [if_pos (by omega)])]; rfl)
              | (rw [unfit_at l k (by omega) 3 hq (by unfold badSet; rw [if_neg (by omega), if_pos (by omega)])]; rfl)
              | (rw [unfit_no l (fun j hj => hq j hj (by omega))]; rfl)
          · refine aw_skip ?_
            refine hK7 _ _ ?_
            clear hK7
            refine aw_region_last ?_
            refine aL z_add ?_
            refine aL z_move ?_
            refine awl_nil ?_
            refine hK4 _ _ ⟨k + 1, by omega, fun j hj h => ?_⟩ (by show _ - (k + 1) < _ - k; omega) ?_
            · rcases (by omega : j < k ∨ j = k) with h' | rfl
              · exact hq j hj h'
              · show badSet l[j] = none
                unfold badSet
                rw [if_neg (by omega), if_neg (by omega)]
            · exact wK
    · refine aw_exit ?_
      refine hK2 _ _ ?_
      clear hK2
      refine aw_region fun K15 hK15 => ?_
      refine aL (z_build .nil pl_37 zc_37 zl_37) ?_
      refine aL (z_store sz_37) ?_
      refine awl_nil (hK15 _ _ ?_)
      clear hK15 K15
      refine aw_ret ?_
      refine (hret _ _ _ _ _ rfl (rCe sz_37 .nil) rfl ?_ .nil rfl).1
      first
        | (rw [unfit_at l k (by omega) 1 hq (by unfold badSet; rw [if_pos (by omega)])]; rfl)
        | (rw [unfit_at l k (by omega) 3 hq (by unfold badSet; rw [if_neg (by omega), if_pos (by omega)])]; rfl)
        | (rw [unfit_no l (fun j hj => hq j hj (by omega))]; rfl)
end Go.Proofs.Ytigodfnckjidoaa
