/- Layer 7: what is left, is it over: of a feed that is lent; the law's awake. No condition. -/
import Derived.Test.YtigodfnckjidoaaChK
import Derived.Test.YtigodfnckjidoaaBa
namespace Go.Proofs.Ytigodfnckjidoaa
set_option linter.all false
open Go Go.RowKit
set_option maxRecDepth 10000
set_option maxHeartbeats 4000000
abbrev Fd7.vs (f : Fd7) : List V := [.int .i64 f.most, .int .i64 (f.pre : Int), .sl (bs f.left), .bool f.over]
theorem con_LeftR {f : Fd7} : Con Try.prog 14 [.ref f.vs] [] 0 (.ret (.v (.int .i64 f.leftM))) [] := by
  have hbl := bs_length f.left
  refine con_of Try.func14 rfl (by show _ ≤ 25; simp) fun X Q hP hnt hnp hret hpan => ?_
  obtain ⟨P0, nt0, w0, K0, S0, np0, pin0, df0⟩ := X
  simp only at hP hnt hnp
  subst hP hnp
  obtain rfl : nt0 = 25 := hnt
  refine aw_region fun K1 hK1 => ?_
  refine aL z_assign ?_
  refine awl_nil (hK1 _ _ ?_)
  clear hK1 K1
  refine aw_seq fun K2 hK2 => ?_
  refine aw_region fun K3 hK3 => ?_
  refine aL z_move ?_
  refine aL (z_eqlPR Try.underlying27) ?_
  refine aL z_move ?_
  first
    | refine gL rfl rfl (ev_tmp rfl) (fun hg => z_move) ?_
    | refine hL rfl rfl (ev_tmp rfl) (fun hg => z_move) ?_
  first
    | refine gL rfl rfl (ev_tmp rfl) (fun hg => z_nilCheckR) ?_
    | refine hL rfl rfl (ev_tmp rfl) (fun hg => z_nilCheckR) ?_
  first
    | refine gL rfl rfl (ev_tmp rfl) (fun hg => z_fieldAddr fo_54_3) ?_
    | refine gL rfl rfl (ev_tmp rfl) (fun hg => z_fieldRef fo_54_3) ?_
    | refine gL rfl rfl (ev_tmp rfl) (fun hg => z_fieldV fo_54_3) ?_
    | refine hL rfl rfl (ev_tmp rfl) (fun hg => z_fieldAddr fo_54_3) ?_
    | refine hL rfl rfl (ev_tmp rfl) (fun hg => z_fieldRef fo_54_3) ?_
    | refine hL rfl rfl (ev_tmp rfl) (fun hg => z_fieldV fo_54_3) ?_
  first
    | refine gL rfl rfl (ev_tmp rfl) (fun hg => z_load sz_4) ?_
    | refine gL rfl rfl (ev_tmp rfl) (fun hg => z_loadRef sz_4) ?_
    | refine gL rfl rfl (ev_tmp rfl) (fun hg => z_loadV sz_4) ?_
    | refine hL rfl rfl (ev_tmp rfl) (fun hg => z_load sz_4) ?_
    | refine hL rfl rfl (ev_tmp rfl) (fun hg => z_loadRef sz_4) ?_
    | refine hL rfl rfl (ev_tmp rfl) (fun hg => z_loadV sz_4) ?_
  refine aL z_or ?_
  refine awl_nil (hK3 _ _ ?_)
  clear hK3 K3
  refine aC (fun r1 c1 => ?_) (fun r1 c1 => ?_)
  · refine aw_region fun K4 hK4 => ?_
    refine aL z_assign ?_
    refine awl_nil (hK4 _ _ ?_)
    clear hK4 K4
    refine aw_ret ?_
    refine (hret _ _ _ _ _ rfl (.tmp rfl .nil) rfl ?_ .nil rfl).1
    first
      | (rw [left_over r1]; rfl)
      | (rw [left_pre r1 c2]; rfl)
      | (rw [left_all r1 c2, ← hbl]; rfl)
  · refine aw_skip ?_
    refine hK2 _ _ ?_
    clear hK2
    refine aw_seq fun K5 hK5 => ?_
    refine aw_region fun K6 hK6 => ?_
    refine aL z_move ?_
    refine aL z_nilCheckR ?_
    first
      | refine aL (z_fieldAddr fo_54_1) ?_
      | refine aL (z_fieldRef fo_54_1) ?_
      | refine aL (z_fieldV fo_54_1) ?_
    first
      | refine aL (z_load sz_3) ?_
      | refine aL (z_loadRef sz_3) ?_
      | refine aL (z_loadV sz_3) ?_
    refine aL z_lss ?_
    refine awl_nil (hK6 _ _ ?_)
    clear hK6 K6
    refine aC (fun r2 c2 => ?_) (fun r2 c2 => ?_)
    · refine aw_region fun K7 hK7 => ?_
      refine aL z_move ?_
      refine aL z_nilCheckR ?_
      first
        | refine aL (z_fieldAddr fo_54_1) ?_
        | refine aL (z_fieldRef fo_54_1) ?_
        | refine aL (z_fieldV fo_54_1) ?_
      first
        | refine aL (z_load sz_3) ?_
        | refine aL (z_loadRef sz_3) ?_
        | refine aL (z_loadV sz_3) ?_
      refine aL z_assign ?_
      refine awl_nil (hK7 _ _ ?_)
      clear hK7 K7
      refine aw_ret ?_
      refine (hret _ _ _ _ _ rfl (.tmp rfl .nil) rfl ?_ .nil rfl).1
      first
        | (rw [left_over r1]; rfl)
        | (rw [left_pre r1 c2]; rfl)
        | (rw [left_all r1 c2, ← hbl]; rfl)
    · refine aw_skip ?_
      refine hK5 _ _ ?_
      clear hK5
      refine aw_region fun K8 hK8 => ?_
      refine aL z_move ?_
      refine aL z_nilCheckR ?_
      first
        | refine aL (z_fieldAddr fo_54_2) ?_
        | refine aL (z_fieldRef fo_54_2) ?_
        | refine aL (z_fieldV fo_54_2) ?_
      first
        | refine aL (z_load sz_24) ?_
        | refine aL (z_loadRef sz_24) ?_
        | refine aL (z_loadV sz_24) ?_
      first
        | refine aL (z_lenB Try.underlying24) ?_
        | refine aL (z_len Try.underlying24) ?_
        | refine aL (z_lenV Try.underlying24) ?_
      refine aL z_assign ?_
      refine awl_nil (hK8 _ _ ?_)
      clear hK8 K8
      refine aw_ret ?_
      refine (hret _ _ _ _ _ rfl (.tmp rfl .nil) rfl ?_ .nil rfl).1
      first
        | (rw [left_over r1]; rfl)
        | (rw [left_pre r1 c2]; rfl)
        | (rw [left_all r1 c2, ← hbl]; rfl)
theorem con_OverR {f : Fd7} : Con Try.prog 15 [.ref f.vs] [] 0 (.ret (.v (.bool f.over))) [] := by
  refine con_of Try.func15 rfl (by show _ ≤ 11; simp) fun X Q hP hnt hnp hret hpan => ?_
  obtain ⟨P0, nt0, w0, K0, S0, np0, pin0, df0⟩ := X
  simp only at hP hnt hnp
  subst hP hnp
  obtain rfl : nt0 = 11 := hnt
  refine aw_region fun K1 hK1 => ?_
  refine aL z_assign ?_
  refine awl_nil (hK1 _ _ ?_)
  clear hK1 K1
  refine aw_region fun K2 hK2 => ?_
  refine aL z_move ?_
  refine aL (z_eqlPR Try.underlying27) ?_
  refine aL z_move ?_
  first
    | refine gL rfl rfl (ev_tmp rfl) (fun hg => z_move) ?_
    | refine hL rfl rfl (ev_tmp rfl) (fun hg => z_move) ?_
  first
    | refine gL rfl rfl (ev_tmp rfl) (fun hg => z_nilCheckR) ?_
    | refine hL rfl rfl (ev_tmp rfl) (fun hg => z_nilCheckR) ?_
  first
    | refine gL rfl rfl (ev_tmp rfl) (fun hg => z_fieldAddr fo_54_3) ?_
    | refine gL rfl rfl (ev_tmp rfl) (fun hg => z_fieldRef fo_54_3) ?_
    | refine gL rfl rfl (ev_tmp rfl) (fun hg => z_fieldV fo_54_3) ?_
    | refine hL rfl rfl (ev_tmp rfl) (fun hg => z_fieldAddr fo_54_3) ?_
    | refine hL rfl rfl (ev_tmp rfl) (fun hg => z_fieldRef fo_54_3) ?_
    | refine hL rfl rfl (ev_tmp rfl) (fun hg => z_fieldV fo_54_3) ?_
  first
    | refine gL rfl rfl (ev_tmp rfl) (fun hg => z_load sz_4) ?_
    | refine gL rfl rfl (ev_tmp rfl) (fun hg => z_loadRef sz_4) ?_
    | refine gL rfl rfl (ev_tmp rfl) (fun hg => z_loadV sz_4) ?_
    | refine hL rfl rfl (ev_tmp rfl) (fun hg => z_load sz_4) ?_
    | refine hL rfl rfl (ev_tmp rfl) (fun hg => z_loadRef sz_4) ?_
    | refine hL rfl rfl (ev_tmp rfl) (fun hg => z_loadV sz_4) ?_
  refine aL z_or ?_
  refine aL z_assign ?_
  refine awl_nil (hK2 _ _ ?_)
  clear hK2 K2
  refine aw_ret ?_
  refine (hret _ _ _ _ _ rfl (.tmp rfl .nil) rfl ?_ .nil rfl).1
  rfl
end Go.Proofs.Ytigodfnckjidoaa
