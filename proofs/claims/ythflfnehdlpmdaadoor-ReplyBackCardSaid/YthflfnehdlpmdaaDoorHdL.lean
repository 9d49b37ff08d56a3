/- Layer 10: the length that a list of fields tells. No condition. -/
import Derived.Test.YthflfnehdlpmdaaDoorHdCToAv
namespace Go.Proofs.YthflfnehdlpmdaaDoor
set_option linter.all false
open Go Go.RowKit
set_option maxRecDepth 10000
set_option maxHeartbeats 4000000
def kL : List UInt8 := [99, 111, 110, 116, 101, 110, 116, 45, 108, 101, 110, 103, 116, 104]
theorem valuesM_drop {l : List Fd} {q : Nat} (h : q < l.length) (k : List UInt8) : valuesM (l.drop q) k = if (l[q]).n = k then (l[q]).v :: valuesM (l.drop (q + 1)) k else valuesM (l.drop (q + 1)) k := by
  rw [List.drop_eq_getElem_cons h, show l[q] :: l.drop (q + 1) = [l[q]] ++ l.drop (q + 1) from rfl, valuesM_app, valuesM_one]; split <;> rfl
theorem numV_nn (l : List UInt8) : 0 ≤ numV 10 l := by unfold numV; split; exact Int.le_refl _; exact valM_nonneg 10 (by decide) l
theorem numV_le (l : List UInt8) : numV 10 l ≤ 1099511627776 := by
  unfold numV; split
  · decide
  · rename_i h; simp only [Bool.or_eq_true, decide_eq_true_eq, not_or, Int.not_lt] at h; exact h.2
theorem con_Length {l : List Fd} (hs : szM l ≤ 1099511627776) : Con Tryd.prog 50 [.v (.sl (fdV l))] [] 0 (.ret (.tup [.v (.int .i64 (lenM l).1), .v (.bool (lenM l).2.1), .v (.int .i64 (lenM l).2.2)])) [] := by
  have hll := szM_len l
  refine con_of Tryd.func50 rfl (by show _ ≤ 42; simp) fun X Q hP hnt hnp hret hpan => ?_
  obtain ⟨P0, nt0, w0, K0, S0, np0, pin0, df0⟩ := X
  simp only at hP hnt hnp
  subst hP hnp
  obtain rfl : nt0 = 42 := hnt
  refine aw_region fun K1 hK1 => ?_
  refine aL z_assign ?_
  refine aL z_assign ?_
  refine aL z_assign ?_
  refine awl_nil (hK1 _ _ ?_)
  clear hK1 K1
  refine aw_region fun K2 hK2 => ?_
  refine aL z_assign ?_
  refine awl_nil (hK2 _ _ ?_)
  clear hK2 K2
  refine aw_seq fun K3 hK3 => ?_
  refine aw_region fun K4 hK4 => ?_
  refine aL z_move ?_
  first
    | refine aL (z_lenB Tryd.underlying26) ?_
    | refine aL (z_len Tryd.underlying26) ?_
    | refine aL (z_lenV Tryd.underlying26) ?_
  refine aL z_move ?_
  refine awl_nil (hK4 _ _ ?_)
  clear hK4 K4
  refine aw_block ?_
  refine aw_loop (α := {x : Nat × Int // x.1 ≤ l.length ∧ -1 ≤ x.2 ∧ x.2 ≤ 1099511627776 ∧ lenGo (max x.2 0) (decide (0 ≤ x.2)) (valuesM (l.drop x.1) kL) = lenM l}) (fun x => ([(10, .v (.sl (fdV l))), (11, .v (.int .i64 (l.length : Int))), (12, .v (.int .i64 (x.1.1 : Int))), (5, .v (.int .i64 x.1.2))], [])) (fun x => l.length - x.1.1) ⟨(0, -1), by omega, by omega, by omega, rfl⟩ ?_ ?_
  · dsimp only
    exact wK
  · rintro ⟨⟨q, n⟩, hq, hn, hn2, ha⟩ K5 hK5
    dsimp only
    dsimp only at hq hn hn2 ha
    refine aw_region fun K6 hK6 => ?_
    refine aL z_lss ?_
    refine awl_nil (hK6 _ _ ?_)
    clear hK6 K6
    refine aw_seq fun K7 hK7 => ?_
    refine aC (fun r1 c1 => ?_) (fun r1 c1 => ?_)
    · refine aw_skip ?_
      refine hK7 _ _ ?_
      clear hK7
      refine aw_seq fun K8 hK8 => ?_
      refine aw_block ?_
      refine aw_region fun K9 hK9 => ?_
      have hlt : q < l.length := by omega
      have hi := fdV_get hlt
      first
        | refine aL (z_indexAddr Tryd.underlying26 sz_47) ?_
        | refine aL (z_indexAddrV Tryd.underlying26 sz_47) ?_
      first
        | refine aL (z_load sz_47) ?_
        | refine aL (z_loadRef sz_47) ?_
        | refine aL (z_loadV sz_47) ?_
      refine aL (z_alloc 0 zc_47 zl_47) ?_
      refine aL (z_store sz_47) ?_
      refine awl_nil (hK9 _ _ ?_)
      clear hK9 K9
      refine aw_seq fun K10 hK10 => ?_
      refine aw_region fun K11 hK11 => ?_
      first
        | refine aL (z_fieldAddr fo_47_0) ?_
        | refine aL (z_fieldRef fo_47_0) ?_
        | refine aL (z_fieldV fo_47_0) ?_
      first
        | refine aL (z_load sz_9) ?_
        | refine aL (z_loadRef sz_9) ?_
        | refine aL (z_loadV sz_9) ?_
      refine aL z_neqS ?_
      refine awl_nil (hK11 _ _ ?_)
      clear hK11 K11
      refine aC (fun r2 c2 => ?_) (fun r2 c2 => ?_)
      · refine aw_exit ?_
        refine hK8 _ _ ?_
        clear hK8
        refine aw_region_last ?_
        refine aL z_add ?_
        refine aL z_move ?_
        refine awl_nil ?_
        first
          | (refine hK5 _ _ ⟨(q + 1, n), by dsimp only; omega, hn, hn2, by rw [valuesM_drop hlt, if_neg (by assumption)] at ha; exact ha⟩ (by dsimp only; omega) ?_; dsimp only; exact wK)
          | (rw [valuesM_drop hlt, if_pos (by assumption), lenGo] at ha; refine hK5 _ _ ⟨(q + 1, numV 10 l[q].v), by dsimp only; omega, by have := numV_nn l[q].v; dsimp only; omega, numV_le _, ?_⟩ (by dsimp only; omega) ?_; (rw [if_neg (by simp only [decide_eq_true_eq]; omega)] at ha; dsimp only; rw [show max (numV 10 l[q].v) 0 = numV 10 l[q].v from by have := numV_nn l[q].v; omega, decide_eq_true (numV_nn _)]; exact ha); dsimp only; exact wK)
      · refine aw_skip ?_
        refine hK10 _ _ ?_
        clear hK10
        refine aw_region fun K12 hK12 => ?_
        first
          | refine aL (z_fieldAddr fo_47_1) ?_
          | refine aL (z_fieldRef fo_47_1) ?_
          | refine aL (z_fieldV fo_47_1) ?_
        first
          | refine aL (z_load sz_9) ?_
          | refine aL (z_loadRef sz_9) ?_
          | refine aL (z_loadV sz_9) ?_
        refine aL (z_call0 (eC .nil) en_25 (con_Decimal (by have := szM_at hlt; unfold maxLen; omega))) ?_
        refine aL z_move ?_
        refine aL z_extract ?_
        refine aL z_extract ?_
        refine aL z_assign ?_
        refine aL z_assign ?_
        refine awl_nil (hK12 _ _ ?_)
        clear hK12 K12
        refine aw_seq fun K13 hK13 => ?_
        refine aw_region fun K14 hK14 => ?_
        refine aL z_move ?_
        refine aL z_neq ?_
        refine aL z_move ?_
        first
          | refine gL rfl rfl (ev_tmp rfl) (fun hg => z_move) ?_
          | refine hL rfl rfl (ev_tmp rfl) (fun hg => z_move) ?_
        first
          | refine gL rfl rfl (ev_tmp rfl) (fun hg => z_geq) ?_
          | refine hL rfl rfl (ev_tmp rfl) (fun hg => z_geq) ?_
        first
          | refine gL rfl rfl (ev_tmp rfl) (fun hg => z_move) ?_
          | refine hL rfl rfl (ev_tmp rfl) (fun hg => z_move) ?_
        first
          | refine gL rfl rfl (ev_tmp rfl) (fun hg => z_move) ?_
          | refine hL rfl rfl (ev_tmp rfl) (fun hg => z_move) ?_
        first
          | refine gL rfl rfl (ev_tmp rfl) (fun hg => z_move) ?_
          | refine hL rfl rfl (ev_tmp rfl) (fun hg => z_move) ?_
        first
          | refine gL rfl rfl (ev_tmp rfl) (fun hg => z_neq) ?_
          | refine hL rfl rfl (ev_tmp rfl) (fun hg => z_neq) ?_
        first
          | refine gL rfl rfl (ev_tmp rfl) (fun hg => z_and) ?_
          | refine hL rfl rfl (ev_tmp rfl) (fun hg => z_and) ?_
        refine aL z_or ?_
        refine awl_nil (hK14 _ _ ?_)
        clear hK14 K14
        refine aC (fun r3 c3 => ?_) (fun r3 c3 => ?_)
        · refine aw_region fun K15 hK15 => ?_
          refine aL z_assign ?_
          refine aL z_assign ?_
          refine aL z_assign ?_
          refine awl_nil (hK15 _ _ ?_)
          clear hK15 K15
          refine aw_ret ?_
          refine (hret _ _ _ _ _ rfl (.tmp rfl (.tmp rfl (.tmp rfl .nil))) rfl ?_ .nil rfl).1
          first
            | (have hL : l[q].n = kL := (by assumption); rw [valuesM_drop hlt, if_pos hL, lenGo, if_pos (by simp only [decide_eq_true_eq]; omega)] at ha; rw [← ha]; rfl)
            | (have hx : q = l.length := (by omega); rw [hx, List.drop_length] at ha; have hb : lenM l = (max n 0, decide (0 ≤ n), 0) := ha.symm; rw [hb]; rfl)
        · refine aw_skip ?_
          refine hK13 _ _ ?_
          clear hK13
          refine aw_region_last ?_
          refine aL z_move ?_
          refine aL z_assign ?_
          refine awl_nil ?_
          refine hK8 _ _ ?_
          clear hK8
          refine aw_region_last ?_
          refine aL z_add ?_
          refine aL z_move ?_
          refine awl_nil ?_
          first
            | (refine hK5 _ _ ⟨(q + 1, n), by dsimp only; omega, hn, hn2, by rw [valuesM_drop hlt, if_neg (by assumption)] at ha; exact ha⟩ (by dsimp only; omega) ?_; dsimp only; exact wK)
            | (rw [valuesM_drop hlt, if_pos (by assumption), lenGo] at ha; refine hK5 _ _ ⟨(q + 1, numV 10 l[q].v), by dsimp only; omega, by have := numV_nn l[q].v; dsimp only; omega, numV_le _, ?_⟩ (by dsimp only; omega) ?_; (rw [if_neg (by simp only [decide_eq_true_eq]; omega)] at ha; dsimp only; rw [show max (numV 10 l[q].v) 0 = numV 10 l[q].v from by have := numV_nn l[q].v; omega, decide_eq_true (numV_nn _)]; exact ha); dsimp only; exact wK)
    · refine aw_exit ?_
      refine hK3 _ _ ?_
      clear hK3
      refine aw_region fun K16 hK16 => ?_
      refine aL z_move ?_
      refine aL z_max ?_
      refine aL z_move ?_
      refine aL z_geq ?_
      refine aL z_assign ?_
      refine aL z_assign ?_
      refine aL z_assign ?_
      refine awl_nil (hK16 _ _ ?_)
      clear hK16 K16
      refine aw_ret ?_
      refine (hret _ _ _ _ _ rfl (.tmp rfl (.tmp rfl (.tmp rfl .nil))) rfl ?_ .nil rfl).1
      first
        | (have hL : l[q].n = kL := (by assumption); rw [valuesM_drop hlt, if_pos hL, lenGo, if_pos (by simp only [decide_eq_true_eq]; omega)] at ha; rw [← ha]; rfl)
        | (have hx : q = l.length := (by omega); rw [hx, List.drop_length] at ha; have hb : lenM l = (max n 0, decide (0 ≤ n), 0) := ha.symm; rw [hb]; rfl)
end Go.Proofs.YthflfnehdlpmdaaDoor
