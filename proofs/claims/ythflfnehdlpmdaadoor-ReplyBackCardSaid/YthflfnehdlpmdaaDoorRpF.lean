/- Chapter 15: a field's line. No condition but on lengths. -/
import Derived.Test.YthflfnehdlpmdaaDoorRpE
namespace Go.Proofs.YthflfnehdlpmdaaDoor
set_option linter.all false
open Go Go.RowKit
set_option maxRecDepth 10000
set_option maxHeartbeats 4000000
theorem fieldP_nil {many : Int} : fieldP many [] = .ok (none, many) := if_pos rfl
theorem fieldP_bad {many : Int} {t a b : List UInt8} {ok : Bool} (ht : ¬ t = []) (hc : cutM 58 t = (a, b, ok)) (h : (!ok || !tokenM a || !valueM (trimM b)) = true) : fieldP many t = .error 150 := by
  unfold fieldP fieldR
  rw [if_neg ht, hc, if_neg (fun ⟨h1, h2, h3⟩ => by simp only at h1 h2 h3; rw [h1, h2, h3] at h; cases h)]
theorem fieldP_long {many : Int} {t a b : List UInt8} {ok : Bool} (ht : ¬ t = []) (hc : cutM 58 t = (a, b, ok)) (h : (!ok || !tokenM a || !valueM (trimM b)) = false) (hm : 100 < many + 1) : fieldP many t = .error 2 := by
  have h' : ok = true ∧ tokenM a = true ∧ valueM (trimM b) = true := by
    revert h; cases ok <;> cases tokenM a <;> cases valueM (trimM b) <;> simp
  unfold fieldP fieldR
  rw [if_neg ht, hc, if_pos h']
  simp only
  rw [if_pos hm]
theorem fieldP_ok {many : Int} {t a b : List UInt8} {ok : Bool} (ht : ¬ t = []) (hc : cutM 58 t = (a, b, ok)) (h : (!ok || !tokenM a || !valueM (trimM b)) = false) (hm : ¬ 100 < many + 1) : fieldP many t = .ok (some ⟨lowM a, trimM b, false⟩, many + 1) := by
  have h' : ok = true ∧ tokenM a = true ∧ valueM (trimM b) = true := by
    revert h; cases ok <;> cases tokenM a <;> cases valueM (trimM b) <;> simp
  unfold fieldP fieldR
  rw [if_neg ht, hc, if_pos h']
  simp only
  rw [if_neg hm]
abbrev fd0 : Fd := ⟨[], [], false⟩
def fldOut : Except Int (Option Fd × Int) → Out
  | .ok (o, _) => .ret (.tup [.agg (o.getD fd0).cs, .v (.bool o.isSome)])
  | .error e => .pan (.v (.lit (fltV e)))
def fldPost (fb : Bool) (s : Ps) (all : List UInt8) (at0 : Int) (h : Hs) (mo : Bool) : Except Int (Option Fd × Int) → AH
  | .ok (_, m) => rAB fb { s with many := m } 1 all at0 h mo
  | .error _ => panAH
theorem con_fieldT {s : Ps} {all t : List UInt8} {at0 : Int} {h : Hs} {mo : Bool} {R : Except Int (Option Fd × Int)} (he : s.ended = false) (ht : t.length ≤ 1000000000) (hm : 0 ≤ s.many ∧ s.many ≤ 100) (hR : fieldP s.many t = R) :
    Con Tryd.prog 35 [.ptr 0 0, .v (.str t)] (rAB true s 0 all at0 h mo) 4 (fldOut R) (fldPost true s all at0 h mo R) := by
  obtain ⟨a, b, ok, hc⟩ : ∃ a b ok, cutM 58 t = (a, b, ok) := ⟨_, _, _, rfl⟩
  obtain ⟨la, lb⟩ : a.length ≤ t.length ∧ b.length ≤ t.length := by have := cutM_len 58 t; rw [hc] at this; exact this
  have htr := trim_le b
  obtain ⟨hd, kk, ln, st, old, fs, many, need, ended, toEnd⟩ := s
  obtain ⟨hh, hst, hfs, hdt, hfin⟩ := h
  simp only at he hR hm
  subst he
  refine con_of Tryd.func35 rfl (by show _ ≤ 50; simp) fun X Q hP hnt hnp hret hpan => ?_
  obtain ⟨P0, nt0, w0, K0, S0, np0, pin0, df0⟩ := X
  simp only at hP hnt hnp
  subst hP hnp
  obtain rfl : nt0 = 50 := hnt
  refine aw_region fun K1 hK1 => ?_
  refine aL (z_alloc 10 zc_47 zl_47) ?_
  refine aL z_assign ?_
  refine awl_nil (hK1 _ _ ?_)
  clear hK1 K1
  refine aw_seq fun K2 hK2 => ?_
  refine aw_region fun K3 hK3 => ?_
  refine aL z_move ?_
  refine aL z_eqlS ?_
  refine awl_nil (hK3 _ _ ?_)
  clear hK3 K3
  refine aC (fun r1 c1 => ?_) (fun r1 c1 => ?_)
  · refine aw_region fun K4 hK4 => ?_
    refine aL (z_build .nil pl_47 zc_47 zl_47) ?_
    refine aL (z_store sz_47) ?_
    refine aL z_assign ?_
    refine awl_nil (hK4 _ _ ?_)
    clear hK4 K4
    first
      | (subst c1
         rw [fieldP_nil] at hR
         subst hR
         refine aw_weak (weak_rever 1 1 rfl) (aw_weak (weak_rever 2 1 rfl) ?_))
      | (rw [fieldP_ok c1 hc r2 (by omega)] at hR
         subst hR
         refine aw_weak (weak_rever 1 1 rfl) (aw_weak (weak_rever 2 1 rfl) ?_))
    refine aw_ret ?_
    refine (hret _ _ _ _ _ rfl (rCe sz_47 (.tmp rfl .nil)) rfl ?_ (.box rfl rfl (.row rfl (.row rfl (.box rfl rfl .nil)))) rfl).1
    rfl
  · refine aw_skip ?_
    refine hK2 _ _ ?_
    clear hK2
    refine aw_region fun K5 hK5 => ?_
    refine aL z_move ?_
    refine aL (z_call0 (eC (eC .nil)) en_24 (con_cutC (by omega) hc)) ?_
    refine aL z_move ?_
    refine aL z_extract ?_
    refine aL z_extract ?_
    refine aL z_extract ?_
    refine aL z_assign ?_
    refine aL z_assign ?_
    refine aL z_assign ?_
    refine awl_nil (hK5 _ _ ?_)
    clear hK5 K5
    refine aw_region fun K6 hK6 => ?_
    refine aL z_move ?_
    refine aL (z_call0 (eC .nil) en_27 (con_TrimO (l := b) (by unfold maxLen; omega))) ?_
    refine aL z_assign ?_
    refine awl_nil (hK6 _ _ ?_)
    clear hK6 K6
    refine aw_seq fun K7 hK7 => ?_
    refine aw_region fun K8 hK8 => ?_
    refine aL z_move ?_
    refine aL z_not ?_
    refine aL z_move ?_
    refine gL rfl rfl (ev_tmp rfl) (fun hg => z_move) ?_
    refine gL rfl rfl (ev_tmp rfl) (fun hg => z_call0 (eC .nil) en_49 (con_Token (l := a) (by unfold maxLen; omega))) ?_
    refine gL rfl rfl (ev_tmp rfl) (fun hg => z_not) ?_
    refine aL z_or ?_
    refine aL z_move ?_
    refine gL rfl rfl (ev_tmp rfl) (fun hg => z_move) ?_
    refine gL rfl rfl (ev_tmp rfl) (fun hg => z_call0 (eC .nil) en_26 (con_Value (l := trimM b) (by unfold maxLen; omega))) ?_
    refine gL rfl rfl (ev_tmp rfl) (fun hg => z_not) ?_
    refine aL z_or ?_
    refine awl_nil (hK8 _ _ ?_)
    clear hK8 K8
    refine aC (fun r2 c2 => ?_) (fun r2 c2 => ?_)
    · refine aw_region_last ?_
      refine awl_weak (weak_pan rfl rfl rfl rfl) ?_
      refine awl_callP [] (eC .nil) en_28 (con_fail (e := 150)) .nil ?_
      rw [fieldP_bad c1 hc r2] at hR
      subst hR
      exact hpan _ _ _ rfl (.box rfl rfl (.row rfl (.row rfl (.box rfl rfl .nil)))) rfl
    · refine aw_skip ?_
      refine hK7 _ _ ?_
      clear hK7
      refine aw_seq fun K9 hK9 => ?_
      refine aw_region fun K10 hK10 => ?_
      refine aL z_move ?_
      refine aL z_nilCheck ?_
      refine aL (z_fieldAddr fo_54_6) ?_
      refine aL (z_load sz_3) ?_
      refine aL z_add ?_
      refine aL z_nilCheck ?_
      refine aL (z_fieldAddr fo_54_6) ?_
      refine aL (z_store sz_3) ?_
      refine awl_nil (hK10 _ _ ?_)
      clear hK10 K10
      refine aw_region fun K11 hK11 => ?_
      refine aL z_move ?_
      refine aL z_nilCheck ?_
      refine aL (z_fieldAddr fo_54_6) ?_
      refine aL (z_load sz_3) ?_
      refine aL z_gtr ?_
      refine awl_nil (hK11 _ _ ?_)
      clear hK11 K11
      refine aC (fun r3 c3 => ?_) (fun r3 c3 => ?_)
      · refine aw_region_last ?_
        refine awl_weak (weak_pan rfl rfl rfl rfl) ?_
        refine awl_callP [] (eC .nil) en_28 (con_fail (e := 2)) .nil ?_
        rw [fieldP_long c1 hc r2 (by omega)] at hR
        subst hR
        exact hpan _ _ _ rfl (.box rfl rfl (.row rfl (.row rfl (.box rfl rfl .nil)))) rfl
      · refine aw_skip ?_
        refine hK9 _ _ ?_
        clear hK9
        refine aw_region fun K12 hK12 => ?_
        refine aL z_move ?_
        refine aL (z_call0 (eC .nil) en_39 (con_Lower (l := a) (by omega))) ?_
        refine aL z_move ?_
        refine aL (z_build (pC (pC .nil)) pl_47 zc_47 zl_47) ?_
        refine aL (z_store sz_47) ?_
        refine aL z_assign ?_
        refine awl_nil (hK12 _ _ ?_)
        clear hK12 K12
        first
          | (subst c1
             rw [fieldP_nil] at hR
             subst hR
             refine aw_weak (weak_rever 1 1 rfl) (aw_weak (weak_rever 2 1 rfl) ?_))
          | (rw [fieldP_ok c1 hc r2 (by omega)] at hR
             subst hR
             refine aw_weak (weak_rever 1 1 rfl) (aw_weak (weak_rever 2 1 rfl) ?_))
        refine aw_ret ?_
        refine (hret _ _ _ _ _ rfl (rCe sz_47 (.tmp rfl .nil)) rfl ?_ (.box rfl rfl (.row rfl (.row rfl (.box rfl rfl .nil)))) rfl).1
        rfl
theorem con_fieldF {s : Ps} {all t : List UInt8} {at0 : Int} {h : Hs} {mo : Bool} {R : Except Int (Option Fd × Int)} (he : s.ended = false) (ht : t.length ≤ 1000000000) (hm : 0 ≤ s.many ∧ s.many ≤ 100) (hR : fieldP s.many t = R) :
    Con Tryd.prog 35 [.ptr 0 0, .v (.str t)] (rAB false s 0 all at0 h mo) 4 (fldOut R) (fldPost false s all at0 h mo R) := by
  obtain ⟨a, b, ok, hc⟩ : ∃ a b ok, cutM 58 t = (a, b, ok) := ⟨_, _, _, rfl⟩
  obtain ⟨la, lb⟩ : a.length ≤ t.length ∧ b.length ≤ t.length := by have := cutM_len 58 t; rw [hc] at this; exact this
  have htr := trim_le b
  obtain ⟨hd, kk, ln, st, old, fs, many, need, ended, toEnd⟩ := s
  obtain ⟨hh, hst, hfs, hdt, hfin⟩ := h
  simp only at he hR hm
  subst he
  refine con_of Tryd.func35 rfl (by show _ ≤ 50; simp) fun X Q hP hnt hnp hret hpan => ?_
  obtain ⟨P0, nt0, w0, K0, S0, np0, pin0, df0⟩ := X
  simp only at hP hnt hnp
  subst hP hnp
  obtain rfl : nt0 = 50 := hnt
  refine aw_region fun K1 hK1 => ?_
  refine aL (z_alloc 10 zc_47 zl_47) ?_
  refine aL z_assign ?_
  refine awl_nil (hK1 _ _ ?_)
  clear hK1 K1
  refine aw_seq fun K2 hK2 => ?_
  refine aw_region fun K3 hK3 => ?_
  refine aL z_move ?_
  refine aL z_eqlS ?_
  refine awl_nil (hK3 _ _ ?_)
  clear hK3 K3
  refine aC (fun r1 c1 => ?_) (fun r1 c1 => ?_)
  · refine aw_region fun K4 hK4 => ?_
    refine aL (z_build .nil pl_47 zc_47 zl_47) ?_
    refine aL (z_store sz_47) ?_
    refine aL z_assign ?_
    refine awl_nil (hK4 _ _ ?_)
    clear hK4 K4
    first
      | (subst c1
         rw [fieldP_nil] at hR
         subst hR
         refine aw_weak (weak_rever 1 1 rfl) (aw_weak (weak_rever 2 1 rfl) ?_))
      | (rw [fieldP_ok c1 hc r2 (by omega)] at hR
         subst hR
         refine aw_weak (weak_rever 1 1 rfl) (aw_weak (weak_rever 2 1 rfl) ?_))
    refine aw_ret ?_
    refine (hret _ _ _ _ _ rfl (rCe sz_47 (.tmp rfl .nil)) rfl ?_ (.box rfl rfl (.row rfl (.row rfl (.box rfl rfl .nil)))) rfl).1
    rfl
  · refine aw_skip ?_
    refine hK2 _ _ ?_
    clear hK2
    refine aw_region fun K5 hK5 => ?_
    refine aL z_move ?_
    refine aL (z_call0 (eC (eC .nil)) en_24 (con_cutC (by omega) hc)) ?_
    refine aL z_move ?_
    refine aL z_extract ?_
    refine aL z_extract ?_
    refine aL z_extract ?_
    refine aL z_assign ?_
    refine aL z_assign ?_
    refine aL z_assign ?_
    refine awl_nil (hK5 _ _ ?_)
    clear hK5 K5
    refine aw_region fun K6 hK6 => ?_
    refine aL z_move ?_
    refine aL (z_call0 (eC .nil) en_27 (con_TrimO (l := b) (by unfold maxLen; omega))) ?_
    refine aL z_assign ?_
    refine awl_nil (hK6 _ _ ?_)
    clear hK6 K6
    refine aw_seq fun K7 hK7 => ?_
    refine aw_region fun K8 hK8 => ?_
    refine aL z_move ?_
    refine aL z_not ?_
    refine aL z_move ?_
    refine gL rfl rfl (ev_tmp rfl) (fun hg => z_move) ?_
    refine gL rfl rfl (ev_tmp rfl) (fun hg => z_call0 (eC .nil) en_49 (con_Token (l := a) (by unfold maxLen; omega))) ?_
    refine gL rfl rfl (ev_tmp rfl) (fun hg => z_not) ?_
    refine aL z_or ?_
    refine aL z_move ?_
    refine gL rfl rfl (ev_tmp rfl) (fun hg => z_move) ?_
    refine gL rfl rfl (ev_tmp rfl) (fun hg => z_call0 (eC .nil) en_26 (con_Value (l := trimM b) (by unfold maxLen; omega))) ?_
    refine gL rfl rfl (ev_tmp rfl) (fun hg => z_not) ?_
    refine aL z_or ?_
    refine awl_nil (hK8 _ _ ?_)
    clear hK8 K8
    refine aC (fun r2 c2 => ?_) (fun r2 c2 => ?_)
    · refine aw_region_last ?_
      refine awl_weak (weak_pan rfl rfl rfl rfl) ?_
      refine awl_callP [] (eC .nil) en_28 (con_fail (e := 150)) .nil ?_
      rw [fieldP_bad c1 hc r2] at hR
      subst hR
      exact hpan _ _ _ rfl (.box rfl rfl (.row rfl (.row rfl (.box rfl rfl .nil)))) rfl
    · refine aw_skip ?_
      refine hK7 _ _ ?_
      clear hK7
      refine aw_seq fun K9 hK9 => ?_
      refine aw_region fun K10 hK10 => ?_
      refine aL z_move ?_
      refine aL z_nilCheck ?_
      refine aL (z_fieldAddr fo_54_6) ?_
      refine aL (z_load sz_3) ?_
      refine aL z_add ?_
      refine aL z_nilCheck ?_
      refine aL (z_fieldAddr fo_54_6) ?_
      refine aL (z_store sz_3) ?_
      refine awl_nil (hK10 _ _ ?_)
      clear hK10 K10
      refine aw_region fun K11 hK11 => ?_
      refine aL z_move ?_
      refine aL z_nilCheck ?_
      refine aL (z_fieldAddr fo_54_6) ?_
      refine aL (z_load sz_3) ?_
      refine aL z_gtr ?_
      refine awl_nil (hK11 _ _ ?_)
      clear hK11 K11
      refine aC (fun r3 c3 => ?_) (fun r3 c3 => ?_)
      · refine aw_region_last ?_
        refine awl_weak (weak_pan rfl rfl rfl rfl) ?_
        refine awl_callP [] (eC .nil) en_28 (con_fail (e := 2)) .nil ?_
        rw [fieldP_long c1 hc r2 (by omega)] at hR
        subst hR
        exact hpan _ _ _ rfl (.box rfl rfl (.row rfl (.row rfl (.box rfl rfl .nil)))) rfl
      · refine aw_skip ?_
        refine hK9 _ _ ?_
        clear hK9
        refine aw_region fun K12 hK12 => ?_
        refine aL z_move ?_
        refine aL (z_call0 (eC .nil) en_39 (con_Lower (l := a) (by omega))) ?_
        refine aL z_move ?_
        refine aL (z_build (pC (pC .nil)) pl_47 zc_47 zl_47) ?_
        refine aL (z_store sz_47) ?_
        refine aL z_assign ?_
        refine awl_nil (hK12 _ _ ?_)
        clear hK12 K12
        first
          | (subst c1
             rw [fieldP_nil] at hR
             subst hR
             refine aw_weak (weak_rever 1 1 rfl) (aw_weak (weak_rever 2 1 rfl) ?_))
          | (rw [fieldP_ok c1 hc r2 (by omega)] at hR
             subst hR
             refine aw_weak (weak_rever 1 1 rfl) (aw_weak (weak_rever 2 1 rfl) ?_))
        refine aw_ret ?_
        refine (hret _ _ _ _ _ rfl (rCe sz_47 (.tmp rfl .nil)) rfl ?_ (.box rfl rfl (.row rfl (.row rfl (.box rfl rfl .nil)))) rfl).1
        rfl
end Go.Proofs.YthflfnehdlpmdaaDoor
