/- Chapter 15: the first line; the fields' lines. No condition but on lengths. -/
import Derived.Test.YthflfnehdlpmdaaDoorRpH
namespace Go.Proofs.YthflfnehdlpmdaaDoor
set_option linter.all false
open Go Go.RowKit
set_option maxRecDepth 10000
set_option maxHeartbeats 4000000
theorem first_line {s : Ps} {h : Hs} {t v rest d reason : List UInt8} {o1 o2 : Bool} (h1 : cutM 32 t = (v, rest, o1)) (h2 : cutM 32 rest = (d, reason, o2)) :
    onFirst s h t = if (!(v == h10) && !(v == h11) || (d.length : Int) != 3 || numE 10 d != 0 || decide (numV 10 d < 100) || !valueM (trimM reason)) = true then .error 150 else .ok ({ s with ln := [], st := numV 10 d, old := (v == h10), fs := [], many := 0, k := .heads }, h) := by
  have b1 : (v == h10) = decide (v = h10) := by rw [Bool.eq_iff_iff]; simp
  have b2 : (v == h11) = decide (v = h11) := by rw [Bool.eq_iff_iff]; simp
  rw [b1, b2]
  have hW : (!decide (v = h10) && !decide (v = h11) || (d.length : Int) != 3 || numE 10 d != 0 || decide (numV 10 d < 100) || !valueM (trimM reason)) = !decide ((v = h10 ∨ v = h11) ∧ d.length = 3 ∧ numE 10 d = 0 ∧ 100 ≤ numV 10 d ∧ valueM (trimM reason) = true) := by
    have a3 : ((d.length : Int) != 3) = !decide (d.length = 3) := by rw [Bool.eq_iff_iff]; simp; omega
    have a4 : (numE 10 d != 0) = !decide (numE 10 d = 0) := by rw [Bool.eq_iff_iff]; simp
    have a5 : decide (numV 10 d < 100) = !decide (100 ≤ numV 10 d) := by rw [Bool.eq_iff_iff]; simp
    rw [a3, a4, a5]
    simp only [Bool.decide_and, Bool.decide_or]
    generalize decide (v = h10) = b1
    generalize decide (v = h11) = b2
    generalize decide (d.length = 3) = b3
    generalize decide (numE 10 d = 0) = b4
    generalize decide (100 ≤ numV 10 d) = b5
    generalize valueM (trimM reason) = b6
    revert b1 b2 b3 b4 b5 b6
    decide
  rw [hW]
  unfold onFirst firstR
  rw [h1, h2]
  by_cases hC : (v = h10 ∨ v = h11) ∧ d.length = 3 ∧ numE 10 d = 0 ∧ 100 ≤ numV 10 d ∧ valueM (trimM reason) = true
  · rw [if_pos hC, if_neg (by simp [hC])]
  · rw [if_neg hC, if_pos (by rw [decide_eq_false hC]; rfl)]
theorem con_first {s : Ps} {all : List UInt8} {at0 : Nat} {h : Hs} {R : Except Int Nx} (hk : s.k = .first) (hok : s.ok) (he : s.ended = false) (ha : all.length ≤ 1000000000) (hat : at0 < all.length) (hR : nextM s h (all.drop at0) = R) :
    Con Tryd.prog 19 [.ptr 0 0, .ptr 3 0] (rAH s 0 all (at0 : Int) h true) 4 (nxOut R) (nxPost all R) := by
  have hrl := rd_len (all.drop at0) s.ln hok.len hok.last
  have h1 := hok.len
  have h2 := hok.last
  have hR2 : nextL s h (all.drop at0) = R := by rw [← hR]; unfold nextM; rw [hk]
  obtain ⟨R1, hq⟩ : ∃ R1, rdM s.ln (all.drop at0) = R1 := ⟨_, rfl⟩
  unfold nextL at hR2
  rw [hq] at hR2 hrl
  have hce := fun e (hx : R1 = .err e) => con_readF (s := s) (h := h) (R := .err e) he h1 h2 ha (Nat.le_of_lt hat) (by rw [hq, hx])
  have hcu := fun (hne : R1.isE = false) => con_readFU (s := s) (h := h) hne he h1 h2 ha (Nat.le_of_lt hat) hq
  obtain ⟨hd, kk, ln, st, old, fs, many, need, ended, toEnd⟩ := s
  obtain ⟨hh, hst, hfs, hdt, hfin⟩ := h
  simp only at hk he h1 h2
  subst hk he
  refine con_of Tryd.func19 rfl (by show _ ≤ 85; simp) fun X Q hP hnt hnp hret hpan => ?_
  obtain ⟨P0, nt0, w0, K0, S0, np0, pin0, df0⟩ := X
  simp only at hP hnt hnp
  subst hP hnp
  obtain rfl : nt0 = 85 := hnt
  refine aw_region fun K1 hK1 => ?_
  refine aL z_move ?_
  refine aL z_move ?_
  rcases rd_cases R1 with ⟨e, hx⟩ | hne
  · subst hx
    subst hR2
    refine awl_callP [0, 1, 2, 3] (eC (eC .nil)) en_23 (hce e rfl) (pA (pA (pA (pA .nil)))) ?_
    exact hpan _ _ _ rfl (.box rfl rfl (.row rfl (.row rfl (.box rfl rfl .nil)))) rfl
  refine aL (z_callG [0, 1, 2, 3] (eC (eC .nil)) en_23 (hcu hne) (pA (pA (pA (pA .nil))))) ?_
  refine aL z_move ?_
  refine aL z_extract ?_
  refine aL z_extract ?_
  refine aL z_assign ?_
  refine aL z_assign ?_
  refine awl_nil (hK1 _ _ ?_)
  clear hK1 K1
  refine aw_seq fun K2 hK2 => ?_
  refine aw_region fun K3 hK3 => ?_
  refine aL z_move ?_
  refine aL z_not ?_
  refine awl_nil (hK3 _ _ ?_)
  clear hK3 K3
  refine aC (fun r1 c1 => ?_) (fun r1 c1 => ?_)
  · obtain ⟨l, rfl⟩ := rd_more hne (by simpa using r1)
    subst hR2
    refine aw_ret ?_
    refine (hret _ _ _ _ _ rfl .nil rfl ?_ (.box rfl rfl (.row rfl (.row rfl (.box rfl rfl .nil)))) rfl).1
    rfl
  · refine aw_skip ?_
    refine hK2 _ _ ?_
    clear hK2
    refine aw_region fun K4 hK4 => ?_
    obtain ⟨t, r, rfl⟩ := rd_whole hne (by simpa using r1)
    obtain ⟨tl, -⟩ : t.length ≤ 4096 ∧ r.length < (all.drop at0).length := hrl
    obtain ⟨v, rest, o1, hc1⟩ : ∃ a b ok, cutM 32 t = (a, b, ok) := ⟨_, _, _, rfl⟩
    obtain ⟨lv, lr⟩ : v.length ≤ t.length ∧ rest.length ≤ t.length := by have := cutM_len 32 t; rw [hc1] at this; exact this
    obtain ⟨d, reason, o2, hc2⟩ : ∃ a b ok, cutM 32 rest = (a, b, ok) := ⟨_, _, _, rfl⟩
    obtain ⟨ld, ln2⟩ : d.length ≤ rest.length ∧ reason.length ≤ rest.length := by have := cutM_len 32 rest; rw [hc2] at this; exact this
    have ltr := trim_le reason
    have hX := first_line (s := ⟨hd, .first, ln, st, old, fs, many, need, false, toEnd⟩) (h := ⟨hh, hst, hfs, hdt, hfin⟩) hc1 hc2
    simp only at hR2
    rw [show onLine ⟨hd, .first, ln, st, old, fs, many, need, false, toEnd⟩ ⟨hh, hst, hfs, hdt, hfin⟩ t = _ from hX] at hR2
    refine aL z_move ?_
    refine aL (z_call0 (eC (eC .nil)) en_24 (con_cutC (by show t.length < _; omega) hc1)) ?_
    refine aL z_move ?_
    refine aL z_extract ?_
    refine aL z_extract ?_
    refine aL z_extract ?_
    refine aL z_assign ?_
    refine aL z_assign ?_
    refine aL z_assign ?_
    refine awl_nil (hK4 _ _ ?_)
    clear hK4 K4
    refine aw_region fun K5 hK5 => ?_
    refine aL z_move ?_
    refine aL (z_call0 (eC (eC .nil)) en_24 (con_cutC (by omega) hc2)) ?_
    refine aL z_move ?_
    refine aL z_extract ?_
    refine aL z_extract ?_
    refine aL z_extract ?_
    refine aL z_assign ?_
    refine aL z_assign ?_
    refine aL z_assign ?_
    refine awl_nil (hK5 _ _ ?_)
    clear hK5 K5
    refine aw_region fun K6 hK6 => ?_
    refine aL z_move ?_
    refine aL (z_call0 (eC .nil) en_25 (con_Decimal (l := d) (by unfold maxLen; omega))) ?_
    refine aL z_move ?_
    refine aL z_extract ?_
    refine aL z_extract ?_
    refine aL z_assign ?_
    refine aL z_assign ?_
    refine awl_nil (hK6 _ _ ?_)
    clear hK6 K6
    refine aw_seq fun K7 hK7 => ?_
    refine aw_region fun K8 hK8 => ?_
    refine aL z_move ?_
    refine aL z_neqS ?_
    refine aL z_move ?_
    refine gL rfl rfl (ev_tmp rfl) (fun hg => z_move) ?_
    refine gL rfl rfl (ev_tmp rfl) (fun hg => z_neqS) ?_
    refine aL z_and ?_
    refine aL z_move ?_
    refine gL rfl rfl (ev_tmp rfl) (fun hg => z_move) ?_
    refine gL rfl rfl (ev_tmp rfl) (fun hg => z_lenS Tryd.underlying9) ?_
    refine gL rfl rfl (ev_tmp rfl) (fun hg => z_neq) ?_
    refine aL z_or ?_
    refine aL z_move ?_
    refine gL rfl rfl (ev_tmp rfl) (fun hg => z_move) ?_
    refine gL rfl rfl (ev_tmp rfl) (fun hg => z_neq) ?_
    refine aL z_or ?_
    refine aL z_move ?_
    refine gL rfl rfl (ev_tmp rfl) (fun hg => z_move) ?_
    refine gL rfl rfl (ev_tmp rfl) (fun hg => z_lss) ?_
    refine aL z_or ?_
    refine aL z_move ?_
    refine gL rfl rfl (ev_tmp rfl) (fun hg => z_move) ?_
    refine gL rfl rfl (ev_tmp rfl) (fun hg => z_call0 (eC .nil) en_27 (con_TrimO (l := reason) (by unfold maxLen; omega))) ?_
    refine gL rfl rfl (ev_tmp rfl) (fun hg => z_call0 (eC .nil) en_26 (con_Value (l := trimM reason) (by unfold maxLen; omega))) ?_
    refine gL rfl rfl (ev_tmp rfl) (fun hg => z_not) ?_
    refine aL z_or ?_
    refine awl_nil (hK8 _ _ ?_)
    clear hK8 K8
    refine aC (fun r2 c2 => ?_) (fun r2 c2 => ?_)
    · refine aw_region_last ?_
      refine awl_weak (weak_pan rfl rfl rfl rfl) ?_
      refine awl_callP [] (eC .nil) en_28 (con_fail (e := 150)) .nil ?_
      rw [if_pos r2] at hR2
      subst hR2
      exact hpan _ _ _ rfl (.box rfl rfl (.row rfl (.row rfl (.box rfl rfl .nil)))) rfl
    · refine aw_skip ?_
      refine hK7 _ _ ?_
      clear hK7
      refine aw_region fun K9 hK9 => ?_
      refine aL z_move ?_
      refine aL z_move ?_
      refine aL z_move ?_
      refine aL z_move ?_
      refine aL z_move ?_
      refine aL z_move ?_
      refine aL z_eqlS ?_
      refine aL z_nilCheck ?_
      refine aL (z_fieldAddr fo_54_3) ?_
      refine aL (z_store sz_3) ?_
      refine aL z_nilCheck ?_
      refine aL (z_fieldAddr fo_54_4) ?_
      refine aL (z_store sz_4) ?_
      refine aL z_nilCheck ?_
      refine aL (z_fieldAddr fo_54_5) ?_
      refine aL (z_store sz_26) ?_
      refine aL z_nilCheck ?_
      refine aL (z_fieldAddr fo_54_6) ?_
      refine aL (z_store sz_3) ?_
      refine awl_nil (hK9 _ _ ?_)
      clear hK9 K9
      refine aw_region_last ?_
      refine aL z_move ?_
      refine aL z_move ?_
      refine aL (z_makeFn (eC .nil) .nil) ?_
      refine aL z_nilCheck ?_
      refine aL (z_fieldAddr fo_54_1) ?_
      refine aL (z_store sz_52) ?_
      refine awl_weak (weak_nilE 0 5 2 rfl rfl rfl rfl) (awl_weak (weak_rever 2 1 rfl) ?_)
      refine awl_nil ?_
      rw [if_neg (by rw [r2]; decide)] at hR2
      subst hR2
      refine (hret _ _ _ _ _ rfl .nil rfl ?_ (.box rfl rfl (.row rfl (.row rfl (.box rfl rfl .nil)))) rfl).2
      rfl
end Go.Proofs.YthflfnehdlpmdaaDoor
