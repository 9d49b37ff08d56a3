/- Chapter 15: where the body ends. No condition but on lengths. -/
import Derived.Test.YthflfnehdlpmdaaDoorRpF
namespace Go.Proofs.YthflfnehdlpmdaaDoor
set_option linter.all false
open Go Go.RowKit
set_option maxRecDepth 10000
set_option maxHeartbeats 4000000
def bdOut : Except Int (Ps × Hs) → Out
  | .ok _ => .ret (.tup [])
  | .error e => .pan (.v (.lit (fltV e)))
def bdPost (all : List UInt8) (at0 : Int) : Except Int (Ps × Hs) → AH
  | .ok (s', h') => rAB false s' 1 all at0 h' (!s'.ended)
  | .error _ => panAH
theorem stV_head (l : List (List UInt8)) (h : l.length = 1) : (stV l)[0]? = some [V.str (l.headD [])] := by
  match l, h with
  | [x], _ => rfl
theorem hall_head (fs : List Fd) : ((hallM fs kTE).headD []).length ≤ szM fs := by
  cases h : hallM fs kTE with
  | nil => simp
  | cons x r => exact hall_mem (k := kTE) (by rw [h]; simp)
theorem con_body {s : Ps} {all : List UInt8} {at0 : Int} {h : Hs} {R : Except Int (Ps × Hs)} (he : s.ended = false) (hk : s.k = .heads) (hsz : szM s.fs ≤ 830000) (hR : bodyM s h = R) :
    Con Tryd.prog 36 [.ptr 0 0, .ptr 3 0] (rAB true s 0 all at0 h true) 4 (bdOut R) (bdPost all at0 R) := by
  obtain ⟨hd, kk, ln, st, old, fs, many, need, ended, toEnd⟩ := s
  obtain ⟨hh, hst, hfs, hdt, hfin⟩ := h
  simp only at he hk hsz
  subst he hk
  have hfn : fs.length ≤ 1099511627776 := by have := szM_len fs; omega
  have hff : ∀ f ∈ fs, f.n.length ≤ 140737488351232 := fun f hf => by have := szM_mem hf; omega
  have hcl := con_Length (l := fs) (by omega)
  have hV := con_Values (l := fs) (k := kTE) hfn hff (by decide)
  have hA := con_hAll (l := fs) (k := kTE) (by omega) (by decide)
  have hvl := stV_len (hvM fs kTE)
  have hal := stV_len (hallM fs kTE)
  have hhh := stV_head (hallM fs kTE)
  have hhl := hall_head fs
  have hce : ∀ (h : Hs), Con Tryd.prog 51 [.ptr 0 0, .ptr 3 0] (rAB false ⟨hd, .heads, ln, st, old, fs, many, need, false, toEnd⟩ 0 all at0 h true) 4 (.ret (.tup [])) (rAB false ⟨hd, .heads, [], st, old, fs, many, need, true, toEnd⟩ 1 all at0 h.end_ false) := fun h => con_end
  unfold bodyM badB at hR
  simp only at hR
  generalize (hallM fs kTE).headD [] = how at *
  generalize hallM fs kTE = hl at *
  generalize hvM fs kTE = vl at *
  generalize (lenM fs).1 = n at *
  generalize (lenM fs).2.1 = tl at *
  generalize (lenM fs).2.2 = e at *
  have hW : (decide (¬ e = 0) || decide (2147483647 < n) || (decide (0 < vl.length) && (tl || old || decide (¬ hl.length = 1) || decide (¬ lowM how = kChunked)))) = (e != 0 || decide (n > 2147483647) || (decide (((stV vl).length : Int) > 0) && (tl || old || ((stV hl).length : Int) != 1 || !decide (lowM how = lowM kChunked)))) := by
    have w1 : decide (¬ e = 0) = (e != 0) := by rw [Bool.eq_iff_iff]; simp
    have w3 : decide (0 < vl.length) = decide (((stV vl).length : Int) > 0) := decide_eq_decide.2 (by rw [stV_len]; omega)
    have w4 : decide (¬ hl.length = 1) = (((stV hl).length : Int) != 1) := by rw [Bool.eq_iff_iff]; simp; omega
    have w5 : decide (¬ lowM how = kChunked) = !decide (lowM how = lowM kChunked) := by rw [show lowM kChunked = kChunked by decide]; simp
    rw [w1, w3, w4, w5]
  rw [hW] at hR
  refine con_of Tryd.func36 rfl (by show _ ≤ 151; simp) fun X Q hP hnt hnp hret hpan => ?_
  obtain ⟨P0, nt0, w0, K0, S0, np0, pin0, df0⟩ := X
  simp only at hP hnt hnp
  subst hP hnp
  obtain rfl : nt0 = 151 := hnt
  refine aw_weak (weak_stl 0 5 2 (c := fdV fs) (cs' := Ps.csV ⟨hd, .heads, ln, st, old, fs, many, need, false, toEnd⟩ false false 0 0) rfl (by show some _ = some _; simp) rfl rfl) ?_
  refine aw_seq fun K1 hK1 => ?_
  refine aw_region fun K2 hK2 => ?_
  refine aL z_move ?_
  refine aL z_nilCheck ?_
  refine aL (z_fieldAddr fo_54_3) ?_
  refine aL (z_load sz_3) ?_
  refine aL z_eql ?_
  refine awl_nil (hK2 _ _ ?_)
  clear hK2 K2
  refine aC (fun r1 c1 => ?_) (fun r1 c1 => ?_)
  · refine aw_region_last ?_
    refine awl_weak (weak_pan rfl rfl rfl rfl) ?_
    refine awl_callP [] (eC .nil) en_28 (con_fail (e := 151)) .nil ?_
    rw [if_pos c1] at hR
    subst hR
    exact hpan _ _ _ rfl (.box rfl rfl (.row rfl (.row rfl (.box rfl rfl .nil)))) rfl
  · refine aw_skip ?_
    refine hK1 _ _ ?_
    clear hK1
    refine aw_seq fun K3 hK3 => ?_
    refine aw_region fun K4 hK4 => ?_
    refine aL z_move ?_
    refine aL z_nilCheck ?_
    refine aL (z_fieldAddr fo_54_3) ?_
    refine aL (z_load sz_3) ?_
    refine aL z_lss ?_
    refine awl_nil (hK4 _ _ ?_)
    clear hK4 K4
    refine aC (fun r2 c2 => ?_) (fun r2 c2 => ?_)
    · refine aw_region fun K5 hK5 => ?_
      refine aL z_move ?_
      refine aL z_move ?_
      refine aL (z_makeFn (eC .nil) .nil) ?_
      refine aL z_nilCheck ?_
      refine aL (z_fieldAddr fo_54_1) ?_
      refine aL (z_store sz_52) ?_
      refine awl_nil (hK5 _ _ ?_)
      clear hK5 K5
      refine aw_weak (weak_rever 1 1 rfl) (aw_weak (weak_rever 2 1 rfl) ?_)
      rw [if_neg c1, if_pos c2] at hR
      subst hR
      refine aw_ret ?_
      refine (hret _ _ _ _ _ rfl .nil rfl ?_ (.box rfl rfl (.row rfl (.row rfl (.box rfl rfl .nil)))) rfl).1
      rfl
    · refine aw_skip ?_
      refine hK3 _ _ ?_
      clear hK3
      refine aw_region fun K6 hK6 => ?_
      refine aL z_move ?_
      refine aL z_nilCheck ?_
      refine aL (z_fieldAddr fo_54_5) ?_
      refine aL (z_load sz_26) ?_
      refine aL (z_call0 (eC .nil) en_50 (hcl)) ?_
      refine aL z_move ?_
      refine aL z_extract ?_
      refine aL z_extract ?_
      refine aL z_extract ?_
      refine aL z_assign ?_
      refine aL z_assign ?_
      refine aL z_assign ?_
      refine awl_nil (hK6 _ _ ?_)
      clear hK6 K6
      refine aw_region fun K7 hK7 => ?_
      refine aL z_move ?_
      refine aL z_nilCheck ?_
      refine aL (z_fieldAddr fo_54_5) ?_
      refine aL (z_load sz_26) ?_
      refine aL (z_call0 (eC (eC .nil)) en_37 (hV)) ?_
      refine aL (z_len Tryd.underlying35) ?_
      refine aL z_gtr ?_
      refine aL z_assign ?_
      refine awl_nil (hK7 _ _ ?_)
      clear hK7 K7
      refine aw_region fun K8 hK8 => ?_
      refine aL z_move ?_
      refine aL z_nilCheck ?_
      refine aL (z_fieldAddr fo_54_5) ?_
      refine aL (z_load sz_26) ?_
      refine aL (z_call0 (eC (eC .nil)) en_30 (hA)) ?_
      refine aL z_assign ?_
      refine awl_nil (hK8 _ _ ?_)
      clear hK8 K8
      refine aw_seq fun K9 hK9 => ?_
      refine aw_region fun K10 hK10 => ?_
      refine aL z_move ?_
      refine aL z_neq ?_
      refine aL z_move ?_
      refine gL rfl rfl (ev_tmp rfl) (fun hg => z_move) ?_
      refine gL rfl rfl (ev_tmp rfl) (fun hg => z_gtr) ?_
      refine aL z_or ?_
      refine aL z_move ?_
      refine gL rfl rfl (ev_tmp rfl) (fun hg => z_move) ?_
      refine gL rfl rfl (ev_tmp rfl) (fun hg => z_move) ?_
      refine hL rfl rfl (ev_tmp rfl) (fun hg => z_move) ?_
      refine hL rfl rfl (ev_tmp rfl) (fun hg => z_move) ?_
      refine hL rfl rfl (ev_tmp rfl) (fun hg => z_move) ?_
      refine hL rfl rfl (ev_tmp rfl) (fun hg => z_nilCheck) ?_
      refine hL rfl rfl (ev_tmp rfl) (fun hg => z_fieldAddr fo_54_4) ?_
      refine hL rfl rfl (ev_tmp rfl) (fun hg => z_load sz_4) ?_
      refine hL rfl rfl (ev_tmp rfl) (fun hg => z_or) ?_
      refine hL rfl rfl (ev_tmp rfl) (fun hg => z_move) ?_
      refine hL rfl rfl (ev_tmp rfl) (fun hg => z_move) ?_
      refine hL rfl rfl (ev_tmp rfl) (fun hg => z_len Tryd.underlying35) ?_
      refine hL rfl rfl (ev_tmp rfl) (fun hg => z_neq) ?_
      refine hL rfl rfl (ev_tmp rfl) (fun hg => z_or) ?_
      refine hL rfl rfl (ev_tmp rfl) (fun hg => z_move) ?_
      refine hL rfl rfl (ev_tmp rfl) (fun hg => z_move) ?_
      refine hL rfl rfl (ev_tmp rfl) (fun hg => z_indexAddr (i := 0) (cs := [.str how]) Tryd.underlying35 sz_9 (hb := hhh (by simp at hg; omega))) ?_
      refine hL rfl rfl (ev_tmp rfl) (fun hg => z_loadRef sz_9) ?_
      refine hL rfl rfl (ev_tmp rfl) (fun hg => z_call0 (eC (eC .nil)) en_31 (con_SameO (l := how) (r := kChunked) (by omega) (by decide))) ?_
      refine hL rfl rfl (ev_tmp rfl) (fun hg => z_not) ?_
      refine hL rfl rfl (ev_tmp rfl) (fun hg => z_or) ?_
      refine gL rfl rfl (ev_tmp rfl) (fun hg => z_and) ?_
      refine aL z_or ?_
      refine awl_nil (hK10 _ _ ?_)
      clear hK10 K10
      refine aC (fun r3 c3 => ?_) (fun r3 c3 => ?_)
      · refine aw_region_last ?_
        refine awl_weak (weak_pan rfl rfl rfl rfl) ?_
        refine awl_callP [] (eC .nil) en_28 (con_fail (e := 151)) .nil ?_
        rw [if_neg c1, if_neg (by omega), if_pos r3] at hR
        subst hR
        exact hpan _ _ _ rfl (.box rfl rfl (.row rfl (.row rfl (.box rfl rfl .nil)))) rfl
      · refine aw_skip ?_
        refine hK9 _ _ ?_
        clear hK9
        refine aw_regionD mx_all (by kernel_rfl) fun K11 hK11 => ?_
        refine aD z_move ?_
        refine aD z_move ?_
        refine aD z_move ?_
        refine aD z_move ?_
        refine aD z_nilCheck ?_
        refine aD (z_fieldAddr fo_54_3) ?_
        refine aD (z_load sz_3) ?_
        refine aD z_move ?_
        refine aD z_nilCheck ?_
        refine aD (z_fieldAddr fo_54_5) ?_
        refine aD (z_load sz_26) ?_
        refine aD (StepU.settle (z_appE 2 Tryd.underlying26 zi_47 (hs := fdV_one fs) (hb := by rw [fdV_len]; omega)) (hl := by simp)) ?_
        refine aD z_nilCheck ?_
        refine aD (z_fieldAddr fo_60_2) ?_
        refine aD (z_fieldAddr fo_28_0) ?_
        refine aD (z_store sz_4) ?_
        refine aD z_nilCheck ?_
        refine aD (z_fieldAddr fo_60_2) ?_
        refine aD (z_fieldAddr fo_28_1) ?_
        refine aD (z_store sz_3) ?_
        refine aD z_nilCheck ?_
        refine aD (z_fieldAddr fo_60_2) ?_
        refine aD (z_fieldAddr fo_28_2) ?_
        refine aD (z_store sz_26) ?_
        refine awd_nil (by kernel_rfl) (hK11 _ _ ?_)
        clear hK11 K11
        refine aw_block ?_
        refine aw_seq fun K12 hK12 => ?_
        refine aw_region fun K13 hK13 => ?_
        refine aL z_move ?_
        refine aL z_nilCheck ?_
        refine aL (z_fieldAddr fo_54_0) ?_
        refine aL (z_load sz_4) ?_
        refine aL z_assign ?_
        refine awl_nil (hK13 _ _ ?_)
        clear hK13 K13
        refine aC (fun r4 c4 => ?_) (fun r4 c4 => ?_)
        · refine aw_skip ?_
          refine hK12 _ _ ?_
          clear hK12
          refine aw_condT (ev_tmp rfl) r4 ?_
          refine aw_region_last ?_
          refine aL z_move ?_
          refine aL z_move ?_
          refine awl_weak (weak_rever 1 0 rfl) (awl_weak (weak_rever 2 0 rfl) ?_)
          refine aL (z_callG [0, 1, 2, 3] (eC (eC .nil)) en_51 (hce ⟨true, st, fs, hdt, hfin⟩) (pA (pA (pA (pA .nil))))) ?_
          refine awl_nil ?_
          first
            | (rw [if_neg c1, if_neg (by omega), if_neg (by rw [r3]; decide), if_pos (by first | exact .inl (by assumption) | exact .inr (by omega))] at hR
               subst hR)
            | (rw [if_neg c1, if_neg (by omega), if_neg (by rw [r3]; decide), if_neg (fun q => q.elim (fun q => by rw [q] at r4; cases r4) (fun q => by omega)), if_pos (by omega)] at hR
               subst hR)
            | (rw [if_neg c1, if_neg (by omega), if_neg (by rw [r3]; decide), if_neg (fun q => q.elim (fun q => by rw [q] at r4; cases r4) (fun q => by omega)), if_neg (by omega), if_pos (by assumption)] at hR
               subst hR)
            | (rw [if_neg c1, if_neg (by omega), if_neg (by rw [r3]; decide), if_neg (fun q => q.elim (fun q => by rw [q] at r4; cases r4) (fun q => by omega)), if_neg (by omega), if_neg (fun q => absurd q.2 (by first | omega | (have := q.1; simp_all; done))), if_pos (by assumption)] at hR
               subst hR)
            | (rw [if_neg c1, if_neg (by omega), if_neg (by rw [r3]; decide), if_neg (fun q => q.elim (fun q => by rw [q] at r4; cases r4) (fun q => by omega)), if_neg (by omega), if_neg (fun q => by have := q.1; simp_all; done), if_neg (fun q => by simp_all; done)] at hR
               subst hR)
            | skip
          refine (hret _ _ _ _ _ rfl .nil rfl ?_ (.box rfl rfl (.row rfl (.row rfl (.box rfl rfl .nil)))) rfl).2
          rfl
        · refine aw_region fun K14 hK14 => ?_
          refine aL z_move ?_
          refine aL z_nilCheck ?_
          refine aL (z_fieldAddr fo_54_3) ?_
          refine aL (z_load sz_3) ?_
          refine aL z_eql ?_
          refine aL z_assign ?_
          refine awl_nil (hK14 _ _ ?_)
          clear hK14 K14
          refine aC (fun r5 c5 => ?_) (fun r5 c5 => ?_)
          · refine aw_skip ?_
            refine hK12 _ _ ?_
            clear hK12
            refine aw_condT (ev_tmp rfl) r5 ?_
            refine aw_region_last ?_
            refine aL z_move ?_
            refine aL z_move ?_
            refine awl_weak (weak_rever 1 0 rfl) (awl_weak (weak_rever 2 0 rfl) ?_)
            refine aL (z_callG [0, 1, 2, 3] (eC (eC .nil)) en_51 (hce ⟨true, st, fs, hdt, hfin⟩) (pA (pA (pA (pA .nil))))) ?_
            refine awl_nil ?_
            first
              | (rw [if_neg c1, if_neg (by omega), if_neg (by rw [r3]; decide), if_pos (by first | exact .inl (by assumption) | exact .inr (by omega))] at hR
                 subst hR)
              | (rw [if_neg c1, if_neg (by omega), if_neg (by rw [r3]; decide), if_neg (fun q => q.elim (fun q => by rw [q] at r4; cases r4) (fun q => by omega)), if_pos (by omega)] at hR
                 subst hR)
              | (rw [if_neg c1, if_neg (by omega), if_neg (by rw [r3]; decide), if_neg (fun q => q.elim (fun q => by rw [q] at r4; cases r4) (fun q => by omega)), if_neg (by omega), if_pos (by assumption)] at hR
                 subst hR)
              | (rw [if_neg c1, if_neg (by omega), if_neg (by rw [r3]; decide), if_neg (fun q => q.elim (fun q => by rw [q] at r4; cases r4) (fun q => by omega)), if_neg (by omega), if_neg (fun q => absurd q.2 (by first | omega | (have := q.1; simp_all; done))), if_pos (by assumption)] at hR
                 subst hR)
              | (rw [if_neg c1, if_neg (by omega), if_neg (by rw [r3]; decide), if_neg (fun q => q.elim (fun q => by rw [q] at r4; cases r4) (fun q => by omega)), if_neg (by omega), if_neg (fun q => by have := q.1; simp_all; done), if_neg (fun q => by simp_all; done)] at hR
                 subst hR)
              | skip
            refine (hret _ _ _ _ _ rfl .nil rfl ?_ (.box rfl rfl (.row rfl (.row rfl (.box rfl rfl .nil)))) rfl).2
            rfl
          · refine aw_region_last ?_
            refine aL z_move ?_
            refine aL z_nilCheck ?_
            refine aL (z_fieldAddr fo_54_3) ?_
            refine aL (z_load sz_3) ?_
            refine aL z_eql ?_
            refine aL z_assign ?_
            refine awl_nil ?_
            refine hK12 _ _ ?_
            clear hK12
            refine aC (fun r6 c6 => ?_) (fun r6 c6 => ?_)
            · refine aw_region_last ?_
              refine aL z_move ?_
              refine aL z_move ?_
              refine awl_weak (weak_rever 1 0 rfl) (awl_weak (weak_rever 2 0 rfl) ?_)
              refine aL (z_callG [0, 1, 2, 3] (eC (eC .nil)) en_51 (hce ⟨true, st, fs, hdt, hfin⟩) (pA (pA (pA (pA .nil))))) ?_
              refine awl_nil ?_
              first
                | (rw [if_neg c1, if_neg (by omega), if_neg (by rw [r3]; decide), if_pos (by first | exact .inl (by assumption) | exact .inr (by omega))] at hR
                   subst hR)
                | (rw [if_neg c1, if_neg (by omega), if_neg (by rw [r3]; decide), if_neg (fun q => q.elim (fun q => by rw [q] at r4; cases r4) (fun q => by omega)), if_pos (by omega)] at hR
                   subst hR)
                | (rw [if_neg c1, if_neg (by omega), if_neg (by rw [r3]; decide), if_neg (fun q => q.elim (fun q => by rw [q] at r4; cases r4) (fun q => by omega)), if_neg (by omega), if_pos (by assumption)] at hR
                   subst hR)
                | (rw [if_neg c1, if_neg (by omega), if_neg (by rw [r3]; decide), if_neg (fun q => q.elim (fun q => by rw [q] at r4; cases r4) (fun q => by omega)), if_neg (by omega), if_neg (fun q => absurd q.2 (by first | omega | (have := q.1; simp_all; done))), if_pos (by assumption)] at hR
                   subst hR)
                | (rw [if_neg c1, if_neg (by omega), if_neg (by rw [r3]; decide), if_neg (fun q => q.elim (fun q => by rw [q] at r4; cases r4) (fun q => by omega)), if_neg (by omega), if_neg (fun q => by have := q.1; simp_all; done), if_neg (fun q => by simp_all; done)] at hR
                   subst hR)
                | skip
              refine (hret _ _ _ _ _ rfl .nil rfl ?_ (.box rfl rfl (.row rfl (.row rfl (.box rfl rfl .nil)))) rfl).2
              rfl
            · refine aw_region fun K15 hK15 => ?_
              refine aL z_move ?_
              refine aL z_assign ?_
              refine awl_nil (hK15 _ _ ?_)
              clear hK15 K15
              refine aC (fun r7 c7 => ?_) (fun r7 c7 => ?_)
              · refine aw_region_last ?_
                refine aL z_move ?_
                refine aL z_move ?_
                refine aL (z_makeFn (eC .nil) .nil) ?_
                refine aL z_nilCheck ?_
                refine aL (z_fieldAddr fo_54_1) ?_
                refine aL (z_store sz_52) ?_
                refine awl_weak (weak_rever 1 1 rfl) (awl_weak (weak_rever 2 1 rfl) ?_)
                refine awl_nil ?_
                first
                  | (rw [if_neg c1, if_neg (by omega), if_neg (by rw [r3]; decide), if_pos (by first | exact .inl (by assumption) | exact .inr (by omega))] at hR
                     subst hR)
                  | (rw [if_neg c1, if_neg (by omega), if_neg (by rw [r3]; decide), if_neg (fun q => q.elim (fun q => by rw [q] at r4; cases r4) (fun q => by omega)), if_pos (by omega)] at hR
                     subst hR)
                  | (rw [if_neg c1, if_neg (by omega), if_neg (by rw [r3]; decide), if_neg (fun q => q.elim (fun q => by rw [q] at r4; cases r4) (fun q => by omega)), if_neg (by omega), if_pos (by assumption)] at hR
                     subst hR)
                  | (rw [if_neg c1, if_neg (by omega), if_neg (by rw [r3]; decide), if_neg (fun q => q.elim (fun q => by rw [q] at r4; cases r4) (fun q => by omega)), if_neg (by omega), if_neg (fun q => absurd q.2 (by first | omega | (have := q.1; simp_all; done))), if_pos (by assumption)] at hR
                     subst hR)
                  | (rw [if_neg c1, if_neg (by omega), if_neg (by rw [r3]; decide), if_neg (fun q => q.elim (fun q => by rw [q] at r4; cases r4) (fun q => by omega)), if_neg (by omega), if_neg (fun q => by have := q.1; simp_all; done), if_neg (fun q => by simp_all; done)] at hR
                     subst hR)
                  | skip
                refine (hret _ _ _ _ _ rfl .nil rfl ?_ (.box rfl rfl (.row rfl (.row rfl (.box rfl rfl .nil)))) rfl).2
                rfl
              · refine aw_region fun K16 hK16 => ?_
                refine aL z_move ?_
                refine aL z_move ?_
                refine gL rfl rfl (ev_tmp rfl) (fun hg => z_move) ?_
                refine gL rfl rfl (ev_tmp rfl) (fun hg => z_eql) ?_
                refine aL z_and ?_
                refine aL z_assign ?_
                refine awl_nil (hK16 _ _ ?_)
                clear hK16 K16
                refine aC (fun r8 c8 => ?_) (fun r8 c8 => ?_)
                · refine aw_region_last ?_
                  refine aL z_move ?_
                  refine aL z_move ?_
                  refine awl_weak (weak_rever 1 0 rfl) (awl_weak (weak_rever 2 0 rfl) ?_)
                  refine aL (z_callG [0, 1, 2, 3] (eC (eC .nil)) en_51 (hce ⟨true, st, fs, hdt, hfin⟩) (pA (pA (pA (pA .nil))))) ?_
                  refine awl_nil ?_
                  first
                    | (rw [if_neg c1, if_neg (by omega), if_neg (by rw [r3]; decide), if_pos (by first | exact .inl (by assumption) | exact .inr (by omega))] at hR
                       subst hR)
                    | (rw [if_neg c1, if_neg (by omega), if_neg (by rw [r3]; decide), if_neg (fun q => q.elim (fun q => by rw [q] at r4; cases r4) (fun q => by omega)), if_pos (by omega)] at hR
                       subst hR)
                    | (rw [if_neg c1, if_neg (by omega), if_neg (by rw [r3]; decide), if_neg (fun q => q.elim (fun q => by rw [q] at r4; cases r4) (fun q => by omega)), if_neg (by omega), if_pos (by assumption)] at hR
                       subst hR)
                    | (rw [if_neg c1, if_neg (by omega), if_neg (by rw [r3]; decide), if_neg (fun q => q.elim (fun q => by rw [q] at r4; cases r4) (fun q => by omega)), if_neg (by omega), if_neg (fun q => absurd q.2 (by first | omega | (have := q.1; simp_all; done))), if_pos (by assumption)] at hR
                       subst hR)
                    | (rw [if_neg c1, if_neg (by omega), if_neg (by rw [r3]; decide), if_neg (fun q => q.elim (fun q => by rw [q] at r4; cases r4) (fun q => by omega)), if_neg (by omega), if_neg (fun q => by have := q.1; simp_all; done), if_neg (fun q => by simp_all; done)] at hR
                       subst hR)
                    | skip
                  refine (hret _ _ _ _ _ rfl .nil rfl ?_ (.box rfl rfl (.row rfl (.row rfl (.box rfl rfl .nil)))) rfl).2
                  rfl
                · refine aw_region fun K17 hK17 => ?_
                  refine aL z_move ?_
                  refine aL z_assign ?_
                  refine awl_nil (hK17 _ _ ?_)
                  clear hK17 K17
                  refine aC (fun r9 c9 => ?_) (fun r9 c9 => ?_)
                  · refine aw_region_last ?_
                    refine aL z_move ?_
                    refine aL z_move ?_
                    refine aL z_move ?_
                    refine aL z_move ?_
                    refine aL (z_makeFn (eC .nil) .nil) ?_
                    refine aL z_nilCheck ?_
                    refine aL (z_fieldAddr fo_54_7) ?_
                    refine aL (z_store sz_2) ?_
                    refine aL z_nilCheck ?_
                    refine aL (z_fieldAddr fo_54_1) ?_
                    refine aL (z_store sz_52) ?_
                    refine awl_weak (weak_rever 1 1 rfl) (awl_weak (weak_rever 2 1 rfl) ?_)
                    refine awl_nil ?_
                    first
                      | (rw [if_neg c1, if_neg (by omega), if_neg (by rw [r3]; decide), if_pos (by first | exact .inl (by assumption) | exact .inr (by omega))] at hR
                         subst hR)
                      | (rw [if_neg c1, if_neg (by omega), if_neg (by rw [r3]; decide), if_neg (fun q => q.elim (fun q => by rw [q] at r4; cases r4) (fun q => by omega)), if_pos (by omega)] at hR
                         subst hR)
                      | (rw [if_neg c1, if_neg (by omega), if_neg (by rw [r3]; decide), if_neg (fun q => q.elim (fun q => by rw [q] at r4; cases r4) (fun q => by omega)), if_neg (by omega), if_pos (by assumption)] at hR
                         subst hR)
                      | (rw [if_neg c1, if_neg (by omega), if_neg (by rw [r3]; decide), if_neg (fun q => q.elim (fun q => by rw [q] at r4; cases r4) (fun q => by omega)), if_neg (by omega), if_neg (fun q => absurd q.2 (by first | omega | (have := q.1; simp_all; done))), if_pos (by assumption)] at hR
                         subst hR)
                      | (rw [if_neg c1, if_neg (by omega), if_neg (by rw [r3]; decide), if_neg (fun q => q.elim (fun q => by rw [q] at r4; cases r4) (fun q => by omega)), if_neg (by omega), if_neg (fun q => by have := q.1; simp_all; done), if_neg (fun q => by simp_all; done)] at hR
                         subst hR)
                      | skip
                    refine (hret _ _ _ _ _ rfl .nil rfl ?_ (.box rfl rfl (.row rfl (.row rfl (.box rfl rfl .nil)))) rfl).2
                    rfl
                  · refine aw_region_last ?_
                    refine aL z_move ?_
                    refine aL z_move ?_
                    refine aL z_move ?_
                    refine aL (z_makeFn (eC .nil) .nil) ?_
                    refine aL z_nilCheck ?_
                    refine aL (z_fieldAddr fo_54_10) ?_
                    refine aL (z_store sz_4) ?_
                    refine aL z_nilCheck ?_
                    refine aL (z_fieldAddr fo_54_1) ?_
                    refine aL (z_store sz_52) ?_
                    refine awl_weak (weak_rever 1 1 rfl) (awl_weak (weak_rever 2 1 rfl) ?_)
                    refine awl_nil ?_
                    first
                      | (rw [if_neg c1, if_neg (by omega), if_neg (by rw [r3]; decide), if_pos (by first | exact .inl (by assumption) | exact .inr (by omega))] at hR
                         subst hR)
                      | (rw [if_neg c1, if_neg (by omega), if_neg (by rw [r3]; decide), if_neg (fun q => q.elim (fun q => by rw [q] at r4; cases r4) (fun q => by omega)), if_pos (by omega)] at hR
                         subst hR)
                      | (rw [if_neg c1, if_neg (by omega), if_neg (by rw [r3]; decide), if_neg (fun q => q.elim (fun q => by rw [q] at r4; cases r4) (fun q => by omega)), if_neg (by omega), if_pos (by assumption)] at hR
                         subst hR)
                      | (rw [if_neg c1, if_neg (by omega), if_neg (by rw [r3]; decide), if_neg (fun q => q.elim (fun q => by rw [q] at r4; cases r4) (fun q => by omega)), if_neg (by omega), if_neg (fun q => absurd q.2 (by first | omega | (have := q.1; simp_all; done))), if_pos (by assumption)] at hR
                         subst hR)
                      | (rw [if_neg c1, if_neg (by omega), if_neg (by rw [r3]; decide), if_neg (fun q => q.elim (fun q => by rw [q] at r4; cases r4) (fun q => by omega)), if_neg (by omega), if_neg (fun q => by have := q.1; simp_all; done), if_neg (fun q => by simp_all; done)] at hR
                         subst hR)
                      | skip
                    refine (hret _ _ _ _ _ rfl .nil rfl ?_ (.box rfl rfl (.row rfl (.row rfl (.box rfl rfl .nil)))) rfl).2
                    rfl
end Go.Proofs.YthflfnehdlpmdaaDoor
