/- Chapter 14: a request's bytes gone through: a line. No condition but on lengths. -/
import Derived.Test.YtnjbfiejgiaibaaGreatDoorSkFToAkL
namespace Go.Proofs.YtnjbfiejgiaibaaGreatDoor
set_option linter.all false
open Go Go.RowKit
set_option maxRecDepth 10000
set_option maxHeartbeats 4000000
/-- What is panicked with. -/
abbrev fltV (e : Int) : Value := .iface 49 (.agg #[.int .i64 e])
/-- A reader's cells. -/
abbrev rdC (all : List UInt8) (k : Nat) : List D := [.v (.sl (bs all)), .v (.int .i64 (k : Int))]
theorem con_lineO {all s r : List UInt8} {k : Nat} (hk : k ≤ all.length) (ha : all.length ≤ 1000000000) (h : lnM (all.drop k) = .ok (s, r)) :
    Con Tryz.prog 19 [.ptr 0 0] [(0, .box (rdC all k))] 1 (.ret (.v (.str s))) [(0, .box (rdC all (k + (s.length + 2))))] := by
  obtain ⟨h1, h2, h3, h4, h5⟩ := ln_ok h
  rw [List.length_drop] at h5
  have hal := bs_length all
  have hrl : (all.drop k).length = all.length - k := List.length_drop
  have hnc : (Lib.contains s [13] || Lib.contains s [10]) = false := by rw [contains_nl, h2]; rfl
  have hcut : cut k (k + s.length) (bs all) = bs s := by rw [bs_cut, show k + s.length - k = s.length by omega, h3]
  refine con_of Tryz.func19 rfl (by show _ ≤ 70; simp) fun X Q hP hnt hnp hret hpan => ?_
  obtain ⟨P0, nt0, w0, K0, S0, np0, pin0, df0⟩ := X
  simp only at hP hnt hnp
  subst hP hnp
  obtain rfl : nt0 = 70 := hnt
  refine aw_region fun K1 hK1 => ?_
  refine aL z_assign ?_
  refine awl_nil (hK1 _ _ ?_)
  clear hK1 K1
  refine aw_regionD mx_all (by kernel_rfl) fun K2 hK2 => ?_
  refine aD z_move ?_
  refine aD z_nilCheck ?_
  first
    | refine aD (z_fieldAddr fo_53_0) ?_
    | refine aD (z_fieldRef fo_53_0) ?_
    | refine aD (z_fieldV fo_53_0) ?_
  first
    | refine aD (z_load sz_22) ?_
    | refine aD (z_loadRef sz_22) ?_
    | refine aD (z_loadV sz_22) ?_
  refine aD z_move ?_
  refine aD z_nilCheck ?_
  first
    | refine aD (z_fieldAddr fo_53_1) ?_
    | refine aD (z_fieldRef fo_53_1) ?_
    | refine aD (z_fieldV fo_53_1) ?_
  first
    | refine aD (z_load sz_3) ?_
    | refine aD (z_loadRef sz_3) ?_
    | refine aD (z_loadV sz_3) ?_
  refine aD (z_slice Tryz.underlying22 sz_5 (i := some k) (hlo := .yes (ev_tmp rfl) rfl) (c' := bs (all.drop k)) (hc := by rw [bs_cut, List.take_of_length_le (by simp)]; rfl)) ?_
  refine aD (z_rowM 10 [13, 10] (pC (pC .nil)) Tryz.underlying22 sz_5 zc_5 zl_5) ?_
  refine aD (z_convOwn Tryz.underlying22 Tryz.underlying5) ?_
  refine aD (z_callL 10 (eC (eC .nil)) en_49 (con_bIndex (s := all.drop k) (r := [13, 10]) (by omega) (by decide) (by decide))) ?_
  refine aD z_assign ?_
  rw [h1]
  refine awd_nil (by kernel_rfl) (hK2 _ _ ?_)
  clear hK2 K2
  refine aw_seq fun K3 hK3 => ?_
  refine aw_region fun K4 hK4 => ?_
  refine aL z_move ?_
  refine aL z_lss ?_
  refine awl_nil (hK4 _ _ ?_)
  clear hK4 K4
  refine aC (fun r1 c1 => ?_) (fun r1 c1 => ?_)
  · exfalso; omega
  · refine aw_skip ?_
    refine hK3 _ _ ?_
    clear hK3
    refine aw_regionD mx_all (by kernel_rfl) fun K5 hK5 => ?_
    refine aD z_move ?_
    refine aD z_nilCheck ?_
    first
      | refine aD (z_fieldAddr fo_53_0) ?_
      | refine aD (z_fieldRef fo_53_0) ?_
      | refine aD (z_fieldV fo_53_0) ?_
    first
      | refine aD (z_load sz_22) ?_
      | refine aD (z_loadRef sz_22) ?_
      | refine aD (z_loadV sz_22) ?_
    refine aD z_move ?_
    refine aD z_nilCheck ?_
    first
      | refine aD (z_fieldAddr fo_53_1) ?_
      | refine aD (z_fieldRef fo_53_1) ?_
      | refine aD (z_fieldV fo_53_1) ?_
    first
      | refine aD (z_load sz_3) ?_
      | refine aD (z_loadRef sz_3) ?_
      | refine aD (z_loadV sz_3) ?_
    refine aD z_move ?_
    refine aD z_nilCheck ?_
    first
      | refine aD (z_fieldAddr fo_53_1) ?_
      | refine aD (z_fieldRef fo_53_1) ?_
      | refine aD (z_fieldV fo_53_1) ?_
    first
      | refine aD (z_load sz_3) ?_
      | refine aD (z_loadRef sz_3) ?_
      | refine aD (z_loadV sz_3) ?_
    refine aD z_move ?_
    refine aD z_add ?_
    refine aD (z_slice Tryz.underlying22 sz_5 (i := some k) (hlo := .yes (ev_tmp rfl) rfl) (j := some (k + s.length)) (hhi := .yes (ev_tmp rfl) rfl) (c' := bs s) (hc := hcut)) ?_
    first
      | refine aD (z_convS Tryz.underlying22 Tryz.underlying5 Tryz.underlying9) ?_
      | refine aD (z_convSV Tryz.underlying22 Tryz.underlying5 Tryz.underlying9) ?_
    refine aD z_assign ?_
    refine awd_nil (by kernel_rfl) (hK5 _ _ ?_)
    clear hK5 K5
    refine aw_seq fun K6 hK6 => ?_
    refine aw_region fun K7 hK7 => ?_
    refine aL z_move ?_
    refine aL (z_call0 (eC (eC .nil)) en_52 (con_sContains (by omega))) ?_
    refine aL z_move ?_
    first
      | refine gL rfl rfl (ev_tmp rfl) (fun hg => z_move) ?_
      | refine hL rfl rfl (ev_tmp rfl) (fun hg => z_move) ?_
    first
      | refine gL rfl rfl (ev_tmp rfl) (fun hg => z_call0 (eC (eC .nil)) en_52 (con_sContains (by omega))) ?_
      | refine hL rfl rfl (ev_tmp rfl) (fun hg => z_call0 (eC (eC .nil)) en_52 (con_sContains (by omega))) ?_
    refine aL z_or ?_
    refine awl_nil (hK7 _ _ ?_)
    clear hK7 K7
    refine aC (fun r2 c2 => ?_) (fun r2 c2 => ?_)
    · rw [hnc] at r2; cases r2
    · refine aw_skip ?_
      refine hK6 _ _ ?_
      clear hK6
      refine aw_region fun K8 hK8 => ?_
      refine aL z_move ?_
      refine aL z_nilCheck ?_
      first
        | refine aL (z_fieldAddr fo_53_1) ?_
        | refine aL (z_fieldRef fo_53_1) ?_
        | refine aL (z_fieldV fo_53_1) ?_
      first
        | refine aL (z_load sz_3) ?_
        | refine aL (z_loadRef sz_3) ?_
        | refine aL (z_loadV sz_3) ?_
      refine aL z_move ?_
      refine aL z_add ?_
      refine aL z_add ?_
      refine aL z_nilCheck ?_
      first
        | refine aL (z_fieldAddr fo_53_1) ?_
        | refine aL (z_fieldRef fo_53_1) ?_
        | refine aL (z_fieldV fo_53_1) ?_
      refine aL (z_store sz_3) ?_
      refine awl_nil (hK8 _ _ ?_)
      clear hK8 K8
      refine aw_region fun K9 hK9 => ?_
      refine aL z_move ?_
      refine aL z_assign ?_
      refine awl_nil (hK9 _ _ ?_)
      clear hK9 K9
      refine aw_ret ?_
      refine (hret _ _ _ _ _ rfl (.tmp rfl .nil) rfl ?_ (.box rfl rfl .nil) rfl).1
      rfl
theorem con_lineE {all : List UInt8} {k : Nat} {e : Int} (hk : k ≤ all.length) (ha : all.length ≤ 1000000000) (h : lnM (all.drop k) = .error e) :
    Con Tryz.prog 19 [.ptr 0 0] [(0, .box (rdC all k))] 1 (.pan (.v (.lit (fltV e)))) [(0, .box (rdC all k))] := by
  have h0 := ln_err h
  have hal := bs_length all
  have hrl : (all.drop k).length = all.length - k := List.length_drop
  have hncl : (noCR (all.drop k)).length ≤ all.length := by unfold noCR; split <;> simp <;> omega
  refine con_of Tryz.func19 rfl (by show _ ≤ 70; simp) fun X Q hP hnt hnp hret hpan => ?_
  obtain ⟨P0, nt0, w0, K0, S0, np0, pin0, df0⟩ := X
  simp only at hP hnt hnp
  subst hP hnp
  obtain rfl : nt0 = 70 := hnt
  refine aw_region fun K1 hK1 => ?_
  refine aL z_assign ?_
  refine awl_nil (hK1 _ _ ?_)
  clear hK1 K1
  refine aw_regionD mx_all (by kernel_rfl) fun K2 hK2 => ?_
  refine aD z_move ?_
  refine aD z_nilCheck ?_
  first
    | refine aD (z_fieldAddr fo_53_0) ?_
    | refine aD (z_fieldRef fo_53_0) ?_
    | refine aD (z_fieldV fo_53_0) ?_
  first
    | refine aD (z_load sz_22) ?_
    | refine aD (z_loadRef sz_22) ?_
    | refine aD (z_loadV sz_22) ?_
  refine aD z_move ?_
  refine aD z_nilCheck ?_
  first
    | refine aD (z_fieldAddr fo_53_1) ?_
    | refine aD (z_fieldRef fo_53_1) ?_
    | refine aD (z_fieldV fo_53_1) ?_
  first
    | refine aD (z_load sz_3) ?_
    | refine aD (z_loadRef sz_3) ?_
    | refine aD (z_loadV sz_3) ?_
  refine aD (z_slice Tryz.underlying22 sz_5 (i := some k) (hlo := .yes (ev_tmp rfl) rfl) (c' := bs (all.drop k)) (hc := by rw [bs_cut, List.take_of_length_le (by simp)]; rfl)) ?_
  refine aD (z_rowM 10 [13, 10] (pC (pC .nil)) Tryz.underlying22 sz_5 zc_5 zl_5) ?_
  refine aD (z_convOwn Tryz.underlying22 Tryz.underlying5) ?_
  refine aD (z_callL 10 (eC (eC .nil)) en_49 (con_bIndex (s := all.drop k) (r := [13, 10]) (by omega) (by decide) (by decide))) ?_
  refine aD z_assign ?_
  refine awd_nil (by kernel_rfl) (hK2 _ _ ?_)
  clear hK2 K2
  refine aw_seq fun K3 hK3 => ?_
  refine aw_region fun K4 hK4 => ?_
  refine aL z_move ?_
  refine aL z_lss ?_
  refine awl_nil (hK4 _ _ ?_)
  clear hK4 K4
  refine aC (fun r1 c1 => ?_) (fun r1 c1 => ?_)
  · refine aw_seq fun K5 hK5 => ?_
    refine aw_regionD mx_all (by kernel_rfl) fun K6 hK6 => ?_
    obtain ⟨hi, he⟩ : Lib.index (all.drop k) [13, 10] = -1 ∧ e = if noNL (noCR (all.drop k)) = true then 12 else 150 := by
      rcases h0 with h | ⟨j, h1, h2, h3, h4⟩
      · exact h
      · exfalso; omega
    refine aD z_move ?_
    refine aD z_nilCheck ?_
    first
      | refine aD (z_fieldAddr fo_53_0) ?_
      | refine aD (z_fieldRef fo_53_0) ?_
      | refine aD (z_fieldV fo_53_0) ?_
    first
      | refine aD (z_load sz_22) ?_
      | refine aD (z_loadRef sz_22) ?_
      | refine aD (z_loadV sz_22) ?_
    refine aD z_move ?_
    refine aD z_nilCheck ?_
    first
      | refine aD (z_fieldAddr fo_53_1) ?_
      | refine aD (z_fieldRef fo_53_1) ?_
      | refine aD (z_fieldV fo_53_1) ?_
    first
      | refine aD (z_load sz_3) ?_
      | refine aD (z_loadRef sz_3) ?_
      | refine aD (z_loadV sz_3) ?_
    refine aD (z_slice Tryz.underlying22 sz_5 (i := some k) (hlo := .yes (ev_tmp rfl) rfl) (c' := bs (all.drop k)) (hc := by rw [bs_cut, List.take_of_length_le (by simp)]; rfl)) ?_
    refine aD (z_rowM 11 [13] (pC .nil) Tryz.underlying22 sz_5 zc_5 zl_5) ?_
    refine aD (StepU.settle (z_convOwn Tryz.underlying22 Tryz.underlying5)) ?_
    refine aD (z_call0 (eC (eC .nil)) en_51 (con_bTrimCR (s := all.drop k) (by omega))) ?_
    refine aD (z_call0 (eC (eC .nil)) en_50 (con_ContainsAny (s := noCR (all.drop k)) (by omega))) ?_
    refine awd_nil (by kernel_rfl) (hK6 _ _ ?_)
    clear hK6 K6
    refine aC (fun r2 c2 => ?_) (fun r2 c2 => ?_)
    · refine aw_region_last ?_
      refine aL (z_build (pC .nil) pl_49 zc_49 zl_49) ?_
      refine aL (z_iface Tryz.underlying49) ?_
      refine awl_panic ?_
      first
        | (have e0 : e = 150 := (by rw [he, if_neg (by have := r2; simpa using this)])
           subst e0
           exact hpan _ _ _ rfl (.box rfl rfl .nil) rfl)
        | (have e0 : e = 12 := (by rw [he, if_pos (by have := r2; simpa using this)])
           subst e0
           exact hpan _ _ _ rfl (.box rfl rfl .nil) rfl)
        | exact hpan _ _ _ rfl (.box rfl rfl .nil) rfl
    · refine aw_skip ?_
      refine hK5 _ _ ?_
      clear hK5
      refine aw_region_last ?_
      refine aL (z_build (pC .nil) pl_49 zc_49 zl_49) ?_
      refine aL (z_iface Tryz.underlying49) ?_
      refine awl_panic ?_
      first
        | (have e0 : e = 150 := (by rw [he, if_neg (by have := r2; simpa using this)])
           subst e0
           exact hpan _ _ _ rfl (.box rfl rfl .nil) rfl)
        | (have e0 : e = 12 := (by rw [he, if_pos (by have := r2; simpa using this)])
           subst e0
           exact hpan _ _ _ rfl (.box rfl rfl .nil) rfl)
        | exact hpan _ _ _ rfl (.box rfl rfl .nil) rfl
  · refine aw_skip ?_
    refine hK3 _ _ ?_
    clear hK3
    refine aw_regionD mx_all (by kernel_rfl) fun K7 hK7 => ?_
    obtain ⟨j, hj, hj2, hj3, rfl⟩ : ∃ j : Nat, Lib.index (all.drop k) [13, 10] = (j : Int) ∧ j + 2 ≤ (all.drop k).length ∧ noNL ((all.drop k).take j) = false ∧ e = 150 := by
      rcases h0 with h | h
      · exfalso; omega
      · exact h
    rw [hj]
    have hcn : (Lib.contains ((all.drop k).take j) [13] || Lib.contains ((all.drop k).take j) [10]) = true := by rw [contains_nl, hj3]; rfl
    refine aD z_move ?_
    refine aD z_nilCheck ?_
    first
      | refine aD (z_fieldAddr fo_53_0) ?_
      | refine aD (z_fieldRef fo_53_0) ?_
      | refine aD (z_fieldV fo_53_0) ?_
    first
      | refine aD (z_load sz_22) ?_
      | refine aD (z_loadRef sz_22) ?_
      | refine aD (z_loadV sz_22) ?_
    refine aD z_move ?_
    refine aD z_nilCheck ?_
    first
      | refine aD (z_fieldAddr fo_53_1) ?_
      | refine aD (z_fieldRef fo_53_1) ?_
      | refine aD (z_fieldV fo_53_1) ?_
    first
      | refine aD (z_load sz_3) ?_
      | refine aD (z_loadRef sz_3) ?_
      | refine aD (z_loadV sz_3) ?_
    refine aD z_move ?_
    refine aD z_nilCheck ?_
    first
      | refine aD (z_fieldAddr fo_53_1) ?_
      | refine aD (z_fieldRef fo_53_1) ?_
      | refine aD (z_fieldV fo_53_1) ?_
    first
      | refine aD (z_load sz_3) ?_
      | refine aD (z_loadRef sz_3) ?_
      | refine aD (z_loadV sz_3) ?_
    refine aD z_move ?_
    refine aD (z_add (p := (k : Int)) (q := (j : Int)) (r := ((k + j : Nat) : Int)) (hr := IntWalk.i64_in _ ⟨by omega, by omega⟩)) ?_
    refine aD (z_slice Tryz.underlying22 sz_5 (i := some k) (hlo := .yes (ev_tmp rfl) rfl) (j := some (k + j)) (hhi := .yes (ev_tmp rfl) rfl) (c' := bs ((all.drop k).take j)) (hc := by rw [bs_cut]; simp)) ?_
    first
      | refine aD (z_convS Tryz.underlying22 Tryz.underlying5 Tryz.underlying9) ?_
      | refine aD (z_convSV Tryz.underlying22 Tryz.underlying5 Tryz.underlying9) ?_
    refine aD z_assign ?_
    refine awd_nil (by kernel_rfl) (hK7 _ _ ?_)
    clear hK7 K7
    refine aw_seq fun K8 hK8 => ?_
    refine aw_region fun K9 hK9 => ?_
    refine aL z_move ?_
    refine aL (z_call0 (eC (eC .nil)) en_52 (con_sContains (by simp; omega))) ?_
    refine aL z_move ?_
    first
      | refine gL rfl rfl (ev_tmp rfl) (fun hg => z_move) ?_
      | refine hL rfl rfl (ev_tmp rfl) (fun hg => z_move) ?_
    first
      | refine gL rfl rfl (ev_tmp rfl) (fun hg => z_call0 (eC (eC .nil)) en_52 (con_sContains (by simp; omega))) ?_
      | refine hL rfl rfl (ev_tmp rfl) (fun hg => z_call0 (eC (eC .nil)) en_52 (con_sContains (by simp; omega))) ?_
    refine aL z_or ?_
    refine awl_nil (hK9 _ _ ?_)
    clear hK9 K9
    refine aC (fun r3 c3 => ?_) (fun r3 c3 => ?_)
    · refine aw_region_last ?_
      refine aL (z_build (pC .nil) pl_49 zc_49 zl_49) ?_
      refine aL (z_iface Tryz.underlying49) ?_
      refine awl_panic ?_
      first
        | (have e0 : e = 150 := (by rw [he, if_neg (by have := r2; simpa using this)])
           subst e0
           exact hpan _ _ _ rfl (.box rfl rfl .nil) rfl)
        | (have e0 : e = 12 := (by rw [he, if_pos (by have := r2; simpa using this)])
           subst e0
           exact hpan _ _ _ rfl (.box rfl rfl .nil) rfl)
        | exact hpan _ _ _ rfl (.box rfl rfl .nil) rfl
    · rw [hcn] at r3; cases r3
end Go.Proofs.YtnjbfiejgiaibaaGreatDoor
