/- Chapter 15: the bytes of a body. No condition but on lengths. -/
import Derived.Test.YthflfnehdlpmdaaDoorRpB
namespace Go.Proofs.YthflfnehdlpmdaaDoor
set_option linter.all false
open Go Go.RowKit
set_option maxRecDepth 10000
set_option maxHeartbeats 4000000
def nxOut : Except Int Nx → Out
  | .ok _ => .ret (.tup [])
  | .error e => .pan (.v (.lit (fltV e)))
def nxPost (all : List UInt8) : Except Int Nx → AH
  | .ok x => rAH x.s 1 all ((all.length - x.r.length : Nat) : Int) x.h x.more
  | .error _ => panAH
theorem con_end {s : Ps} {all : List UInt8} {at0 : Int} {h : Hs} {m : Bool} : Con Tryd.prog 51 [.ptr 0 0, .ptr 3 0] (rAB false s 0 all at0 h m) 4 (.ret (.tup [])) (rAB false s.fin 1 all at0 h.end_ false) := by
  obtain ⟨hd, kk, ln, st, old, fs, many, need, ended, toEnd⟩ := s
  obtain ⟨hh, hst, hfs, hdt, hfin⟩ := h
  refine con_of Tryd.func51 rfl (by show _ ≤ 20; simp) fun X Q hP hnt hnp hret hpan => ?_
  obtain ⟨P0, nt0, w0, K0, S0, np0, pin0, df0⟩ := X
  simp only at hP hnt hnp
  subst hP hnp
  obtain rfl : nt0 = 20 := hnt
  refine aw_region fun K1 hK1 => ?_
  refine aL z_move ?_
  refine aL z_move ?_
  refine aL z_move ?_
  refine aL z_move ?_
  refine aL z_nilCheck ?_
  refine aL (z_fieldAddr fo_60_2) ?_
  refine aL (z_fieldAddr fo_28_4) ?_
  refine aL (z_store sz_4) ?_
  refine aL z_nilCheck ?_
  refine aL (z_fieldAddr fo_60_3) ?_
  refine aL (z_store sz_4) ?_
  refine aL z_nilCheck ?_
  refine aL (z_fieldAddr fo_54_9) ?_
  refine aL (z_store sz_4) ?_
  refine aL z_nilCheck ?_
  refine aL (z_fieldAddr fo_54_8) ?_
  refine aL (z_store sz_4) ?_
  refine awl_nil (hK1 _ _ ?_)
  clear hK1 K1
  refine aw_region_last ?_
  refine aL z_move ?_
  refine aL z_nilCheck ?_
  refine aL (z_fieldAddr fo_54_2) ?_
  refine aL (z_store sz_32) ?_
  refine awl_weak (weak_nilE 0 2 1 rfl rfl rfl rfl) (awl_weak (weak_rever 2 1 rfl) ?_)
  refine awl_nil ?_
  refine (hret _ _ _ _ _ rfl .nil rfl ?_ (.box rfl rfl (.row rfl (.row rfl (.box rfl rfl .nil)))) rfl).2
  rfl
theorem con_stretch {s : Ps} {all : List UInt8} {at0 n : Nat} {h : Hs} {m : Bool} (ha : all.length ≤ 1000000000) (hat : at0 ≤ all.length) (hd0 : h.data.length ≤ 1000000000) (hs0 : 0 ≤ s.need ∧ s.need ≤ 2147483647) (hn : strN s (all.drop at0) = n) :
    Con Tryd.prog 68 [.ptr 0 0, .ptr 3 0] (rAB false s 0 all (at0 : Int) h m) 4 (.ret (.tup [])) (rAB false { s with need := s.need - (n : Int) } 1 all ((at0 + n : Nat) : Int) (h.plus ((all.drop at0).take n)) (decide (s.need - (n : Int) = 0))) := by
  obtain ⟨hd, kk, ln, st, old, fs, many, need, ended, toEnd⟩ := s
  obtain ⟨hh, hst, hfs, hdt, hfin⟩ := h
  simp only at hs0 hd0
  have hal := bs_length all
  have hn2 : n ≤ all.length - at0 := by rw [← hn, ← List.length_drop]; exact strN_le _ _
  have hmin : min need ((all.length : Int) - (at0 : Int)) = (n : Int) := by
    rw [← hn]; unfold strN; rw [List.length_drop]; simp only; omega
  have hcut : cut at0 (at0 + n) (bs all) = bs ((all.drop at0).take n) := by rw [bs_cut]; congr 2; omega
  have hlt : ((all.drop at0).take n).length ≤ 1000000000 := by rw [List.length_take, List.length_drop]; omega
  have hne : (n : Int) ≤ need := by omega
  generalize (all.drop at0).take n = d at hcut hlt ⊢
  refine con_of Tryd.func68 rfl (by show _ ≤ 69; simp) fun X Q hP hnt hnp hret hpan => ?_
  obtain ⟨P0, nt0, w0, K0, S0, np0, pin0, df0⟩ := X
  simp only at hP hnt hnp
  subst hP hnp
  obtain rfl : nt0 = 69 := hnt
  refine aw_regionD mx_all (by kernel_rfl) fun K1 hK1 => ?_
  refine aD z_move ?_
  refine aD z_nilCheck ?_
  refine aD (z_fieldAddr fo_54_7) ?_
  refine aD (z_load sz_2) ?_
  refine aD z_move ?_
  refine aD z_nilCheck ?_
  refine aD (z_fieldAddr fo_60_0) ?_
  refine aD (z_load sz_32) ?_
  refine aD (z_lenB Tryd.underlying32) ?_
  refine aD z_move ?_
  refine aD z_nilCheck ?_
  refine aD (z_fieldAddr fo_60_1) ?_
  refine aD (z_load sz_3) ?_
  refine aD (z_sub (p := (all.length : Int)) (q := (at0 : Int)) (r := (all.length : Int) - (at0 : Int)) (hr := i64_wrap (by omega) (by omega))) ?_
  refine aD (z_min (p := need) (q := (all.length : Int) - (at0 : Int)) (r := (n : Int)) (hr := hmin)) ?_
  refine aD z_assign ?_
  refine awd_nil (by kernel_rfl) (hK1 _ _ ?_)
  clear hK1 K1
  refine aw_regionD mx_all (by kernel_rfl) fun K2 hK2 => ?_
  refine aD z_move ?_
  refine aD z_nilCheck ?_
  refine aD (z_fieldAddr fo_60_2) ?_
  refine aD (z_fieldAddr fo_28_3) ?_
  refine aD (z_load sz_9) ?_
  refine aD z_move ?_
  refine aD z_nilCheck ?_
  refine aD (z_fieldAddr fo_60_0) ?_
  refine aD (z_load sz_32) ?_
  refine aD z_move ?_
  refine aD z_nilCheck ?_
  refine aD (z_fieldAddr fo_60_1) ?_
  refine aD (z_load sz_3) ?_
  refine aD z_move ?_
  refine aD z_nilCheck ?_
  refine aD (z_fieldAddr fo_60_1) ?_
  refine aD (z_load sz_3) ?_
  refine aD z_move ?_
  refine aD z_add ?_
  refine aD (z_slice Tryd.underlying32 sz_5 (i := some at0) (hlo := .yes (ev_tmp rfl) rfl) (j := some (at0 + n)) (hhi := .yes (ev_tmp rfl) (by omega)) (c' := bs d) (hc := hcut)) ?_
  refine aD (z_convS Tryd.underlying32 Tryd.underlying5 Tryd.underlying9) ?_
  refine aD z_addS ?_
  refine aD z_nilCheck ?_
  refine aD (z_fieldAddr fo_60_2) ?_
  refine aD (z_fieldAddr fo_28_3) ?_
  refine aD (z_store sz_9) ?_
  refine awd_nil (by kernel_rfl) (hK2 _ _ ?_)
  clear hK2 K2
  refine aw_region fun K3 hK3 => ?_
  refine aL z_move ?_
  refine aL z_nilCheck ?_
  refine aL (z_fieldAddr fo_60_1) ?_
  refine aL (z_load sz_3) ?_
  refine aL z_move ?_
  refine aL z_add ?_
  refine aL z_nilCheck ?_
  refine aL (z_fieldAddr fo_60_1) ?_
  refine aL (z_store sz_3) ?_
  refine awl_nil (hK3 _ _ ?_)
  clear hK3 K3
  refine aw_region fun K4 hK4 => ?_
  refine aL z_move ?_
  refine aL z_nilCheck ?_
  refine aL (z_fieldAddr fo_54_7) ?_
  refine aL (z_load sz_2) ?_
  refine aL z_move ?_
  refine aL z_sub ?_
  refine aL z_nilCheck ?_
  refine aL (z_fieldAddr fo_54_7) ?_
  refine aL (z_store sz_2) ?_
  refine awl_nil (hK4 _ _ ?_)
  clear hK4 K4
  refine aw_region_last ?_
  refine aL z_move ?_
  refine aL z_move ?_
  refine aL z_nilCheck ?_
  refine aL (z_fieldAddr fo_54_7) ?_
  refine aL (z_load sz_2) ?_
  refine aL z_eql ?_
  refine aL z_nilCheck ?_
  refine aL (z_fieldAddr fo_60_3) ?_
  refine aL (z_store sz_4) ?_
  refine awl_weak (weak_rever 1 1 rfl) (awl_weak (weak_rever 2 1 rfl) ?_)
  refine awl_nil ?_
  refine (hret _ _ _ _ _ rfl .nil rfl ?_ (.box rfl rfl (.row rfl (.row rfl (.box rfl rfl .nil)))) rfl).2
  rfl
end Go.Proofs.YthflfnehdlpmdaaDoor
