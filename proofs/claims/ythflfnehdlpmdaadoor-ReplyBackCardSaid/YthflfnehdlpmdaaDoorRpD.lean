/- Chapter 15: a body's bytes, by kinds. No condition but on lengths. -/
import Derived.Test.YthflfnehdlpmdaaDoorRpC
namespace Go.Proofs.YthflfnehdlpmdaaDoor
set_option linter.all false
open Go Go.RowKit
set_option maxRecDepth 10000
set_option maxHeartbeats 4000000
theorem at_rest {all : List UInt8} {at0 n : Nat} (h : at0 ≤ all.length) (hn : n ≤ all.length - at0) : ((all.length - ((all.drop at0).drop n).length : Nat) : Int) = ((at0 + n : Nat) : Int) := by
  rw [List.drop_drop, List.length_drop]; omega
theorem con_data {s : Ps} {all : List UInt8} {at0 : Nat} {h : Hs} {R : Except Int Nx} (hk : s.k = .data) (hok : s.ok) (he : s.ended = false) (ha : all.length ≤ 1000000000) (hat : at0 < all.length) (hdl : h.data.length ≤ 1000000000) (hR : nextM s h (all.drop at0) = R) :
    Con Tryd.prog 66 [.ptr 0 0, .ptr 3 0] (rAH s 0 all (at0 : Int) h true) 4 (nxOut R) (nxPost all R) := by
  have hneed := hok.need
  obtain ⟨n, hn⟩ : ∃ n, strN s (all.drop at0) = n := ⟨_, rfl⟩
  have hn2 : n ≤ all.length - at0 := by rw [← hn, ← List.length_drop]; exact strN_le _ _
  have hcs := con_stretch (s := s) (all := all) (at0 := at0) (n := n) (h := h) (m := true) ha (by omega) hdl hneed hn
  have hR2 : R = .ok ⟨{ s with need := s.need - (n : Int), k := if s.need - (n : Int) = 0 then .behind else .data }, (all.drop at0).drop n, h.plus ((all.drop at0).take n), decide (s.need - (n : Int) = 0)⟩ := by rw [← hR]; unfold nextM; rw [hk, hn]
  have har := at_rest (Nat.le_of_lt hat) hn2
  obtain ⟨hd, kk, ln, st, old, fs, many, need, ended, toEnd⟩ := s
  obtain ⟨hh, hst, hfs, hdt, hfin⟩ := h
  simp only at hk he hneed hdl hR2
  subst hk he
  refine con_of Tryd.func66 rfl (by show _ ≤ 17; simp) fun X Q hP hnt hnp hret hpan => ?_
  obtain ⟨P0, nt0, w0, K0, S0, np0, pin0, df0⟩ := X
  simp only at hP hnt hnp
  subst hP hnp
  obtain rfl : nt0 = 17 := hnt
  refine aw_region fun K1 hK1 => ?_
  refine aL z_move ?_
  refine aL z_move ?_
  refine aL (z_callG [0, 1, 2, 3] (eC (eC .nil)) en_68 hcs (pA (pA (pA (pA .nil))))) ?_
  refine awl_nil (hK1 _ _ ?_)
  clear hK1 K1
  refine aw_region fun K2 hK2 => ?_
  refine aL z_move ?_
  refine aL z_nilCheck ?_
  refine aL (z_fieldAddr fo_54_7) ?_
  refine aL (z_load sz_2) ?_
  refine aL z_eql ?_
  refine awl_nil (hK2 _ _ ?_)
  clear hK2 K2
  refine aC (fun r1 c1 => ?_) (fun r1 c1 => ?_)
  · refine aw_region_last ?_
    refine aL z_move ?_
    refine aL z_move ?_
    refine aL (z_makeFn (eC .nil) .nil) ?_
    refine aL z_nilCheck ?_
    refine aL (z_fieldAddr fo_54_1) ?_
    refine aL (z_store sz_52) ?_
    refine awl_nil ?_
    first
      | (rw [if_pos c1] at hR2
         subst hR2
         rw [← har])
      | (rw [if_neg c1] at hR2
         subst hR2
         rw [← har])
    refine (hret _ _ _ _ _ rfl .nil rfl ?_ (.box rfl rfl (.row rfl (.row rfl (.box rfl rfl .nil)))) rfl).2
    rfl
  · refine aw_skip ?_
    first
      | (rw [if_pos c1] at hR2
         subst hR2
         rw [← har])
      | (rw [if_neg c1] at hR2
         subst hR2
         rw [← har])
    refine (hret _ _ _ _ _ rfl .nil rfl ?_ (.box rfl rfl (.row rfl (.row rfl (.box rfl rfl .nil)))) rfl).2
    rfl
theorem con_counted {s : Ps} {all : List UInt8} {at0 : Nat} {h : Hs} {R : Except Int Nx} (hk : s.k = .counted) (hok : s.ok) (he : s.ended = false) (ha : all.length ≤ 1000000000) (hat : at0 < all.length) (hdl : h.data.length ≤ 1000000000) (hR : nextM s h (all.drop at0) = R) :
    Con Tryd.prog 53 [.ptr 0 0, .ptr 3 0] (rAH s 0 all (at0 : Int) h true) 4 (nxOut R) (nxPost all R) := by
  have hneed := hok.need
  have hpos := hok.pos he (.inr hk)
  obtain ⟨n, hn⟩ : ∃ n, strN s (all.drop at0) = n := ⟨_, rfl⟩
  have hn2 : n ≤ all.length - at0 := by rw [← hn, ← List.length_drop]; exact strN_le _ _
  have hcs := con_stretch (s := s) (all := all) (at0 := at0) (n := n) (h := h) (m := true) ha (by omega) hdl hneed hn
  obtain ⟨m, hm⟩ : ∃ m, decide (s.need - (n : Int) = 0) = m := ⟨_, rfl⟩
  rw [hm] at hcs
  have hce := con_end (s := { s with need := s.need - (n : Int) }) (all := all) (at0 := ((at0 + n : Nat) : Int)) (h := h.plus ((all.drop at0).take n)) (m := m)
  have hR2 : R = .ok (if s.need - (n : Int) = 0 then ⟨{ s with need := s.need - (n : Int), ln := [], ended := true }, (all.drop at0).drop n, (h.plus ((all.drop at0).take n)).end_, false⟩ else ⟨{ s with need := s.need - (n : Int) }, (all.drop at0).drop n, h.plus ((all.drop at0).take n), false⟩) := by rw [← hR]; unfold nextM; rw [hk, hn]
  have har := at_rest (Nat.le_of_lt hat) hn2
  obtain ⟨hd, kk, ln, st, old, fs, many, need, ended, toEnd⟩ := s
  obtain ⟨hh, hst, hfs, hdt, hfin⟩ := h
  simp only at hk he hneed hdl hR2 hm
  subst hk he
  refine con_of Tryd.func53 rfl (by show _ ≤ 15; simp) fun X Q hP hnt hnp hret hpan => ?_
  obtain ⟨P0, nt0, w0, K0, S0, np0, pin0, df0⟩ := X
  simp only at hP hnt hnp
  subst hP hnp
  obtain rfl : nt0 = 15 := hnt
  refine aw_region fun K1 hK1 => ?_
  refine aL z_move ?_
  refine aL z_move ?_
  refine aL (z_callG [0, 1, 2, 3] (eC (eC .nil)) en_68 hcs (pA (pA (pA (pA .nil))))) ?_
  refine awl_nil (hK1 _ _ ?_)
  clear hK1 K1
  refine aw_region fun K2 hK2 => ?_
  refine aL z_move ?_
  refine aL z_nilCheck ?_
  refine aL (z_fieldAddr fo_54_7) ?_
  refine aL (z_load sz_2) ?_
  refine aL z_eql ?_
  refine awl_nil (hK2 _ _ ?_)
  clear hK2 K2
  refine aC (fun r1 c1 => ?_) (fun r1 c1 => ?_)
  · refine aw_region_last ?_
    refine aL z_move ?_
    refine aL z_move ?_
    refine awl_weak (weak_rever 1 0 rfl) (awl_weak (weak_rever 2 0 rfl) ?_)
    refine aL (z_callG [0, 1, 2, 3] (eC (eC .nil)) en_51 hce (pA (pA (pA (pA .nil))))) ?_
    refine awl_nil ?_
    first
      | (rw [if_pos c1] at hR2
         subst hR2
         rw [← har])
      | (rw [if_neg c1] at hR2
         subst hR2
         rw [decide_eq_false c1] at hm
         subst hm
         rw [← har])
    refine (hret _ _ _ _ _ rfl .nil rfl ?_ (.box rfl rfl (.row rfl (.row rfl (.box rfl rfl .nil)))) rfl).2
    rfl
  · refine aw_skip ?_
    first
      | (rw [if_pos c1] at hR2
         subst hR2
         rw [← har])
      | (rw [if_neg c1] at hR2
         subst hR2
         rw [decide_eq_false c1] at hm
         subst hm
         rw [← har])
    refine (hret _ _ _ _ _ rfl .nil rfl ?_ (.box rfl rfl (.row rfl (.row rfl (.box rfl rfl .nil)))) rfl).2
    rfl
theorem con_all {s : Ps} {all : List UInt8} {at0 : Nat} {h : Hs} {R : Except Int Nx} (hk : s.k = .all) (hok : s.ok) (he : s.ended = false) (ha : all.length ≤ 1000000000) (hat : at0 < all.length) (hdl : h.data.length ≤ 1000000000) (hR : nextM s h (all.drop at0) = R) :
    Con Tryd.prog 54 [.ptr 0 0, .ptr 3 0] (rAH s 0 all (at0 : Int) h true) 4 (nxOut R) (nxPost all R) := by
  have hdr : (all.drop at0).length = all.length - at0 := List.length_drop
  have hcs := con_stretch (s := { s with need := (all.length : Int) - (at0 : Int) }) (all := all) (at0 := at0) (n := all.length - at0) (h := h) (m := true) ha (by omega) hdl (by dsimp only; omega) (by unfold strN; dsimp only; rw [hdr]; omega)
  rw [List.take_of_length_le (by omega)] at hcs
  have hR2 : R = .ok ⟨{ s with need := 0 }, [], h.plus (all.drop at0), false⟩ := by rw [← hR]; unfold nextM; rw [hk]
  have h0 : (all.length : Int) - (at0 : Int) - ((all.length - at0 : Nat) : Int) = 0 := by omega
  have h1 : at0 + (all.length - at0) = all.length := by omega
  dsimp only at hcs
  rw [h0, h1] at hcs
  obtain ⟨hd, kk, ln, st, old, fs, many, need, ended, toEnd⟩ := s
  obtain ⟨hh, hst, hfs, hdt, hfin⟩ := h
  simp only at hk he hdl hR2
  subst hk he hR2
  refine con_of Tryd.func54 rfl (by show _ ≤ 23; simp) fun X Q hP hnt hnp hret hpan => ?_
  obtain ⟨P0, nt0, w0, K0, S0, np0, pin0, df0⟩ := X
  simp only at hP hnt hnp
  subst hP hnp
  obtain rfl : nt0 = 23 := hnt
  refine aw_regionD mx_all (by kernel_rfl) fun K1 hK1 => ?_
  refine aD z_move ?_
  refine aD z_move ?_
  refine aD z_nilCheck ?_
  refine aD (z_fieldAddr fo_60_0) ?_
  refine aD (z_load sz_32) ?_
  refine aD (z_lenB Tryd.underlying32) ?_
  refine aD z_move ?_
  refine aD z_nilCheck ?_
  refine aD (z_fieldAddr fo_60_1) ?_
  refine aD (z_load sz_3) ?_
  refine aD z_sub ?_
  refine aD z_nilCheck ?_
  refine aD (z_fieldAddr fo_54_7) ?_
  refine aD (z_store sz_2) ?_
  refine awd_nil (by kernel_rfl) (hK1 _ _ ?_)
  clear hK1 K1
  refine aw_region fun K2 hK2 => ?_
  refine aL z_move ?_
  refine aL z_move ?_
  refine aL (z_callG [0, 1, 2, 3] (eC (eC .nil)) en_68 hcs (pA (pA (pA (pA .nil))))) ?_
  refine awl_nil (hK2 _ _ ?_)
  clear hK2 K2
  refine aw_region_last ?_
  refine aL z_move ?_
  refine aL z_nilCheck ?_
  refine aL (z_fieldAddr fo_60_3) ?_
  refine aL (z_store sz_4) ?_
  refine awl_nil ?_
  refine (hret _ _ _ _ _ rfl .nil rfl ?_ (.box rfl rfl (.row rfl (.row rfl (.box rfl rfl .nil)))) rfl).2
  rfl
end Go.Proofs.YthflfnehdlpmdaaDoor
