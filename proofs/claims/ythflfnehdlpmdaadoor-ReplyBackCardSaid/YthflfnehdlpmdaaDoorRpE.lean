/- Chapter 15: behind a chunk's bytes. No condition but on lengths. -/
import Derived.Test.YthflfnehdlpmdaaDoorRpD
namespace Go.Proofs.YthflfnehdlpmdaaDoor
set_option linter.all false
open Go Go.RowKit
set_option maxRecDepth 10000
set_option maxHeartbeats 4000000
theorem rest_one {all r : List UInt8} {c : UInt8} {at0 : Nat} (h : all.drop at0 = c :: r) : ((all.length - r.length : Nat) : Int) = (at0 : Int) + 1 ∧ r.length < all.length ∧ at0 < all.length ∧ (bs all)[at0]? = some [V.int .u8 (c.toNat : Int)] := by
  have h1 : (all.drop at0).length = r.length + 1 := by rw [h]; rfl
  rw [List.length_drop] at h1
  have hlt : at0 < all.length := by omega
  refine ⟨by omega, by omega, hlt, ?_⟩
  rw [bs_at hlt]
  have h2 := drop_at hlt
  rw [h] at h2
  injection h2 with h2 h3
  rw [h2]
theorem con_behind0 {s : Ps} {all r : List UInt8} {c : UInt8} {at0 : Nat} {h : Hs} {R : Except Int Nx} (hk : s.k = .behind) (he : s.ended = false) (hln : s.ln = []) (ha : all.length ≤ 1000000000) (hb : all.drop at0 = c :: r) (hR : nextM s h (all.drop at0) = R) :
    Con Tryd.prog 75 [.ptr 0 0, .ptr 3 0] (rAH s 0 all (at0 : Int) h true) 4 (nxOut R) (nxPost all R) := by
  obtain ⟨har, hrl, hat, hg⟩ := rest_one hb
  have hR2 : R = if c = 13 then .ok ⟨s.line [13], r, h, true⟩ else .error 152 := by rw [← hR, hb]; unfold nextM; rw [hk]; simp only [hln, if_true]
  have e13 := u8n c 13
  simp only [show ((13 : UInt8).toNat : Int) = 13 from rfl] at e13
  have hal := bs_length all
  obtain ⟨hd, kk, ln, st, old, fs, many, need, ended, toEnd⟩ := s
  obtain ⟨hh, hst, hfs, hdt, hfin⟩ := h
  simp only at hk he hln hR2
  subst hk he hln
  refine con_of Tryd.func75 rfl (by show _ ≤ 67; simp) fun X Q hP hnt hnp hret hpan => ?_
  obtain ⟨P0, nt0, w0, K0, S0, np0, pin0, df0⟩ := X
  simp only at hP hnt hnp
  subst hP hnp
  obtain rfl : nt0 = 67 := hnt
  refine aw_seq fun K1 hK1 => ?_
  refine aw_regionD mx_all (by kernel_rfl) fun K2 hK2 => ?_
  refine aD z_move ?_
  refine aD z_nilCheck ?_
  refine aD (z_fieldAddr fo_60_0) ?_
  refine aD (z_load sz_32) ?_
  refine aD z_move ?_
  refine aD z_nilCheck ?_
  refine aD (z_fieldAddr fo_60_1) ?_
  refine aD (z_load sz_3) ?_
  refine aD (z_indexAddr Tryd.underlying32 sz_5) ?_
  refine aD (z_loadRef sz_5) ?_
  refine aD z_move ?_
  refine aD z_nilCheck ?_
  refine aD (z_fieldAddr fo_54_2) ?_
  refine aD (z_load sz_32) ?_
  refine aD (z_lenV Tryd.underlying32) ?_
  refine aD (z_indexS Tryd.underlying9 (i := 0) (b := 13) (hb := rfl)) ?_
  refine aD z_neq ?_
  refine awd_nil (by kernel_rfl) (hK2 _ _ ?_)
  clear hK2 K2
  refine aC (fun r1 c1 => ?_) (fun r1 c1 => ?_)
  · refine aw_region_last ?_
    refine awl_weak (weak_pan rfl rfl rfl rfl) ?_
    refine awl_callP [] (eC .nil) en_28 (con_fail (e := 152)) .nil ?_
    rw [if_neg (fun e => c1 (e13.2 e))] at hR2
    subst hR2
    exact hpan _ _ _ rfl (.box rfl rfl (.row rfl (.row rfl (.box rfl rfl .nil)))) rfl
  · refine aw_skip ?_
    refine hK1 _ _ ?_
    clear hK1
    refine aw_regionD mx_all (by kernel_rfl) fun K3 hK3 => ?_
    refine aD z_move ?_
    refine aD z_move ?_
    refine aD z_nilCheck ?_
    refine aD (z_fieldAddr fo_54_2) ?_
    refine aD (z_load sz_32) ?_
    refine aD z_move ?_
    refine aD z_nilCheck ?_
    refine aD (z_fieldAddr fo_60_0) ?_
    refine aD (z_load sz_32) ?_
    refine aD z_move ?_
    refine aD z_nilCheck ?_
    refine aD (z_fieldAddr fo_60_1) ?_
    refine aD (z_load sz_3) ?_
    refine aD (z_indexAddr Tryd.underlying32 sz_5) ?_
    refine aD (z_loadRef sz_5) ?_
    refine aD (z_lits (pC .nil) Tryd.underlying32 sz_5 zc_5 zl_5 (c := [[_]])) ?_
    refine aD (z_app Tryd.underlying32 zi_5 (c' := bs [c])) ?_
    refine aD z_nilCheck ?_
    refine aD (z_fieldAddr fo_54_2) ?_
    refine aD (z_store sz_32) ?_
    refine awd_nil (by kernel_rfl) (hK3 _ _ ?_)
    clear hK3 K3
    refine aw_region fun K4 hK4 => ?_
    refine aL z_move ?_
    refine aL z_nilCheck ?_
    refine aL (z_fieldAddr fo_60_1) ?_
    refine aL (z_load sz_3) ?_
    refine aL z_add ?_
    refine aL z_nilCheck ?_
    refine aL (z_fieldAddr fo_60_1) ?_
    refine aL (z_store sz_3) ?_
    refine awl_nil (hK4 _ _ ?_)
    clear hK4 K4
    refine aw_region fun K5 hK5 => ?_
    refine aL z_move ?_
    refine aL z_nilCheck ?_
    refine aL (z_fieldAddr fo_54_2) ?_
    refine aL (z_load sz_32) ?_
    refine aL (z_lenV Tryd.underlying32) ?_
    refine aL z_eql ?_
    obtain rfl := e13.1 c1
    rw [if_pos rfl] at hR2
    subst hR2
    rw [← har]
    refine awl_weak (fr' := [(53, .v (.bool false))]) (ah' := rAV false ⟨hd, .behind, [13], st, old, fs, many, need, false, toEnd⟩ 1 0 all ((all.length - r.length : Nat) : Int) ⟨hh, hst, hfs, hdt, hfin⟩ true) wK (awl_weak (weak_rever 1 (v := 1) 1 rfl) (awl_weak (weak_rever 2 (v := 0) 1 rfl) ?_))
    refine awl_nil (hK5 _ _ ?_)
    clear hK5 K5
    refine aC (fun r2 c2 => ?_) (fun r2 c2 => ?_)
    · cases r2
    · refine aw_skip ?_
      refine (hret _ _ _ _ _ rfl .nil rfl ?_ (.box rfl rfl (.row rfl (.row rfl (.box rfl rfl .nil)))) rfl).2
      rfl
theorem con_behind1 {s : Ps} {all r : List UInt8} {c : UInt8} {at0 : Nat} {h : Hs} {R : Except Int Nx} (hk : s.k = .behind) (he : s.ended = false) (hln : s.ln = [13]) (ha : all.length ≤ 1000000000) (hb : all.drop at0 = c :: r) (hR : nextM s h (all.drop at0) = R) :
    Con Tryd.prog 75 [.ptr 0 0, .ptr 3 0] (rAH s 0 all (at0 : Int) h true) 4 (nxOut R) (nxPost all R) := by
  obtain ⟨har, hrl, hat, hg⟩ := rest_one hb
  have hR2 : R = if c = 10 then .ok ⟨{ s with ln := [], k := .chunk }, r, h, true⟩ else .error 152 := by rw [← hR, hb]; unfold nextM; rw [hk]; simp [hln]
  have e10 := u8n c 10
  simp only [show ((10 : UInt8).toNat : Int) = 10 from rfl] at e10
  have hal := bs_length all
  obtain ⟨hd, kk, ln, st, old, fs, many, need, ended, toEnd⟩ := s
  obtain ⟨hh, hst, hfs, hdt, hfin⟩ := h
  simp only at hk he hln hR2
  subst hk he hln
  refine con_of Tryd.func75 rfl (by show _ ≤ 67; simp) fun X Q hP hnt hnp hret hpan => ?_
  obtain ⟨P0, nt0, w0, K0, S0, np0, pin0, df0⟩ := X
  simp only at hP hnt hnp
  subst hP hnp
  obtain rfl : nt0 = 67 := hnt
  refine aw_seq fun K1 hK1 => ?_
  refine aw_regionD mx_all (by kernel_rfl) fun K2 hK2 => ?_
  refine aD z_move ?_
  refine aD z_nilCheck ?_
  refine aD (z_fieldAddr fo_60_0) ?_
  refine aD (z_load sz_32) ?_
  refine aD z_move ?_
  refine aD z_nilCheck ?_
  refine aD (z_fieldAddr fo_60_1) ?_
  refine aD (z_load sz_3) ?_
  refine aD (z_indexAddr Tryd.underlying32 sz_5) ?_
  refine aD (z_loadRef sz_5) ?_
  refine aD z_move ?_
  refine aD z_nilCheck ?_
  refine aD (z_fieldAddr fo_54_2) ?_
  refine aD (z_load sz_32) ?_
  refine aD (z_lenV Tryd.underlying32) ?_
  refine aD (z_indexS Tryd.underlying9 (i := 1) (b := 10) (hb := rfl)) ?_
  refine aD z_neq ?_
  refine awd_nil (by kernel_rfl) (hK2 _ _ ?_)
  clear hK2 K2
  refine aC (fun r1 c1 => ?_) (fun r1 c1 => ?_)
  · refine aw_region_last ?_
    refine awl_weak (weak_pan rfl rfl rfl rfl) ?_
    refine awl_callP [] (eC .nil) en_28 (con_fail (e := 152)) .nil ?_
    rw [if_neg (fun e => c1 (e10.2 e))] at hR2
    subst hR2
    exact hpan _ _ _ rfl (.box rfl rfl (.row rfl (.row rfl (.box rfl rfl .nil)))) rfl
  · refine aw_skip ?_
    refine hK1 _ _ ?_
    clear hK1
    refine aw_regionD mx_all (by kernel_rfl) fun K3 hK3 => ?_
    refine aD z_move ?_
    refine aD z_move ?_
    refine aD z_nilCheck ?_
    refine aD (z_fieldAddr fo_54_2) ?_
    refine aD (z_load sz_32) ?_
    refine aD z_move ?_
    refine aD z_nilCheck ?_
    refine aD (z_fieldAddr fo_60_0) ?_
    refine aD (z_load sz_32) ?_
    refine aD z_move ?_
    refine aD z_nilCheck ?_
    refine aD (z_fieldAddr fo_60_1) ?_
    refine aD (z_load sz_3) ?_
    refine aD (z_indexAddr Tryd.underlying32 sz_5) ?_
    refine aD (z_loadRef sz_5) ?_
    refine aD (z_lits (pC .nil) Tryd.underlying32 sz_5 zc_5 zl_5 (c := [[_]])) ?_
    refine aD (z_app Tryd.underlying32 zi_5 (c' := bs [13, c])) ?_
    refine aD z_nilCheck ?_
    refine aD (z_fieldAddr fo_54_2) ?_
    refine aD (z_store sz_32) ?_
    refine awd_nil (by kernel_rfl) (hK3 _ _ ?_)
    clear hK3 K3
    refine aw_region fun K4 hK4 => ?_
    refine aL z_move ?_
    refine aL z_nilCheck ?_
    refine aL (z_fieldAddr fo_60_1) ?_
    refine aL (z_load sz_3) ?_
    refine aL z_add ?_
    refine aL z_nilCheck ?_
    refine aL (z_fieldAddr fo_60_1) ?_
    refine aL (z_store sz_3) ?_
    refine awl_nil (hK4 _ _ ?_)
    clear hK4 K4
    refine aw_region fun K5 hK5 => ?_
    refine aL z_move ?_
    refine aL z_nilCheck ?_
    refine aL (z_fieldAddr fo_54_2) ?_
    refine aL (z_load sz_32) ?_
    refine aL (z_lenV Tryd.underlying32) ?_
    refine aL z_eql ?_
    refine awl_nil (hK5 _ _ ?_)
    clear hK5 K5
    refine aC (fun r2 c2 => ?_) (fun r2 c2 => ?_)
    · refine aw_region_last ?_
      refine aL z_move ?_
      refine aL z_move ?_
      refine aL z_move ?_
      refine aL z_nilCheck ?_
      refine aL (z_fieldAddr fo_54_2) ?_
      refine aL (z_load sz_32) ?_
      refine aL (z_sliceV Tryd.underlying32 sz_5) ?_
      refine aL z_move ?_
      refine aL (z_makeFn (eC .nil) .nil) ?_
      refine aL z_nilCheck ?_
      refine aL (z_fieldAddr fo_54_2) ?_
      refine aL (z_store sz_32) ?_
      refine aL z_nilCheck ?_
      refine aL (z_fieldAddr fo_54_1) ?_
      refine aL (z_store sz_52) ?_
      obtain rfl := e10.1 c1
      rw [if_pos rfl] at hR2
      subst hR2
      rw [← har]
      refine awl_weak (fr' := []) (ah' := [(0, .box (Ps.csV ⟨hd, .chunk, [], st, old, fs, many, need, false, toEnd⟩ false false 1 0)), (1, rwB 1 [13, 10]), (2, rwF 0 []), (3, .box (feC all ((all.length - r.length : Nat) : Int) ⟨hh, hst, hfs, hdt, hfin⟩ true))]) wK (awl_weak (weak_short 1 (v := 1) 1 rfl) (awl_weak (weak_rever 2 (v := 0) 1 rfl) ?_))
      refine awl_nil ?_
      refine (hret _ _ _ _ _ rfl .nil rfl ?_ (.box rfl rfl (.row rfl (.row rfl (.box rfl rfl .nil)))) rfl).2
      rfl
    · exfalso; revert c2; simp
end Go.Proofs.YthflfnehdlpmdaaDoor
