/- Chapter 15: the fields' lines. No condition but on lengths. -/
import Derived.Test.YthflfnehdlpmdaaDoorRpI
namespace Go.Proofs.YthflfnehdlpmdaaDoor
set_option linter.all false
open Go Go.RowKit
set_option maxRecDepth 10000
set_option maxHeartbeats 4000000
theorem body_fb {s : Ps} {h : Hs} {s' : Ps} {h' : Hs} (hb : bodyM s h = .ok (s', h')) : s'.fb = false := by
  unfold bodyM at hb
  split at hb
  · cases hb
  split at hb
  · injection hb with hb; injection hb with h1 h2; subst h1; simp [Ps.fb, Knd.isH]
  split at hb
  · cases hb
  split at hb
  · injection hb with hb; injection hb with h1 h2; subst h1; simp [Ps.fb]
  split at hb
  · injection hb with hb; injection hb with h1 h2; subst h1; simp [Ps.fb, Knd.isH]
  split at hb
  · injection hb with hb; injection hb with h1 h2; subst h1; simp [Ps.fb]
  split at hb
  · injection hb with hb; injection hb with h1 h2; subst h1; simp [Ps.fb, Knd.isH]
  · injection hb with hb; injection hb with h1 h2; subst h1; simp [Ps.fb, Knd.isH]
theorem con_trailer {s : Ps} {all : List UInt8} {at0 : Nat} {h : Hs} {R : Except Int Nx} (hk : s.k = .trailer) (hok : s.ok) (he : s.ended = false) (ha : all.length ≤ 1000000000) (hat : at0 < all.length) (hR : nextM s h (all.drop at0) = R) :
    Con Tryd.prog 67 [.ptr 0 0, .ptr 3 0] (rAH s 0 all (at0 : Int) h true) 4 (nxOut R) (nxPost all R) := by
  have hrl := rd_len (all.drop at0) s.ln hok.len hok.last
  have h1 := hok.len
  have h2 := hok.last
  have h3 := hok.many
  have h4 := hok.size
  have hR2 : nextL s h (all.drop at0) = R := by rw [← hR]; unfold nextM; rw [hk]
  obtain ⟨R1, hq⟩ : ∃ R1, rdM s.ln (all.drop at0) = R1 := ⟨_, rfl⟩
  unfold nextL at hR2
  rw [hq] at hR2 hrl
  have hce := fun e (hx : R1 = .err e) => con_readF (s := s) (h := h) (R := .err e) he h1 h2 ha (Nat.le_of_lt hat) (by rw [hq, hx])
  have hcu := fun (hne : R1.isE = false) => con_readFU (s := s) (h := h) hne he h1 h2 ha (Nat.le_of_lt hat) hq
  obtain ⟨hd, kk, ln, st, old, fs, many, need, ended, toEnd⟩ := s
  obtain ⟨hh, hst, hfs, hdt, hfin⟩ := h
  simp only at hk he h1 h2 h3 h4
  subst hk he
  refine con_of Tryd.func67 rfl (by show _ ≤ 27; simp) fun X Q hP hnt hnp hret hpan => ?_
  obtain ⟨P0, nt0, w0, K0, S0, np0, pin0, df0⟩ := X
  simp only at hP hnt hnp
  subst hP hnp
  obtain rfl : nt0 = 27 := hnt
  refine aw_region fun K1 hK1 => ?_
  refine aL z_move ?_
  refine aL z_move ?_
  rcases rd_cases R1 with ⟨e, hx⟩ | hne
  · subst hx
    subst hR2
    refine awl_callP [0, 1, 2, 3] (eC (eC .nil)) en_23 (hce e rfl) (pA (pA (pA (pA .nil)))) ?_
    exact hpan _ _ _ rfl (.box rfl rfl (.row rfl (.row rfl (.box rfl rfl .nil)))) rfl
  refine aL (z_callG [0, 1, 2, 3] (eC (eC .nil)) en_23 (hcu hne) (pA (pA (pA (pA .nil))))) ?_
  refine aL z_move ?_
  refine aL z_extract ?_
  refine aL z_extract ?_
  refine aL z_assign ?_
  refine aL z_assign ?_
  refine awl_nil (hK1 _ _ ?_)
  clear hK1 K1
  refine aw_seq fun K2 hK2 => ?_
  refine aw_region fun K3 hK3 => ?_
  refine aL z_move ?_
  refine aL z_not ?_
  refine awl_nil (hK3 _ _ ?_)
  clear hK3 K3
  refine aC (fun r1 c1 => ?_) (fun r1 c1 => ?_)
  · obtain ⟨l, rfl⟩ := rd_more hne (by simpa using r1)
    subst hR2
    refine aw_ret ?_
    refine (hret _ _ _ _ _ rfl .nil rfl ?_ (.box rfl rfl (.row rfl (.row rfl (.box rfl rfl .nil)))) rfl).1
    rfl
  · refine aw_skip ?_
    refine hK2 _ _ ?_
    clear hK2
    refine aw_region fun K4 hK4 => ?_
    obtain ⟨t, r, rfl⟩ := rd_whole hne (by simpa using r1)
    obtain ⟨tl, -⟩ : t.length ≤ 4096 ∧ r.length < (all.drop at0).length := hrl
    simp only at hR2
    have hX : onLine ⟨hd, .trailer, ln, st, old, fs, many, need, false, toEnd⟩ ⟨hh, hst, hfs, hdt, hfin⟩ t = onTrailer ⟨hd, .trailer, ln, st, old, fs, many, need, false, toEnd⟩ ⟨hh, hst, hfs, hdt, hfin⟩ t := rfl
    rw [hX] at hR2
    unfold onTrailer at hR2
    simp only at hR2
    refine aL z_move ?_
    refine aL z_move ?_
    refine awl_weak (weak_rever 1 0 rfl) (awl_weak (weak_rever 2 0 rfl) ?_)
    rcases hP : fieldP many t with e | ⟨o, m⟩
    · rw [hP] at hR2
      subst hR2
      refine awl_callP [0, 1, 2, 3] (eC (eC .nil)) en_35 (con_fieldF (s := ⟨hd, .trailer, [], st, old, fs, many, need, false, toEnd⟩) (h := ⟨hh, hst, hfs, hdt, hfin⟩) (mo := true) rfl (by omega) h3 hP) (pA (pA (pA (pA .nil)))) ?_
      exact hpan _ _ _ rfl (.box rfl rfl (.row rfl (.row rfl (.box rfl rfl .nil)))) rfl
    rw [hP] at hR2
    refine aL (z_callG [0, 1, 2, 3] (eC (eC .nil)) en_35 (con_fieldF (s := ⟨hd, .trailer, [], st, old, fs, many, need, false, toEnd⟩) (h := ⟨hh, hst, hfs, hdt, hfin⟩) (mo := true) rfl (by omega) h3 hP) (pA (pA (pA (pA .nil))))) ?_
    refine aL z_move ?_
    refine aL z_extract ?_
    refine aL z_extract ?_
    refine aL (z_alloc 10 zc_47 zl_47) ?_
    refine aL (z_store sz_47) ?_
    refine aL z_assign ?_
    refine awl_nil (hK4 _ _ ?_)
    clear hK4 K4
    refine aw_region fun K5 hK5 => ?_
    refine aL z_move ?_
    refine aL z_not ?_
    refine awl_nil (hK5 _ _ ?_)
    clear hK5 K5
    refine aC (fun r2 c2 => ?_) (fun r2 c2 => ?_)
    · refine aw_region_last ?_
      refine aL z_move ?_
      refine aL z_move ?_
      refine awl_weak (weak_rever 1 0 rfl) (awl_weak (weak_rever 2 0 rfl) ?_)
      refine aL (z_callG [0, 1, 2, 3] (eC (eC .nil)) en_51 (con_end (s := ⟨hd, .trailer, [], st, old, fs, m, need, false, toEnd⟩) (h := ⟨hh, hst, hfs, hdt, hfin⟩) (m := true)) (pA (pA (pA (pA .nil))))) ?_
      refine awl_nil ?_
      cases o with
      | none =>
        first
          | (exfalso; simp at r2; done)
          | (rcases fieldP_cases hP with ⟨-, -, hm⟩ | ⟨-, f, -, hf, -⟩
             · subst hm
               simp only at hR2
               subst hR2
               exact (hret _ _ _ _ _ rfl .nil rfl rfl (.box rfl rfl (.row rfl (.row rfl (.box rfl rfl .nil)))) rfl).2
             · cases hf)
      | some f =>
        first
          | (exfalso; simp at r2; done)
          | (simp only at hR2
             subst hR2
             exact (hret _ _ _ _ _ rfl .nil rfl rfl (.box rfl rfl (.row rfl (.row rfl (.box rfl rfl .nil)))) rfl).2)
    · refine aw_skip ?_
      cases o with
      | none =>
        first
          | (exfalso; simp at r2; done)
          | (rcases fieldP_cases hP with ⟨-, -, hm⟩ | ⟨-, f, -, hf, -⟩
             · subst hm
               simp only at hR2
               subst hR2
               exact (hret _ _ _ _ _ rfl .nil rfl rfl (.box rfl rfl (.row rfl (.row rfl (.box rfl rfl .nil)))) rfl).2
             · cases hf)
      | some f =>
        first
          | (exfalso; simp at r2; done)
          | (simp only at hR2
             subst hR2
             exact (hret _ _ _ _ _ rfl .nil rfl rfl (.box rfl rfl (.row rfl (.row rfl (.box rfl rfl .nil)))) rfl).2)
theorem con_heads {s : Ps} {all : List UInt8} {at0 : Nat} {h : Hs} {R : Except Int Nx} (hk : s.k = .heads) (hok : s.ok) (he : s.ended = false) (ha : all.length ≤ 1000000000) (hat : at0 < all.length) (hR : nextM s h (all.drop at0) = R) :
    Con Tryd.prog 29 [.ptr 0 0, .ptr 3 0] (rAH s 0 all (at0 : Int) h true) 4 (nxOut R) (nxPost all R) := by
  have hrl := rd_len (all.drop at0) s.ln hok.len hok.last
  have h1 := hok.len
  have h2 := hok.last
  have h3 := hok.many
  have h4 := hok.size
  have hR2 : nextL s h (all.drop at0) = R := by rw [← hR]; unfold nextM; rw [hk]
  obtain ⟨R1, hq⟩ : ∃ R1, rdM s.ln (all.drop at0) = R1 := ⟨_, rfl⟩
  unfold nextL at hR2
  rw [hq] at hR2 hrl
  have hce := fun e (hx : R1 = .err e) => con_readT (s := s) (h := h) (R := .err e) he h1 h2 ha (Nat.le_of_lt hat) (by rw [hq, hx])
  have hcu := fun (hne : R1.isE = false) => con_readTU (s := s) (h := h) hne he h1 h2 ha (Nat.le_of_lt hat) hq
  obtain ⟨hd, kk, ln, st, old, fs, many, need, ended, toEnd⟩ := s
  obtain ⟨hh, hst, hfs, hdt, hfin⟩ := h
  simp only at hk he h1 h2 h3 h4
  subst hk he
  have h5 := szM_len fs
  refine con_of Tryd.func29 rfl (by show _ ≤ 36; simp) fun X Q hP hnt hnp hret hpan => ?_
  obtain ⟨P0, nt0, w0, K0, S0, np0, pin0, df0⟩ := X
  simp only at hP hnt hnp
  subst hP hnp
  obtain rfl : nt0 = 36 := hnt
  refine aw_region fun K1 hK1 => ?_
  refine aL z_move ?_
  refine aL z_move ?_
  rcases rd_cases R1 with ⟨e, hx⟩ | hne
  · subst hx
    subst hR2
    refine awl_callP [0, 1, 2, 3] (eC (eC .nil)) en_23 (hce e rfl) (pA (pA (pA (pA .nil)))) ?_
    exact hpan _ _ _ rfl (.box rfl rfl (.row rfl (.row rfl (.box rfl rfl .nil)))) rfl
  refine aL (z_callG [0, 1, 2, 3] (eC (eC .nil)) en_23 (hcu hne) (pA (pA (pA (pA .nil))))) ?_
  refine aL z_move ?_
  refine aL z_extract ?_
  refine aL z_extract ?_
  refine aL z_assign ?_
  refine aL z_assign ?_
  refine awl_nil (hK1 _ _ ?_)
  clear hK1 K1
  refine aw_seq fun K2 hK2 => ?_
  refine aw_region fun K3 hK3 => ?_
  refine aL z_move ?_
  refine aL z_not ?_
  refine awl_nil (hK3 _ _ ?_)
  clear hK3 K3
  refine aC (fun r1 c1 => ?_) (fun r1 c1 => ?_)
  · first
      | (obtain ⟨l, rfl⟩ := rd_more hne (by simpa using r1)
         subst hR2)
      | refine aw_weak (fr' := []) (ah' := rAV true ⟨hd, .heads, [], st, old, fs ++ [f], m, need, false, toEnd⟩ 1 1 all ((all.length - r.length : Nat) : Int) ⟨hh, hst, hfs, hdt, hfin⟩ true) (Weak.trans (f2 := []) (a2 := rAV true ⟨hd, .heads, [], st, old, fs ++ [f], m, need, false, toEnd⟩ 1 2 all ((all.length - r.length : Nat) : Int) ⟨hh, hst, hfs, hdt, hfin⟩ true) wK (weak_rever 2 (v := 2) 1 rfl)) ?_
    refine aw_ret ?_
    refine (hret _ _ _ _ _ rfl .nil rfl ?_ (.box rfl rfl (.row rfl (.row rfl (.box rfl rfl .nil)))) rfl).1
    rfl
  · refine aw_skip ?_
    refine hK2 _ _ ?_
    clear hK2
    refine aw_seq fun K4 hK4 => ?_
    refine aw_region fun K5 hK5 => ?_
    obtain ⟨t, r, rfl⟩ := rd_whole hne (by simpa using r1)
    obtain ⟨tl, -⟩ : t.length ≤ 4096 ∧ r.length < (all.drop at0).length := hrl
    simp only at hR2
    have hX : onLine ⟨hd, .heads, ln, st, old, fs, many, need, false, toEnd⟩ ⟨hh, hst, hfs, hdt, hfin⟩ t = onHeads ⟨hd, .heads, ln, st, old, fs, many, need, false, toEnd⟩ ⟨hh, hst, hfs, hdt, hfin⟩ t := rfl
    rw [hX] at hR2
    unfold onHeads at hR2
    simp only at hR2
    refine aL z_move ?_
    refine aL z_move ?_
    refine awl_weak (weak_rever 1 0 rfl) (awl_weak (weak_rever 2 0 rfl) ?_)
    rcases hP : fieldP many t with e | ⟨o, m⟩
    · rw [hP] at hR2
      subst hR2
      refine awl_callP [0, 1, 2, 3] (eC (eC .nil)) en_35 (con_fieldT (s := ⟨hd, .heads, [], st, old, fs, many, need, false, toEnd⟩) (h := ⟨hh, hst, hfs, hdt, hfin⟩) (mo := true) rfl (by omega) h3 hP) (pA (pA (pA (pA .nil)))) ?_
      exact hpan _ _ _ rfl (.box rfl rfl (.row rfl (.row rfl (.box rfl rfl .nil)))) rfl
    rw [hP] at hR2
    refine aL (z_callG [0, 1, 2, 3] (eC (eC .nil)) en_35 (con_fieldT (s := ⟨hd, .heads, [], st, old, fs, many, need, false, toEnd⟩) (h := ⟨hh, hst, hfs, hdt, hfin⟩) (mo := true) rfl (by omega) h3 hP) (pA (pA (pA (pA .nil))))) ?_
    refine aL z_move ?_
    refine aL z_extract ?_
    refine aL z_extract ?_
    refine aL (z_alloc 10 zc_47 zl_47) ?_
    refine aL (z_store sz_47) ?_
    refine aL z_assign ?_
    refine awl_nil (hK5 _ _ ?_)
    clear hK5 K5
    refine aw_region fun K6 hK6 => ?_
    refine aL z_move ?_
    refine awl_nil (hK6 _ _ ?_)
    clear hK6 K6
    refine aC (fun r2 c2 => ?_) (fun r2 c2 => ?_)
    · obtain ⟨f, rfl⟩ : ∃ f, o = some f := by
        cases o with
        | none => simp at r2
        | some f => exact ⟨f, rfl⟩
      simp only at hR2
      subst hR2
      refine aw_weak (fr' := [(0, .ptr 0 0), (1, .ptr 3 0), (6, .ptr 10 0)]) (ah' := rAV true ⟨hd, .heads, [], st, old, fs, m, need, false, toEnd⟩ 1 1 all ((all.length - r.length : Nat) : Int) ⟨hh, hst, hfs, hdt, hfin⟩ true ++ [(10, .box f.cs)]) wK ?_
      refine aw_regionD mx_all (by kernel_rfl) fun K7 hK7 => ?_
      refine aD z_move ?_
      refine aD z_move ?_
      refine aD z_nilCheck ?_
      refine aD (z_fieldAddr fo_54_5) ?_
      refine aD (z_load sz_26) ?_
      refine aD (z_load sz_47) ?_
      refine aD (z_lits (pC .nil) Tryd.underlying26 sz_47 zc_47 zl_47 (c := [[V.str f.n, V.str f.v, V.bool f.s]])) ?_
      refine aD (z_app Tryd.underlying26 zi_47 (c' := fdV (fs ++ [f])) (hc := fdV_snoc rfl) (hb := by rw [fdV_len]; simp; omega)) ?_
      refine aD z_nilCheck ?_
      refine aD (z_fieldAddr fo_54_5) ?_
      refine aD (z_store sz_26) ?_
      refine awd_nil (by kernel_rfl) (hK7 _ _ ?_)
      clear hK7 K7
      first
        | (obtain ⟨l, rfl⟩ := rd_more hne (by simpa using r1)
           subst hR2)
        | refine aw_weak (fr' := []) (ah' := rAV true ⟨hd, .heads, [], st, old, fs ++ [f], m, need, false, toEnd⟩ 1 1 all ((all.length - r.length : Nat) : Int) ⟨hh, hst, hfs, hdt, hfin⟩ true) (Weak.trans (f2 := []) (a2 := rAV true ⟨hd, .heads, [], st, old, fs ++ [f], m, need, false, toEnd⟩ 1 2 all ((all.length - r.length : Nat) : Int) ⟨hh, hst, hfs, hdt, hfin⟩ true) wK (weak_rever 2 (v := 2) 1 rfl)) ?_
      refine aw_ret ?_
      refine (hret _ _ _ _ _ rfl .nil rfl ?_ (.box rfl rfl (.row rfl (.row rfl (.box rfl rfl .nil)))) rfl).1
      rfl
    · refine aw_skip ?_
      refine hK4 _ _ ?_
      clear hK4
      refine aw_region_last ?_
      refine aL z_move ?_
      refine aL z_move ?_
      obtain rfl : o = none := by
        cases o with
        | none => rfl
        | some f => simp at r2
      obtain rfl : m = many := by
        rcases fieldP_cases hP with ⟨-, -, hm⟩ | ⟨-, f, -, hf, -⟩
        · exact hm
        · cases hf
      simp only at hR2
      refine awl_weak (weak_rever 1 0 rfl) (awl_weak (weak_rever 2 0 rfl) ?_)
      rcases hB : bodyM (Ps.line ⟨hd, .heads, ln, st, old, fs, m, need, false, toEnd⟩ []) ⟨hh, hst, hfs, hdt, hfin⟩ with e | ⟨s2, h2'⟩
      · rw [hB] at hR2
        subst hR2
        refine awl_callP [0, 1, 2, 3] (eC (eC .nil)) en_36 (con_body (s := ⟨hd, .heads, [], st, old, fs, m, need, false, toEnd⟩) (h := ⟨hh, hst, hfs, hdt, hfin⟩) rfl rfl h4 hB) (pA (pA (pA (pA .nil)))) ?_
        exact hpan _ _ _ rfl (.box rfl rfl (.row rfl (.row rfl (.box rfl rfl .nil)))) rfl
      rw [hB] at hR2
      simp only at hR2
      subst hR2
      have hfb := body_fb hB
      refine aL (z_callG [0, 1, 2, 3] (eC (eC .nil)) en_36 (con_body (s := ⟨hd, .heads, [], st, old, fs, m, need, false, toEnd⟩) (h := ⟨hh, hst, hfs, hdt, hfin⟩) rfl rfl h4 hB) (pA (pA (pA (pA .nil))))) ?_
      refine awl_nil ?_
      have e1 : nxPost all (.ok ⟨s2, r, h2', !s2.ended⟩) = rAB false s2 1 all ((all.length - r.length : Nat) : Int) h2' (!s2.ended) := by show rAB s2.fb s2 1 all ((all.length - r.length : Nat) : Int) h2' (!s2.ended) = _; rw [hfb]
      rw [e1] at hret
      refine (hret _ _ _ _ _ rfl .nil rfl ?_ (.box rfl rfl (.row rfl (.row rfl (.box rfl rfl .nil)))) rfl).2
      rfl
end Go.Proofs.YthflfnehdlpmdaaDoor
