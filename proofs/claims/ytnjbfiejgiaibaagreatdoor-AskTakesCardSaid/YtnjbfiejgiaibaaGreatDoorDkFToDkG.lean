/- Chapter 14: the document's All and AskTakes, walked. No condition but on lengths. -/
import Derived.Test.YtnjbfiejgiaibaaGreatDoorDkE
namespace Go.Proofs.YtnjbfiejgiaibaaGreatDoor
set_option linter.all false
open Go Go.RowKit
set_option maxRecDepth 10000
set_option maxHeartbeats 4000000
theorem con_rAll14 {b : List UInt8} (hb : b.length ≤ 1000000000) : Con Tryz.prog 10 [.v (.sl (bs b))] [] 0 (.ret (allD (allS [] b))) [] := by
  have hbl := bs_length b
  refine con_of Tryz.func10 rfl (by show _ ≤ 32; simp) fun X Q hP hnt hnp hret hpan => ?_
  obtain ⟨P0, nt0, w0, K0, S0, np0, pin0, df0⟩ := X
  simp only at hP hnt hnp
  subst hP hnp
  obtain rfl : nt0 = 32 := hnt
  refine aw_region fun K1 hK1 => ?_
  refine aL z_assign ?_
  refine aL z_assign ?_
  refine awl_nil (hK1 _ _ ?_)
  clear hK1 K1
  refine aw_region fun K2 hK2 => ?_
  refine aL z_assign ?_
  refine awl_nil (hK2 _ _ ?_)
  clear hK2 K2
  refine aw_weak (weak_nil (t := 4) 5 4 26 (by decide) (Nat.zero_le _) rfl rfl) ?_
  refine aw_region fun K3 hK3 => ?_
  refine aL z_assign ?_
  refine awl_nil (hK3 _ _ ?_)
  clear hK3 K3
  refine aw_seq fun K4 hK4 => ?_
  refine aw_block ?_
  refine aw_loop (α := {x : List Ak × Nat // allS [] b = allS x.1 (b.drop x.2) ∧ x.2 ≤ b.length ∧ x.1.length ≤ x.2}) (fun x => ([(0, .v (.sl (bs b))), (4, .view 5 0 0 x.1.1.length), (5, .v (.int .i64 (x.1.2 : Int)))], [(5, .row 0 4 26 (akV x.1.1))])) (fun x => b.length - x.1.2) ⟨([], 0), rfl, by simp, by simp⟩ ?_ ?_
  · dsimp only
    exact wK
  · rintro ⟨⟨acc, k⟩, hx, hk, hl⟩ K5 hK5
    dsimp only
    dsimp only at hx hk hl
    refine aw_seq fun K6 hK6 => ?_
    refine aw_region fun K7 hK7 => ?_
    refine aL z_move ?_
    refine aL z_move ?_
    first
      | refine aL (z_lenB Tryz.underlying22) ?_
      | refine aL (z_len Tryz.underlying22) ?_
      | refine aL (z_lenV Tryz.underlying22) ?_
    refine aL z_lss ?_
    refine awl_nil (hK7 _ _ ?_)
    clear hK7 K7
    refine aC (fun r1 c1 => ?_) (fun r1 c1 => ?_)
    · refine aw_skip ?_
      refine hK6 _ _ ?_
      clear hK6
      refine aw_block ?_
      refine aw_region fun K8 hK8 => ?_
      refine aL z_move ?_
      refine aL z_move ?_
      refine aL (z_slice Tryz.underlying22 sz_5 (i := some k) (hlo := .yes (ev_tmp rfl) rfl) (c' := bs (b.drop k)) (hc := by rw [bs_cut, List.take_of_length_le (by simp)]; rfl)) ?_
      obtain ⟨m', t', bd', F, n', e', hD, hR⟩ := takeU (b.drop k)
      have hcT := con_rTake (b := b.drop k) (by rw [List.length_drop]; omega)
      rw [hD] at hcT
      have hbn : ¬ b.drop k = [] := fun e => by have := congrArg List.length e; simp at this; omega
      refine aL (z_call0 (eC .nil) en_7 hcT) ?_
      refine aL z_move ?_
      refine aL z_extract ?_
      refine aL z_extract ?_
      refine aL z_extract ?_
      refine aL (z_alloc 20 zc_26 zl_26) ?_
      refine aL (z_store sz_26) ?_
      refine aL z_assign ?_
      refine aL z_assign ?_
      refine awl_nil (hK8 _ _ ?_)
      clear hK8 K8
      refine aw_seq fun K9 hK9 => ?_
      refine aw_region fun K10 hK10 => ?_
      refine aL z_move ?_
      refine aL z_neq ?_
      refine awl_nil (hK10 _ _ ?_)
      clear hK10 K10
      refine aC (fun r2 c2 => ?_) (fun r2 c2 => ?_)
      · refine aw_region fun K11 hK11 => ?_
        refine aL z_move ?_
        refine aL z_assign ?_
        refine aL z_assign ?_
        refine awl_nil (hK11 _ _ ?_)
        clear hK11 K11
        first
          | (have hq := hx.trans (all_err hbn (show takeA (b.drop k) = .error e' from (by
               rcases hR with ⟨-, h⟩ | ⟨h, -⟩
               · exact h
               · exact absurd h (by assumption))))
             refine aw_ret ?_
             refine (hret _ _ _ _ _ rfl (.tmp rfl (.tmp rfl .nil)) rfl (by rw [hq]; rfl) .nil rfl).1)
          | (have he : b.drop k = [] := List.drop_eq_nil_iff.2 (by omega)
             have hq : allS [] b = .ok acc := by rw [hx, he]; exact all_end acc
             refine aw_weak (weak_settle (fr' := [(2, .v (.sl (akV acc))), (3, .v (.int .i64 0))]) (ah' := []) 5 rfl .nil rfl (.view rfl (cutW (by simp)) (.keep rfl rfl .nil))) ?_
             refine aw_ret ?_
             refine (hret _ _ _ _ _ rfl (.tmp rfl (.tmp rfl .nil)) rfl (by rw [hq]; rfl) .nil rfl).1)
      · refine aw_skip ?_
        refine hK9 _ _ ?_
        clear hK9
        refine aw_region fun K12 hK12 => ?_
        obtain ⟨fs', r', rfl, hT, rfl, hn1, hn2⟩ : ∃ fs r, F = .sl (fdV fs) ∧ takeA (b.drop k) = .ok (⟨m', t', fs, bd'⟩, r) ∧ r = (b.drop k).drop n' ∧ n' ≤ (b.drop k).length ∧ 0 < n' := by
          rcases hR with ⟨h, -⟩ | ⟨-, h⟩
          · exact absurd (by assumption) h
          · exact h
        rw [List.length_drop] at hn1
        refine aL z_move ?_
        first
          | refine aL (z_load sz_26) ?_
          | refine aL (z_loadRef sz_26) ?_
          | refine aL (z_loadV sz_26) ?_
        refine aL (z_lits (pC .nil) Tryz.underlying31 sz_26 zc_26 zl_26 (c := [Ak.vs ⟨m', t', fs', bd'⟩])) ?_
        refine aL (z_app Tryz.underlying31 zi_26 (c' := akV (acc ++ [⟨m', t', fs', bd'⟩])) (hc := akV_snoc rfl) (hb := by simp; omega)) ?_
        refine aL z_assign ?_
        refine awl_nil (hK12 _ _ ?_)
        clear hK12 K12
        refine aw_region_last ?_
        refine aL z_move ?_
        refine aL z_move ?_
        refine aL z_add ?_
        refine aL z_assign ?_
        refine awl_nil ?_
        refine hK5 _ _ ⟨(acc ++ [⟨m', t', fs', bd'⟩], k + n'), by dsimp only; rw [hx, all_on hbn hT, List.drop_drop], by dsimp only; omega, by dsimp only; simp; omega⟩ (by dsimp only; omega) ?_
        exact Weak.trans (weak_rever 5 0 rfl) wK
    · refine aw_exit ?_
      refine hK4 _ _ ?_
      clear hK4
      refine aw_region fun K13 hK13 => ?_
      refine aL z_move ?_
      refine aL z_assign ?_
      refine aL z_assign ?_
      refine awl_nil (hK13 _ _ ?_)
      clear hK13 K13
      first
        | (have hq := hx.trans (all_err hbn (show takeA (b.drop k) = .error e' from (by
             rcases hR with ⟨-, h⟩ | ⟨h, -⟩
             · exact h
             · exact absurd h (by assumption))))
           refine aw_ret ?_
           refine (hret _ _ _ _ _ rfl (.tmp rfl (.tmp rfl .nil)) rfl (by rw [hq]; rfl) .nil rfl).1)
        | (have he : b.drop k = [] := List.drop_eq_nil_iff.2 (by omega)
           have hq : allS [] b = .ok acc := by rw [hx, he]; exact all_end acc
           refine aw_weak (weak_settle (fr' := [(2, .v (.sl (akV acc))), (3, .v (.int .i64 0))]) (ah' := []) 5 rfl .nil rfl (.view rfl (cutW (by simp)) (.keep rfl rfl .nil))) ?_
           refine aw_ret ?_
           refine (hret _ _ _ _ _ rfl (.tmp rfl (.tmp rfl .nil)) rfl (by rw [hq]; rfl) .nil rfl).1)
theorem flds_fs : ∀ (n : Nat) (fs : List Fd) (s r : List UInt8) (fs' : List Fd) (r' : List UInt8), fldsN n fs s r = .ok (fs', r') → fs'.length ≤ fs.length + r.length
  | 0, fs, s, r, _, _, h => by cases h
  | n + 1, fs, s, r, fs', r', h => by
    unfold fldsN at h
    split at h
    · injection h with h; injection h with h _; rw [← h]; omega
    · split at h
      · cases h
      · split at h
        · cases h
        · rename_i hl
          have h1 := flds_fs n _ _ _ _ _ h
          have h2 := ln_len hl
          rw [List.length_append] at h1
          simp only [List.length_cons, List.length_nil] at h1
          omega
theorem take_fs {b r : List UInt8} {a : Ak} (h : takeA b = .ok (a, r)) : a.fs.length ≤ b.length := by
  unfold takeA at h
  split at h
  · cases h
  · rename_i s r0 hl
    split at h
    · cases h
    · unfold hdrM at h
      split at h
      · cases h
      · rename_i s2 r2 hl2
        have e1 := ln_len hl
        have e2 := ln_len hl2
        cases hf : fldsS [] s2 r2 with
        | error e => rw [hf] at h; cases h
        | ok p =>
          obtain ⟨fs, r3⟩ := p
          rw [hf] at h
          have e3 := flds_fs _ _ _ _ _ _ hf
          unfold tailM at h
          simp only at h
          split at h
          · cases h
          · injection h with h; injection h with h _
            rw [← h]
            have e4 : (noM fs [kCL]).length ≤ fs.length := noM_le _ _
            simp only [List.length_nil] at e3
            show (noM fs [kCL]).length ≤ _
            omega
theorem all_fs {M : Nat} : ∀ (n : Nat) (acc : List Ak) (b : List UInt8) (l : List Ak), allN n acc b = .ok l → (∀ a ∈ acc, a.fs.length ≤ M) → b.length ≤ M → ∀ a ∈ l, a.fs.length ≤ M
  | 0, _, _, _, h, _, _ => by cases h
  | n + 1, acc, b, l, h, ha, hb => by
    unfold allN at h
    split at h
    · injection h with h; rw [← h]; exact ha
    · split at h
      · cases h
      · rename_i a r hT
        have h1 := take_fs hT
        have h2 := (take_suf.1 _ _ hT).2
        exact all_fs n _ _ _ h (fun x hx => by
          rcases List.mem_append.1 hx with hx | hx
          · exact ha x hx
          · rw [List.mem_singleton] at hx; subst hx; omega) (by omega)
theorem all_lenA : ∀ (n : Nat) (acc : List Ak) (b : List UInt8) (l : List Ak), allN n acc b = .ok l → l.length ≤ acc.length + b.length
  | 0, _, _, _, h => by cases h
  | n + 1, acc, b, l, h => by
    unfold allN at h
    split at h
    · injection h with h; rw [← h]; omega
    · split at h
      · cases h
      · rename_i a r hT
        have h2 := (take_suf.1 _ _ hT).2
        have h3 := all_lenA n _ _ _ h
        rw [List.length_append] at h3
        simp only [List.length_cons, List.length_nil] at h3
        omega
/-- What both Takes hand back, in one shape. -/
theorem takeW {b : List UInt8} (hb : b.length ≤ 1000000000) : ∃ (a : Ak) (n : Nat) (e : Int), Con Tryz.prog 6 [.v (.sl (bs b))] [] 0 (.ret (.tup [.agg a.cs, .v (.int .i64 (n : Int)), .v (.int .i64 e)])) [] ∧ Con Tryz.prog 7 [.v (.sl (bs b))] [] 0 (.ret (.tup [.agg a.cs, .v (.int .i64 (n : Int)), .v (.int .i64 e)])) [] ∧ a.fs.length ≤ 4398046511104 := by
  have h1 := con_Take hb
  have h2 := con_rTake hb
  cases hT : takeA b with
  | error e =>
    rw [hT] at h1 h2
    have hw : ∀ X : Cx, X.np = 0 → Weak X [(0, takeD b.length (.error e))] [] [(0, .tup [.agg (Ak.cs ⟨[], [], [], []⟩), .v (.int .i64 ((0 : Nat) : Int)), .v (.int .i64 e)])] [] := fun X _ => weak_all none trivial .nil (.cons rfl (.tup (.cons (.agg (.cons (.keep rfl) (.cons (.keep rfl) (.cons .nil (.cons (.keep rfl) .nil))))) (.cons (.keep rfl) (.cons (.keep rfl) .nil)))) .nil)
    exact ⟨⟨[], [], [], []⟩, 0, e, con_weak h1 hw, con_weak h2 hw, Nat.zero_le _⟩
  | ok p =>
    obtain ⟨a, r⟩ := p
    rw [hT] at h1 h2
    have := take_fs hT
    exact ⟨a, b.length - r.length, 0, h1, h2, by omega⟩
/-- What both Alls hand back, in one shape. -/
theorem allW {b : List UInt8} (hb : b.length ≤ 1000000000) : ∃ (l : List Ak) (e : Int), Con Tryz.prog 9 [.v (.sl (bs b))] [] 0 (.ret (.tup [.v (.sl (akV l)), .v (.int .i64 e)])) [] ∧ Con Tryz.prog 10 [.v (.sl (bs b))] [] 0 (.ret (.tup [.v (.sl (akV l)), .v (.int .i64 e)])) [] ∧ (∀ a ∈ l, a.fs.length ≤ 4398046511104) ∧ l.length ≤ 1000000000 := by
  have h1 := con_All14 hb
  have h2 := con_rAll14 hb
  cases hT : allS [] b with
  | error e =>
    rw [hT] at h1 h2
    have hw : ∀ X : Cx, X.np = 0 → Weak X [(0, allD (.error e))] [] [(0, .tup [.v (.sl (akV [])), .v (.int .i64 e)])] [] := fun X _ => weak_all none trivial .nil (.cons rfl (.tup (.cons .nil (.cons (.keep rfl) .nil))) .nil)
    exact ⟨[], e, con_weak h1 hw, con_weak h2 hw, by simp, by simp⟩
  | ok l =>
    rw [hT] at h1 h2
    exact ⟨l, 0, h1, h2, fun a ha => by have := all_fs (M := b.length) _ _ _ _ hT (by simp) (Nat.le_refl _) a ha; omega, by have := all_lenA _ _ _ _ hT; simp only [List.length_nil] at this; omega⟩
end Go.Proofs.YtnjbfiejgiaibaaGreatDoor

/- Chapter 14: AskTakes, walked. No condition. -/
namespace Go.Proofs.YtnjbfiejgiaibaaGreatDoor
set_option linter.all false
open Go Go.RowKit
set_option maxRecDepth 10000
set_option maxHeartbeats 4000000
theorem sameA_rfl (a : Ak) : sameA a a = true := by unfold sameA; simp
theorem con_AskTakes {b : List UInt8} (hb : b.length ≤ 140737488351232) : Con Tryz.prog 3 [.v (.sl (bs b))] [] 0 (.ret (.v (.bool true))) [] := by
  have hbl := bs_length b
  refine con_of Tryz.func3 rfl (by show _ ≤ 91; simp) fun X Q hP hnt hnp hret hpan => ?_
  obtain ⟨P0, nt0, w0, K0, S0, np0, pin0, df0⟩ := X
  simp only at hP hnt hnp
  subst hP hnp
  obtain rfl : nt0 = 91 := hnt
  refine aw_region fun K1 hK1 => ?_
  refine aL z_assign ?_
  refine awl_nil (hK1 _ _ ?_)
  clear hK1 K1
  refine aw_seq fun K2 hK2 => ?_
  refine aw_region fun K3 hK3 => ?_
  refine aL (z_call0 .nil en_5 (con_awake14)) ?_
  refine aL z_not ?_
  refine awl_nil (hK3 _ _ ?_)
  clear hK3 K3
  refine aC (fun r1 c1 => ?_) (fun r1 c1 => ?_)
  · exact absurd c1 (by decide)
  · refine aw_skip ?_
    refine hK2 _ _ ?_
    clear hK2
    refine aw_seq fun K4 hK4 => ?_
    refine aw_region fun K5 hK5 => ?_
    refine aL z_move ?_
    first
      | refine aL (z_lenB Tryz.underlying22) ?_
      | refine aL (z_len Tryz.underlying22) ?_
      | refine aL (z_lenV Tryz.underlying22) ?_
    refine aL z_gtr ?_
    refine awl_nil (hK5 _ _ ?_)
    clear hK5 K5
    refine aC (fun r2 c2 => ?_) (fun r2 c2 => ?_)
    · refine aw_region fun K6 hK6 => ?_
      refine aL z_assign ?_
      refine awl_nil (hK6 _ _ ?_)
      clear hK6 K6
      refine aw_ret ?_
      refine (hret _ _ _ _ _ rfl (.tmp rfl .nil) rfl ?_ .nil rfl).1
      first
        | rfl
        | (simp [sameA_rfl] at *; done)
    · refine aw_skip ?_
      refine hK4 _ _ ?_
      clear hK4
      refine aw_region fun K7 hK7 => ?_
      refine aL (z_row 2 .nil Tryz.underlying22 sz_5 zc_5 zl_5 (c := bs [])) ?_
      refine aL z_move ?_
      first
        | refine aL (z_app Tryz.underlying22 zi_5) ?_
        | refine aL (z_appV Tryz.underlying22 zi_5) ?_
        | refine aL (z_appN 3 Tryz.underlying22 zi_5) ?_
        | refine aL (z_appNV 3 Tryz.underlying22 zi_5) ?_
      refine aL z_assign ?_
      refine awl_nil (hK7 _ _ ?_)
      clear hK7 K7
      refine aw_region fun K8 hK8 => ?_
      have hb3 : b.length ≤ 16384 := by omega
      obtain ⟨a, n, e, hT1, hT2, hfa⟩ := takeW (b := b) (by omega)
      obtain ⟨l, g, hA1, hA2, hfl, hll⟩ := allW (b := b) (by omega)
      have hal := akV_len l
      refine awl_weak (fr' := [(0, .v (.sl (bs b))), (3, .v (.sl (bs b)))]) (ah' := []) (weak_all (some (2, 1, bs b)) ⟨rfl, _, _, rfl⟩ .nil (.cons rfl (.keep rfl) (.cons rfl (.view rfl (cutW (by simp))) .nil))) ?_
      refine aL z_move ?_
      refine aL (z_call0 (eC .nil) en_6 (hT1)) ?_
      refine aL z_move ?_
      refine aL z_extract ?_
      refine aL z_extract ?_
      refine aL z_extract ?_
      refine aL (z_alloc 4 zc_26 zl_26) ?_
      refine aL (z_store sz_26) ?_
      refine aL z_assign ?_
      refine aL z_assign ?_
      refine awl_nil (hK8 _ _ ?_)
      clear hK8 K8
      refine aw_region fun K9 hK9 => ?_
      refine aL z_move ?_
      refine aL (z_call0 (eC .nil) en_7 (hT2)) ?_
      refine aL z_move ?_
      refine aL z_extract ?_
      refine aL z_extract ?_
      refine aL z_extract ?_
      refine aL (z_alloc 5 zc_26 zl_26) ?_
      refine aL (z_store sz_26) ?_
      refine aL z_assign ?_
      refine aL z_assign ?_
      refine awl_nil (hK9 _ _ ?_)
      clear hK9 K9
      refine aw_seq fun K10 hK10 => ?_
      refine aw_region fun K11 hK11 => ?_
      refine aL z_move ?_
      refine aL z_move ?_
      refine aL z_neq ?_
      refine aL z_move ?_
      first
        | refine gL rfl rfl (ev_tmp rfl) (fun hg => z_move) ?_
        | refine hL rfl rfl (ev_tmp rfl) (fun hg => z_move) ?_
      first
        | refine gL rfl rfl (ev_tmp rfl) (fun hg => z_move) ?_
        | refine hL rfl rfl (ev_tmp rfl) (fun hg => z_move) ?_
      first
        | refine gL rfl rfl (ev_tmp rfl) (fun hg => z_neq) ?_
        | refine hL rfl rfl (ev_tmp rfl) (fun hg => z_neq) ?_
      refine aL z_or ?_
      refine aL z_move ?_
      first
        | refine gL rfl rfl (ev_tmp rfl) (fun hg => z_load sz_26) ?_
        | refine gL rfl rfl (ev_tmp rfl) (fun hg => z_loadRef sz_26) ?_
        | refine gL rfl rfl (ev_tmp rfl) (fun hg => z_loadV sz_26) ?_
        | refine hL rfl rfl (ev_tmp rfl) (fun hg => z_load sz_26) ?_
        | refine hL rfl rfl (ev_tmp rfl) (fun hg => z_loadRef sz_26) ?_
        | refine hL rfl rfl (ev_tmp rfl) (fun hg => z_loadV sz_26) ?_
      first
        | refine gL rfl rfl (ev_tmp rfl) (fun hg => z_load sz_26) ?_
        | refine gL rfl rfl (ev_tmp rfl) (fun hg => z_loadRef sz_26) ?_
        | refine gL rfl rfl (ev_tmp rfl) (fun hg => z_loadV sz_26) ?_
        | refine hL rfl rfl (ev_tmp rfl) (fun hg => z_load sz_26) ?_
        | refine hL rfl rfl (ev_tmp rfl) (fun hg => z_loadRef sz_26) ?_
        | refine hL rfl rfl (ev_tmp rfl) (fun hg => z_loadV sz_26) ?_
      first
        | refine gL rfl rfl (ev_tmp rfl) (fun hg => z_call0 (eC (eC .nil)) en_8 (con_rSameA (a := a) (b := a) hfa hfa)) ?_
        | refine gL rfl rfl (ev_tmp rfl) (fun hg => z_call0 (eC (eC .nil)) en_8 (con_rSameA (a := l[k]) (b := l[k]) hk4 hk4)) ?_
        | refine hL rfl rfl (ev_tmp rfl) (fun hg => z_call0 (eC (eC .nil)) en_8 (con_rSameA (a := a) (b := a) hfa hfa)) ?_
        | refine hL rfl rfl (ev_tmp rfl) (fun hg => z_call0 (eC (eC .nil)) en_8 (con_rSameA (a := l[k]) (b := l[k]) hk4 hk4)) ?_
      first
        | refine gL rfl rfl (ev_tmp rfl) (fun hg => z_not) ?_
        | refine hL rfl rfl (ev_tmp rfl) (fun hg => z_not) ?_
      refine aL z_or ?_
      refine awl_nil (hK11 _ _ ?_)
      clear hK11 K11
      refine aC (fun r3 c3 => ?_) (fun r3 c3 => ?_)
      · refine aw_region fun K12 hK12 => ?_
        refine aL z_assign ?_
        refine awl_nil (hK12 _ _ ?_)
        clear hK12 K12
        refine aw_ret ?_
        refine (hret _ _ _ _ _ rfl (.tmp rfl .nil) rfl ?_ .nil rfl).1
        first
          | rfl
          | (simp [sameA_rfl] at *; done)
      · refine aw_skip ?_
        refine hK10 _ _ ?_
        clear hK10
        refine aw_region fun K13 hK13 => ?_
        refine aL z_move ?_
        refine aL (z_call0 (eC .nil) en_9 (hA1)) ?_
        refine aL z_move ?_
        refine aL z_extract ?_
        refine aL z_extract ?_
        refine aL z_assign ?_
        refine aL z_assign ?_
        refine awl_nil (hK13 _ _ ?_)
        clear hK13 K13
        refine aw_region fun K14 hK14 => ?_
        refine aL z_move ?_
        refine aL (z_call0 (eC .nil) en_10 (hA2)) ?_
        refine aL z_move ?_
        refine aL z_extract ?_
        refine aL z_extract ?_
        refine aL z_assign ?_
        refine aL z_assign ?_
        refine awl_nil (hK14 _ _ ?_)
        clear hK14 K14
        refine aw_seq fun K15 hK15 => ?_
        refine aw_region fun K16 hK16 => ?_
        refine aL z_move ?_
        refine aL z_move ?_
        refine aL z_neq ?_
        refine aL z_move ?_
        first
          | refine gL rfl rfl (ev_tmp rfl) (fun hg => z_move) ?_
          | refine hL rfl rfl (ev_tmp rfl) (fun hg => z_move) ?_
        first
          | refine gL rfl rfl (ev_tmp rfl) (fun hg => z_lenB Tryz.underlying31) ?_
          | refine gL rfl rfl (ev_tmp rfl) (fun hg => z_len Tryz.underlying31) ?_
          | refine gL rfl rfl (ev_tmp rfl) (fun hg => z_lenV Tryz.underlying31) ?_
          | refine hL rfl rfl (ev_tmp rfl) (fun hg => z_lenB Tryz.underlying31) ?_
          | refine hL rfl rfl (ev_tmp rfl) (fun hg => z_len Tryz.underlying31) ?_
          | refine hL rfl rfl (ev_tmp rfl) (fun hg => z_lenV Tryz.underlying31) ?_
        first
          | refine gL rfl rfl (ev_tmp rfl) (fun hg => z_move) ?_
          | refine hL rfl rfl (ev_tmp rfl) (fun hg => z_move) ?_
        first
          | refine gL rfl rfl (ev_tmp rfl) (fun hg => z_lenB Tryz.underlying31) ?_
          | refine gL rfl rfl (ev_tmp rfl) (fun hg => z_len Tryz.underlying31) ?_
          | refine gL rfl rfl (ev_tmp rfl) (fun hg => z_lenV Tryz.underlying31) ?_
          | refine hL rfl rfl (ev_tmp rfl) (fun hg => z_lenB Tryz.underlying31) ?_
          | refine hL rfl rfl (ev_tmp rfl) (fun hg => z_len Tryz.underlying31) ?_
          | refine hL rfl rfl (ev_tmp rfl) (fun hg => z_lenV Tryz.underlying31) ?_
        first
          | refine gL rfl rfl (ev_tmp rfl) (fun hg => z_neq) ?_
          | refine hL rfl rfl (ev_tmp rfl) (fun hg => z_neq) ?_
        refine aL z_or ?_
        refine aL z_move ?_
        first
          | refine gL rfl rfl (ev_tmp rfl) (fun hg => z_move) ?_
          | refine hL rfl rfl (ev_tmp rfl) (fun hg => z_move) ?_
        first
          | refine gL rfl rfl (ev_tmp rfl) (fun hg => z_move) ?_
          | refine hL rfl rfl (ev_tmp rfl) (fun hg => z_move) ?_
        first
          | refine gL rfl rfl (ev_tmp rfl) (fun hg => z_call0 (eC (eC .nil)) en_11 (con_bytesEq)) ?_
          | refine hL rfl rfl (ev_tmp rfl) (fun hg => z_call0 (eC (eC .nil)) en_11 (con_bytesEq)) ?_
        first
          | refine gL rfl rfl (ev_tmp rfl) (fun hg => z_not) ?_
          | refine hL rfl rfl (ev_tmp rfl) (fun hg => z_not) ?_
        refine aL z_or ?_
        refine awl_nil (hK16 _ _ ?_)
        clear hK16 K16
        refine aC (fun r4 c4 => ?_) (fun r4 c4 => ?_)
        · refine aw_region fun K17 hK17 => ?_
          refine aL z_assign ?_
          refine awl_nil (hK17 _ _ ?_)
          clear hK17 K17
          refine aw_ret ?_
          refine (hret _ _ _ _ _ rfl (.tmp rfl .nil) rfl ?_ .nil rfl).1
          first
            | rfl
            | (simp [sameA_rfl] at *; done)
        · refine aw_skip ?_
          refine hK15 _ _ ?_
          clear hK15
          refine aw_seq fun K18 hK18 => ?_
          refine aw_region fun K19 hK19 => ?_
          refine aL z_assign ?_
          refine awl_nil (hK19 _ _ ?_)
          clear hK19 K19
          refine aw_block ?_
          refine aw_loop (α := {k : Nat // k ≤ l.length}) (fun x => ([(10, .v (.sl (akV l))), (12, .v (.sl (akV l))), (14, .v (.int .i64 (x.1 : Int)))], [])) (fun x => l.length - x.1) ⟨0, by omega⟩ ?_ ?_
          · dsimp only
            exact wK
          · rintro ⟨k, hk⟩ K20 hK20
            dsimp only
            refine aw_seq fun K21 hK21 => ?_
            refine aw_region fun K22 hK22 => ?_
            refine aL z_move ?_
            refine aL z_move ?_
            first
              | refine aL (z_lenB Tryz.underlying31) ?_
              | refine aL (z_len Tryz.underlying31) ?_
              | refine aL (z_lenV Tryz.underlying31) ?_
            refine aL z_lss ?_
            refine awl_nil (hK22 _ _ ?_)
            clear hK22 K22
            refine aC (fun r5 c5 => ?_) (fun r5 c5 => ?_)
            · refine aw_skip ?_
              refine hK21 _ _ ?_
              clear hK21
              refine aw_seq fun K23 hK23 => ?_
              refine aw_block ?_
              refine aw_regionD mx_all (by kernel_rfl) fun K24 hK24 => ?_
              have hlt : k < l.length := by omega
              have hi := akV_get hlt
              have hk4 : (l[k]).fs.length ≤ 4398046511104 := hfl _ (List.getElem_mem hlt)
              refine aD z_move ?_
              refine aD z_move ?_
              first
                | refine aD (z_indexAddr Tryz.underlying31 sz_26) ?_
                | refine aD (z_indexAddrV Tryz.underlying31 sz_26) ?_
              first
                | refine aD (z_load sz_26) ?_
                | refine aD (z_loadRef sz_26) ?_
                | refine aD (z_loadV sz_26) ?_
              refine aD z_move ?_
              refine aD z_move ?_
              first
                | refine aD (z_indexAddr Tryz.underlying31 sz_26) ?_
                | refine aD (z_indexAddrV Tryz.underlying31 sz_26) ?_
              first
                | refine aD (z_load sz_26) ?_
                | refine aD (z_loadRef sz_26) ?_
                | refine aD (z_loadV sz_26) ?_
              first
                | refine aD (z_call0 (eC (eC .nil)) en_8 (con_rSameA (a := a) (b := a) hfa hfa)) ?_
                | refine aD (z_call0 (eC (eC .nil)) en_8 (con_rSameA (a := l[k]) (b := l[k]) hk4 hk4)) ?_
              refine aD z_not ?_
              refine awd_nil (by kernel_rfl) (hK24 _ _ ?_)
              clear hK24 K24
              refine aC (fun r6 c6 => ?_) (fun r6 c6 => ?_)
              · refine aw_region fun K25 hK25 => ?_
                refine aL z_assign ?_
                refine awl_nil (hK25 _ _ ?_)
                clear hK25 K25
                refine aw_ret ?_
                refine (hret _ _ _ _ _ rfl (.tmp rfl .nil) rfl ?_ .nil rfl).1
                first
                  | rfl
                  | (simp [sameA_rfl] at *; done)
              · refine aw_skip ?_
                refine hK23 _ _ ?_
                clear hK23
                refine aw_region_last ?_
                refine aL z_move ?_
                refine aL z_add ?_
                refine aL z_assign ?_
                refine awl_nil ?_
                refine hK20 _ _ ⟨k + 1, by omega⟩ (by dsimp only; omega) ?_
                dsimp only
                exact wK
            · refine aw_exit ?_
              refine hK18 _ _ ?_
              clear hK18
              refine aw_region fun K26 hK26 => ?_
              refine aL z_assign ?_
              refine awl_nil (hK26 _ _ ?_)
              clear hK26 K26
              refine aw_ret ?_
              refine (hret _ _ _ _ _ rfl (.tmp rfl .nil) rfl ?_ .nil rfl).1
              first
                | rfl
                | (simp [sameA_rfl] at *; done)
end Go.Proofs.YtnjbfiejgiaibaaGreatDoor
