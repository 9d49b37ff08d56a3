/- Chapter 15: a line is whole. No condition but on lengths. -/
import Derived.Test.YthflfnehdlpmdaaDoorRpG
namespace Go.Proofs.YthflfnehdlpmdaaDoor
set_option linter.all false
open Go Go.RowKit
set_option maxRecDepth 10000
set_option maxHeartbeats 4000000
def Rd1.isE : Rd1 → Bool
  | .err _ => true
  | _ => false
def Rd1.txt : Rd1 → List UInt8
  | .line t _ => t
  | _ => []
def Rd1.whole : Rd1 → Bool
  | .line _ _ => true
  | _ => false
def Rd1.ln : Rd1 → List UInt8
  | .more l => l
  | _ => []
def Rd1.at_ (all : List UInt8) : Rd1 → Nat
  | .line _ r => all.length - r.length
  | _ => all.length
/-- read, where it does not fail. -/
theorem con_readTU {s : Ps} {all : List UInt8} {at0 : Nat} {h : Hs} {R : Rd1} (hne : R.isE = false) (ho : s.ended = false) (hn : s.ln.length ≤ 4097) (hn2 : s.ln.length = 4097 → half s.ln = true) (ha : all.length ≤ 1000000000) (hat : at0 ≤ all.length) (hR : rdM s.ln (all.drop at0) = R) :
    Con Tryd.prog 23 [.ptr 0 0, .ptr 3 0] (rAB true s 0 all (at0 : Int) h true) 4 (.ret (.tup [.v (.str R.txt), .v (.bool R.whole)])) (rAB true (s.line R.ln) 1 all ((R.at_ all : Nat) : Int) h R.whole) := by
  have h := con_readT (h := h) ho hn hn2 ha hat hR
  cases R with
  | err e => cases hne
  | more l => exact h
  | line t r => exact h
theorem con_readFU {s : Ps} {all : List UInt8} {at0 : Nat} {h : Hs} {R : Rd1} (hne : R.isE = false) (ho : s.ended = false) (hn : s.ln.length ≤ 4097) (hn2 : s.ln.length = 4097 → half s.ln = true) (ha : all.length ≤ 1000000000) (hat : at0 ≤ all.length) (hR : rdM s.ln (all.drop at0) = R) :
    Con Tryd.prog 23 [.ptr 0 0, .ptr 3 0] (rAB false s 0 all (at0 : Int) h true) 4 (.ret (.tup [.v (.str R.txt), .v (.bool R.whole)])) (rAB false (s.line R.ln) 1 all ((R.at_ all : Nat) : Int) h R.whole) := by
  have h := con_readF (h := h) ho hn hn2 ha hat hR
  cases R with
  | err e => cases hne
  | more l => exact h
  | line t r => exact h
theorem rd_cases (R : Rd1) : (∃ e, R = .err e) ∨ R.isE = false := by
  cases R with
  | err e => exact .inl ⟨e, rfl⟩
  | more l => exact .inr rfl
  | line t r => exact .inr rfl
theorem rd_more {R : Rd1} (h : R.isE = false) (hw : R.whole = false) : ∃ l, R = .more l := by
  cases R with
  | err e => cases h
  | more l => exact ⟨l, rfl⟩
  | line t r => cases hw
theorem rd_whole {R : Rd1} (h : R.isE = false) (hw : R.whole = true) : ∃ t r, R = .line t r := by
  cases R with
  | err e => cases h
  | more l => cases hw
  | line t r => exact ⟨t, r, rfl⟩
theorem con_Hex {l : List UInt8} (hl : l.length ≤ maxLen) : Con Tryd.prog 65 [.v (.str l)] [] 0 (.ret (.tup [.v (.int .i64 (numV 16 l)), .v (.int .i64 (numE 16 l))])) [] :=
  con_pure fun G w us _ hA => by
    obtain rfl := es1 hA
    refine (hex_any (S l) w (by rw [S_size]; exact hl)).mono fun e w' ⟨he, hw⟩ => ?_
    subst hw
    exact ⟨_, he, fun m => by rw [S_toList]; exact .tup _ [.int .i64 (numV 16 l), .int .i64 (numE 16 l)] rfl (RepDs.cons (mk_int _ _) (.cons (mk_int _ _) .nil)).2, Below.refl _ _⟩
theorem con_chunk {s : Ps} {all : List UInt8} {at0 : Nat} {h : Hs} {R : Except Int Nx} (hk : s.k = .chunk) (hok : s.ok) (he : s.ended = false) (ha : all.length ≤ 1000000000) (hat : at0 < all.length) (hR : nextM s h (all.drop at0) = R) :
    Con Tryd.prog 52 [.ptr 0 0, .ptr 3 0] (rAH s 0 all (at0 : Int) h true) 4 (nxOut R) (nxPost all R) := by
  have hrl := rd_len (all.drop at0) s.ln hok.len hok.last
  have h1 := hok.len
  have h2 := hok.last
  have hR2 : nextL s h (all.drop at0) = R := by rw [← hR]; unfold nextM; rw [hk]
  obtain ⟨R1, hq⟩ : ∃ R1, rdM s.ln (all.drop at0) = R1 := ⟨_, rfl⟩
  unfold nextL at hR2
  rw [hq] at hR2 hrl
  have hce := fun e (hx : R1 = .err e) => con_readF (s := s) (h := h) (R := .err e) he h1 h2 ha (Nat.le_of_lt hat) (by rw [hq, hx])
  have hcu := fun (hne : R1.isE = false) => con_readFU (s := s) (h := h) hne he h1 h2 ha (Nat.le_of_lt hat) hq
  obtain ⟨hd, kk, ln, st, old, fs, many, need, ended, toEnd⟩ := s
  obtain ⟨hh, hst, hfs, hdt, hfin⟩ := h
  simp only at hk he h1 h2
  subst hk he
  refine con_of Tryd.func52 rfl (by show _ ≤ 56; simp) fun X Q hP hnt hnp hret hpan => ?_
  obtain ⟨P0, nt0, w0, K0, S0, np0, pin0, df0⟩ := X
  simp only at hP hnt hnp
  subst hP hnp
  obtain rfl : nt0 = 56 := hnt
  refine aw_region fun K1 hK1 => ?_
  refine aL z_move ?_
  refine aL z_move ?_
  rcases rd_cases R1 with ⟨e, hx⟩ | hne
  · subst hx
    subst hR2
    refine awl_callP [0, 1, 2, 3] (eC (eC .nil)) en_23 (hce e rfl) (pA (pA (pA (pA .nil)))) ?_
    exact hpan _ _ _ rfl (.box rfl rfl (.row rfl (.row rfl (.box rfl rfl .nil)))) rfl
  refine aL (z_callG [0, 1, 2, 3] (eC (eC .nil)) en_23 (hcu hne) (pA (pA (pA (pA .nil))))) ?_
  refine aL z_move ?_
  refine aL z_extract ?_
  refine aL z_extract ?_
  refine aL z_assign ?_
  refine aL z_assign ?_
  refine awl_nil (hK1 _ _ ?_)
  clear hK1 K1
  refine aw_seq fun K2 hK2 => ?_
  refine aw_region fun K3 hK3 => ?_
  refine aL z_move ?_
  refine aL z_not ?_
  refine awl_nil (hK3 _ _ ?_)
  clear hK3 K3
  refine aC (fun r1 c1 => ?_) (fun r1 c1 => ?_)
  · obtain ⟨l, rfl⟩ := rd_more hne (by simpa using r1)
    subst hR2
    refine aw_ret ?_
    refine (hret _ _ _ _ _ rfl .nil rfl ?_ (.box rfl rfl (.row rfl (.row rfl (.box rfl rfl .nil)))) rfl).1
    rfl
  · refine aw_skip ?_
    refine hK2 _ _ ?_
    clear hK2
    refine aw_region fun K4 hK4 => ?_
    obtain ⟨t, r, rfl⟩ := rd_whole hne (by simpa using r1)
    obtain ⟨tl, -⟩ : t.length ≤ 4096 ∧ r.length < (all.drop at0).length := hrl
    obtain ⟨a, b, ok, hc⟩ : ∃ a b ok, cutM 59 t = (a, b, ok) := ⟨_, _, _, rfl⟩
    obtain ⟨la, lb⟩ : a.length ≤ t.length ∧ b.length ≤ t.length := by have := cutM_len 59 t; rw [hc] at this; exact this
    have hX : onLine ⟨hd, .chunk, ln, st, old, fs, many, need, false, toEnd⟩ ⟨hh, hst, hfs, hdt, hfin⟩ t = if ¬ numE 16 a = 0 ∨ 2147483647 < numV 16 a then .error 152 else .ok (⟨hd, if numV 16 a = 0 then .trailer else .data, [], st, old, fs, 0, numV 16 a, false, toEnd⟩, ⟨hh, hst, hfs, hdt, hfin⟩) := by show onChunk _ _ _ = _; unfold onChunk; rw [hc]
    simp only at hR2
    rw [hX] at hR2
    refine aL z_move ?_
    refine aL (z_call0 (eC (eC .nil)) en_24 (con_cutC (by show t.length < _; omega) hc)) ?_
    refine aL z_move ?_
    refine aL z_extract ?_
    refine aL z_extract ?_
    refine aL z_extract ?_
    refine aL z_assign ?_
    refine aL z_assign ?_
    refine aL z_assign ?_
    refine awl_nil (hK4 _ _ ?_)
    clear hK4 K4
    refine aw_region fun K5 hK5 => ?_
    refine aL z_move ?_
    refine aL (z_call0 (eC .nil) en_65 (con_Hex (l := a) (by unfold maxLen; omega))) ?_
    refine aL z_move ?_
    refine aL z_extract ?_
    refine aL z_extract ?_
    refine aL z_assign ?_
    refine aL z_assign ?_
    refine awl_nil (hK5 _ _ ?_)
    clear hK5 K5
    refine aw_seq fun K6 hK6 => ?_
    refine aw_region fun K7 hK7 => ?_
    refine aL z_move ?_
    refine aL z_neq ?_
    refine aL z_move ?_
    refine gL rfl rfl (ev_tmp rfl) (fun hg => z_move) ?_
    refine gL rfl rfl (ev_tmp rfl) (fun hg => z_gtr) ?_
    refine aL z_or ?_
    refine awl_nil (hK7 _ _ ?_)
    clear hK7 K7
    refine aC (fun r2 c2 => ?_) (fun r2 c2 => ?_)
    · refine aw_region_last ?_
      refine awl_weak (weak_pan rfl rfl rfl rfl) ?_
      refine awl_callP [] (eC .nil) en_28 (con_fail (e := 152)) .nil ?_
      rw [if_pos c2] at hR2
      subst hR2
      exact hpan _ _ _ rfl (.box rfl rfl (.row rfl (.row rfl (.box rfl rfl .nil)))) rfl
    · refine aw_skip ?_
      refine hK6 _ _ ?_
      clear hK6
      refine aw_region fun K8 hK8 => ?_
      refine aL z_move ?_
      refine aL z_move ?_
      refine aL z_move ?_
      refine aL z_move ?_
      refine aL z_move ?_
      refine aL (z_makeFn (eC .nil) .nil) ?_
      refine aL z_nilCheck ?_
      refine aL (z_fieldAddr fo_54_7) ?_
      refine aL (z_store sz_2) ?_
      refine aL z_nilCheck ?_
      refine aL (z_fieldAddr fo_54_6) ?_
      refine aL (z_store sz_3) ?_
      refine aL z_nilCheck ?_
      refine aL (z_fieldAddr fo_54_1) ?_
      refine aL (z_store sz_52) ?_
      refine awl_nil (hK8 _ _ ?_)
      clear hK8 K8
      refine aw_region fun K9 hK9 => ?_
      refine aL z_move ?_
      refine aL z_eql ?_
      refine awl_nil (hK9 _ _ ?_)
      clear hK9 K9
      refine aC (fun r3 c3 => ?_) (fun r3 c3 => ?_)
      · refine aw_region_last ?_
        refine aL z_move ?_
        refine aL z_move ?_
        refine aL (z_makeFn (eC .nil) .nil) ?_
        refine aL z_nilCheck ?_
        refine aL (z_fieldAddr fo_54_1) ?_
        refine aL (z_store sz_52) ?_
        refine awl_nil ?_
        rw [if_neg (fun q => by omega)] at hR2
        first
          | (rw [if_pos c3] at hR2
             subst hR2)
          | (rw [if_neg c3] at hR2
             subst hR2)
        refine (hret _ _ _ _ _ rfl .nil rfl ?_ (.box rfl rfl (.row rfl (.row rfl (.box rfl rfl .nil)))) rfl).2
        rfl
      · refine aw_skip ?_
        rw [if_neg (fun q => by omega)] at hR2
        first
          | (rw [if_pos c3] at hR2
             subst hR2)
          | (rw [if_neg c3] at hR2
             subst hR2)
        refine (hret _ _ _ _ _ rfl .nil rfl ?_ (.box rfl rfl (.row rfl (.row rfl (.box rfl rfl .nil)))) rfl).2
        rfl
end Go.Proofs.YthflfnehdlpmdaaDoor
