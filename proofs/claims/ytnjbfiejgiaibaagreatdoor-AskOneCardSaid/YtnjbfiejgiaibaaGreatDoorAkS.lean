/- Chapter 14: a request's first line, a field's line, the body. No condition but on lengths. -/
import Derived.Test.YtnjbfiejgiaibaaGreatDoorAkR
import Derived.Test.YtnjbfiejgiaibaaGreatDoorHdGToHdT
import Derived.Test.YtnjbfiejgiaibaaGreatDoorAkPToAkQ
import Derived.Test.YtnjbfiejgiaibaaGreatDoorHpB
namespace Go.Proofs.YtnjbfiejgiaibaaGreatDoor
set_option linter.all false
open Go Go.RowKit
set_option maxRecDepth 10000
set_option maxHeartbeats 4000000
theorem trim_le (l : List UInt8) : (trimM l).length ≤ l.length := by
  rw [trimM_eq']
  have h1 := (List.dropWhile_sublist isBl (l := l)).length_le
  generalize l.dropWhile isBl = m at *
  have h2 : (rdw isBl m).length ≤ m.length := by
    unfold rdw
    have h := (List.dropWhile_sublist isBl (l := m.reverse)).length_le
    rw [List.length_reverse] at h ⊢
    exact h
  omega
/-- The field that a line says. -/
def fieldM (s : List UInt8) : Option Fd := match cutAt 58 s with
  | (n, some v) => if tokenM n = true ∧ valueM (trimM v) = true then some ⟨lowM n, trimM v, false⟩ else none
  | (_, none) => none
theorem con_cutE {s : List UInt8} {c : UInt8} {a b : List UInt8} {ok : Bool} (hs : s.length < 4294967281) (h : Lib.cut s [c] = (a, b, ok)) : Con Tryz.prog 53 [.v (.str s), .v (.str [c])] [] 0 (.ret (.tup [.v (.str a), .v (.str b), .v (.bool ok)])) [] := by
  have := con_sCut (s := s) (r := [c]) hs
  rw [h] at this; exact this
theorem cut_lens {s : List UInt8} {c : UInt8} {a b : List UInt8} {ok : Bool} (h : Lib.cut s [c] = (a, b, ok)) : a.length ≤ s.length ∧ b.length ≤ s.length := by
  unfold Lib.cut at h
  split at h
  · injection h with h1 h; injection h with h2 h3
    rw [← h1, ← h2]; simp; omega
  · injection h with h1 h; injection h with h2 h3
    rw [← h1, ← h2]; simp
theorem field_cut {s a b : List UInt8} {ok : Bool} (h : Lib.cut s [58] = (a, b, ok)) : fieldM s = if ok = true ∧ tokenM a = true ∧ valueM (trimM b) = true then some ⟨lowM a, trimM b, false⟩ else none := by
  rw [cut_one] at h
  unfold fieldM
  cases hq : cutAt 58 s with
  | mk m o =>
    rw [hq] at h
    cases o with
    | none =>
      injection h with h1 h; injection h with h2 h3
      subst h1 h2 h3
      rw [if_neg (by simp)]
    | some r =>
      injection h with h1 h; injection h with h2 h3
      subst h1 h2 h3
      simp only [true_and]
theorem con_fieldO {s : List UInt8} {f : Fd} (hs : s.length ≤ 1000000000) (h : fieldM s = some f) : Con Tryz.prog 20 [.v (.str s)] [] 0 (.ret (.agg f.cs)) [] := by
  obtain ⟨a, b, ok, hc⟩ : ∃ a b ok, Lib.cut s [58] = (a, b, ok) := ⟨_, _, _, rfl⟩
  obtain ⟨la, lb⟩ := cut_lens hc
  rw [field_cut hc] at h
  split at h
  · rename_i hq
    obtain ⟨q1, q2, q3⟩ := hq
    injection h with h
    subst h
    have ht := trim_le b
    refine con_of Tryz.func20 rfl (by show _ ≤ 32; simp) fun X Q hP hnt hnp hret hpan => ?_
    obtain ⟨P0, nt0, w0, K0, S0, np0, pin0, df0⟩ := X
    simp only at hP hnt hnp
    subst hP hnp
    obtain rfl : nt0 = 32 := hnt
    refine aw_region fun K1 hK1 => ?_
    refine aL (z_alloc 0 zc_46 zl_46) ?_
    refine awl_nil (hK1 _ _ ?_)
    clear hK1 K1
    refine aw_region fun K2 hK2 => ?_
    refine aL z_move ?_
    refine aL (z_call0 (eC (eC .nil)) en_53 (con_cutE (by omega) hc)) ?_
    refine aL z_move ?_
    refine aL z_extract ?_
    refine aL z_extract ?_
    refine aL z_extract ?_
    refine aL z_assign ?_
    refine aL z_assign ?_
    refine aL z_assign ?_
    refine awl_nil (hK2 _ _ ?_)
    clear hK2 K2
    refine aw_region fun K3 hK3 => ?_
    refine aL z_move ?_
    refine aL (z_call0 (eC .nil) en_54 (con_TrimO (l := b) (by unfold maxLen; omega))) ?_
    refine aL z_assign ?_
    refine awl_nil (hK3 _ _ ?_)
    clear hK3 K3
    refine aw_seq fun K4 hK4 => ?_
    refine aw_region fun K5 hK5 => ?_
    refine aL z_move ?_
    refine aL z_not ?_
    refine aL z_move ?_
    first
      | refine gL rfl rfl (ev_tmp rfl) (fun hg => z_move) ?_
      | refine hL rfl rfl (ev_tmp rfl) (fun hg => z_move) ?_
    first
      | refine gL rfl rfl (ev_tmp rfl) (fun hg => z_call0 (eC .nil) en_47 (con_Token (l := a) (by unfold maxLen; omega))) ?_
      | refine hL rfl rfl (ev_tmp rfl) (fun hg => z_call0 (eC .nil) en_47 (con_Token (l := a) (by unfold maxLen; omega))) ?_
    first
      | refine gL rfl rfl (ev_tmp rfl) (fun hg => z_not) ?_
      | refine hL rfl rfl (ev_tmp rfl) (fun hg => z_not) ?_
    refine aL z_or ?_
    refine aL z_move ?_
    first
      | refine gL rfl rfl (ev_tmp rfl) (fun hg => z_move) ?_
      | refine hL rfl rfl (ev_tmp rfl) (fun hg => z_move) ?_
    first
      | refine gL rfl rfl (ev_tmp rfl) (fun hg => z_call0 (eC .nil) en_55 (con_Value (l := trimM b) (by unfold maxLen; omega))) ?_
      | refine hL rfl rfl (ev_tmp rfl) (fun hg => z_call0 (eC .nil) en_55 (con_Value (l := trimM b) (by unfold maxLen; omega))) ?_
    first
      | refine gL rfl rfl (ev_tmp rfl) (fun hg => z_not) ?_
      | refine hL rfl rfl (ev_tmp rfl) (fun hg => z_not) ?_
    refine aL z_or ?_
    refine awl_nil (hK5 _ _ ?_)
    clear hK5 K5
    refine aC (fun r1 c1 => ?_) (fun r1 c1 => ?_)
    · rw [q1, q2, q3] at r1; cases r1
    · refine aw_skip ?_
      refine hK4 _ _ ?_
      clear hK4
      refine aw_region fun K6 hK6 => ?_
      refine aL z_move ?_
      refine aL (z_call0 (eC .nil) en_56 (con_Lower (l := a) (by omega))) ?_
      refine aL z_move ?_
      refine aL (z_build (pC (pC .nil)) pl_46 zc_46 zl_46) ?_
      refine aL (z_store sz_46) ?_
      refine awl_nil (hK6 _ _ ?_)
      clear hK6 K6
      refine aw_ret ?_
      refine (hret _ _ _ _ _ rfl (rCe sz_46 .nil) rfl ?_ .nil rfl).1
      rfl
  · cases h
theorem con_fieldE {s : List UInt8} (hs : s.length ≤ 1000000000) (h : fieldM s = none) : Con Tryz.prog 20 [.v (.str s)] [] 0 (.pan (.v (.lit (fltV 150)))) [] := by
  obtain ⟨a, b, ok, hc⟩ : ∃ a b ok, Lib.cut s [58] = (a, b, ok) := ⟨_, _, _, rfl⟩
  obtain ⟨la, lb⟩ := cut_lens hc
  rw [field_cut hc] at h
  split at h
  · cases h
  · rename_i hq
    have ht := trim_le b
    have hB : (!ok || !tokenM a || !valueM (trimM b)) = true := by
      cases ok <;> cases h1 : tokenM a <;> cases h2 : valueM (trimM b) <;> simp_all
    refine con_of Tryz.func20 rfl (by show _ ≤ 32; simp) fun X Q hP hnt hnp hret hpan => ?_
    obtain ⟨P0, nt0, w0, K0, S0, np0, pin0, df0⟩ := X
    simp only at hP hnt hnp
    subst hP hnp
    obtain rfl : nt0 = 32 := hnt
    refine aw_region fun K1 hK1 => ?_
    refine aL (z_alloc 0 zc_46 zl_46) ?_
    refine awl_nil (hK1 _ _ ?_)
    clear hK1 K1
    refine aw_region fun K2 hK2 => ?_
    refine aL z_move ?_
    refine aL (z_call0 (eC (eC .nil)) en_53 (con_cutE (by omega) hc)) ?_
    refine aL z_move ?_
    refine aL z_extract ?_
    refine aL z_extract ?_
    refine aL z_extract ?_
    refine aL z_assign ?_
    refine aL z_assign ?_
    refine aL z_assign ?_
    refine awl_nil (hK2 _ _ ?_)
    clear hK2 K2
    refine aw_region fun K3 hK3 => ?_
    refine aL z_move ?_
    refine aL (z_call0 (eC .nil) en_54 (con_TrimO (l := b) (by unfold maxLen; omega))) ?_
    refine aL z_assign ?_
    refine awl_nil (hK3 _ _ ?_)
    clear hK3 K3
    refine aw_seq fun K4 hK4 => ?_
    refine aw_region fun K5 hK5 => ?_
    refine aL z_move ?_
    refine aL z_not ?_
    refine aL z_move ?_
    first
      | refine gL rfl rfl (ev_tmp rfl) (fun hg => z_move) ?_
      | refine hL rfl rfl (ev_tmp rfl) (fun hg => z_move) ?_
    first
      | refine gL rfl rfl (ev_tmp rfl) (fun hg => z_call0 (eC .nil) en_47 (con_Token (l := a) (by unfold maxLen; omega))) ?_
      | refine hL rfl rfl (ev_tmp rfl) (fun hg => z_call0 (eC .nil) en_47 (con_Token (l := a) (by unfold maxLen; omega))) ?_
    first
      | refine gL rfl rfl (ev_tmp rfl) (fun hg => z_not) ?_
      | refine hL rfl rfl (ev_tmp rfl) (fun hg => z_not) ?_
    refine aL z_or ?_
    refine aL z_move ?_
    first
      | refine gL rfl rfl (ev_tmp rfl) (fun hg => z_move) ?_
      | refine hL rfl rfl (ev_tmp rfl) (fun hg => z_move) ?_
    first
      | refine gL rfl rfl (ev_tmp rfl) (fun hg => z_call0 (eC .nil) en_55 (con_Value (l := trimM b) (by unfold maxLen; omega))) ?_
      | refine hL rfl rfl (ev_tmp rfl) (fun hg => z_call0 (eC .nil) en_55 (con_Value (l := trimM b) (by unfold maxLen; omega))) ?_
    first
      | refine gL rfl rfl (ev_tmp rfl) (fun hg => z_not) ?_
      | refine hL rfl rfl (ev_tmp rfl) (fun hg => z_not) ?_
    refine aL z_or ?_
    refine awl_nil (hK5 _ _ ?_)
    clear hK5 K5
    refine aC (fun r1 c1 => ?_) (fun r1 c1 => ?_)
    · refine aw_region_last ?_
      refine aL (z_build (pC .nil) pl_49 zc_49 zl_49) ?_
      refine aL (z_iface Tryz.underlying49) ?_
      refine awl_panic ?_
      exact hpan _ _ _ rfl .nil rfl
    · rw [hB] at r1; cases r1
end Go.Proofs.YtnjbfiejgiaibaaGreatDoor
