/- Layer 10: lists compared and measured; the document's Trailer, Answer, ReadAnswer. No condition. -/
import Derived.Test.YtipmegjhlkhklaaDoorHdS
namespace Go.Proofs.YtipmegjhlkhklaaDoor
set_option linter.all false
open Go Go.RowKit
set_option maxRecDepth 10000
set_option maxHeartbeats 4000000
theorem eqF (f g : Fd) : eqXs f.vs g.vs = decide (f = g) := by
  rw [Bool.eq_iff_iff, decide_eq_true_iff]
  simp only [Fd.vs, eqXs, eqX, Bool.and_eq_true, beq_iff_eq, and_true]
  exact ⟨fun h => Fd.ext' h.1 h.2.1 h.2.2, fun h => by subst h; exact ⟨rfl, rfl, rfl⟩⟩
theorem take_eq_succ {a b : List Fd} {q : Nat} (ha : q < a.length) (hb : q < b.length) (h : a.take q = b.take q) (he : a[q] = b[q]) : a.take (q + 1) = b.take (q + 1) := by
  rw [take_succ' ha, take_succ' hb, h, he]
theorem con_Fields {a b : List Fd} (ha : a.length ≤ 4398046511104) (hb : b.length ≤ 4398046511104) : Con Tryd.prog 16 [.v (.sl (fdV a)), .v (.sl (fdV b))] [] 0 (.ret (.v (.bool (decide (a = b))))) [] := by
  have hfa := fdV_len a
  have hfb := fdV_len b
  refine con_of Tryd.func16 rfl (by show _ ≤ 26; simp) fun X Q hP hnt hnp hret hpan => ?_
  obtain ⟨P0, nt0, w0, K0, S0, np0, pin0⟩ := X
  simp only at hP hnt hnp
  subst hP hnp
  obtain rfl : nt0 = 26 := hnt
  refine aw_region fun K1 hK1 => ?_
  refine aL z_assign ?_
  refine awl_nil (hK1 _ _ ?_)
  clear hK1 K1
  refine aw_seq fun K2 hK2 => ?_
  refine aw_region fun K3 hK3 => ?_
  refine aL z_move ?_
  refine aL (z_len Tryd.underlying22) ?_
  refine aL z_move ?_
  refine aL (z_len Tryd.underlying22) ?_
  refine aL z_neq ?_
  refine awl_nil (hK3 _ _ ?_)
  clear hK3 K3
  refine aC (fun r1 c1 => ?_) (fun r1 c1 => ?_)
  · refine aw_region fun K4 hK4 => ?_
    refine aL z_assign ?_
    refine awl_nil (hK4 _ _ ?_)
    clear hK4 K4
    refine aw_ret ?_
    refine (hret _ _ _ _ _ rfl (.tmp rfl .nil) rfl ?_ .nil rfl).1
    (have he : ¬ a = b := (fun h => by subst h; omega); rw [decide_eq_false he]; rfl)
  · refine aw_skip ?_
    refine hK2 _ _ ?_
    clear hK2
    refine aw_seq fun K5 hK5 => ?_
    refine aw_region fun K6 hK6 => ?_
    refine aL z_assign ?_
    refine awl_nil (hK6 _ _ ?_)
    clear hK6 K6
    refine aw_block ?_
    refine aw_loop (α := {x : Nat // x ≤ a.length ∧ a.take x = b.take x}) (fun x => ([(0, .v (.sl (fdV a))), (1, .v (.sl (fdV b))), (5, .v (.int .i64 (x.1 : Int)))], [])) (fun x => a.length - x.1) ⟨0, by omega, rfl⟩ ?_ ?_
    · dsimp only
      exact wK
    · rintro ⟨q, hq, ht⟩ K7 hK7
      dsimp only
      refine aw_seq fun K8 hK8 => ?_
      refine aw_region fun K9 hK9 => ?_
      refine aL z_move ?_
      refine aL z_move ?_
      refine aL (z_len Tryd.underlying22) ?_
      refine aL z_lss ?_
      refine awl_nil (hK9 _ _ ?_)
      clear hK9 K9
      refine aC (fun r2 c2 => ?_) (fun r2 c2 => ?_)
      · refine aw_skip ?_
        refine hK8 _ _ ?_
        clear hK8
        refine aw_seq fun K10 hK10 => ?_
        refine aw_block ?_
        refine aw_regionD mx_all (by kernel_rfl) fun K11 hK11 => ?_
        have hla : q < a.length := by omega
        have hlb : q < b.length := by omega
        have hi := fdV_get hla
        have hi2 := fdV_get hlb
        refine aD z_move ?_
        refine aD z_move ?_
        refine aD (z_indexAddr Tryd.underlying22 sz_34) ?_
        refine aD (z_loadRef sz_34) ?_
        refine aD z_move ?_
        refine aD z_move ?_
        refine aD (z_indexAddr Tryd.underlying22 sz_34) ?_
        refine aD (z_loadRef sz_34) ?_
        refine aD (z_neqA sk_34) ?_
        refine awd_nil (by kernel_rfl) (hK11 _ _ ?_)
        clear hK11 K11
        refine aC (fun r3 c3 => ?_) (fun r3 c3 => ?_)
        · refine aw_region fun K12 hK12 => ?_
          refine aL z_assign ?_
          refine awl_nil (hK12 _ _ ?_)
          clear hK12 K12
          refine aw_ret ?_
          refine (hret _ _ _ _ _ rfl (.tmp rfl .nil) rfl ?_ .nil rfl).1
          (have he : ¬ a = b := (fun h => by have h2 := c3; rw [eqF] at h2; subst h; simp at h2); rw [decide_eq_false he]; rfl)
        · refine aw_skip ?_
          refine hK10 _ _ ?_
          clear hK10
          refine aw_region_last ?_
          refine aL z_move ?_
          refine aL z_add ?_
          refine aL z_assign ?_
          refine awl_nil ?_
          have he : a[q] = b[q] := (by have h := c3; rw [eqF, decide_eq_true_iff] at h; exact h)
          refine hK7 _ _ ⟨q + 1, by omega, take_eq_succ hla hlb ht he⟩ (by dsimp only; omega) ?_
          dsimp only
          exact wK
      · refine aw_exit ?_
        refine hK5 _ _ ?_
        clear hK5
        refine aw_region fun K13 hK13 => ?_
        refine aL z_assign ?_
        refine awl_nil (hK13 _ _ ?_)
        clear hK13 K13
        refine aw_ret ?_
        refine (hret _ _ _ _ _ rfl (.tmp rfl .nil) rfl ?_ .nil rfl).1
        (have he : a = b := (by have hx : q = a.length := (by omega); subst hx; rw [List.take_length, List.take_of_length_le (by omega)] at ht; exact ht); rw [decide_eq_true he]; rfl)
theorem byM_at {l : List Fd} {q n : Nat} (h : q < l.length) : byM n (l.drop q) = byM (if n < 1073741824 then n + (l[q]).n.length + (l[q]).v.length + 32 else n) (l.drop (q + 1)) := by
  rw [List.drop_eq_getElem_cons h, byM]
def byI (n : Nat) (l : List Fd) (B : Nat) : Prop := byM n l = B
theorem byI_yes {l : List Fd} {q n B : Nat} (h : q < l.length) (hn : n < 1073741824) (hb : byI n (l.drop q) B) : byI (n + (l[q]).n.length + (l[q]).v.length + 32) (l.drop (q + 1)) B := by unfold byI at *; rw [byM_at h, if_pos hn] at hb; exact hb
theorem byI_no {l : List Fd} {q n B : Nat} (h : q < l.length) (hn : ¬ n < 1073741824) (hb : byI n (l.drop q) B) : byI n (l.drop (q + 1)) B := by unfold byI at *; rw [byM_at h, if_neg hn] at hb; exact hb
theorem con_Bytes {l : List Fd} (hl : l.length ≤ 4398046511104) (hf : ∀ f ∈ l, f.n.length ≤ 140737488351232 ∧ f.v.length ≤ 140737488351232) : Con Tryd.prog 10 [.v (.sl (fdV l))] [] 0 (.ret (.v (.int .i64 (byM 0 l : Nat)))) [] := by
  have hfl := fdV_len l
  generalize hB : byM 0 l = B
  replace hB : byI 0 l B := hB
  refine con_of Tryd.func10 rfl (by show _ ≤ 30; simp) fun X Q hP hnt hnp hret hpan => ?_
  obtain ⟨P0, nt0, w0, K0, S0, np0, pin0⟩ := X
  simp only at hP hnt hnp
  subst hP hnp
  obtain rfl : nt0 = 30 := hnt
  refine aw_region fun K1 hK1 => ?_
  refine aL z_assign ?_
  refine awl_nil (hK1 _ _ ?_)
  clear hK1 K1
  refine aw_region fun K2 hK2 => ?_
  refine aL z_assign ?_
  refine awl_nil (hK2 _ _ ?_)
  clear hK2 K2
  refine aw_seq fun K3 hK3 => ?_
  refine aw_region fun K4 hK4 => ?_
  refine aL z_assign ?_
  refine awl_nil (hK4 _ _ ?_)
  clear hK4 K4
  refine aw_block ?_
  refine aw_loop (α := {x : Nat × Nat // x.1 ≤ l.length ∧ x.2 ≤ 1000000000000000 ∧ byI x.2 (l.drop x.1) B}) (fun x => ([(0, .v (.sl (fdV l))), (3, .v (.int .i64 (x.1.2 : Int))), (4, .v (.int .i64 (x.1.1 : Int)))], [])) (fun x => l.length - x.1.1) ⟨(0, 0), by omega, by omega, hB⟩ ?_ ?_
  · dsimp only
    exact wK
  · rintro ⟨⟨q, n⟩, hq, hn, hb⟩ K5 hK5
    dsimp only
    dsimp only at hq hn hb
    refine aw_seq fun K6 hK6 => ?_
    refine aw_region fun K7 hK7 => ?_
    refine aL z_move ?_
    refine aL z_move ?_
    refine aL (z_len Tryd.underlying22) ?_
    refine aL z_lss ?_
    refine awl_nil (hK7 _ _ ?_)
    clear hK7 K7
    refine aC (fun r1 c1 => ?_) (fun r1 c1 => ?_)
    · refine aw_skip ?_
      refine hK6 _ _ ?_
      clear hK6
      refine aw_seq fun K8 hK8 => ?_
      refine aw_block ?_
      refine aw_region fun K9 hK9 => ?_
      have hlt : q < l.length := by omega
      have hi := fdV_get hlt
      obtain ⟨hz1, hz2⟩ := hf _ (List.getElem_mem hlt)
      refine aL z_move ?_
      refine aL z_lss ?_
      refine awl_nil (hK9 _ _ ?_)
      clear hK9 K9
      refine aC (fun r2 c2 => ?_) (fun r2 c2 => ?_)
      · clear r2
        refine aw_regionD_last mx_all (by kernel_rfl) ?_
        refine aD z_move ?_
        refine aD z_move ?_
        refine aD z_move ?_
        refine aD (z_indexAddr Tryd.underlying22 sz_34) ?_
        refine aD (z_fieldRef fo_34_0) ?_
        refine aD (z_loadRef sz_9) ?_
        refine aD (z_lenS Tryd.underlying9) ?_
        refine aD z_add ?_
        refine aD z_move ?_
        refine aD z_move ?_
        refine aD (z_indexAddr Tryd.underlying22 sz_34) ?_
        refine aD (z_fieldRef fo_34_1) ?_
        refine aD (z_loadRef sz_9) ?_
        refine aD (z_lenS Tryd.underlying9) ?_
        refine aD z_add ?_
        refine aD z_add ?_
        refine aD z_assign ?_
        refine awd_nil (by kernel_rfl) ?_
        refine hK8 _ _ ?_
        clear hK8
        refine aw_region_last ?_
        refine aL z_move ?_
        refine aL z_add ?_
        refine aL z_assign ?_
        refine awl_nil ?_
        first
          | (have hn2 : n < 1073741824 := (by omega); have hb2 := byI_yes hlt hn2 hb; refine hK5 _ _ ⟨(q + 1, n + (l[q]).n.length + (l[q]).v.length + 32), by dsimp only; omega, by dsimp only; omega, hb2⟩ (by dsimp only; omega) ?_; dsimp only; exact wK)
          | (have hn2 : ¬ n < 1073741824 := (by omega); have hb2 := byI_no hlt hn2 hb; refine hK5 _ _ ⟨(q + 1, n), by dsimp only; omega, hn, hb2⟩ (by dsimp only; omega) ?_; dsimp only; exact wK)
      · clear r2
        refine aw_skip ?_
        refine hK8 _ _ ?_
        clear hK8
        refine aw_region_last ?_
        refine aL z_move ?_
        refine aL z_add ?_
        refine aL z_assign ?_
        refine awl_nil ?_
        first
          | (have hn2 : n < 1073741824 := (by omega); have hb2 := byI_yes hlt hn2 hb; refine hK5 _ _ ⟨(q + 1, n + (l[q]).n.length + (l[q]).v.length + 32), by dsimp only; omega, by dsimp only; omega, hb2⟩ (by dsimp only; omega) ?_; dsimp only; exact wK)
          | (have hn2 : ¬ n < 1073741824 := (by omega); have hb2 := byI_no hlt hn2 hb; refine hK5 _ _ ⟨(q + 1, n), by dsimp only; omega, hn, hb2⟩ (by dsimp only; omega) ?_; dsimp only; exact wK)
    · refine aw_exit ?_
      refine hK3 _ _ ?_
      clear hK3
      refine aw_region fun K10 hK10 => ?_
      refine aL z_move ?_
      refine aL z_assign ?_
      refine awl_nil (hK10 _ _ ?_)
      clear hK10 K10
      refine aw_ret ?_
      refine (hret _ _ _ _ _ rfl (.tmp rfl .nil) rfl ?_ .nil rfl).1
      have hx : q = l.length := (by omega)
      subst hx
      rw [List.drop_length] at hb
      obtain rfl : n = B := hb
      rfl
theorem con_rTrailer {l : List Fd} (hs : szM l ≤ 1099511627776) : Con Tryd.prog 19 [.v (.sl (fdV l))] [] 0 (.ret (.v (.int .i64 (askM [] [] l)))) [] := by
  refine con_of Tryd.func19 rfl (by show _ ≤ 5; simp) fun X Q hP hnt hnp hret hpan => ?_
  obtain ⟨P0, nt0, w0, K0, S0, np0, pin0⟩ := X
  simp only at hP hnt hnp
  subst hP hnp
  obtain rfl : nt0 = 5 := hnt
  refine aw_region fun K1 hK1 => ?_
  refine aL z_assign ?_
  refine awl_nil (hK1 _ _ ?_)
  clear hK1 K1
  refine aw_region fun K2 hK2 => ?_
  refine aL z_move ?_
  refine aL (z_call0 (eC (eC .nil)) en_31 (con_rAsk (names := []) (by decide) hs)) ?_
  refine aL z_assign ?_
  refine awl_nil (hK2 _ _ ?_)
  clear hK2 K2
  refine aw_ret ?_
  refine (hret _ _ _ _ _ rfl (.tmp rfl .nil) rfl ?_ .nil rfl).1
  rfl
theorem con_rAnswer1 {n : Int} {l : List Fd} (h : ¬ answerE n = 0) : Con Tryd.prog 21 [.v (.int .i64 n), .v (.sl (fdV l))] [] 0 (.ret (.tup [.v (.lit (.slice none 0 0)), .v (.int .i64 (answerE n))])) [] := by
  have he : n < 100 ∨ 999 < n := by unfold answerE at h; split at h; assumption; exact absurd rfl h
  have e1 : answerE n = 1 := if_pos he
  rw [e1]
  refine con_of Tryd.func21 rfl (by show _ ≤ 45; simp) fun X Q hP hnt hnp hret hpan => ?_
  obtain ⟨P0, nt0, w0, K0, S0, np0, pin0⟩ := X
  simp only at hP hnt hnp
  subst hP hnp
  obtain rfl : nt0 = 45 := hnt
  refine aw_region fun K1 hK1 => ?_
  refine aL z_assign ?_
  refine aL z_assign ?_
  refine awl_nil (hK1 _ _ ?_)
  clear hK1 K1
  refine aw_seq fun K2 hK2 => ?_
  refine aw_region fun K3 hK3 => ?_
  refine aL z_move ?_
  refine aL z_lss ?_
  refine aL z_move ?_
  refine gL rfl rfl (ev_tmp rfl) (fun hg => z_move) ?_
  refine gL rfl rfl (ev_tmp rfl) (fun hg => z_gtr) ?_
  refine aL z_or ?_
  refine awl_nil (hK3 _ _ ?_)
  clear hK3 K3
  refine aC (fun r1 c1 => ?_) (fun r1 c1 => ?_)
  · refine aw_region fun K4 hK4 => ?_
    refine aL z_assign ?_
    refine aL z_assign ?_
    refine awl_nil (hK4 _ _ ?_)
    clear hK4 K4
    refine aw_ret ?_
    refine (hret _ _ _ _ _ rfl (.tmp rfl (.tmp rfl .nil)) rfl ?_ .nil rfl).1
    rfl
  · exfalso
    omega
theorem con_rAnswer0 {n : Int} {l : List Fd} (hs : szM l ≤ 1099511627776) (h : answerE n = 0) : Con Tryd.prog 21 [.v (.int .i64 n), .v (.sl (fdV l))] [] 0 (.ret (.tup [.view 0 0 0 (answerM n l).length, .v (.int .i64 0)])) [(0, .row 0 3 34 (fdV (answerM n l)))] := by
  have he : ¬ (n < 100 ∨ 999 < n) := by unfold answerE at h; split at h; cases h; assumption
  have hll := szM_len l
  have hfl := fdV_len l
  refine con_of Tryd.func21 rfl (by show _ ≤ 45; simp) fun X Q hP hnt hnp hret hpan => ?_
  obtain ⟨P0, nt0, w0, K0, S0, np0, pin0⟩ := X
  simp only at hP hnt hnp
  subst hP hnp
  obtain rfl : nt0 = 45 := hnt
  refine aw_region fun K1 hK1 => ?_
  refine aL z_assign ?_
  refine aL z_assign ?_
  refine awl_nil (hK1 _ _ ?_)
  clear hK1 K1
  refine aw_seq fun K2 hK2 => ?_
  refine aw_region fun K3 hK3 => ?_
  refine aL z_move ?_
  refine aL z_lss ?_
  refine aL z_move ?_
  refine gL rfl rfl (ev_tmp rfl) (fun hg => z_move) ?_
  refine gL rfl rfl (ev_tmp rfl) (fun hg => z_gtr) ?_
  refine aL z_or ?_
  refine awl_nil (hK3 _ _ ?_)
  clear hK3 K3
  refine aC (fun r1 c1 => ?_) (fun r1 c1 => ?_)
  · exfalso
    omega
  · refine aw_skip ?_
    refine hK2 _ _ ?_
    clear hK2
    refine aw_region fun K4 hK4 => ?_
    refine aL z_move ?_
    refine aL (z_call0 (eC (eC .nil)) en_40 (con_rDigits (by omega))) ?_
    refine aL (z_build (pC (pC .nil)) pl_34 zc_34 zl_34) ?_
    refine aL (z_row 0 (pC .nil) Tryd.underlying22 sz_34 zc_34 zl_34 (c := [[.str [58, 115, 116, 97, 116, 117, 115], .str (digs 10 n), .bool false]])) ?_
    refine aL z_assign ?_
    refine awl_nil (hK4 _ _ ?_)
    clear hK4 K4
    refine aw_seq fun K5 hK5 => ?_
    refine aw_region fun K6 hK6 => ?_
    refine aL z_assign ?_
    refine awl_nil (hK6 _ _ ?_)
    clear hK6 K6
    refine aw_block ?_
    refine aw_loop (α := {x : Nat // x ≤ l.length}) (fun x => ([(1, .v (.sl (fdV l))), (7, .v (.int .i64 (x.1 : Int))), (6, .view 0 0 0 (answerM n (l.take x.1)).length)], [(0, .row 0 3 34 (fdV (answerM n (l.take x.1))))])) (fun x => l.length - x.1) ⟨0, by omega⟩ ?_ ?_
    · dsimp only
      exact wK
    · rintro ⟨q, hq⟩ K7 hK7
      dsimp only
      refine aw_seq fun K8 hK8 => ?_
      refine aw_region fun K9 hK9 => ?_
      refine aL z_move ?_
      refine aL z_move ?_
      refine aL (z_len Tryd.underlying22) ?_
      refine aL z_lss ?_
      refine awl_nil (hK9 _ _ ?_)
      clear hK9 K9
      refine aC (fun r2 c2 => ?_) (fun r2 c2 => ?_)
      · refine aw_skip ?_
        refine hK8 _ _ ?_
        clear hK8
        refine aw_seq fun K10 hK10 => ?_
        refine aw_block ?_
        refine aw_regionD_last mx_all (by kernel_rfl) ?_
        have hlt : q < l.length := by omega
        have hi := fdV_get hlt
        have hal := answerM_len n (l.take q)
        have htl := take_le' l q
        refine aD z_move ?_
        refine aD z_move ?_
        refine aD z_move ?_
        refine aD (z_indexAddr Tryd.underlying22 sz_34) ?_
        refine aD (z_fieldRef fo_34_0) ?_
        refine aD (z_loadRef sz_9) ?_
        refine aD (z_call0 (eC .nil) en_24 (con_rLower (by have := szM_at hlt; omega))) ?_
        refine aD z_move ?_
        refine aD z_move ?_
        refine aD (z_indexAddr Tryd.underlying22 sz_34) ?_
        refine aD (z_fieldRef fo_34_1) ?_
        refine aD (z_loadRef sz_9) ?_
        refine aD z_move ?_
        refine aD z_move ?_
        refine aD (z_indexAddr Tryd.underlying22 sz_34) ?_
        refine aD (z_fieldRef fo_34_2) ?_
        refine aD (z_loadRef sz_4) ?_
        refine aD (z_build (pC (pC (pC .nil))) pl_34 zc_34 zl_34) ?_
        refine aD (z_lits (pC .nil) Tryd.underlying22 sz_34 zc_34 zl_34 (c := [[_, _, _]])) ?_
        refine aD (z_app Tryd.underlying22 zi_34) ?_
        refine aD z_assign ?_
        refine awd_nil (by kernel_rfl) ?_
        refine hK10 _ _ ?_
        clear hK10
        refine aw_region_last ?_
        refine aL z_move ?_
        refine aL z_add ?_
        refine aL z_assign ?_
        refine awl_nil ?_
        refine hK7 _ _ ⟨q + 1, by omega⟩ (by dsimp only; omega) ?_
        dsimp only
        rw [answerM_succ hlt]
        exact Weak.trans (weak_rever 0 0 rfl) (wK (ha := .row rfl (fdV_snoc (f := lowF l[q]) rfl) .nil))
      · refine aw_exit ?_
        refine hK5 _ _ ?_
        clear hK5
        refine aw_region fun K11 hK11 => ?_
        refine aL z_move ?_
        refine aL z_assign ?_
        refine aL z_assign ?_
        refine awl_nil (hK11 _ _ ?_)
        clear hK11 K11
        have hx : q = l.length := (by omega)
        subst hx
        rw [List.take_length]
        refine aw_ret ?_
        refine (hret _ _ _ _ _ rfl (.tmp rfl (.tmp rfl .nil)) rfl ?_ (.row rfl .nil) rfl).1
        rfl
end Go.Proofs.YtipmegjhlkhklaaDoor
