/- con_rLength: the document's Length and Values, apart from the rest of layer 10 (lines of HdS). No condition but on lengths. -/
import Derived.Test.YtnjbfiejgiaibaaGreatDoorHdLToHdU0
import Derived.Test.YtnjbfiejgiaibaaGreatDoorDkC
namespace Go.Proofs.YtnjbfiejgiaibaaGreatDoor
set_option linter.all false
open Go Go.RowKit
set_option maxRecDepth 10000
set_option maxHeartbeats 4000000
theorem takeL_le (l : List Fd) (q : Nat) : (l.take q).length ≤ l.length := by rw [List.length_take]; exact Nat.min_le_right _ _
theorem cutL {c : List (List V)} {n : Nat} (h : n = c.length) : cut 0 (0 + n) c = c := by subst h; exact cut_all c
theorem con_ValuesR {l : List Fd} {k : List UInt8} (hs : szM l ≤ 1099511627776) : Con Tryz.prog 32 [.v (.sl (fdV l)), .v (.str k)] [] 0 (.ret (.view 0 0 0 (valuesM l k).length)) [(0, .row 0 1 9 (stV (valuesM l k)))] := by
  have hll := szM_len l
  have hfl := fdV_len l
  refine con_of Tryz.func32 rfl (by show _ ≤ 29; simp) fun X Q hP hnt hnp hret hpan => ?_
  obtain ⟨P0, nt0, w0, K0, S0, np0, pin0, df0⟩ := X
  simp only at hP hnt hnp
  subst hP hnp
  obtain rfl : nt0 = 29 := hnt
  refine aw_region fun K1 hK1 => ?_
  refine aL z_assign ?_
  refine awl_nil (hK1 _ _ ?_)
  clear hK1 K1
  refine aw_region fun K2 hK2 => ?_
  refine aL z_assign ?_
  refine awl_nil (hK2 _ _ ?_)
  clear hK2 K2
  refine aw_seq fun K3 hK3 => ?_
  refine aw_region fun K4 hK4 => ?_
  refine aL z_assign ?_
  refine awl_nil (hK4 _ _ ?_)
  clear hK4 K4
  refine aw_block ?_
  refine aw_loop (α := {x : Nat // x ≤ l.length}) (fun x => ([(0, .v (.sl (fdV l))), (1, .v (.str k)), (6, .v (.int .i64 (x.1 : Int))), (5, .view 0 0 0 (valuesM (l.take x.1) k).length)], [(0, .row 0 1 9 (stV (valuesM (l.take x.1) k)))])) (fun x => l.length - x.1) ⟨0, by omega⟩ ?_ ?_
  · dsimp only
    exact Weak.trans (weak_nil (t := 5) 0 1 9 (by decide) (Nat.le_of_ble_eq_true rfl) rfl rfl) wK
  · rintro ⟨q, hq⟩ K5 hK5
    dsimp only
    refine aw_seq fun K6 hK6 => ?_
    refine aw_region fun K7 hK7 => ?_
    refine aL z_move ?_
    refine aL z_move ?_
    first
      | refine aL (z_lenB Tryz.underlying24) ?_
      | refine aL (z_len Tryz.underlying24) ?_
      | refine aL (z_lenV Tryz.underlying24) ?_
    refine aL z_lss ?_
    refine awl_nil (hK7 _ _ ?_)
    clear hK7 K7
    refine aC (fun r1 c1 => ?_) (fun r1 c1 => ?_)
    · refine aw_skip ?_
      refine hK6 _ _ ?_
      clear hK6
      refine aw_seq fun K8 hK8 => ?_
      refine aw_block ?_
      refine aw_region fun K9 hK9 => ?_
      have hlt : q < l.length := by omega
      have hi := fdV_get hlt
      have hv1 := Nat.le_trans (valuesM_len (l.take q) k) (takeL_le l q)
      refine aL z_move ?_
      refine aL z_move ?_
      first
        | refine aL (z_indexAddr Tryz.underlying24 sz_46) ?_
        | refine aL (z_indexAddrV Tryz.underlying24 sz_46) ?_
      first
        | refine aL (z_fieldAddr fo_46_0) ?_
        | refine aL (z_fieldRef fo_46_0) ?_
        | refine aL (z_fieldV fo_46_0) ?_
      first
        | refine aL (z_load sz_9) ?_
        | refine aL (z_loadRef sz_9) ?_
        | refine aL (z_loadV sz_9) ?_
      refine aL z_move ?_
      refine aL z_eqlS ?_
      refine awl_nil (hK9 _ _ ?_)
      clear hK9 K9
      refine aC (fun r2 c2 => ?_) (fun r2 c2 => ?_)
      · refine aw_region_last ?_
        refine aL z_move ?_
        refine aL z_move ?_
        refine aL z_move ?_
        first
          | refine aL (z_indexAddr Tryz.underlying24 sz_46) ?_
          | refine aL (z_indexAddrV Tryz.underlying24 sz_46) ?_
        first
          | refine aL (z_fieldAddr fo_46_1) ?_
          | refine aL (z_fieldRef fo_46_1) ?_
          | refine aL (z_fieldV fo_46_1) ?_
        first
          | refine aL (z_load sz_9) ?_
          | refine aL (z_loadRef sz_9) ?_
          | refine aL (z_loadV sz_9) ?_
        refine aL (z_lits (pC .nil) Tryz.underlying68 sz_9 zc_9 zl_9 (c := [[_]])) ?_
        first
          | refine aL (z_app Tryz.underlying68 zi_9) ?_
          | refine aL (z_appV Tryz.underlying68 zi_9) ?_
          | refine aL (z_appN 1 Tryz.underlying68 zi_9) ?_
          | refine aL (z_appNV 1 Tryz.underlying68 zi_9) ?_
        refine aL z_assign ?_
        refine awl_nil ?_
        refine hK8 _ _ ?_
        clear hK8
        refine aw_region_last ?_
        refine aL z_move ?_
        refine aL z_add ?_
        refine aL z_assign ?_
        refine awl_nil ?_
        refine hK5 _ _ ⟨q + 1, by omega⟩ (by dsimp only; omega) ?_
        dsimp only
        first
          | (have hc : l[q].n = k := (by assumption); rw [valuesM_yes hlt hc]; exact Weak.trans (weak_rever 0 0 rfl) (wK (ha := .row rfl (stV_snoc rfl) .nil)))
          | (have hc : ¬ l[q].n = k := (by assumption); rw [valuesM_no hlt hc]; exact wK)
      · refine aw_skip ?_
        refine hK8 _ _ ?_
        clear hK8
        refine aw_region_last ?_
        refine aL z_move ?_
        refine aL z_add ?_
        refine aL z_assign ?_
        refine awl_nil ?_
        refine hK5 _ _ ⟨q + 1, by omega⟩ (by dsimp only; omega) ?_
        dsimp only
        first
          | (have hc : l[q].n = k := (by assumption); rw [valuesM_yes hlt hc]; exact Weak.trans (weak_rever 0 0 rfl) (wK (ha := .row rfl (stV_snoc rfl) .nil)))
          | (have hc : ¬ l[q].n = k := (by assumption); rw [valuesM_no hlt hc]; exact wK)
    · refine aw_exit ?_
      refine hK3 _ _ ?_
      clear hK3
      refine aw_region fun K10 hK10 => ?_
      refine aL z_move ?_
      refine aL z_assign ?_
      refine awl_nil (hK10 _ _ ?_)
      clear hK10 K10
      have hx : q = l.length := (by omega)
      subst hx
      rw [List.take_length]
      refine aw_ret ?_
      refine (hret _ _ _ _ _ rfl (.tmp rfl .nil) rfl ?_ (.row rfl .nil) rfl).1
      rfl
theorem con_ValuesL {l : List Fd} {k : List UInt8} (hs : szM l ≤ 1099511627776) : Con Tryz.prog 32 [.v (.sl (fdV l)), .v (.str k)] [] 0 (.ret (.v (.sl (stV (valuesM l k))))) [] :=
  con_weak (con_ValuesR hs) fun X _ => weak_all (some (0, 0, stV (valuesM l k))) ⟨rfl, _, _, rfl⟩ .nil (.cons rfl (.view rfl (cutL (by simp))) .nil)
theorem con_rLength {l : List Fd} (hs : szM l ≤ 1099511627776) : Con Tryz.prog 26 [.v (.sl (fdV l))] [] 0 (.ret (.tup [.v (.int .i64 (lenM l).1), .v (.bool (lenM l).2.1), .v (.int .i64 (lenM l).2.2)])) [] := by
  have hll := szM_len l
  have hvl := valuesM_len l kL
  have hvz : ∀ s ∈ valuesM l kL, s.length ≤ szM l := fun s h => by have := valuesM_sz h; omega
  have hlen : lenM l = lenGo 0 false (valuesM l kL) := rfl
  generalize hv : valuesM l kL = v at hvl hvz hlen
  have hfl := stV_len v
  refine con_of Tryz.func26 rfl (by show _ ≤ 42; simp) fun X Q hP hnt hnp hret hpan => ?_
  obtain ⟨P0, nt0, w0, K0, S0, np0, pin0, df0⟩ := X
  simp only at hP hnt hnp
  subst hP hnp
  obtain rfl : nt0 = 42 := hnt
  refine aw_region fun K1 hK1 => ?_
  refine aL z_assign ?_
  refine aL z_assign ?_
  refine aL z_assign ?_
  refine awl_nil (hK1 _ _ ?_)
  clear hK1 K1
  refine aw_region fun K2 hK2 => ?_
  refine aL z_move ?_
  refine aL (z_call0 (eC (eC .nil)) en_32 (hv ▸ con_ValuesL (l := l) (k := kL) hs)) ?_
  refine aL z_assign ?_
  refine awl_nil (hK2 _ _ ?_)
  clear hK2 K2
  refine aw_region fun K3 hK3 => ?_
  refine aL z_assign ?_
  refine awl_nil (hK3 _ _ ?_)
  clear hK3 K3
  refine aw_seq fun K4 hK4 => ?_
  refine aw_region fun K5 hK5 => ?_
  refine aL z_assign ?_
  refine awl_nil (hK5 _ _ ?_)
  clear hK5 K5
  refine aw_block ?_
  refine aw_loop (α := {x : Nat × Int // x.1 ≤ v.length ∧ lenGo x.2 (decide (0 < x.1)) (v.drop x.1) = lenM l}) (fun x => ([(5, .v (.sl (stV v))), (6, .v (.int .i64 x.1.2)), (7, .v (.int .i64 (x.1.1 : Int)))], [])) (fun x => v.length - x.1.1) ⟨(0, 0), by omega, hlen.symm⟩ ?_ ?_
  · dsimp only
    exact wK
  · rintro ⟨⟨q, n⟩, hq, ha⟩ K6 hK6
    dsimp only
    dsimp only at hq ha
    refine aw_seq fun K7 hK7 => ?_
    refine aw_region fun K8 hK8 => ?_
    refine aL z_move ?_
    refine aL z_move ?_
    first
      | refine aL (z_lenB Tryz.underlying68) ?_
      | refine aL (z_len Tryz.underlying68) ?_
      | refine aL (z_lenV Tryz.underlying68) ?_
    refine aL z_lss ?_
    refine awl_nil (hK8 _ _ ?_)
    clear hK8 K8
    refine aC (fun r1 c1 => ?_) (fun r1 c1 => ?_)
    · refine aw_skip ?_
      refine hK7 _ _ ?_
      clear hK7
      refine aw_seq fun K9 hK9 => ?_
      refine aw_block ?_
      refine aw_region fun K10 hK10 => ?_
      have hlt : q < v.length := by omega
      have hi := stV_get hlt
      refine aL z_move ?_
      refine aL z_move ?_
      first
        | refine aL (z_indexAddr Tryz.underlying68 sz_9) ?_
        | refine aL (z_indexAddrV Tryz.underlying68 sz_9) ?_
      first
        | refine aL (z_load sz_9) ?_
        | refine aL (z_loadRef sz_9) ?_
        | refine aL (z_loadV sz_9) ?_
      refine aL (z_call0 (eC .nil) en_62 (con_rDecimal (by have := hvz _ (List.getElem_mem hlt); unfold maxLen; omega))) ?_
      refine aL z_move ?_
      refine aL z_extract ?_
      refine aL z_extract ?_
      refine aL z_assign ?_
      refine aL z_assign ?_
      refine awl_nil (hK10 _ _ ?_)
      clear hK10 K10
      refine aw_seq fun K11 hK11 => ?_
      refine aw_region fun K12 hK12 => ?_
      refine aL z_move ?_
      refine aL z_neq ?_
      refine aL z_move ?_
      first
        | refine gL rfl rfl (ev_tmp rfl) (fun hg => z_move) ?_
        | refine hL rfl rfl (ev_tmp rfl) (fun hg => z_move) ?_
      first
        | refine gL rfl rfl (ev_tmp rfl) (fun hg => z_gtr) ?_
        | refine hL rfl rfl (ev_tmp rfl) (fun hg => z_gtr) ?_
      first
        | refine gL rfl rfl (ev_tmp rfl) (fun hg => z_move) ?_
        | refine hL rfl rfl (ev_tmp rfl) (fun hg => z_move) ?_
      first
        | refine gL rfl rfl (ev_tmp rfl) (fun hg => z_move) ?_
        | refine hL rfl rfl (ev_tmp rfl) (fun hg => z_move) ?_
      first
        | refine gL rfl rfl (ev_tmp rfl) (fun hg => z_move) ?_
        | refine hL rfl rfl (ev_tmp rfl) (fun hg => z_move) ?_
      first
        | refine gL rfl rfl (ev_tmp rfl) (fun hg => z_neq) ?_
        | refine hL rfl rfl (ev_tmp rfl) (fun hg => z_neq) ?_
      first
        | refine gL rfl rfl (ev_tmp rfl) (fun hg => z_and) ?_
        | refine hL rfl rfl (ev_tmp rfl) (fun hg => z_and) ?_
      refine aL z_or ?_
      refine awl_nil (hK12 _ _ ?_)
      clear hK12 K12
      refine aC (fun r2 c2 => ?_) (fun r2 c2 => ?_)
      · refine aw_region fun K13 hK13 => ?_
        refine aL z_assign ?_
        refine aL z_assign ?_
        refine aL z_assign ?_
        refine awl_nil (hK13 _ _ ?_)
        clear hK13 K13
        refine aw_ret ?_
        refine (hret _ _ _ _ _ rfl (.tmp rfl (.tmp rfl (.tmp rfl .nil))) rfl ?_ .nil rfl).1
        first
          | (rw [List.drop_eq_getElem_cons hlt, lenGo, if_pos (by simp only [decide_eq_true_eq]; omega)] at ha; rw [← ha]; rfl)
          | (have hx : q = v.length := (by omega); rw [hx, List.drop_length] at ha; have hb : lenM l = (n, decide (0 < v.length), 0) := ha.symm; rw [hb]; simp [retD]; done)
      · refine aw_skip ?_
        refine hK11 _ _ ?_
        clear hK11
        refine aw_region_last ?_
        refine aL z_move ?_
        refine aL z_assign ?_
        refine awl_nil ?_
        refine hK9 _ _ ?_
        clear hK9
        refine aw_region_last ?_
        refine aL z_move ?_
        refine aL z_add ?_
        refine aL z_assign ?_
        refine awl_nil ?_
        rw [List.drop_eq_getElem_cons hlt, lenGo, if_neg (by simp only [decide_eq_true_eq]; omega)] at ha
        refine hK6 _ _ ⟨(q + 1, numV 10 v[q]), by dsimp only; omega, by dsimp only; rw [decide_eq_true (by omega)]; exact ha⟩ (by dsimp only; omega) ?_
        dsimp only
        exact wK
    · refine aw_exit ?_
      refine hK4 _ _ ?_
      clear hK4
      refine aw_region fun K14 hK14 => ?_
      refine aL z_move ?_
      refine aL z_move ?_
      first
        | refine aL (z_lenB Tryz.underlying68) ?_
        | refine aL (z_len Tryz.underlying68) ?_
        | refine aL (z_lenV Tryz.underlying68) ?_
      refine aL z_gtr ?_
      refine aL z_assign ?_
      refine aL z_assign ?_
      refine aL z_assign ?_
      refine awl_nil (hK14 _ _ ?_)
      clear hK14 K14
      refine aw_ret ?_
      refine (hret _ _ _ _ _ rfl (.tmp rfl (.tmp rfl (.tmp rfl .nil))) rfl ?_ .nil rfl).1
      first
        | (rw [List.drop_eq_getElem_cons hlt, lenGo, if_pos (by simp only [decide_eq_true_eq]; omega)] at ha; rw [← ha]; rfl)
        | (have hx : q = v.length := (by omega); rw [hx, List.drop_length] at ha; have hb : lenM l = (n, decide (0 < v.length), 0) := ha.symm; rw [hb]; simp [retD]; done)
end Go.Proofs.YtnjbfiejgiaibaaGreatDoor

/- Chapter 14: the document's Take, walked. No condition but on lengths. -/
namespace Go.Proofs.YtnjbfiejgiaibaaGreatDoor
set_option linter.all false
open Go Go.RowKit
set_option maxRecDepth 10000
set_option maxHeartbeats 4000000
theorem con_names {l : List Fd} (hl : l.length ≤ 1099511627776) : Con Tryz.prog 28 [.v (.sl (fdV l))] [] 0 (.ret (.v (.sl (stV (l.map (·.n)))))) [] := by
  have hfl := fdV_len l
  refine con_of Tryz.func28 rfl (by show _ ≤ 20; simp) fun X Q hP hnt hnp hret hpan => ?_
  obtain ⟨P0, nt0, w0, K0, S0, np0, pin0, df0⟩ := X
  simp only at hP hnt hnp
  subst hP hnp
  obtain rfl : nt0 = 20 := hnt
  refine aw_region fun K1 hK1 => ?_
  refine aL z_assign ?_
  refine awl_nil (hK1 _ _ ?_)
  clear hK1 K1
  refine aw_region fun K2 hK2 => ?_
  refine aL z_assign ?_
  refine awl_nil (hK2 _ _ ?_)
  clear hK2 K2
  refine aw_weak (weak_nil (t := 3) 0 1 9 (by decide) (Nat.zero_le _) rfl rfl) ?_
  refine aw_seq fun K3 hK3 => ?_
  refine aw_region fun K4 hK4 => ?_
  refine aL z_assign ?_
  refine awl_nil (hK4 _ _ ?_)
  clear hK4 K4
  refine aw_block ?_
  refine aw_loop (α := {k : Nat // k ≤ l.length}) (fun x => ([(0, .v (.sl (fdV l))), (3, .view 0 0 0 ((l.take x.1).map (·.n)).length), (4, .v (.int .i64 (x.1 : Int)))], [(0, .row 0 1 9 (stV ((l.take x.1).map (·.n))))])) (fun x => l.length - x.1) ⟨0, by omega⟩ ?_ ?_
  · dsimp only
    exact wK
  · rintro ⟨k, hk⟩ K5 hK5
    dsimp only
    refine aw_seq fun K6 hK6 => ?_
    refine aw_region fun K7 hK7 => ?_
    refine aL z_move ?_
    refine aL z_move ?_
    first
      | refine aL (z_lenB Tryz.underlying24) ?_
      | refine aL (z_len Tryz.underlying24) ?_
      | refine aL (z_lenV Tryz.underlying24) ?_
    refine aL z_lss ?_
    refine awl_nil (hK7 _ _ ?_)
    clear hK7 K7
    refine aC (fun r1 c1 => ?_) (fun r1 c1 => ?_)
    · refine aw_skip ?_
      refine hK6 _ _ ?_
      clear hK6
      refine aw_seq fun K8 hK8 => ?_
      refine aw_block ?_
      refine aw_region_last ?_
      have hlt : k < l.length := by omega
      have hi := fdV_get hlt
      have hml : ((l.take k).map (·.n)).length = k := by rw [List.length_map, List.length_take]; omega
      refine aL z_move ?_
      refine aL z_move ?_
      refine aL z_move ?_
      first
        | refine aL (z_indexAddr Tryz.underlying24 sz_46) ?_
        | refine aL (z_indexAddrV Tryz.underlying24 sz_46) ?_
      first
        | refine aL (z_fieldAddr fo_46_0) ?_
        | refine aL (z_fieldRef fo_46_0) ?_
        | refine aL (z_fieldV fo_46_0) ?_
      first
        | refine aL (z_load sz_9) ?_
        | refine aL (z_loadRef sz_9) ?_
        | refine aL (z_loadV sz_9) ?_
      refine aL (z_lits (pC .nil) Tryz.underlying68 sz_9 zc_9 zl_9 (c := [[_]])) ?_
      refine aL (z_app Tryz.underlying68 zi_9 (c' := stV ((l.take k).map (·.n) ++ [l[k].n])) (hc := stV_snoc rfl) (hb := by simp; omega)) ?_
      refine aL z_assign ?_
      refine awl_nil ?_
      refine hK8 _ _ ?_
      clear hK8
      refine aw_region_last ?_
      refine aL z_move ?_
      refine aL z_add ?_
      refine aL z_assign ?_
      refine awl_nil ?_
      refine hK5 _ _ ⟨k + 1, by omega⟩ (by dsimp only; omega) ?_
      have e : (l.take (k + 1)).map (·.n) = (l.take k).map (·.n) ++ [l[k].n] := by rw [take_succ' hlt, List.map_append]; rfl
      dsimp only
      rw [e]
      exact Weak.trans (weak_rever 0 0 rfl) wK
    · refine aw_exit ?_
      refine hK3 _ _ ?_
      clear hK3
      refine aw_region fun K9 hK9 => ?_
      refine aL z_move ?_
      refine aL z_assign ?_
      refine awl_nil (hK9 _ _ ?_)
      clear hK9 K9
      obtain rfl : k = l.length := by omega
      refine aw_weak (weak_all (fr' := [(2, .v (.sl (stV (l.map (·.n)))))]) (ah' := []) (some (0, 0, stV ((l.take l.length).map (·.n)))) ⟨rfl, _, _, rfl⟩ .nil (.cons rfl (.view rfl (by rw [List.take_length]; exact cutW (by simp))) .nil)) ?_
      refine aw_ret ?_
      refine (hret _ _ _ _ _ rfl (.tmp rfl .nil) rfl ?_ .nil rfl).1
      rfl
theorem lineU (b : List UInt8) {k : Nat} (hk : k ≤ b.length) : ∃ (s : List UInt8) (n : Nat) (e : Int), lineD b k = .tup [.v (.str s), .v (.int .i64 (n : Int)), .v (.int .i64 e)] ∧ s.length ≤ b.length ∧
    ((e ≠ 0 ∧ lnM (b.drop k) = .error e) ∨ (e = 0 ∧ lnM (b.drop k) = .ok (s, b.drop n) ∧ n = k + s.length + 2 ∧ n ≤ b.length)) := by
  cases h : lnM (b.drop k) with
  | error e => exact ⟨[], k, e, line_E h, Nat.zero_le _, .inl ⟨ln_e h, rfl⟩⟩
  | ok p =>
    obtain ⟨s, r⟩ := p
    obtain ⟨-, -, -, h4, h5⟩ := ln_ok h
    rw [List.drop_drop] at h4
    rw [List.length_drop] at h5
    have hr : b.length - r.length = k + s.length + 2 := by rw [← h4, List.length_drop]; omega
    exact ⟨s, k + s.length + 2, 0, line_O h hr, by omega, .inr ⟨rfl, by rw [← h4]; rfl, rfl, by omega⟩⟩
theorem fstU (s : List UInt8) : ∃ (m t : List UInt8) (ok : Bool), fstD s = .tup [.agg [.v (.str m), .v (.str t), NIL, .v (.str [])], .v (.bool ok)] ∧ ((ok = false ∧ firstM s = none) ∨ (ok = true ∧ firstM s = some (m, t))) := by
  cases h : firstM s with
  | none => exact ⟨[], [], false, fst_none h, .inl ⟨rfl, rfl⟩⟩
  | some p => exact ⟨p.1, p.2, true, fst_some h, .inr ⟨rfl, rfl⟩⟩
theorem fdU (s : List UInt8) : ∃ (x y : List UInt8) (ok : Bool), fdD s = .tup [.agg [.v (.str x), .v (.str y), .v (.bool false)], .v (.bool ok)] ∧ ((ok = false ∧ fieldM s = none) ∨ (ok = true ∧ fieldM s = some ⟨x, y, false⟩)) := by
  unfold fdD fieldM
  rcases cutAt 58 s with ⟨n, _ | v⟩
  · exact ⟨[], [], false, rfl, .inl ⟨rfl, rfl⟩⟩
  · by_cases ht : tokenM n = true
    · simp only [ht, if_true, true_and]
      refine ⟨lowM n, trimM v, _, rfl, ?_⟩
      by_cases hv : valueM (trimM v) = true
      · rw [if_pos hv]; exact .inr ⟨hv, rfl⟩
      · rw [if_neg hv]; exact .inl ⟨by simpa using hv, rfl⟩
    · simp only [ht, if_false, false_and]
      exact ⟨[], [], false, rfl, .inl ⟨rfl, rfl⟩⟩
def hdrF (m t : List UInt8) (fs : List Fd) (r : List UInt8) : Except Int (Ak × List UInt8) := match lnM r with
  | .error e => .error e
  | .ok (s, r') => tailM m t (fldsS fs s r')
theorem hdrF_e {m t r : List UInt8} {fs : List Fd} {e : Int} (h : lnM r = .error e) : hdrF m t fs r = .error e := by unfold hdrF; rw [h]
theorem hdrF_o {m t r s r' : List UInt8} {fs : List Fd} (h : lnM r = .ok (s, r')) : hdrF m t fs r = tailM m t (fldsS fs s r') := by unfold hdrF; rw [h]
theorem hdrF_on {m t r s : List UInt8} {fs : List Fd} {f : Fd} (hs : ¬ s = []) (hf : fieldM s = some f) : tailM m t (fldsS fs s r) = hdrF m t (fs ++ [f]) r := by
  cases h : lnM r with
  | error e => rw [flds_err hs hf h, hdrF_e h]; rfl
  | ok p => rw [flds_on hs hf h, hdrF_o h]
theorem among_hv (k : List UInt8) : ∀ l : List Fd, ((l.map (·.n)).map lowM).contains (lowM k) = decide (0 < (hvM l k).length)
  | [] => by simp [hvM]
  | f :: l => by
    have ih := among_hv k l
    rw [List.map_cons, List.map_cons, List.contains_cons, ih]
    unfold hvM
    by_cases h : lowM f.n = lowM k
    · simp [h]
    · have h2 : (lowM k == lowM f.n) = false := by rw [beq_eq_false_iff_ne]; exact fun e => h e.symm
      rw [h2, Bool.false_or, List.filter_cons, if_neg (by simpa using h)]
end Go.Proofs.YtnjbfiejgiaibaaGreatDoor
