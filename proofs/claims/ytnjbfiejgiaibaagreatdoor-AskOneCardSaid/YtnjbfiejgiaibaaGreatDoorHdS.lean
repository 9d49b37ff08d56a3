/- Layer 10: the document's functions: values, the first error, the length, answers; lists compared and measured. No condition. -/
import Derived.Test.YtnjbfiejgiaibaaGreatDoorHdGToHdT
namespace Go.Proofs.YtnjbfiejgiaibaaGreatDoor
set_option linter.all false
open Go Go.RowKit
set_option maxRecDepth 10000
set_option maxHeartbeats 4000000
theorem con_ValuesR {l : List Fd} {k : List UInt8} (hs : szM l ≤ 1099511627776) : Con Tryz.prog 32 [.v (.sl (fdV l)), .v (.str k)] [] 0 (.ret (.view 0 0 0 (valuesM l k).length)) [(0, .row 0 1 9 (stV (valuesM l k)))] := by
  have hll := szM_len l
  have hfl := fdV_len l
  refine con_of Tryz.func32 rfl (by show _ ≤ 29; simp) fun X Q hP hnt hnp hret hpan => ?_
  obtain ⟨P0, nt0, w0, K0, S0, np0, pin0, df0⟩ := X
  simp only at hP hnt hnp
  subst hP hnp
  obtain rfl : nt0 = 29 := hnt
  refine aw_region fun K1 hK1 => ?_
  refine aL z_assign ?_
  refine awl_nil (hK1 _ _ ?_)
  clear hK1 K1
  refine aw_region fun K2 hK2 => ?_
  refine aL z_assign ?_
  refine awl_nil (hK2 _ _ ?_)
  clear hK2 K2
  refine aw_seq fun K3 hK3 => ?_
  refine aw_region fun K4 hK4 => ?_
  refine aL z_assign ?_
  refine awl_nil (hK4 _ _ ?_)
  clear hK4 K4
  refine aw_block ?_
  refine aw_loop (α := {x : Nat // x ≤ l.length}) (fun x => ([(0, .v (.sl (fdV l))), (1, .v (.str k)), (6, .v (.int .i64 (x.1 : Int))), (5, .view 0 0 0 (valuesM (l.take x.1) k).length)], [(0, .row 0 1 9 (stV (valuesM (l.take x.1) k)))])) (fun x => l.length - x.1) ⟨0, by omega⟩ ?_ ?_
  · dsimp only
    exact Weak.trans (weak_nil (t := 5) 0 1 9 (by decide) (Nat.le_of_ble_eq_true rfl) rfl rfl) wK
  · rintro ⟨q, hq⟩ K5 hK5
    dsimp only
    refine aw_seq fun K6 hK6 => ?_
    refine aw_region fun K7 hK7 => ?_
    refine aL z_move ?_
    refine aL z_move ?_
    first
      | refine aL (z_lenB Tryz.underlying24) ?_
      | refine aL (z_len Tryz.underlying24) ?_
      | refine aL (z_lenV Tryz.underlying24) ?_
    refine aL z_lss ?_
    refine awl_nil (hK7 _ _ ?_)
    clear hK7 K7
    refine aC (fun r1 c1 => ?_) (fun r1 c1 => ?_)
    · refine aw_skip ?_
      refine hK6 _ _ ?_
      clear hK6
      refine aw_seq fun K8 hK8 => ?_
      refine aw_block ?_
      refine aw_region fun K9 hK9 => ?_
      have hlt : q < l.length := by omega
      have hi := fdV_get hlt
      have hv1 := Nat.le_trans (valuesM_len (l.take q) k) (take_le' l q)
      refine aL z_move ?_
      refine aL z_move ?_
      first
        | refine aL (z_indexAddr Tryz.underlying24 sz_46) ?_
        | refine aL (z_indexAddrV Tryz.underlying24 sz_46) ?_
      first
        | refine aL (z_fieldAddr fo_46_0) ?_
        | refine aL (z_fieldRef fo_46_0) ?_
        | refine aL (z_fieldV fo_46_0) ?_
      first
        | refine aL (z_load sz_9) ?_
        | refine aL (z_loadRef sz_9) ?_
        | refine aL (z_loadV sz_9) ?_
      refine aL z_move ?_
      refine aL z_eqlS ?_
      refine awl_nil (hK9 _ _ ?_)
      clear hK9 K9
      refine aC (fun r2 c2 => ?_) (fun r2 c2 => ?_)
      · refine aw_region_last ?_
        refine aL z_move ?_
        refine aL z_move ?_
        refine aL z_move ?_
        first
          | refine aL (z_indexAddr Tryz.underlying24 sz_46) ?_
          | refine aL (z_indexAddrV Tryz.underlying24 sz_46) ?_
        first
          | refine aL (z_fieldAddr fo_46_1) ?_
          | refine aL (z_fieldRef fo_46_1) ?_
          | refine aL (z_fieldV fo_46_1) ?_
        first
          | refine aL (z_load sz_9) ?_
          | refine aL (z_loadRef sz_9) ?_
          | refine aL (z_loadV sz_9) ?_
        refine aL (z_lits (pC .nil) Tryz.underlying68 sz_9 zc_9 zl_9 (c := [[_]])) ?_
        first
          | refine aL (z_app Tryz.underlying68 zi_9) ?_
          | refine aL (z_appV Tryz.underlying68 zi_9) ?_
          | refine aL (z_appN 1 Tryz.underlying68 zi_9) ?_
          | refine aL (z_appNV 1 Tryz.underlying68 zi_9) ?_
        refine aL z_assign ?_
        refine awl_nil ?_
        refine hK8 _ _ ?_
        clear hK8
        refine aw_region_last ?_
        refine aL z_move ?_
        refine aL z_add ?_
        refine aL z_assign ?_
        refine awl_nil ?_
        refine hK5 _ _ ⟨q + 1, by omega⟩ (by dsimp only; omega) ?_
        dsimp only
        first
          | (have hc : l[q].n = k := (by assumption); rw [valuesM_yes hlt hc]; exact Weak.trans (weak_rever 0 0 rfl) (wK (ha := .row rfl (stV_snoc rfl) .nil)))
          | (have hc : ¬ l[q].n = k := (by assumption); rw [valuesM_no hlt hc]; exact wK)
      · refine aw_skip ?_
        refine hK8 _ _ ?_
        clear hK8
        refine aw_region_last ?_
        refine aL z_move ?_
        refine aL z_add ?_
        refine aL z_assign ?_
        refine awl_nil ?_
        refine hK5 _ _ ⟨q + 1, by omega⟩ (by dsimp only; omega) ?_
        dsimp only
        first
          | (have hc : l[q].n = k := (by assumption); rw [valuesM_yes hlt hc]; exact Weak.trans (weak_rever 0 0 rfl) (wK (ha := .row rfl (stV_snoc rfl) .nil)))
          | (have hc : ¬ l[q].n = k := (by assumption); rw [valuesM_no hlt hc]; exact wK)
    · refine aw_exit ?_
      refine hK3 _ _ ?_
      clear hK3
      refine aw_region fun K10 hK10 => ?_
      refine aL z_move ?_
      refine aL z_assign ?_
      refine awl_nil (hK10 _ _ ?_)
      clear hK10 K10
      have hx : q = l.length := (by omega)
      subst hx
      rw [List.take_length]
      refine aw_ret ?_
      refine (hret _ _ _ _ _ rfl (.tmp rfl .nil) rfl ?_ (.row rfl .nil) rfl).1
      rfl
theorem con_ValuesQ {l : List Fd} {k : List UInt8} (hs : szM l ≤ 1099511627776) : Con Tryz.prog 32 [.v (.sl (fdV l)), .v (.str k)] [] 0 (.ret (.v (.sl (stV (valuesM l k))))) [] :=
  con_weak (con_ValuesR hs) fun X _ => weak_all (some (0, 0, stV (valuesM l k))) ⟨rfl, _, _, rfl⟩ .nil (.cons rfl (.view rfl (cutF (by simp))) .nil)
theorem con_rLength {l : List Fd} (hs : szM l ≤ 1099511627776) : Con Tryz.prog 26 [.v (.sl (fdV l))] [] 0 (.ret (.tup [.v (.int .i64 (lenM l).1), .v (.bool (lenM l).2.1), .v (.int .i64 (lenM l).2.2)])) [] := by
  have hll := szM_len l
  have hvl := valuesM_len l kL
  have hvz : ∀ s ∈ valuesM l kL, s.length ≤ szM l := fun s h => by have := valuesM_sz h; omega
  have hlen : lenM l = lenGo 0 false (valuesM l kL) := rfl
  generalize hv : valuesM l kL = v at hvl hvz hlen
  have hfl := stV_len v
  refine con_of Tryz.func26 rfl (by show _ ≤ 42; simp) fun X Q hP hnt hnp hret hpan => ?_
  obtain ⟨P0, nt0, w0, K0, S0, np0, pin0, df0⟩ := X
  simp only at hP hnt hnp
  subst hP hnp
  obtain rfl : nt0 = 42 := hnt
  refine aw_region fun K1 hK1 => ?_
  refine aL z_assign ?_
  refine aL z_assign ?_
  refine aL z_assign ?_
  refine awl_nil (hK1 _ _ ?_)
  clear hK1 K1
  refine aw_region fun K2 hK2 => ?_
  refine aL z_move ?_
  refine aL (z_call0 (eC (eC .nil)) en_32 (hv ▸ con_ValuesQ (l := l) (k := kL) hs)) ?_
  refine aL z_assign ?_
  refine awl_nil (hK2 _ _ ?_)
  clear hK2 K2
  refine aw_region fun K3 hK3 => ?_
  refine aL z_assign ?_
  refine awl_nil (hK3 _ _ ?_)
  clear hK3 K3
  refine aw_seq fun K4 hK4 => ?_
  refine aw_region fun K5 hK5 => ?_
  refine aL z_assign ?_
  refine awl_nil (hK5 _ _ ?_)
  clear hK5 K5
  refine aw_block ?_
  refine aw_loop (α := {x : Nat × Int // x.1 ≤ v.length ∧ lenGo x.2 (decide (0 < x.1)) (v.drop x.1) = lenM l}) (fun x => ([(5, .v (.sl (stV v))), (6, .v (.int .i64 x.1.2)), (7, .v (.int .i64 (x.1.1 : Int)))], [])) (fun x => v.length - x.1.1) ⟨(0, 0), by omega, hlen.symm⟩ ?_ ?_
  · dsimp only
    exact wK
  · rintro ⟨⟨q, n⟩, hq, ha⟩ K6 hK6
    dsimp only
    dsimp only at hq ha
    refine aw_seq fun K7 hK7 => ?_
    refine aw_region fun K8 hK8 => ?_
    refine aL z_move ?_
    refine aL z_move ?_
    first
      | refine aL (z_lenB Tryz.underlying68) ?_
      | refine aL (z_len Tryz.underlying68) ?_
      | refine aL (z_lenV Tryz.underlying68) ?_
    refine aL z_lss ?_
    refine awl_nil (hK8 _ _ ?_)
    clear hK8 K8
    refine aC (fun r1 c1 => ?_) (fun r1 c1 => ?_)
    · refine aw_skip ?_
      refine hK7 _ _ ?_
      clear hK7
      refine aw_seq fun K9 hK9 => ?_
      refine aw_block ?_
      refine aw_region fun K10 hK10 => ?_
      have hlt : q < v.length := by omega
      have hi := stV_get hlt
      refine aL z_move ?_
      refine aL z_move ?_
      first
        | refine aL (z_indexAddr Tryz.underlying68 sz_9) ?_
        | refine aL (z_indexAddrV Tryz.underlying68 sz_9) ?_
      first
        | refine aL (z_load sz_9) ?_
        | refine aL (z_loadRef sz_9) ?_
        | refine aL (z_loadV sz_9) ?_
      refine aL (z_call0 (eC .nil) en_62 (con_rDecimal (by have := hvz _ (List.getElem_mem hlt); unfold maxLen; omega))) ?_
      refine aL z_move ?_
      refine aL z_extract ?_
      refine aL z_extract ?_
      refine aL z_assign ?_
      refine aL z_assign ?_
      refine awl_nil (hK10 _ _ ?_)
      clear hK10 K10
      refine aw_seq fun K11 hK11 => ?_
      refine aw_region fun K12 hK12 => ?_
      refine aL z_move ?_
      refine aL z_neq ?_
      refine aL z_move ?_
      first
        | refine gL rfl rfl (ev_tmp rfl) (fun hg => z_move) ?_
        | refine hL rfl rfl (ev_tmp rfl) (fun hg => z_move) ?_
      first
        | refine gL rfl rfl (ev_tmp rfl) (fun hg => z_gtr) ?_
        | refine hL rfl rfl (ev_tmp rfl) (fun hg => z_gtr) ?_
      first
        | refine gL rfl rfl (ev_tmp rfl) (fun hg => z_move) ?_
        | refine hL rfl rfl (ev_tmp rfl) (fun hg => z_move) ?_
      first
        | refine gL rfl rfl (ev_tmp rfl) (fun hg => z_move) ?_
        | refine hL rfl rfl (ev_tmp rfl) (fun hg => z_move) ?_
      first
        | refine gL rfl rfl (ev_tmp rfl) (fun hg => z_move) ?_
        | refine hL rfl rfl (ev_tmp rfl) (fun hg => z_move) ?_
      first
        | refine gL rfl rfl (ev_tmp rfl) (fun hg => z_neq) ?_
        | refine hL rfl rfl (ev_tmp rfl) (fun hg => z_neq) ?_
      first
        | refine gL rfl rfl (ev_tmp rfl) (fun hg => z_and) ?_
        | refine hL rfl rfl (ev_tmp rfl) (fun hg => z_and) ?_
      refine aL z_or ?_
      refine awl_nil (hK12 _ _ ?_)
      clear hK12 K12
      refine aC (fun r2 c2 => ?_) (fun r2 c2 => ?_)
      · refine aw_region fun K13 hK13 => ?_
        refine aL z_assign ?_
        refine aL z_assign ?_
        refine aL z_assign ?_
        refine awl_nil (hK13 _ _ ?_)
        clear hK13 K13
        refine aw_ret ?_
        refine (hret _ _ _ _ _ rfl (.tmp rfl (.tmp rfl (.tmp rfl .nil))) rfl ?_ .nil rfl).1
        first
          | (rw [List.drop_eq_getElem_cons hlt, lenGo, if_pos (by simp only [decide_eq_true_eq]; omega)] at ha; rw [← ha]; rfl)
          | (have hx : q = v.length := (by omega); rw [hx, List.drop_length] at ha; have hb : lenM l = (n, decide (0 < v.length), 0) := ha.symm; rw [hb]; simp [retD]; done)
      · refine aw_skip ?_
        refine hK11 _ _ ?_
        clear hK11
        refine aw_region_last ?_
        refine aL z_move ?_
        refine aL z_assign ?_
        refine awl_nil ?_
        refine hK9 _ _ ?_
        clear hK9
        refine aw_region_last ?_
        refine aL z_move ?_
        refine aL z_add ?_
        refine aL z_assign ?_
        refine awl_nil ?_
        rw [List.drop_eq_getElem_cons hlt, lenGo, if_neg (by simp only [decide_eq_true_eq]; omega)] at ha
        refine hK6 _ _ ⟨(q + 1, numV 10 v[q]), by dsimp only; omega, by dsimp only; rw [decide_eq_true (by omega)]; exact ha⟩ (by dsimp only; omega) ?_
        dsimp only
        exact wK
    · refine aw_exit ?_
      refine hK4 _ _ ?_
      clear hK4
      refine aw_region fun K14 hK14 => ?_
      refine aL z_move ?_
      refine aL z_move ?_
      first
        | refine aL (z_lenB Tryz.underlying68) ?_
        | refine aL (z_len Tryz.underlying68) ?_
        | refine aL (z_lenV Tryz.underlying68) ?_
      refine aL z_gtr ?_
      refine aL z_assign ?_
      refine aL z_assign ?_
      refine aL z_assign ?_
      refine awl_nil (hK14 _ _ ?_)
      clear hK14 K14
      refine aw_ret ?_
      refine (hret _ _ _ _ _ rfl (.tmp rfl (.tmp rfl (.tmp rfl .nil))) rfl ?_ .nil rfl).1
      first
        | (rw [List.drop_eq_getElem_cons hlt, lenGo, if_pos (by simp only [decide_eq_true_eq]; omega)] at ha; rw [← ha]; rfl)
        | (have hx : q = v.length := (by omega); rw [hx, List.drop_length] at ha; have hb : lenM l = (n, decide (0 < v.length), 0) := ha.symm; rw [hb]; simp [retD]; done)
theorem beq_dec (a b : List UInt8) : (a == b) = decide (a = b) := by rw [Bool.eq_iff_iff]; simp
def okG (n : List UInt8) (g : Fd) : Bool := pseudoM g.n && !(decide (g.n = n))
theorem all_succR {p : Fd → Bool} {l : List Fd} {q : Nat} (h : q < l.length) : (l.take (q + 1)).all p = ((l.take q).all p && p l[q]) := by
  rw [take_succ' h, List.all_append]; simp
theorem okF_p0 {names : List (List UInt8)} {p : List Fd} {f : Fd} (h : pseudoM f.n = true) (h2 : names.contains f.n = true ∧ p.all (okG f.n) = true) : okF names p f = 0 := by
  unfold okF; rw [if_pos h]; exact if_pos h2
theorem okF_p1 {names : List (List UInt8)} {p : List Fd} {f : Fd} (h : pseudoM f.n = true) (h2 : names.contains f.n = false ∨ p.all (okG f.n) = false) : okF names p f = 100 := by
  unfold okF; rw [if_pos h]; exact if_neg fun hh => by rcases h2 with h2 | h2; (rw [h2] at hh; cases hh.1); (have := hh.2; change p.all (okG f.n) = true at this; rw [h2] at this; cases this)
theorem okG_yes {n : List UInt8} {g : Fd} (h : pseudoM g.n = true ∧ ¬ g.n = n) : okG n g = true := by unfold okG; rw [h.1, decide_eq_false h.2]; rfl
theorem okG_no {n : List UInt8} {g : Fd} (h : pseudoM g.n = false ∨ g.n = n) : okG n g = false := by unfold okG; rcases h with h | h; (rw [h]; rfl); (rw [decide_eq_true h, Bool.not_true, Bool.and_false])
theorem con_rAsk {names : List (List UInt8)} {l : List Fd} (hn : names.length ≤ 1000) (hs : szM l ≤ 1099511627776) : Con Tryz.prog 31 [.v (.sl (fdV l)), .v (.sl (stV names))] [] 0 (.ret (.v (.int .i64 (askM names [] l)))) [] := by
  have hll := szM_len l
  have hfl := fdV_len l
  have hsl := stV_len names
  refine con_of Tryz.func31 rfl (by show _ ≤ 67; simp) fun X Q hP hnt hnp hret hpan => ?_
  obtain ⟨P0, nt0, w0, K0, S0, np0, pin0, df0⟩ := X
  simp only at hP hnt hnp
  subst hP hnp
  obtain rfl : nt0 = 67 := hnt
  refine aw_region fun K1 hK1 => ?_
  refine aL z_assign ?_
  refine awl_nil (hK1 _ _ ?_)
  clear hK1 K1
  refine aw_seq fun K2 hK2 => ?_
  refine aw_region fun K3 hK3 => ?_
  refine aL z_assign ?_
  refine awl_nil (hK3 _ _ ?_)
  clear hK3 K3
  refine aw_block ?_
  refine aw_loop (α := {x : Nat // x ≤ l.length ∧ askM names (l.take x) (l.drop x) = askM names [] l}) (fun x => ([(0, .v (.sl (fdV l))), (1, .v (.sl (stV names))), (5, .v (.int .i64 (x.1 : Int)))], [])) (fun x => l.length - x.1) ⟨0, by omega, rfl⟩ ?_ ?_
  · dsimp only
    exact wK
  · rintro ⟨q, hq, ha⟩ K4 hK4
    dsimp only
    refine aw_seq fun K5 hK5 => ?_
    refine aw_region fun K6 hK6 => ?_
    refine aL z_move ?_
    refine aL z_move ?_
    first
      | refine aL (z_lenB Tryz.underlying24) ?_
      | refine aL (z_len Tryz.underlying24) ?_
      | refine aL (z_lenV Tryz.underlying24) ?_
    refine aL z_lss ?_
    refine awl_nil (hK6 _ _ ?_)
    clear hK6 K6
    refine aC (fun r1 c1 => ?_) (fun r1 c1 => ?_)
    · refine aw_skip ?_
      refine hK5 _ _ ?_
      clear hK5
      refine aw_seq fun K7 hK7 => ?_
      refine aw_block ?_
      refine aw_region fun K8 hK8 => ?_
      have hlt : q < l.length := by omega
      have hi := fdV_get hlt
      have hsz := szM_at hlt
      refine aL z_move ?_
      refine aL z_move ?_
      first
        | refine aL (z_indexAddr Tryz.underlying24 sz_46) ?_
        | refine aL (z_indexAddrV Tryz.underlying24 sz_46) ?_
      first
        | refine aL (z_load sz_46) ?_
        | refine aL (z_loadRef sz_46) ?_
        | refine aL (z_loadV sz_46) ?_
      refine aL (z_alloc 0 zc_46 zl_46) ?_
      refine aL (z_store sz_46) ?_
      refine awl_nil (hK8 _ _ ?_)
      clear hK8 K8
      refine aw_seq fun K9 hK9 => ?_
      refine aw_region fun K10 hK10 => ?_
      first
        | refine aL (z_fieldAddr fo_46_0) ?_
        | refine aL (z_fieldRef fo_46_0) ?_
        | refine aL (z_fieldV fo_46_0) ?_
      first
        | refine aL (z_load sz_9) ?_
        | refine aL (z_loadRef sz_9) ?_
        | refine aL (z_loadV sz_9) ?_
      refine aL (z_call0 (eC .nil) en_37 (con_rPseudo)) ?_
      refine aL z_not ?_
      refine awl_nil (hK10 _ _ ?_)
      clear hK10 K10
      refine aC (fun r2 c2 => ?_) (fun r2 c2 => ?_)
      · refine aw_seq fun K11 hK11 => ?_
        refine aw_region fun K12 hK12 => ?_
        first
          | refine aL (z_load sz_46) ?_
          | refine aL (z_loadRef sz_46) ?_
          | refine aL (z_loadV sz_46) ?_
        refine aL (z_call0 (eC .nil) en_64 (con_rPlain (f := l[q]) (by omega))) ?_
        refine aL z_not ?_
        refine awl_nil (hK12 _ _ ?_)
        clear hK12 K12
        refine aC (fun r3 c3 => ?_) (fun r3 c3 => ?_)
        · refine aw_region fun K13 hK13 => ?_
          refine aL z_assign ?_
          refine awl_nil (hK13 _ _ ?_)
          clear hK13 K13
          refine aw_ret ?_
          refine (hret _ _ _ _ _ rfl (.tmp rfl .nil) rfl ?_ .nil rfl).1
          first
            | (have h7 : okF names (l.take q) l[q] = 101 := (by rw [okF_plain (by assumption), if_neg (by simp [*])]); rw [← ha, askM_at hlt, if_neg (by omega), h7]; rfl)
            | (have hx : z = q := (by omega); subst hx; have h7 : okF names (l.take z) l[z] = 100 := okF_p1 (by assumption) (by assumption); rw [← ha, askM_at hlt, if_neg (by omega), h7]; rfl)
            | (have hx : q = l.length := (by omega); subst hx; rw [← ha, askM_end]; rfl)
        · refine aw_skip ?_
          refine hK11 _ _ ?_
          clear hK11
          refine aw_exit ?_
          refine hK7 _ _ ?_
          clear hK7
          refine aw_region_last ?_
          refine aL z_move ?_
          refine aL z_add ?_
          refine aL z_assign ?_
          refine awl_nil ?_
          first
            | (have h7 : okF names (l.take q) l[q] = 0 := (by rw [okF_plain (by assumption), if_pos (by assumption)]); refine hK4 _ _ ⟨q + 1, by omega, by rw [askM_at hlt, if_pos h7] at ha; exact ha⟩ (by dsimp only; omega) ?_; dsimp only; exact wK)
            | (have hx : z = q := (by omega); subst hx; have h7 : okF names (l.take z) l[z] = 0 := okF_p0 (by assumption) (by assumption); refine hK4 _ _ ⟨z + 1, by omega, by rw [askM_at hlt, if_pos h7] at ha; exact ha⟩ (by dsimp only; omega) ?_; dsimp only; exact wK)
      · refine aw_skip ?_
        refine hK9 _ _ ?_
        clear hK9
        refine aw_region fun K14 hK14 => ?_
        refine aL z_assign ?_
        refine awl_nil (hK14 _ _ ?_)
        clear hK14 K14
        refine aw_seq fun K15 hK15 => ?_
        refine aw_region fun K16 hK16 => ?_
        refine aL z_assign ?_
        refine awl_nil (hK16 _ _ ?_)
        clear hK16 K16
        refine aw_block ?_
        refine aw_loop (α := {x : Nat // x ≤ names.length}) (fun x => ([(0, .v (.sl (fdV l))), (1, .v (.sl (stV names))), (5, .v (.int .i64 (q : Int))), (6, .ptr 0 0), (7, .v (.bool ((names.take x.1).contains l[q].n))), (8, .v (.int .i64 (x.1 : Int)))], [(0, .box l[q].cs)])) (fun x => names.length - x.1) ⟨0, by omega⟩ ?_ ?_
        · dsimp only
          exact wK
        · rintro ⟨y, hy⟩ K17 hK17
          dsimp only
          refine aw_seq fun K18 hK18 => ?_
          refine aw_region fun K19 hK19 => ?_
          refine aL z_move ?_
          refine aL z_move ?_
          first
            | refine aL (z_lenB Tryz.underlying68) ?_
            | refine aL (z_len Tryz.underlying68) ?_
            | refine aL (z_lenV Tryz.underlying68) ?_
          refine aL z_lss ?_
          refine awl_nil (hK19 _ _ ?_)
          clear hK19 K19
          refine aC (fun r4 c4 => ?_) (fun r4 c4 => ?_)
          · refine aw_skip ?_
            refine hK18 _ _ ?_
            clear hK18
            refine aw_seq fun K20 hK20 => ?_
            refine aw_block ?_
            refine aw_regionD_last mx_all (by kernel_rfl) ?_
            have hlt2 : y < names.length := by omega
            have hi2 := stV_get hlt2
            refine aD z_move ?_
            refine aD z_move ?_
            first
              | refine gD rfl rfl (ev_tmp rfl) (fun hg => z_move) ?_
              | refine hD rfl rfl (ev_tmp rfl) (fun hg => z_move) ?_
            first
              | refine gD rfl rfl (ev_tmp rfl) (fun hg => z_move) ?_
              | refine hD rfl rfl (ev_tmp rfl) (fun hg => z_move) ?_
            first
              | refine gD rfl rfl (ev_tmp rfl) (fun hg => z_indexAddr Tryz.underlying68 sz_9) ?_
              | refine gD rfl rfl (ev_tmp rfl) (fun hg => z_indexAddrV Tryz.underlying68 sz_9) ?_
              | refine hD rfl rfl (ev_tmp rfl) (fun hg => z_indexAddr Tryz.underlying68 sz_9) ?_
              | refine hD rfl rfl (ev_tmp rfl) (fun hg => z_indexAddrV Tryz.underlying68 sz_9) ?_
            first
              | refine gD rfl rfl (ev_tmp rfl) (fun hg => z_load sz_9) ?_
              | refine gD rfl rfl (ev_tmp rfl) (fun hg => z_loadRef sz_9) ?_
              | refine gD rfl rfl (ev_tmp rfl) (fun hg => z_loadV sz_9) ?_
              | refine hD rfl rfl (ev_tmp rfl) (fun hg => z_load sz_9) ?_
              | refine hD rfl rfl (ev_tmp rfl) (fun hg => z_loadRef sz_9) ?_
              | refine hD rfl rfl (ev_tmp rfl) (fun hg => z_loadV sz_9) ?_
            first
              | refine gD rfl rfl (ev_tmp rfl) (fun hg => z_fieldAddr fo_46_0) ?_
              | refine gD rfl rfl (ev_tmp rfl) (fun hg => z_fieldRef fo_46_0) ?_
              | refine gD rfl rfl (ev_tmp rfl) (fun hg => z_fieldV fo_46_0) ?_
              | refine hD rfl rfl (ev_tmp rfl) (fun hg => z_fieldAddr fo_46_0) ?_
              | refine hD rfl rfl (ev_tmp rfl) (fun hg => z_fieldRef fo_46_0) ?_
              | refine hD rfl rfl (ev_tmp rfl) (fun hg => z_fieldV fo_46_0) ?_
            first
              | refine gD rfl rfl (ev_tmp rfl) (fun hg => z_load sz_9) ?_
              | refine gD rfl rfl (ev_tmp rfl) (fun hg => z_loadRef sz_9) ?_
              | refine gD rfl rfl (ev_tmp rfl) (fun hg => z_loadV sz_9) ?_
              | refine hD rfl rfl (ev_tmp rfl) (fun hg => z_load sz_9) ?_
              | refine hD rfl rfl (ev_tmp rfl) (fun hg => z_loadRef sz_9) ?_
              | refine hD rfl rfl (ev_tmp rfl) (fun hg => z_loadV sz_9) ?_
            first
              | refine gD rfl rfl (ev_tmp rfl) (fun hg => z_eqlS) ?_
              | refine hD rfl rfl (ev_tmp rfl) (fun hg => z_eqlS) ?_
            refine aD z_or ?_
            refine aD z_assign ?_
            refine awd_nil (by kernel_rfl) ?_
            refine hK20 _ _ ?_
            clear hK20
            refine aw_region_last ?_
            refine aL z_move ?_
            refine aL z_add ?_
            refine aL z_assign ?_
            refine awl_nil ?_
            refine hK17 _ _ ⟨y + 1, by omega⟩ (by dsimp only; omega) ?_
            dsimp only
            rw [contains_snoc hlt2, ← beq_dec]
            exact wK
          · refine aw_exit ?_
            refine hK15 _ _ ?_
            clear hK15
            refine aw_seq fun K21 hK21 => ?_
            refine aw_region fun K22 hK22 => ?_
            refine aL z_assign ?_
            refine awl_nil (hK22 _ _ ?_)
            clear hK22 K22
            refine aw_block ?_
            refine aw_loop (α := {x : Nat // x ≤ q}) (fun x => ([(0, .v (.sl (fdV l))), (1, .v (.sl (stV names))), (5, .v (.int .i64 (q : Int))), (6, .ptr 0 0), (7, .v (.bool (names.contains l[q].n && (l.take x.1).all (okG l[q].n)))), (9, .v (.int .i64 (x.1 : Int)))], [(0, .box l[q].cs)])) (fun x => q - x.1) ⟨0, by omega⟩ ?_ ?_
            · dsimp only
              have hye : y = names.length := (by omega)
              subst hye
              rw [List.take_length]
              simp only [List.take_zero, List.all_nil, Bool.and_true]
              exact wK
            · rintro ⟨z, hz⟩ K23 hK23
              dsimp only
              refine aw_seq fun K24 hK24 => ?_
              refine aw_region fun K25 hK25 => ?_
              refine aL z_move ?_
              refine aL z_move ?_
              refine aL z_lss ?_
              refine awl_nil (hK25 _ _ ?_)
              clear hK25 K25
              refine aC (fun r5 c5 => ?_) (fun r5 c5 => ?_)
              · refine aw_skip ?_
                refine hK24 _ _ ?_
                clear hK24
                refine aw_seq fun K26 hK26 => ?_
                refine aw_block ?_
                refine aw_regionD mx_all (by kernel_rfl) fun K27 hK27 => ?_
                have hlt3 : z < l.length := by omega
                have hi3 := fdV_get hlt3
                refine aD z_move ?_
                refine aD z_move ?_
                first
                  | refine aD (z_indexAddr Tryz.underlying24 sz_46) ?_
                  | refine aD (z_indexAddrV Tryz.underlying24 sz_46) ?_
                first
                  | refine aD (z_fieldAddr fo_46_0) ?_
                  | refine aD (z_fieldRef fo_46_0) ?_
                  | refine aD (z_fieldV fo_46_0) ?_
                first
                  | refine aD (z_load sz_9) ?_
                  | refine aD (z_loadRef sz_9) ?_
                  | refine aD (z_loadV sz_9) ?_
                refine aD (z_call0 (eC .nil) en_37 (con_rPseudo)) ?_
                refine aD z_not ?_
                refine aD z_move ?_
                first
                  | refine gD rfl rfl (ev_tmp rfl) (fun hg => z_move) ?_
                  | refine hD rfl rfl (ev_tmp rfl) (fun hg => z_move) ?_
                first
                  | refine gD rfl rfl (ev_tmp rfl) (fun hg => z_move) ?_
                  | refine hD rfl rfl (ev_tmp rfl) (fun hg => z_move) ?_
                first
                  | refine gD rfl rfl (ev_tmp rfl) (fun hg => z_indexAddr Tryz.underlying24 sz_46) ?_
                  | refine gD rfl rfl (ev_tmp rfl) (fun hg => z_indexAddrV Tryz.underlying24 sz_46) ?_
                  | refine hD rfl rfl (ev_tmp rfl) (fun hg => z_indexAddr Tryz.underlying24 sz_46) ?_
                  | refine hD rfl rfl (ev_tmp rfl) (fun hg => z_indexAddrV Tryz.underlying24 sz_46) ?_
                first
                  | refine gD rfl rfl (ev_tmp rfl) (fun hg => z_fieldAddr fo_46_0) ?_
                  | refine gD rfl rfl (ev_tmp rfl) (fun hg => z_fieldRef fo_46_0) ?_
                  | refine gD rfl rfl (ev_tmp rfl) (fun hg => z_fieldV fo_46_0) ?_
                  | refine hD rfl rfl (ev_tmp rfl) (fun hg => z_fieldAddr fo_46_0) ?_
                  | refine hD rfl rfl (ev_tmp rfl) (fun hg => z_fieldRef fo_46_0) ?_
                  | refine hD rfl rfl (ev_tmp rfl) (fun hg => z_fieldV fo_46_0) ?_
                first
                  | refine gD rfl rfl (ev_tmp rfl) (fun hg => z_load sz_9) ?_
                  | refine gD rfl rfl (ev_tmp rfl) (fun hg => z_loadRef sz_9) ?_
                  | refine gD rfl rfl (ev_tmp rfl) (fun hg => z_loadV sz_9) ?_
                  | refine hD rfl rfl (ev_tmp rfl) (fun hg => z_load sz_9) ?_
                  | refine hD rfl rfl (ev_tmp rfl) (fun hg => z_loadRef sz_9) ?_
                  | refine hD rfl rfl (ev_tmp rfl) (fun hg => z_loadV sz_9) ?_
                first
                  | refine gD rfl rfl (ev_tmp rfl) (fun hg => z_fieldAddr fo_46_0) ?_
                  | refine gD rfl rfl (ev_tmp rfl) (fun hg => z_fieldRef fo_46_0) ?_
                  | refine gD rfl rfl (ev_tmp rfl) (fun hg => z_fieldV fo_46_0) ?_
                  | refine hD rfl rfl (ev_tmp rfl) (fun hg => z_fieldAddr fo_46_0) ?_
                  | refine hD rfl rfl (ev_tmp rfl) (fun hg => z_fieldRef fo_46_0) ?_
                  | refine hD rfl rfl (ev_tmp rfl) (fun hg => z_fieldV fo_46_0) ?_
                first
                  | refine gD rfl rfl (ev_tmp rfl) (fun hg => z_load sz_9) ?_
                  | refine gD rfl rfl (ev_tmp rfl) (fun hg => z_loadRef sz_9) ?_
                  | refine gD rfl rfl (ev_tmp rfl) (fun hg => z_loadV sz_9) ?_
                  | refine hD rfl rfl (ev_tmp rfl) (fun hg => z_load sz_9) ?_
                  | refine hD rfl rfl (ev_tmp rfl) (fun hg => z_loadRef sz_9) ?_
                  | refine hD rfl rfl (ev_tmp rfl) (fun hg => z_loadV sz_9) ?_
                first
                  | refine gD rfl rfl (ev_tmp rfl) (fun hg => z_eqlS) ?_
                  | refine hD rfl rfl (ev_tmp rfl) (fun hg => z_eqlS) ?_
                refine aD z_or ?_
                refine awd_nil (by kernel_rfl) (hK27 _ _ ?_)
                clear hK27 K27
                refine aC (fun r6 c6 => ?_) (fun r6 c6 => ?_)
                · refine aw_region_last ?_
                  refine aL z_assign ?_
                  refine awl_nil ?_
                  refine hK26 _ _ ?_
                  clear hK26
                  refine aw_region_last ?_
                  refine aL z_move ?_
                  refine aL z_add ?_
                  refine aL z_assign ?_
                  refine awl_nil ?_
                  refine hK23 _ _ ⟨z + 1, by omega⟩ (by dsimp only; omega) ?_
                  dsimp only
                  rw [all_succR hlt3]
                  first
                    | (have hg : okG l[q].n l[z] = true := okG_yes (by assumption); rw [hg, Bool.and_true]; exact wK)
                    | (have hg : okG l[q].n l[z] = false := okG_no (by assumption); rw [hg, Bool.and_false, Bool.and_false]; exact wK)
                · refine aw_skip ?_
                  refine hK26 _ _ ?_
                  clear hK26
                  refine aw_region_last ?_
                  refine aL z_move ?_
                  refine aL z_add ?_
                  refine aL z_assign ?_
                  refine awl_nil ?_
                  refine hK23 _ _ ⟨z + 1, by omega⟩ (by dsimp only; omega) ?_
                  dsimp only
                  rw [all_succR hlt3]
                  first
                    | (have hg : okG l[q].n l[z] = true := okG_yes (by assumption); rw [hg, Bool.and_true]; exact wK)
                    | (have hg : okG l[q].n l[z] = false := okG_no (by assumption); rw [hg, Bool.and_false, Bool.and_false]; exact wK)
              · refine aw_exit ?_
                refine hK21 _ _ ?_
                clear hK21
                refine aw_region fun K28 hK28 => ?_
                refine aL z_move ?_
                refine aL z_not ?_
                refine awl_nil (hK28 _ _ ?_)
                clear hK28 K28
                refine aC (fun r7 c7 => ?_) (fun r7 c7 => ?_)
                · refine aw_region fun K29 hK29 => ?_
                  refine aL z_assign ?_
                  refine awl_nil (hK29 _ _ ?_)
                  clear hK29 K29
                  refine aw_ret ?_
                  refine (hret _ _ _ _ _ rfl (.tmp rfl .nil) rfl ?_ .nil rfl).1
                  first
                    | (have h7 : okF names (l.take q) l[q] = 101 := (by rw [okF_plain (by assumption), if_neg (by simp [*])]); rw [← ha, askM_at hlt, if_neg (by omega), h7]; rfl)
                    | (have hx : z = q := (by omega); subst hx; have h7 : okF names (l.take z) l[z] = 100 := okF_p1 (by assumption) (by assumption); rw [← ha, askM_at hlt, if_neg (by omega), h7]; rfl)
                    | (have hx : q = l.length := (by omega); subst hx; rw [← ha, askM_end]; rfl)
                · refine aw_skip ?_
                  refine hK7 _ _ ?_
                  clear hK7
                  refine aw_region_last ?_
                  refine aL z_move ?_
                  refine aL z_add ?_
                  refine aL z_assign ?_
                  refine awl_nil ?_
                  first
                    | (have h7 : okF names (l.take q) l[q] = 0 := (by rw [okF_plain (by assumption), if_pos (by assumption)]); refine hK4 _ _ ⟨q + 1, by omega, by rw [askM_at hlt, if_pos h7] at ha; exact ha⟩ (by dsimp only; omega) ?_; dsimp only; exact wK)
                    | (have hx : z = q := (by omega); subst hx; have h7 : okF names (l.take z) l[z] = 0 := okF_p0 (by assumption) (by assumption); refine hK4 _ _ ⟨z + 1, by omega, by rw [askM_at hlt, if_pos h7] at ha; exact ha⟩ (by dsimp only; omega) ?_; dsimp only; exact wK)
    · refine aw_exit ?_
      refine hK2 _ _ ?_
      clear hK2
      refine aw_region fun K30 hK30 => ?_
      refine aL z_assign ?_
      refine awl_nil (hK30 _ _ ?_)
      clear hK30 K30
      refine aw_ret ?_
      refine (hret _ _ _ _ _ rfl (.tmp rfl .nil) rfl ?_ .nil rfl).1
      first
        | (have h7 : okF names (l.take q) l[q] = 101 := (by rw [okF_plain (by assumption), if_neg (by simp [*])]); rw [← ha, askM_at hlt, if_neg (by omega), h7]; rfl)
        | (have hx : z = q := (by omega); subst hx; have h7 : okF names (l.take z) l[z] = 100 := okF_p1 (by assumption) (by assumption); rw [← ha, askM_at hlt, if_neg (by omega), h7]; rfl)
        | (have hx : q = l.length := (by omega); subst hx; rw [← ha, askM_end]; rfl)
end Go.Proofs.YtnjbfiejgiaibaaGreatDoor
