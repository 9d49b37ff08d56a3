/- Layer 11: fields without some names, the values of a name. No condition. -/
import Derived.Test.YthflfnehdlpmdaaDoorAzToAkA
namespace Go.Proofs.YthflfnehdlpmdaaDoor
set_option linter.all false
open Go Go.RowKit
set_option maxRecDepth 10000
set_option maxHeartbeats 4000000
theorem cutW {c : List (List V)} {n : Nat} (h : n = c.length) : cut 0 (0 + n) c = c := by subst h; exact cut_all c
/-- The values of a name, whatever its letters' cases. -/
def hvM (l : List Fd) (k : List UInt8) : List (List UInt8) := (l.filter fun f => decide (lowM f.n = lowM k)).map (·.v)
theorem hvM_app (a b : List Fd) (k : List UInt8) : hvM (a ++ b) k = hvM a k ++ hvM b k := by simp [hvM]
theorem hvM_le (l : List Fd) (k : List UInt8) : (hvM l k).length ≤ l.length := by unfold hvM; rw [List.length_map]; exact List.length_filter_le _ _
theorem hvM_yes {l : List Fd} {k : List UInt8} {q : Nat} (h : q < l.length) (hc : lowM l[q].n = lowM k) : hvM (l.take (q + 1)) k = hvM (l.take q) k ++ [l[q].v] := by
  rw [take_succ' h, hvM_app]; congr 1; unfold hvM; rw [List.filter_cons, if_pos (by simp [hc])]; rfl
theorem hvM_no {l : List Fd} {k : List UInt8} {q : Nat} (h : q < l.length) (hc : ¬ lowM l[q].n = lowM k) : hvM (l.take (q + 1)) k = hvM (l.take q) k := by
  rw [take_succ' h, hvM_app]
  have : hvM [l[q]] k = [] := by unfold hvM; rw [List.filter_cons, if_neg (by simp [hc])]; rfl
  rw [this, List.append_nil]
theorem hvM_mem {l : List Fd} {k v : List UInt8} (h : v ∈ hvM l k) : ∃ f ∈ l, f.v = v := by
  unfold hvM at h
  obtain ⟨f, hf, rfl⟩ := List.mem_map.1 h
  exact ⟨f, (List.mem_filter.1 hf).1, rfl⟩
theorem con_Values {l : List Fd} {k : List UInt8} (hl : l.length ≤ 1099511627776) (hf : ∀ f ∈ l, f.n.length ≤ 140737488351232) (hk : k.length ≤ 140737488351232) :
    Con Tryd.prog 37 [.v (.sl (fdV l)), .v (.str k)] [] 0 (.ret (.v (.sl (stV (hvM l k))))) [] := by
  have hfl := fdV_len l
  refine con_of Tryd.func37 rfl (by show _ ≤ 25; simp) fun X Q hP hnt hnp hret hpan => ?_
  obtain ⟨P0, nt0, w0, K0, S0, np0, pin0, df0⟩ := X
  simp only at hP hnt hnp
  subst hP hnp
  obtain rfl : nt0 = 25 := hnt
  refine aw_region fun K1 hK1 => ?_
  refine aL z_assign ?_
  refine awl_nil (hK1 _ _ ?_)
  clear hK1 K1
  refine aw_region fun K2 hK2 => ?_
  refine aL z_assign ?_
  refine awl_nil (hK2 _ _ ?_)
  clear hK2 K2
  refine aw_seq fun K3 hK3 => ?_
  refine aw_region fun K4 hK4 => ?_
  refine aL z_move ?_
  first
    | refine aL (z_lenB Tryd.underlying26) ?_
    | refine aL (z_len Tryd.underlying26) ?_
    | refine aL (z_lenV Tryd.underlying26) ?_
  refine aL z_move ?_
  refine awl_nil (hK4 _ _ ?_)
  clear hK4 K4
  refine aw_block ?_
  refine aw_loop (α := {q : Nat // q ≤ l.length}) (fun x => ([(1, .v (.str k)), (5, .view 2 0 0 (hvM (l.take x.1) k).length), (8, .v (.sl (fdV l))), (9, .v (.int .i64 (l.length : Int))), (10, .v (.int .i64 (x.1 : Int)))], [(2, .row 0 1 9 (stV (hvM (l.take x.1) k)))])) (fun x => l.length - x.1) ⟨0, Nat.zero_le _⟩ ?_ ?_
  · dsimp only
    rw [hfl]
    refine Weak.trans (weak_nil (t := 5) 2 1 9 (by decide) (Nat.zero_le _) rfl rfl) ?_
    exact wK
  · rintro ⟨q, hq⟩ K5 hK5
    dsimp only
    have hno : (hvM (l.take q) k).length ≤ l.length := Nat.le_trans (hvM_le _ _) (by simp; omega)
    refine aw_region fun K6 hK6 => ?_
    refine aL z_lss ?_
    refine awl_nil (hK6 _ _ ?_)
    clear hK6 K6
    refine aw_seq fun K7 hK7 => ?_
    refine aC (fun r1 c1 => ?_) (fun r1 c1 => ?_)
    · refine aw_skip ?_
      refine hK7 _ _ ?_
      clear hK7
      refine aw_seq fun K8 hK8 => ?_
      refine aw_block ?_
      refine aw_region fun K9 hK9 => ?_
      have hlt : q < l.length := by omega
      have hi := fdV_get hlt
      first
        | refine aL (z_indexAddr Tryd.underlying26 sz_47) ?_
        | refine aL (z_indexAddrV Tryd.underlying26 sz_47) ?_
      first
        | refine aL (z_load sz_47) ?_
        | refine aL (z_loadRef sz_47) ?_
        | refine aL (z_loadV sz_47) ?_
      refine aL (z_alloc 5 zc_47 zl_47) ?_
      refine aL (z_store sz_47) ?_
      refine awl_nil (hK9 _ _ ?_)
      clear hK9 K9
      refine aw_region fun K10 hK10 => ?_
      first
        | refine aL (z_fieldAddr fo_47_0) ?_
        | refine aL (z_fieldRef fo_47_0) ?_
        | refine aL (z_fieldV fo_47_0) ?_
      first
        | refine aL (z_load sz_9) ?_
        | refine aL (z_loadRef sz_9) ?_
        | refine aL (z_loadV sz_9) ?_
      refine aL z_move ?_
      refine aL (z_call0 (eC (eC .nil)) en_31 (con_SameO (l := l[q].n) (r := k) (hf _ (List.getElem_mem hlt)) hk)) ?_
      refine awl_nil (hK10 _ _ ?_)
      clear hK10 K10
      refine aC (fun r2 c2 => ?_) (fun r2 c2 => ?_)
      · refine aw_region_last ?_
        refine aL z_move ?_
        first
          | refine aL (z_fieldAddr fo_47_1) ?_
          | refine aL (z_fieldRef fo_47_1) ?_
          | refine aL (z_fieldV fo_47_1) ?_
        first
          | refine aL (z_load sz_9) ?_
          | refine aL (z_loadRef sz_9) ?_
          | refine aL (z_loadV sz_9) ?_
        refine aL (z_lits (pC .nil) Tryd.underlying35 sz_9 zc_9 zl_9 (c := [[_]])) ?_
        refine aL (z_app Tryd.underlying35 zi_9 (c' := stV (hvM (l.take q) k ++ [l[q].v])) (hc := stV_snoc rfl) (hb := by simp; omega)) ?_
        refine aL z_assign ?_
        refine awl_nil ?_
        refine hK8 _ _ ?_
        clear hK8
        refine aw_region_last ?_
        refine aL z_add ?_
        refine aL z_move ?_
        refine awl_nil ?_
        refine hK5 _ _ ⟨q + 1, by omega⟩ (by dsimp only; omega) ?_
        dsimp only
        first
          | (have hc : lowM l[q].n = lowM k := of_decide_eq_true r2
             rw [hvM_yes hlt hc]
             exact Weak.trans (weak_rever 2 0 rfl) wK)
          | (have hc : ¬ lowM l[q].n = lowM k := of_decide_eq_false r2
             rw [hvM_no hlt hc]
             exact wK)
      · refine aw_skip ?_
        refine hK8 _ _ ?_
        clear hK8
        refine aw_region_last ?_
        refine aL z_add ?_
        refine aL z_move ?_
        refine awl_nil ?_
        refine hK5 _ _ ⟨q + 1, by omega⟩ (by dsimp only; omega) ?_
        dsimp only
        first
          | (have hc : lowM l[q].n = lowM k := of_decide_eq_true r2
             rw [hvM_yes hlt hc]
             exact Weak.trans (weak_rever 2 0 rfl) wK)
          | (have hc : ¬ lowM l[q].n = lowM k := of_decide_eq_false r2
             rw [hvM_no hlt hc]
             exact wK)
    · refine aw_exit ?_
      refine hK3 _ _ ?_
      clear hK3
      refine aw_region fun K11 hK11 => ?_
      refine aL z_move ?_
      refine aL z_assign ?_
      refine awl_nil (hK11 _ _ ?_)
      clear hK11 K11
      obtain rfl : q = l.length := (by omega)
      rw [List.take_length]
      refine aw_weak (weak_all (fr' := [(4, .v (.sl (stV (hvM l k))))]) (ah' := []) (some (2, 0, stV (hvM l k))) ⟨rfl, _, _, rfl⟩ .nil (.cons rfl (.view rfl (cutW (by simp))) .nil)) ?_
      refine aw_ret ?_
      refine (hret _ _ _ _ _ rfl (.tmp rfl .nil) rfl ?_ .nil rfl).1
      rfl
end Go.Proofs.YthflfnehdlpmdaaDoor
