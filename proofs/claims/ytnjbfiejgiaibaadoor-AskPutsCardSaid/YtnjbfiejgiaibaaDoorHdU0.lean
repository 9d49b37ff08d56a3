/- Layer 10: lists compared and measured. No condition. -/
import Derived.Test.YtnjbfiejgiaibaaDoorHdC
import Derived.Test.YtnjbfiejgiaibaaDoorAt
namespace Go.Proofs.YtnjbfiejgiaibaaDoor
set_option linter.all false
open Go Go.RowKit
set_option maxRecDepth 10000
set_option maxHeartbeats 4000000
theorem eqF (f g : Fd) : eqXs f.vs g.vs = decide (f = g) := by
  rw [Bool.eq_iff_iff, decide_eq_true_iff]
  simp only [Fd.vs, eqXs, eqX, Bool.and_eq_true, beq_iff_eq, and_true]
  exact ⟨fun h => Fd.ext' h.1 h.2.1 h.2.2, fun h => by subst h; exact ⟨rfl, rfl, rfl⟩⟩
theorem take_eq_succ {a b : List Fd} {q : Nat} (ha : q < a.length) (hb : q < b.length) (h : a.take q = b.take q) (he : a[q] = b[q]) : a.take (q + 1) = b.take (q + 1) := by
  rw [take_succ' ha, take_succ' hb, h, he]
theorem byM_at {l : List Fd} {q n : Nat} (h : q < l.length) : byM n (l.drop q) = byM (if n < 1073741824 then n + (l[q]).n.length + (l[q]).v.length + 32 else n) (l.drop (q + 1)) := by
  rw [List.drop_eq_getElem_cons h, byM]
def byI (n : Nat) (l : List Fd) (B : Nat) : Prop := byM n l = B
theorem byI_yes {l : List Fd} {q n B : Nat} (h : q < l.length) (hn : n < 1073741824) (hb : byI n (l.drop q) B) : byI (n + (l[q]).n.length + (l[q]).v.length + 32) (l.drop (q + 1)) B := by unfold byI at *; rw [byM_at h, if_pos hn] at hb; exact hb
theorem byI_no {l : List Fd} {q n B : Nat} (h : q < l.length) (hn : ¬ n < 1073741824) (hb : byI n (l.drop q) B) : byI n (l.drop (q + 1)) B := by unfold byI at *; rw [byM_at h, if_neg hn] at hb; exact hb
theorem con_Bytes {l : List Fd} (hl : l.length ≤ 4398046511104) (hf : ∀ f ∈ l, f.n.length ≤ 140737488351232 ∧ f.v.length ≤ 140737488351232) : Con Tryd.prog 12 [.v (.sl (fdV l))] [] 0 (.ret (.v (.int .i64 (byM 0 l : Nat)))) [] := by
  have hfl := fdV_len l
  generalize hB : byM 0 l = B
  replace hB : byI 0 l B := hB
  refine con_of Tryd.func12 rfl (by show _ ≤ 30; simp) fun X Q hP hnt hnp hret hpan => ?_
  obtain ⟨P0, nt0, w0, K0, S0, np0, pin0, df0⟩ := X
  simp only at hP hnt hnp
  subst hP hnp
  obtain rfl : nt0 = 30 := hnt
  refine aw_region fun K1 hK1 => ?_
  refine aL z_assign ?_
  refine awl_nil (hK1 _ _ ?_)
  clear hK1 K1
  refine aw_region fun K2 hK2 => ?_
  refine aL z_assign ?_
  refine awl_nil (hK2 _ _ ?_)
  clear hK2 K2
  refine aw_seq fun K3 hK3 => ?_
  refine aw_region fun K4 hK4 => ?_
  refine aL z_assign ?_
  refine awl_nil (hK4 _ _ ?_)
  clear hK4 K4
  refine aw_block ?_
  refine aw_loop (α := {x : Nat × Nat // x.1 ≤ l.length ∧ x.2 ≤ 1000000000000000 ∧ byI x.2 (l.drop x.1) B}) (fun x => ([(0, .v (.sl (fdV l))), (3, .v (.int .i64 (x.1.2 : Int))), (4, .v (.int .i64 (x.1.1 : Int)))], [])) (fun x => l.length - x.1.1) ⟨(0, 0), by omega, by omega, hB⟩ ?_ ?_
  · dsimp only
    exact wK
  · rintro ⟨⟨q, n⟩, hq, hn, hb⟩ K5 hK5
    dsimp only
    dsimp only at hq hn hb
    refine aw_seq fun K6 hK6 => ?_
    refine aw_region fun K7 hK7 => ?_
    refine aL z_move ?_
    refine aL z_move ?_
    first
      | refine aL (z_lenB Tryd.underlying22) ?_
      | refine aL (z_len Tryd.underlying22) ?_
      | refine aL (z_lenV Tryd.underlying22) ?_
    refine aL z_lss ?_
    refine awl_nil (hK7 _ _ ?_)
    clear hK7 K7
    refine aC (fun r1 c1 => ?_) (fun r1 c1 => ?_)
    · refine aw_skip ?_
      refine hK6 _ _ ?_
      clear hK6
      refine aw_seq fun K8 hK8 => ?_
      refine aw_block ?_
      refine aw_region fun K9 hK9 => ?_
      have hlt : q < l.length := by omega
      have hi := fdV_get hlt
      obtain ⟨hz1, hz2⟩ := hf _ (List.getElem_mem hlt)
      refine aL z_move ?_
      refine aL z_lss ?_
      refine awl_nil (hK9 _ _ ?_)
      clear hK9 K9
      refine aC (fun r2 c2 => ?_) (fun r2 c2 => ?_)
      · clear r2
        refine aw_regionD_last mx_all (by kernel_rfl) ?_
        refine aD z_move ?_
        refine aD z_move ?_
        refine aD z_move ?_
        first
          | refine aD (z_indexAddr Tryd.underlying22 sz_47) ?_
          | refine aD (z_indexAddrV Tryd.underlying22 sz_47) ?_
        first
          | refine aD (z_fieldAddr fo_47_0) ?_
          | refine aD (z_fieldRef fo_47_0) ?_
          | refine aD (z_fieldV fo_47_0) ?_
        first
          | refine aD (z_load sz_9) ?_
          | refine aD (z_loadRef sz_9) ?_
          | refine aD (z_loadV sz_9) ?_
        refine aD (z_lenS Tryd.underlying9) ?_
        refine aD z_add ?_
        refine aD z_move ?_
        refine aD z_move ?_
        first
          | refine aD (z_indexAddr Tryd.underlying22 sz_47) ?_
          | refine aD (z_indexAddrV Tryd.underlying22 sz_47) ?_
        first
          | refine aD (z_fieldAddr fo_47_1) ?_
          | refine aD (z_fieldRef fo_47_1) ?_
          | refine aD (z_fieldV fo_47_1) ?_
        first
          | refine aD (z_load sz_9) ?_
          | refine aD (z_loadRef sz_9) ?_
          | refine aD (z_loadV sz_9) ?_
        refine aD (z_lenS Tryd.underlying9) ?_
        refine aD z_add ?_
        refine aD z_add ?_
        refine aD z_assign ?_
        refine awd_nil (by kernel_rfl) ?_
        refine hK8 _ _ ?_
        clear hK8
        refine aw_region_last ?_
        refine aL z_move ?_
        refine aL z_add ?_
        refine aL z_assign ?_
        refine awl_nil ?_
        first
          | (have hn2 : n < 1073741824 := (by omega); have hb2 := byI_yes hlt hn2 hb; refine hK5 _ _ ⟨(q + 1, n + (l[q]).n.length + (l[q]).v.length + 32), by dsimp only; omega, by dsimp only; omega, hb2⟩ (by dsimp only; omega) ?_; dsimp only; exact wK)
          | (have hn2 : ¬ n < 1073741824 := (by omega); have hb2 := byI_no hlt hn2 hb; refine hK5 _ _ ⟨(q + 1, n), by dsimp only; omega, hn, hb2⟩ (by dsimp only; omega) ?_; dsimp only; exact wK)
      · clear r2
        refine aw_skip ?_
        refine hK8 _ _ ?_
        clear hK8
        refine aw_region_last ?_
        refine aL z_move ?_
        refine aL z_add ?_
        refine aL z_assign ?_
        refine awl_nil ?_
        first
          | (have hn2 : n < 1073741824 := (by omega); have hb2 := byI_yes hlt hn2 hb; refine hK5 _ _ ⟨(q + 1, n + (l[q]).n.length + (l[q]).v.length + 32), by dsimp only; omega, by dsimp only; omega, hb2⟩ (by dsimp only; omega) ?_; dsimp only; exact wK)
          | (have hn2 : ¬ n < 1073741824 := (by omega); have hb2 := byI_no hlt hn2 hb; refine hK5 _ _ ⟨(q + 1, n), by dsimp only; omega, hn, hb2⟩ (by dsimp only; omega) ?_; dsimp only; exact wK)
    · refine aw_exit ?_
      refine hK3 _ _ ?_
      clear hK3
      refine aw_region fun K10 hK10 => ?_
      refine aL z_move ?_
      refine aL z_assign ?_
      refine awl_nil (hK10 _ _ ?_)
      clear hK10 K10
      refine aw_ret ?_
      refine (hret _ _ _ _ _ rfl (.tmp rfl .nil) rfl ?_ .nil rfl).1
      have hx : q = l.length := (by omega)
      subst hx
      rw [List.drop_length] at hb
      obtain rfl : n = B := hb
      rfl
end Go.Proofs.YtnjbfiejgiaibaaDoor
