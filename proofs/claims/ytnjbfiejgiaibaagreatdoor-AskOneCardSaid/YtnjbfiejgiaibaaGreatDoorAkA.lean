/- Layer 14: requests: what may go, and the small functions. No condition. -/
import Derived.Test.YtnjbfiejgiaibaaGreatDoorAtToHdR
import Derived.Test.YtnjbfiejgiaibaaGreatDoorBg
namespace Go.Proofs.YtnjbfiejgiaibaaGreatDoor
set_option linter.all false
open Go Go.RowKit
set_option maxRecDepth 10000
set_option maxHeartbeats 4000000
abbrev NIL : D := .v (.lit (.slice none 0 0))
/-- A request. -/
structure Ak where
  m : List UInt8
  t : List UInt8
  fs : List Fd
  b : List UInt8
abbrev Ak.vs (a : Ak) : List V := [.str a.m, .str a.t, .sl (fdV a.fs), .str a.b]
abbrev Ak.csX (a : Ak) (d : D) : List D := [.v (.str a.m), .v (.str a.t), d, .v (.str a.b)]
abbrev Ak.cs (a : Ak) : List D := a.csX (.v (.sl (fdV a.fs)))
def tgC (c : UInt8) : Bool := decide (33 ≤ c.toNat ∧ c.toNat ≤ 126)
def targM (s : List UInt8) : Bool := s.all tgC && !s.isEmpty
theorem targ_at {s : List UInt8} {k : Nat} (h : k < s.length) (hc : tgC s[k] = false) : targM s = false := by
  unfold targM
  rw [Bool.and_eq_false_iff]; left
  rw [Bool.eq_false_iff]
  intro h2
  rw [List.all_eq_true.1 h2 _ (List.getElem_mem h)] at hc; cases hc
theorem targ_all {s : List UInt8} {k : Nat} (hk : k = s.length) (h : (s.take k).all tgC = true) : targM s = !s.isEmpty := by
  subst hk
  rw [List.take_length] at h
  unfold targM; rw [h, Bool.true_and]
theorem all_succ {s : List UInt8} {k : Nat} {p : UInt8 → Bool} (h : k < s.length) (ha : (s.take k).all p = true) (hp : p s[k] = true) : (s.take (k + 1)).all p = true := by
  rw [List.take_add_one, List.getElem?_eq_getElem h, List.all_append, ha]; simp [hp]
theorem con_target {s : List UInt8} (hs : s.length ≤ 140737488355328) : Con Tryz.prog 48 [.v (.str s)] [] 0 (.ret (.v (.bool (targM s)))) [] := by
  refine con_of Tryz.func48 rfl (by show _ ≤ 22; simp) fun X Q hP hnt hnp hret hpan => ?_
  obtain ⟨P0, nt0, w0, K0, S0, np0, pin0, df0⟩ := X
  simp only at hP hnt hnp
  subst hP hnp
  obtain rfl : nt0 = 22 := hnt
  refine aw_region fun K1 hK1 => ?_
  refine aL z_assign ?_
  refine awl_nil (hK1 _ _ ?_)
  clear hK1 K1
  refine aw_seq fun K2 hK2 => ?_
  refine aw_region fun K3 hK3 => ?_
  refine aL z_move ?_
  refine aL (z_lenS Tryz.underlying9) ?_
  refine aL z_move ?_
  refine awl_nil (hK3 _ _ ?_)
  clear hK3 K3
  refine aw_block ?_
  refine aw_loop (α := {k : Nat // k ≤ s.length ∧ (s.take k).all tgC = true}) (fun x => ([(0, .v (.str s)), (5, .v (.int .i64 (s.length : Int))), (6, .v (.int .i64 (x.1 : Int)))], [])) (fun x => s.length - x.1) ⟨0, by omega, rfl⟩ ?_ ?_
  · dsimp only
    exact wK
  · rintro ⟨k, hk, ha⟩ K4 hK4
    dsimp only
    refine aw_region fun K5 hK5 => ?_
    refine aL z_lss ?_
    refine awl_nil (hK5 _ _ ?_)
    clear hK5 K5
    refine aw_seq fun K6 hK6 => ?_
    refine aC (fun r1 c1 => ?_) (fun r1 c1 => ?_)
    · refine aw_skip ?_
      refine hK6 _ _ ?_
      clear hK6
      refine aw_seq fun K7 hK7 => ?_
      refine aw_block ?_
      refine aw_region fun K8 hK8 => ?_
      have hlt : k < s.length := by omega
      have hi : s[k]? = some s[k] := List.getElem?_eq_getElem hlt
      refine aL z_move ?_
      refine aL z_assign ?_
      refine awl_nil (hK8 _ _ ?_)
      clear hK8 K8
      refine aw_region fun K9 hK9 => ?_
      refine aL z_move ?_
      refine aL z_move ?_
      refine aL (z_indexS Tryz.underlying9) ?_
      refine aL z_lss ?_
      refine aL z_move ?_
      first
        | refine gL rfl rfl (ev_tmp rfl) (fun hg => z_move) ?_
        | refine hL rfl rfl (ev_tmp rfl) (fun hg => z_move) ?_
      first
        | refine gL rfl rfl (ev_tmp rfl) (fun hg => z_move) ?_
        | refine hL rfl rfl (ev_tmp rfl) (fun hg => z_move) ?_
      first
        | refine gL rfl rfl (ev_tmp rfl) (fun hg => z_indexS Tryz.underlying9) ?_
        | refine hL rfl rfl (ev_tmp rfl) (fun hg => z_indexS Tryz.underlying9) ?_
      first
        | refine gL rfl rfl (ev_tmp rfl) (fun hg => z_gtr) ?_
        | refine hL rfl rfl (ev_tmp rfl) (fun hg => z_gtr) ?_
      refine aL z_or ?_
      refine awl_nil (hK9 _ _ ?_)
      clear hK9 K9
      refine aC (fun r2 c2 => ?_) (fun r2 c2 => ?_)
      · refine aw_region fun K10 hK10 => ?_
        refine aL z_assign ?_
        refine awl_nil (hK10 _ _ ?_)
        clear hK10 K10
        refine aw_ret ?_
        refine (hret _ _ _ _ _ rfl (.tmp rfl .nil) rfl ?_ .nil rfl).1
        first
          | (have hh := hlt
             have hc : tgC s[k] = false := decide_eq_false (by omega)
             rw [targ_at hlt hc]; rfl)
          | (rw [targ_all (by omega) ha]; cases s <;> rfl)
      · refine aw_skip ?_
        refine hK7 _ _ ?_
        clear hK7
        refine aw_region_last ?_
        refine aL z_add ?_
        refine aL z_move ?_
        refine awl_nil ?_
        have hc : tgC s[k] = true := decide_eq_true (by omega)
        refine hK4 _ _ ⟨k + 1, by omega, all_succ hlt ha hc⟩ (by dsimp only; omega) ?_
        exact wK
    · refine aw_exit ?_
      refine hK2 _ _ ?_
      clear hK2
      refine aw_region fun K11 hK11 => ?_
      refine aL z_move ?_
      refine aL z_neqS ?_
      refine aL z_assign ?_
      refine awl_nil (hK11 _ _ ?_)
      clear hK11 K11
      refine aw_ret ?_
      refine (hret _ _ _ _ _ rfl (.tmp rfl .nil) rfl ?_ .nil rfl).1
      first
        | (have hh := hlt
           have hc : tgC s[k] = false := decide_eq_false (by omega)
           rw [targ_at hlt hc]; rfl)
        | (rw [targ_all (by omega) ha]; cases s <;> rfl)
/-- Does a field say where a message ends? -/
def frmM (n : List UInt8) : Bool := lowM n == [99, 111, 110, 116, 101, 110, 116, 45, 108, 101, 110, 103, 116, 104] || lowM n == [116, 114, 97, 110, 115, 102, 101, 114, 45, 101, 110, 99, 111, 100, 105, 110, 103]
theorem low_cl : lowM [99, 111, 110, 116, 101, 110, 116, 45, 108, 101, 110, 103, 116, 104] = [99, 111, 110, 116, 101, 110, 116, 45, 108, 101, 110, 103, 116, 104] := by decide
theorem low_te : lowM [116, 114, 97, 110, 115, 102, 101, 114, 45, 101, 110, 99, 111, 100, 105, 110, 103] = [116, 114, 97, 110, 115, 102, 101, 114, 45, 101, 110, 99, 111, 100, 105, 110, 103] := by decide
theorem con_framing {n : List UInt8} (hn : n.length ≤ 140737488351232) : Con Tryz.prog 66 [.v (.str n)] [] 0 (.ret (.v (.bool (frmM n)))) [] := by
  refine con_of Tryz.func66 rfl (by show _ ≤ 9; simp) fun X Q hP hnt hnp hret hpan => ?_
  obtain ⟨P0, nt0, w0, K0, S0, np0, pin0, df0⟩ := X
  simp only at hP hnt hnp
  subst hP hnp
  obtain rfl : nt0 = 9 := hnt
  refine aw_region fun K1 hK1 => ?_
  refine aL z_assign ?_
  refine awl_nil (hK1 _ _ ?_)
  clear hK1 K1
  refine aw_region fun K2 hK2 => ?_
  refine aL z_move ?_
  first
    | refine aL (z_call0 (eC (eC .nil)) en_84 (con_SameO (r := [99, 111, 110, 116, 101, 110, 116, 45, 108, 101, 110, 103, 116, 104]) hn (by decide))) ?_
    | refine aL (z_call0 (eC (eC .nil)) en_84 (con_SameO (r := [116, 114, 97, 110, 115, 102, 101, 114, 45, 101, 110, 99, 111, 100, 105, 110, 103]) hn (by decide))) ?_
  refine aL z_move ?_
  first
    | refine gL rfl rfl (ev_tmp rfl) (fun hg => z_move) ?_
    | refine hL rfl rfl (ev_tmp rfl) (fun hg => z_move) ?_
  first
    | refine gL rfl rfl (ev_tmp rfl) (fun hg => z_call0 (eC (eC .nil)) en_84 (con_SameO (r := [99, 111, 110, 116, 101, 110, 116, 45, 108, 101, 110, 103, 116, 104]) hn (by decide))) ?_
    | refine gL rfl rfl (ev_tmp rfl) (fun hg => z_call0 (eC (eC .nil)) en_84 (con_SameO (r := [116, 114, 97, 110, 115, 102, 101, 114, 45, 101, 110, 99, 111, 100, 105, 110, 103]) hn (by decide))) ?_
    | refine hL rfl rfl (ev_tmp rfl) (fun hg => z_call0 (eC (eC .nil)) en_84 (con_SameO (r := [99, 111, 110, 116, 101, 110, 116, 45, 108, 101, 110, 103, 116, 104]) hn (by decide))) ?_
    | refine hL rfl rfl (ev_tmp rfl) (fun hg => z_call0 (eC (eC .nil)) en_84 (con_SameO (r := [116, 114, 97, 110, 115, 102, 101, 114, 45, 101, 110, 99, 111, 100, 105, 110, 103]) hn (by decide))) ?_
  refine aL z_or ?_
  refine aL z_assign ?_
  refine awl_nil (hK2 _ _ ?_)
  clear hK2 K2
  refine aw_ret ?_
  refine (hret _ _ _ _ _ rfl (.tmp rfl .nil) rfl ?_ .nil rfl).1
  simp only [retD, frmM, low_cl, low_te, Bool.beq_eq_decide_eq]
/-- May a field go? May a request? -/
def mayF (f : Fd) : Bool := tokenM f.n && !frmM f.n && valueM f.v
def mayM (a : Ak) : Bool := a.fs.all mayF && (tokenM a.m && targM a.t)
def Ak.fits (a : Ak) : Prop := a.m.length ≤ 140737488351232 ∧ a.t.length ≤ 140737488351232 ∧ a.b.length ≤ 140737488351232 ∧ a.fs.length ≤ 4398046511104 ∧ ∀ f ∈ a.fs, f.n.length ≤ 140737488351232 ∧ f.v.length ≤ 140737488351232
theorem may_at {a : Ak} {k : Nat} (h : k < a.fs.length) (hf : mayF a.fs[k] = false) : mayM a = false := by
  unfold mayM
  rw [Bool.and_eq_false_iff]; left
  rw [Bool.eq_false_iff]
  intro h2
  rw [List.all_eq_true.1 h2 _ (List.getElem_mem h)] at hf; cases hf
theorem may_all {a : Ak} {k : Nat} (hk : k = a.fs.length) (h : (a.fs.take k).all mayF = true) : mayM a = (tokenM a.m && targM a.t) := by
  subst hk
  rw [List.take_length] at h
  unfold mayM; rw [h, Bool.true_and]
theorem allF_succ {s : List Fd} {k : Nat} {p : Fd → Bool} (h : k < s.length) (ha : (s.take k).all p = true) (hp : p s[k] = true) : (s.take (k + 1)).all p = true := by
  rw [List.take_add_one, List.getElem?_eq_getElem h, List.all_append, ha]; simp [hp]
theorem con_may {a : Ak} (ha : a.fits) : Con Tryz.prog 38 [.agg a.cs] [] 0 (.ret (.v (.bool (mayM a)))) [] := by
  obtain ⟨h1, h2, h3, h4, h5⟩ := ha
  have hfl := fdV_len a.fs
  refine con_of Tryz.func38 rfl (by show _ ≤ 36; simp) fun X Q hP hnt hnp hret hpan => ?_
  obtain ⟨P0, nt0, w0, K0, S0, np0, pin0, df0⟩ := X
  simp only at hP hnt hnp
  subst hP hnp
  obtain rfl : nt0 = 36 := hnt
  refine aw_region fun K1 hK1 => ?_
  refine aL (z_box 0) ?_
  refine aL z_assign ?_
  refine awl_nil (hK1 _ _ ?_)
  clear hK1 K1
  refine aw_seq fun K2 hK2 => ?_
  refine aw_region fun K3 hK3 => ?_
  first
    | refine aL (z_fieldAddr fo_26_2) ?_
    | refine aL (z_fieldRef fo_26_2) ?_
    | refine aL (z_fieldV fo_26_2) ?_
  first
    | refine aL (z_load sz_24) ?_
    | refine aL (z_loadRef sz_24) ?_
    | refine aL (z_loadV sz_24) ?_
  first
    | refine aL (z_lenB Tryz.underlying24) ?_
    | refine aL (z_len Tryz.underlying24) ?_
    | refine aL (z_lenV Tryz.underlying24) ?_
  refine aL z_move ?_
  refine awl_nil (hK3 _ _ ?_)
  clear hK3 K3
  refine aw_block ?_
  refine aw_loop (α := {k : Nat // k ≤ a.fs.length ∧ (a.fs.take k).all mayF = true}) (fun x => ([(1, .ptr 0 0), (6, .v (.sl (fdV a.fs))), (7, .v (.int .i64 (a.fs.length : Int))), (8, .v (.int .i64 (x.1 : Int)))], [(0, .box a.cs)])) (fun x => a.fs.length - x.1) ⟨0, by omega, rfl⟩ ?_ ?_
  · dsimp only
    rw [hfl]
    exact wK
  · rintro ⟨k, hk, hal⟩ K4 hK4
    dsimp only
    refine aw_region fun K5 hK5 => ?_
    refine aL z_lss ?_
    refine awl_nil (hK5 _ _ ?_)
    clear hK5 K5
    refine aw_seq fun K6 hK6 => ?_
    refine aC (fun r1 c1 => ?_) (fun r1 c1 => ?_)
    · refine aw_skip ?_
      refine hK6 _ _ ?_
      clear hK6
      refine aw_seq fun K7 hK7 => ?_
      refine aw_block ?_
      refine aw_region fun K8 hK8 => ?_
      have hlt : k < a.fs.length := by omega
      have hi := fdV_get hlt
      obtain ⟨hz1, hz2⟩ := h5 _ (List.getElem_mem hlt)
      first
        | refine aL (z_indexAddr Tryz.underlying24 sz_46) ?_
        | refine aL (z_indexAddrV Tryz.underlying24 sz_46) ?_
      first
        | refine aL (z_load sz_46) ?_
        | refine aL (z_loadRef sz_46) ?_
        | refine aL (z_loadV sz_46) ?_
      refine aL (z_alloc 1 zc_46 zl_46) ?_
      refine aL (z_store sz_46) ?_
      refine awl_nil (hK8 _ _ ?_)
      clear hK8 K8
      refine aw_region fun K9 hK9 => ?_
      first
        | refine aL (z_fieldAddr fo_46_0) ?_
        | refine aL (z_fieldRef fo_46_0) ?_
        | refine aL (z_fieldV fo_46_0) ?_
      first
        | refine aL (z_load sz_9) ?_
        | refine aL (z_loadRef sz_9) ?_
        | refine aL (z_loadV sz_9) ?_
      first
        | refine aL (z_call0 (eC .nil) en_47 (con_Token (l := a.m) (by unfold maxLen; omega))) ?_
        | refine aL (z_call0 (eC .nil) en_47 (con_Token (l := a.fs[k].n) (by unfold maxLen; omega))) ?_
      refine aL z_not ?_
      refine aL z_move ?_
      first
        | refine gL rfl rfl (ev_tmp rfl) (fun hg => z_fieldAddr fo_46_0) ?_
        | refine gL rfl rfl (ev_tmp rfl) (fun hg => z_fieldRef fo_46_0) ?_
        | refine gL rfl rfl (ev_tmp rfl) (fun hg => z_fieldV fo_46_0) ?_
        | refine hL rfl rfl (ev_tmp rfl) (fun hg => z_fieldAddr fo_46_0) ?_
        | refine hL rfl rfl (ev_tmp rfl) (fun hg => z_fieldRef fo_46_0) ?_
        | refine hL rfl rfl (ev_tmp rfl) (fun hg => z_fieldV fo_46_0) ?_
      first
        | refine gL rfl rfl (ev_tmp rfl) (fun hg => z_load sz_9) ?_
        | refine gL rfl rfl (ev_tmp rfl) (fun hg => z_loadRef sz_9) ?_
        | refine gL rfl rfl (ev_tmp rfl) (fun hg => z_loadV sz_9) ?_
        | refine hL rfl rfl (ev_tmp rfl) (fun hg => z_load sz_9) ?_
        | refine hL rfl rfl (ev_tmp rfl) (fun hg => z_loadRef sz_9) ?_
        | refine hL rfl rfl (ev_tmp rfl) (fun hg => z_loadV sz_9) ?_
      first
        | refine gL rfl rfl (ev_tmp rfl) (fun hg => z_call0 (eC .nil) en_66 (con_framing (n := a.fs[k].n) (by omega))) ?_
        | refine hL rfl rfl (ev_tmp rfl) (fun hg => z_call0 (eC .nil) en_66 (con_framing (n := a.fs[k].n) (by omega))) ?_
      refine aL z_or ?_
      refine aL z_move ?_
      first
        | refine gL rfl rfl (ev_tmp rfl) (fun hg => z_fieldAddr fo_46_1) ?_
        | refine gL rfl rfl (ev_tmp rfl) (fun hg => z_fieldRef fo_46_1) ?_
        | refine gL rfl rfl (ev_tmp rfl) (fun hg => z_fieldV fo_46_1) ?_
        | refine hL rfl rfl (ev_tmp rfl) (fun hg => z_fieldAddr fo_46_1) ?_
        | refine hL rfl rfl (ev_tmp rfl) (fun hg => z_fieldRef fo_46_1) ?_
        | refine hL rfl rfl (ev_tmp rfl) (fun hg => z_fieldV fo_46_1) ?_
      first
        | refine gL rfl rfl (ev_tmp rfl) (fun hg => z_load sz_9) ?_
        | refine gL rfl rfl (ev_tmp rfl) (fun hg => z_loadRef sz_9) ?_
        | refine gL rfl rfl (ev_tmp rfl) (fun hg => z_loadV sz_9) ?_
        | refine hL rfl rfl (ev_tmp rfl) (fun hg => z_load sz_9) ?_
        | refine hL rfl rfl (ev_tmp rfl) (fun hg => z_loadRef sz_9) ?_
        | refine hL rfl rfl (ev_tmp rfl) (fun hg => z_loadV sz_9) ?_
      first
        | refine gL rfl rfl (ev_tmp rfl) (fun hg => z_call0 (eC .nil) en_55 (con_Value (l := a.fs[k].v) (by unfold maxLen; omega))) ?_
        | refine hL rfl rfl (ev_tmp rfl) (fun hg => z_call0 (eC .nil) en_55 (con_Value (l := a.fs[k].v) (by unfold maxLen; omega))) ?_
      first
        | refine gL rfl rfl (ev_tmp rfl) (fun hg => z_not) ?_
        | refine hL rfl rfl (ev_tmp rfl) (fun hg => z_not) ?_
      refine aL z_or ?_
      refine awl_nil (hK9 _ _ ?_)
      clear hK9 K9
      refine aC (fun r2 c2 => ?_) (fun r2 c2 => ?_)
      · refine aw_region fun K10 hK10 => ?_
        refine aL z_assign ?_
        refine awl_nil (hK10 _ _ ?_)
        clear hK10 K10
        refine aw_ret ?_
        refine (hret _ _ _ _ _ rfl (.tmp rfl .nil) rfl ?_ .nil rfl).1
        first
          | (have hh := hlt
             have hc : mayF a.fs[k] = false := (by unfold mayF; revert c2; cases tokenM a.fs[k].n <;> cases frmM a.fs[k].n <;> cases valueM a.fs[k].v <;> simp)
             rw [may_at hlt hc]; rfl)
          | (rw [may_all (by omega) hal]; rfl)
      · refine aw_skip ?_
        refine hK7 _ _ ?_
        clear hK7
        refine aw_region_last ?_
        refine aL z_add ?_
        refine aL z_move ?_
        refine awl_nil ?_
        have hc : mayF a.fs[k] = true := (by unfold mayF; simp_all)
        refine hK4 _ _ ⟨k + 1, by omega, allF_succ hlt hal hc⟩ (by dsimp only; omega) ?_
        exact wK
    · refine aw_exit ?_
      refine hK2 _ _ ?_
      clear hK2
      refine aw_region fun K11 hK11 => ?_
      first
        | refine aL (z_fieldAddr fo_26_0) ?_
        | refine aL (z_fieldRef fo_26_0) ?_
        | refine aL (z_fieldV fo_26_0) ?_
      first
        | refine aL (z_load sz_9) ?_
        | refine aL (z_loadRef sz_9) ?_
        | refine aL (z_loadV sz_9) ?_
      first
        | refine aL (z_call0 (eC .nil) en_47 (con_Token (l := a.m) (by unfold maxLen; omega))) ?_
        | refine aL (z_call0 (eC .nil) en_47 (con_Token (l := a.fs[k].n) (by unfold maxLen; omega))) ?_
      refine aL z_move ?_
      first
        | refine gL rfl rfl (ev_tmp rfl) (fun hg => z_fieldAddr fo_26_1) ?_
        | refine gL rfl rfl (ev_tmp rfl) (fun hg => z_fieldRef fo_26_1) ?_
        | refine gL rfl rfl (ev_tmp rfl) (fun hg => z_fieldV fo_26_1) ?_
        | refine hL rfl rfl (ev_tmp rfl) (fun hg => z_fieldAddr fo_26_1) ?_
        | refine hL rfl rfl (ev_tmp rfl) (fun hg => z_fieldRef fo_26_1) ?_
        | refine hL rfl rfl (ev_tmp rfl) (fun hg => z_fieldV fo_26_1) ?_
      first
        | refine gL rfl rfl (ev_tmp rfl) (fun hg => z_load sz_9) ?_
        | refine gL rfl rfl (ev_tmp rfl) (fun hg => z_loadRef sz_9) ?_
        | refine gL rfl rfl (ev_tmp rfl) (fun hg => z_loadV sz_9) ?_
        | refine hL rfl rfl (ev_tmp rfl) (fun hg => z_load sz_9) ?_
        | refine hL rfl rfl (ev_tmp rfl) (fun hg => z_loadRef sz_9) ?_
        | refine hL rfl rfl (ev_tmp rfl) (fun hg => z_loadV sz_9) ?_
      first
        | refine gL rfl rfl (ev_tmp rfl) (fun hg => z_call0 (eC .nil) en_48 (con_target (s := a.t) (by omega))) ?_
        | refine hL rfl rfl (ev_tmp rfl) (fun hg => z_call0 (eC .nil) en_48 (con_target (s := a.t) (by omega))) ?_
      refine aL z_and ?_
      refine aL z_assign ?_
      refine awl_nil (hK11 _ _ ?_)
      clear hK11 K11
      refine aw_ret ?_
      refine (hret _ _ _ _ _ rfl (.tmp rfl .nil) rfl ?_ .nil rfl).1
      first
        | (have hh := hlt
           have hc : mayF a.fs[k] = false := (by unfold mayF; revert c2; cases tokenM a.fs[k].n <;> cases frmM a.fs[k].n <;> cases valueM a.fs[k].v <;> simp)
           rw [may_at hlt hc]; rfl)
        | (rw [may_all (by omega) hal]; rfl)
def lngM (a : Ak) : Bool := !(a.b == []) || a.m == [80, 79, 83, 84] || a.m == [80, 85, 84] || a.m == [80, 65, 84, 67, 72]
theorem con_lengthy {a : Ak} : Con Tryz.prog 40 [.agg a.cs] [] 0 (.ret (.v (.bool (lngM a)))) [] := by
  refine con_of Tryz.func40 rfl (by show _ ≤ 21; simp) fun X Q hP hnt hnp hret hpan => ?_
  obtain ⟨P0, nt0, w0, K0, S0, np0, pin0, df0⟩ := X
  simp only at hP hnt hnp
  subst hP hnp
  obtain rfl : nt0 = 21 := hnt
  refine aw_region fun K1 hK1 => ?_
  refine aL (z_box 0) ?_
  refine aL z_assign ?_
  refine awl_nil (hK1 _ _ ?_)
  clear hK1 K1
  refine aw_region fun K2 hK2 => ?_
  first
    | refine aL (z_fieldAddr fo_26_3) ?_
    | refine aL (z_fieldRef fo_26_3) ?_
    | refine aL (z_fieldV fo_26_3) ?_
  first
    | refine aL (z_load sz_9) ?_
    | refine aL (z_loadRef sz_9) ?_
    | refine aL (z_loadV sz_9) ?_
  refine aL z_neqS ?_
  refine aL z_move ?_
  first
    | refine gL rfl rfl (ev_tmp rfl) (fun hg => z_fieldAddr fo_26_0) ?_
    | refine gL rfl rfl (ev_tmp rfl) (fun hg => z_fieldRef fo_26_0) ?_
    | refine gL rfl rfl (ev_tmp rfl) (fun hg => z_fieldV fo_26_0) ?_
    | refine hL rfl rfl (ev_tmp rfl) (fun hg => z_fieldAddr fo_26_0) ?_
    | refine hL rfl rfl (ev_tmp rfl) (fun hg => z_fieldRef fo_26_0) ?_
    | refine hL rfl rfl (ev_tmp rfl) (fun hg => z_fieldV fo_26_0) ?_
  first
    | refine gL rfl rfl (ev_tmp rfl) (fun hg => z_load sz_9) ?_
    | refine gL rfl rfl (ev_tmp rfl) (fun hg => z_loadRef sz_9) ?_
    | refine gL rfl rfl (ev_tmp rfl) (fun hg => z_loadV sz_9) ?_
    | refine hL rfl rfl (ev_tmp rfl) (fun hg => z_load sz_9) ?_
    | refine hL rfl rfl (ev_tmp rfl) (fun hg => z_loadRef sz_9) ?_
    | refine hL rfl rfl (ev_tmp rfl) (fun hg => z_loadV sz_9) ?_
  first
    | refine gL rfl rfl (ev_tmp rfl) (fun hg => z_eqlS) ?_
    | refine hL rfl rfl (ev_tmp rfl) (fun hg => z_eqlS) ?_
  refine aL z_or ?_
  refine aL z_move ?_
  first
    | refine gL rfl rfl (ev_tmp rfl) (fun hg => z_fieldAddr fo_26_0) ?_
    | refine gL rfl rfl (ev_tmp rfl) (fun hg => z_fieldRef fo_26_0) ?_
    | refine gL rfl rfl (ev_tmp rfl) (fun hg => z_fieldV fo_26_0) ?_
    | refine hL rfl rfl (ev_tmp rfl) (fun hg => z_fieldAddr fo_26_0) ?_
    | refine hL rfl rfl (ev_tmp rfl) (fun hg => z_fieldRef fo_26_0) ?_
    | refine hL rfl rfl (ev_tmp rfl) (fun hg => z_fieldV fo_26_0) ?_
  first
    | refine gL rfl rfl (ev_tmp rfl) (fun hg => z_load sz_9) ?_
    | refine gL rfl rfl (ev_tmp rfl) (fun hg => z_loadRef sz_9) ?_
    | refine gL rfl rfl (ev_tmp rfl) (fun hg => z_loadV sz_9) ?_
    | refine hL rfl rfl (ev_tmp rfl) (fun hg => z_load sz_9) ?_
    | refine hL rfl rfl (ev_tmp rfl) (fun hg => z_loadRef sz_9) ?_
    | refine hL rfl rfl (ev_tmp rfl) (fun hg => z_loadV sz_9) ?_
  first
    | refine gL rfl rfl (ev_tmp rfl) (fun hg => z_eqlS) ?_
    | refine hL rfl rfl (ev_tmp rfl) (fun hg => z_eqlS) ?_
  refine aL z_or ?_
  refine aL z_move ?_
  first
    | refine gL rfl rfl (ev_tmp rfl) (fun hg => z_fieldAddr fo_26_0) ?_
    | refine gL rfl rfl (ev_tmp rfl) (fun hg => z_fieldRef fo_26_0) ?_
    | refine gL rfl rfl (ev_tmp rfl) (fun hg => z_fieldV fo_26_0) ?_
    | refine hL rfl rfl (ev_tmp rfl) (fun hg => z_fieldAddr fo_26_0) ?_
    | refine hL rfl rfl (ev_tmp rfl) (fun hg => z_fieldRef fo_26_0) ?_
    | refine hL rfl rfl (ev_tmp rfl) (fun hg => z_fieldV fo_26_0) ?_
  first
    | refine gL rfl rfl (ev_tmp rfl) (fun hg => z_load sz_9) ?_
    | refine gL rfl rfl (ev_tmp rfl) (fun hg => z_loadRef sz_9) ?_
    | refine gL rfl rfl (ev_tmp rfl) (fun hg => z_loadV sz_9) ?_
    | refine hL rfl rfl (ev_tmp rfl) (fun hg => z_load sz_9) ?_
    | refine hL rfl rfl (ev_tmp rfl) (fun hg => z_loadRef sz_9) ?_
    | refine hL rfl rfl (ev_tmp rfl) (fun hg => z_loadV sz_9) ?_
  first
    | refine gL rfl rfl (ev_tmp rfl) (fun hg => z_eqlS) ?_
    | refine hL rfl rfl (ev_tmp rfl) (fun hg => z_eqlS) ?_
  refine aL z_or ?_
  refine aL z_assign ?_
  refine awl_nil (hK2 _ _ ?_)
  clear hK2 K2
  refine aw_ret ?_
  refine (hret _ _ _ _ _ rfl (.tmp rfl .nil) rfl ?_ .nil rfl).1
  rfl
end Go.Proofs.YtnjbfiejgiaibaaGreatDoor
