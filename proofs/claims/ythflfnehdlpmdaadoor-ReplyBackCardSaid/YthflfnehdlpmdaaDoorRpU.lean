/- Chapter 15: New, Close, Keeps, Left. No condition but on lengths. -/
import Derived.Test.YthflfnehdlpmdaaDoorRpT
namespace Go.Proofs.YthflfnehdlpmdaaDoor
set_option linter.all false
open Go Go.RowKit
set_option maxRecDepth 10000
set_option maxHeartbeats 4000000
abbrev ps0 (hd : Bool) : Ps := ⟨hd, .first, [], 0, false, [], 0, 0, false, false⟩
theorem ps0_ok (hd : Bool) : (ps0 hd).ok := ⟨by simp, by simp, by simp, by simp, by simp, by simp, by simp, by simp [szM], by simp⟩
theorem con_New {hd : Bool} : Con Tryd.prog 9 [.v (.bool hd)] [] 0 (.ret (.ptr 0 0)) ((ps0 hd).ah 0) := by
  refine con_of Tryd.func9 rfl (by show _ ≤ 13; simp) fun X Q hP hnt hnp hret hpan => ?_
  obtain ⟨P0, nt0, w0, K0, S0, np0, pin0, df0⟩ := X
  simp only at hP hnt hnp
  subst hP hnp
  obtain rfl : nt0 = 13 := hnt
  refine aw_region fun K1 hK1 => ?_
  refine aL z_assign ?_
  refine awl_nil (hK1 _ _ ?_)
  clear hK1 K1
  refine aw_region fun K2 hK2 => ?_
  refine aL z_move ?_
  refine aL (z_build (pC .nil) pl_54 zc_54 zl_54) ?_
  refine aL (z_box 0) ?_
  refine aL z_assign ?_
  refine awl_nil (hK2 _ _ ?_)
  clear hK2 K2
  refine aw_region fun K3 hK3 => ?_
  refine aL z_move ?_
  refine aL z_move ?_
  refine aL (z_makeFn (eC .nil) .nil) ?_
  refine aL z_nilCheck ?_
  refine aL (z_fieldAddr fo_54_1) ?_
  refine aL (z_store sz_52) ?_
  refine awl_nil (hK3 _ _ ?_)
  clear hK3 K3
  refine aw_region fun K4 hK4 => ?_
  refine aL z_move ?_
  refine aL z_assign ?_
  refine awl_nil (hK4 _ _ ?_)
  clear hK4 K4
  refine aw_weak (weak_nilB 0 2 1 1 5 rfl rfl rfl (by decide) (by exact Nat.zero_le _) rfl) (aw_weak (weak_nilB 0 5 2 3 47 rfl rfl rfl (by decide) (by exact Nat.zero_le _) rfl) (aw_weak (weak_stl 0 5 2 (c := []) rfl rfl rfl rfl) (aw_weak (weak_rever 2 0 rfl) ?_)))
  refine aw_ret ?_
  refine (hret _ _ _ _ _ rfl (.tmp rfl .nil) rfl ?_ (.box rfl rfl (.row rfl (.row rfl .nil))) rfl).1
  rfl
section
variable {X : Cx} {o : Oper} {f : Nat → D} {m : Mem}
theorem z_neqPP {dst : Option Tmp} {ty : TypeId} {ps : String} {af : Array Edge} {gd : Option (Nat × Bool)} {t t' e : TypeId} {x y : Operand} {id off : Nat} (ht : X.P.underlying t = some (.pointer e)) (hx : Ev f x (.ptr id off) := by exact ev_tmp rfl) (hy : Ev f y (.v (.lit (.pointer none))) := by first | exact ev_tmp rfl | exact ev_lit rfl) : StepU X ⟨dst, .binOp .neq t x y t', ty, ps, af, gd⟩ f m (.v (.bool true)) [] [] :=
  stepU_pure fun f' m' hf _ G w a _ hF => by
    obtain ⟨g, cs, h1, _, _⟩ := rep_ptr (ev_at hx (by simp [Op.operands]) hf hF)
    have h2 := rep_lit (ev_at hy (by simp [Op.operands]) hf hF)
    refine ⟨_, ?_, mk_bool _⟩
    simp only [execOp, h1, h2, Sem.run_bind, eqGuard_ptr, Result.andThen_ok, run_neq_pointer_nil w t _ (ptr_pointee ht), Sem.run_pure]
    rfl
end
/-- Has some field's list an element? -/
def hasM (l : List Fd) (k v : List UInt8) : Bool := (hallM l k).any fun e => decide (lowM e = lowM v)
theorem con_Has {l : List Fd} {k v : List UInt8} (hs : szM l ≤ 1000000000) (hk : k.length ≤ 140737488351232) (hv : v.length ≤ 140737488351232) : Con Tryd.prog 22 [.v (.sl (fdV l)), .v (.str k), .v (.str v)] [] 0 (.ret (.v (.bool (hasM l k v)))) [] := by
  obtain ⟨vs, hvs⟩ : ∃ vs, hallM l k = vs := ⟨_, rfl⟩
  have hA := con_hAll (l := l) (k := k) hs hk
  have hm : ∀ x ∈ vs, x.length ≤ 1000000000 := fun x hx => by rw [← hvs] at hx; have := hall_mem hx; omega
  have hvl : vs.length ≤ 1000000000 := by rw [← hvs]; have := hall_len l k; omega
  have hst := stV_len vs
  unfold hasM
  rw [hvs] at hA ⊢
  refine con_of Tryd.func22 rfl (by show _ ≤ 21; simp) fun X Q hP hnt hnp hret hpan => ?_
  obtain ⟨P0, nt0, w0, K0, S0, np0, pin0, df0⟩ := X
  simp only at hP hnt hnp
  subst hP hnp
  obtain rfl : nt0 = 21 := hnt
  refine aw_region fun K1 hK1 => ?_
  refine aL z_assign ?_
  refine awl_nil (hK1 _ _ ?_)
  clear hK1 K1
  refine aw_seq fun K2 hK2 => ?_
  refine aw_region fun K3 hK3 => ?_
  refine aL z_move ?_
  refine aL z_move ?_
  refine aL (z_call0 (eC (eC .nil)) en_30 (hA)) ?_
  refine aL (z_len Tryd.underlying35) ?_
  refine aL z_move ?_
  refine awl_nil (hK3 _ _ ?_)
  clear hK3 K3
  refine aw_block ?_
  refine aw_loop (α := {q : Nat // q ≤ vs.length ∧ (vs.take q).any (fun e => decide (lowM e = lowM v)) = false}) (fun x => ([(2, .v (.str v)), (11, .v (.sl (stV vs))), (12, .v (.int .i64 (vs.length : Int))), (13, .v (.int .i64 (x.1 : Int)))], [])) (fun x => vs.length - x.1) ⟨0, Nat.zero_le _, rfl⟩ ?_ ?_
  · dsimp only
    rw [hst]
    exact wK
  · rintro ⟨q, hq, hqn⟩ K4 hK4
    dsimp only
    refine aw_region fun K5 hK5 => ?_
    refine aL z_lss ?_
    refine awl_nil (hK5 _ _ ?_)
    clear hK5 K5
    refine aw_seq fun K6 hK6 => ?_
    refine aC (fun r1 c1 => ?_) (fun r1 c1 => ?_)
    · refine aw_skip ?_
      refine hK6 _ _ ?_
      clear hK6
      refine aw_seq fun K7 hK7 => ?_
      refine aw_block ?_
      refine aw_region fun K8 hK8 => ?_
      have hlt : q < vs.length := by omega
      have hi := stV_get hlt
      refine aL (z_indexAddr Tryd.underlying35 sz_9) ?_
      refine aL (z_loadRef sz_9) ?_
      refine aL z_assign ?_
      refine awl_nil (hK8 _ _ ?_)
      clear hK8 K8
      refine aw_region fun K9 hK9 => ?_
      refine aL z_move ?_
      refine aL z_move ?_
      refine aL (z_call0 (eC (eC .nil)) en_31 (con_SameO (l := vs[q]) (r := v) (by have := hm _ (List.getElem_mem hlt); omega) hv)) ?_
      refine awl_nil (hK9 _ _ ?_)
      clear hK9 K9
      refine aC (fun r2 c2 => ?_) (fun r2 c2 => ?_)
      · refine aw_region fun K10 hK10 => ?_
        refine aL z_assign ?_
        refine awl_nil (hK10 _ _ ?_)
        clear hK10 K10
        first
          | (have e0 : vs.any (fun e => decide (lowM e = lowM v)) = true := List.any_eq_true.2 ⟨vs[q], List.getElem_mem hlt, by simpa using r2⟩)
          | (have e0 : vs.any (fun e => decide (lowM e = lowM v)) = false := by
               rwa [List.take_of_length_le (by omega)] at hqn)
        refine aw_ret ?_
        refine (hret _ _ _ _ _ rfl (.tmp rfl .nil) rfl ?_ .nil rfl).1
        rw [e0]; rfl
      · refine aw_skip ?_
        refine hK7 _ _ ?_
        clear hK7
        refine aw_region_last ?_
        refine aL z_add ?_
        refine aL z_move ?_
        refine awl_nil ?_
        have hn : (vs.take (q + 1)).any (fun e => decide (lowM e = lowM v)) = false := by
          rw [List.take_add_one, List.getElem?_eq_getElem hlt, List.any_append, hqn]
          simpa using r2
        refine hK4 _ _ ⟨q + 1, by omega, hn⟩ (by dsimp only; omega) ?_
        exact wK
    · refine aw_exit ?_
      refine hK2 _ _ ?_
      clear hK2
      refine aw_region fun K11 hK11 => ?_
      refine aL z_assign ?_
      refine awl_nil (hK11 _ _ ?_)
      clear hK11 K11
      first
        | (have e0 : vs.any (fun e => decide (lowM e = lowM v)) = true := List.any_eq_true.2 ⟨vs[q], List.getElem_mem hlt, by simpa using r2⟩)
        | (have e0 : vs.any (fun e => decide (lowM e = lowM v)) = false := by
             rwa [List.take_of_length_le (by omega)] at hqn)
      refine aw_ret ?_
      refine (hret _ _ _ _ _ rfl (.tmp rfl .nil) rfl ?_ .nil rfl).1
      rw [e0]; rfl
def kpM (s : Ps) : Bool := s.ended && !s.old && !hasM s.fs [99, 111, 110, 110, 101, 99, 116, 105, 111, 110] [99, 108, 111, 115, 101]
theorem con_KeepsE {s : Ps} {ov : Bool} (he : s.ended = true) (hs : szM s.fs ≤ 1000000000) : Con Tryd.prog 12 [.ptr 0 0] (s.ahB false ov 0) 3 (.ret (.v (.bool (kpM s)))) (s.ahB false ov 1) := by
  obtain ⟨hd, kk, ln, st, old, fs, many, need, ended, toEnd⟩ := s
  simp only at he hs
  subst he
  have hH := con_Has (l := fs) (k := [99, 111, 110, 110, 101, 99, 116, 105, 111, 110]) (v := [99, 108, 111, 115, 101]) hs (by decide) (by decide)
  unfold kpM
  dsimp only
  refine con_of Tryd.func12 rfl (by show _ ≤ 26; simp) fun X Q hP hnt hnp hret hpan => ?_
  obtain ⟨P0, nt0, w0, K0, S0, np0, pin0, df0⟩ := X
  simp only at hP hnt hnp
  subst hP hnp
  obtain rfl : nt0 = 26 := hnt
  refine aw_region fun K1 hK1 => ?_
  refine aL z_assign ?_
  refine awl_nil (hK1 _ _ ?_)
  clear hK1 K1
  refine aw_region fun K2 hK2 => ?_
  refine aL z_move ?_
  refine aL (z_neqPP Tryd.underlying24) ?_
  refine aL z_move ?_
  refine gL rfl rfl (ev_tmp rfl) (fun hg => z_move) ?_
  refine gL rfl rfl (ev_tmp rfl) (fun hg => z_nilCheck) ?_
  refine gL rfl rfl (ev_tmp rfl) (fun hg => z_fieldAddr fo_54_9) ?_
  refine gL rfl rfl (ev_tmp rfl) (fun hg => z_load sz_4) ?_
  refine aL z_and ?_
  refine aL z_move ?_
  refine gL rfl rfl (ev_tmp rfl) (fun hg => z_move) ?_
  refine gL rfl rfl (ev_tmp rfl) (fun hg => z_nilCheck) ?_
  refine gL rfl rfl (ev_tmp rfl) (fun hg => z_fieldAddr fo_54_4) ?_
  refine gL rfl rfl (ev_tmp rfl) (fun hg => z_load sz_4) ?_
  refine gL rfl rfl (ev_tmp rfl) (fun hg => z_not) ?_
  refine aL z_and ?_
  refine aL z_move ?_
  refine gL rfl rfl (ev_tmp rfl) (fun hg => z_move) ?_
  refine gL rfl rfl (ev_tmp rfl) (fun hg => z_nilCheck) ?_
  refine gL rfl rfl (ev_tmp rfl) (fun hg => z_fieldAddr fo_54_5) ?_
  refine gL rfl rfl (ev_tmp rfl) (fun hg => z_load sz_26) ?_
  refine gL rfl rfl (ev_tmp rfl) (fun hg => z_call0 (eC (eC (eC .nil))) en_22 (hH)) ?_
  refine gL rfl rfl (ev_tmp rfl) (fun hg => z_not) ?_
  refine aL z_and ?_
  refine aL z_assign ?_
  refine awl_nil (hK2 _ _ ?_)
  clear hK2 K2
  refine aw_weak (weak_rever 1 1 rfl) (aw_weak (weak_rever 2 1 rfl) ?_)
  refine aw_ret ?_
  refine (hret _ _ _ _ _ rfl (.tmp rfl .nil) rfl ?_ (.box rfl rfl (.row rfl (.row rfl .nil))) rfl).1
  rfl
end Go.Proofs.YthflfnehdlpmdaaDoor
