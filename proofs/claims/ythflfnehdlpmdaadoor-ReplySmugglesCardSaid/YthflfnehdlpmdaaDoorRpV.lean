/- Chapter 15: the laws' small functions. No condition but on lengths. -/
import Derived.Test.YthflfnehdlpmdaaDoorRpU
namespace Go.Proofs.YthflfnehdlpmdaaDoor
set_option linter.all false
open Go Go.RowKit
set_option maxRecDepth 100000
set_option maxHeartbeats 4000000
theorem con_argsA {P : Program} {f : FuncId} {args args' : List D} {pre post : AH} {np : Nat} {out : Out} (h : Con P f args pre np out post) (hc : ∀ (G : Gh) (w : World) (us : List Value), RepDs G w (look pre) args' us → RepDs G w (look pre) args us) : Con P f args' pre np out post := fun K G w us h1 h2 h3 => h K G w us h1 h2 (hc G w us h3)
/-- The same heard? -/
def sameH (a b : Hs) : Bool := a.head == b.head && a.st == b.st && decide (a.fs = b.fs) && a.data == b.data && a.fin == b.fin
theorem con_same {a b : Hs} (ha : a.fs.length ≤ 4398046511104) (hb : b.fs.length ≤ 4398046511104) : Con Tryd.prog 11 [.agg a.cs, .agg b.cs] [] 0 (.ret (.v (.bool (sameH a b)))) [] := by
  unfold sameH
  refine con_of Tryd.func11 rfl (by show _ ≤ 38; simp) fun X Q hP hnt hnp hret hpan => ?_
  obtain ⟨P0, nt0, w0, K0, S0, np0, pin0, df0⟩ := X
  simp only at hP hnt hnp
  subst hP hnp
  obtain rfl : nt0 = 38 := hnt
  refine aw_region fun K1 hK1 => ?_
  refine aL (z_box 5) ?_
  refine aL (z_box 6) ?_
  refine aL z_assign ?_
  refine awl_nil (hK1 _ _ ?_)
  clear hK1 K1
  refine aw_region fun K2 hK2 => ?_
  refine aL (z_fieldAddr fo_28_0) ?_
  refine aL (z_load sz_4) ?_
  refine aL (z_fieldAddr fo_28_0) ?_
  refine aL (z_load sz_4) ?_
  refine aL (z_eqlB Tryd.underlying4) ?_
  refine aL z_move ?_
  refine gL rfl rfl (ev_tmp rfl) (fun hg => z_fieldAddr fo_28_1) ?_
  refine gL rfl rfl (ev_tmp rfl) (fun hg => z_load sz_3) ?_
  refine gL rfl rfl (ev_tmp rfl) (fun hg => z_fieldAddr fo_28_1) ?_
  refine gL rfl rfl (ev_tmp rfl) (fun hg => z_load sz_3) ?_
  refine gL rfl rfl (ev_tmp rfl) (fun hg => z_eql) ?_
  refine aL z_and ?_
  refine aL z_move ?_
  refine gL rfl rfl (ev_tmp rfl) (fun hg => z_fieldAddr fo_28_2) ?_
  refine gL rfl rfl (ev_tmp rfl) (fun hg => z_load sz_26) ?_
  refine gL rfl rfl (ev_tmp rfl) (fun hg => z_fieldAddr fo_28_2) ?_
  refine gL rfl rfl (ev_tmp rfl) (fun hg => z_load sz_26) ?_
  refine gL rfl rfl (ev_tmp rfl) (fun hg => z_call0 (eC (eC .nil)) en_21 (con_Fields ha hb)) ?_
  refine aL z_and ?_
  refine aL z_move ?_
  refine gL rfl rfl (ev_tmp rfl) (fun hg => z_fieldAddr fo_28_3) ?_
  refine gL rfl rfl (ev_tmp rfl) (fun hg => z_load sz_9) ?_
  refine gL rfl rfl (ev_tmp rfl) (fun hg => z_fieldAddr fo_28_3) ?_
  refine gL rfl rfl (ev_tmp rfl) (fun hg => z_load sz_9) ?_
  refine gL rfl rfl (ev_tmp rfl) (fun hg => z_eqlS) ?_
  refine aL z_and ?_
  refine aL z_move ?_
  refine gL rfl rfl (ev_tmp rfl) (fun hg => z_fieldAddr fo_28_4) ?_
  refine gL rfl rfl (ev_tmp rfl) (fun hg => z_load sz_4) ?_
  refine gL rfl rfl (ev_tmp rfl) (fun hg => z_fieldAddr fo_28_4) ?_
  refine gL rfl rfl (ev_tmp rfl) (fun hg => z_load sz_4) ?_
  refine gL rfl rfl (ev_tmp rfl) (fun hg => z_eqlB Tryd.underlying4) ?_
  refine aL z_and ?_
  refine aL z_assign ?_
  refine awl_nil (hK2 _ _ ?_)
  clear hK2 K2
  refine aw_ret ?_
  refine (hret _ _ _ _ _ rfl (.tmp rfl .nil) rfl ?_ .nil rfl).1
  rfl
theorem con_sameN {a : Hs} (ha : a.fs.length ≤ 4398046511104) : Con Tryd.prog 11 [.agg a.cs, .agg zH] [] 0 (.ret (.v (.bool (sameH a hs0)))) [] :=
  con_argsA (con_same ha (b := hs0) (by simp)) fun G w us h => by
    match us, h.1 with
    | [u, v], _ => exact .cons (h.2 0 _ u rfl rfl) (.cons (agg_nilsl [.v (.bool false), .v (.int .i64 0)] [.v (.str []), .v (.bool false)] (h.2 1 _ v rfl rfl)) .nil)
def awkB : List UInt8 := [72, 84, 84, 80, 47, 49, 46, 49, 32, 50, 48, 48, 32, 79, 75, 13, 10, 67, 111, 110, 116, 101, 110, 116, 45, 76, 101, 110, 103, 116, 104, 58, 32, 50, 13, 10, 13, 10, 104, 105, 33]
theorem awk_run : runB (ps0 false) hs0 awkB = .ok (⟨false, .counted, [], 200, false, [⟨[99, 111, 110, 116, 101, 110, 116, 45, 108, 101, 110, 103, 116, 104], [50], false⟩], 1, 0, true, false⟩, ⟨true, 200, [⟨[99, 111, 110, 116, 101, 110, 116, 45, 108, 101, 110, 103, 116, 104], [50], false⟩], [104, 105], true⟩, [33]) := by kernel_rfl
theorem con_awake : Con Tryd.prog 7 [] [] 0 (.ret (.v (.bool true))) [] := by
  have hT := con_Take (b := awkB) (ps0_ok false) rfl (by decide) awk_run
  have hK := con_KeepsE (s := ⟨false, .counted, [], 200, false, [⟨[99, 111, 110, 116, 101, 110, 116, 45, 108, 101, 110, 103, 116, 104], [50], false⟩], 1, 0, true, false⟩) (ov := true) rfl (by decide)
  rw [show kpM ⟨false, .counted, [], 200, false, [⟨[99, 111, 110, 116, 101, 110, 116, 45, 108, 101, 110, 103, 116, 104], [50], false⟩], 1, 0, true, false⟩ = true by kernel_rfl] at hK
  refine con_of Tryd.func7 rfl (by show _ ≤ 42; simp) fun X Q hP hnt hnp hret hpan => ?_
  obtain ⟨P0, nt0, w0, K0, S0, np0, pin0, df0⟩ := X
  simp only at hP hnt hnp
  subst hP hnp
  obtain rfl : nt0 = 42 := hnt
  refine aw_region fun K1 hK1 => ?_
  refine aL z_assign ?_
  refine awl_nil (hK1 _ _ ?_)
  clear hK1 K1
  refine aw_region fun K2 hK2 => ?_
  refine aL (z_callG [0, 1, 2] (eC .nil) en_9 con_New .nil) ?_
  refine aL z_assign ?_
  refine awl_nil (hK2 _ _ ?_)
  clear hK2 K2
  refine aw_region fun K3 hK3 => ?_
  refine aL z_move ?_
  refine aL (z_rowM 10 awkB (pC (pC (pC (pC (pC (pC (pC (pC (pC (pC (pC (pC (pC (pC (pC (pC (pC (pC (pC (pC (pC (pC (pC (pC (pC (pC (pC (pC (pC (pC (pC (pC (pC (pC (pC (pC (pC (pC (pC (pC (pC .nil))))))))))))))))))))))))))))))))))))))))) Tryd.underlying32 sz_5 zc_5 zl_5) ?_
  refine aL (StepU.settle (z_convOwn Tryd.underlying32 Tryd.underlying5)) ?_
  refine aL (z_callG [0, 1, 2] (eC (eC .nil)) en_10 hT (pA (pA (pA .nil)))) ?_
  refine aL z_move ?_
  refine aL z_extract ?_
  refine aL z_extract ?_
  refine aL z_extract ?_
  refine aL (z_alloc 5 zc_28 zl_28) ?_
  refine aL (z_store sz_28) ?_
  refine aL z_assign ?_
  refine aL z_assign ?_
  refine awl_nil (hK3 _ _ ?_)
  clear hK3 K3
  refine aw_region fun K4 hK4 => ?_
  refine aL (z_fieldAddr fo_28_0) ?_
  refine aL (z_load sz_4) ?_
  refine aL z_move ?_
  refine yL rfl rfl (ev_tmp rfl) (by rfl) (z_fieldAddr fo_28_1) ?_
  refine yL rfl rfl (ev_tmp rfl) (by rfl) (z_load sz_3) ?_
  refine yL rfl rfl (ev_tmp rfl) (by rfl) (z_eql) ?_
  refine aL z_and ?_
  refine aL z_move ?_
  refine yL rfl rfl (ev_tmp rfl) (by rfl) (z_fieldAddr fo_28_3) ?_
  refine yL rfl rfl (ev_tmp rfl) (by rfl) (z_load sz_9) ?_
  refine yL rfl rfl (ev_tmp rfl) (by rfl) (z_eqlS) ?_
  refine aL z_and ?_
  refine aL z_move ?_
  refine yL rfl rfl (ev_tmp rfl) (by rfl) (z_fieldAddr fo_28_4) ?_
  refine yL rfl rfl (ev_tmp rfl) (by rfl) (z_load sz_4) ?_
  refine aL z_and ?_
  refine aL z_move ?_
  refine yL rfl rfl (ev_tmp rfl) (by rfl) (z_move) ?_
  refine yL rfl rfl (ev_tmp rfl) (by rfl) (z_eql) ?_
  refine aL z_and ?_
  refine aL z_move ?_
  refine yL rfl rfl (ev_tmp rfl) (by rfl) (z_move) ?_
  refine yL rfl rfl (ev_tmp rfl) (by rfl) (z_eql) ?_
  refine aL z_and ?_
  refine aL z_move ?_
  refine yL rfl rfl (ev_tmp rfl) (by rfl) (z_move) ?_
  refine awl_weak (weak_rever 1 0 rfl) (awl_weak (weak_rever 2 0 rfl) ?_)
  refine yL rfl rfl (ev_tmp rfl) (by rfl) (z_callG [0, 1, 2] (eC .nil) en_12 hK (pA (pA (pA .nil)))) ?_
  refine aL z_and ?_
  refine aL z_assign ?_
  refine awl_nil (hK4 _ _ ?_)
  clear hK4 K4
  refine aw_ret ?_
  refine (hret _ _ _ _ _ rfl (.tmp rfl .nil) rfl ?_ .nil rfl).1
  rfl
end Go.Proofs.YthflfnehdlpmdaaDoor
