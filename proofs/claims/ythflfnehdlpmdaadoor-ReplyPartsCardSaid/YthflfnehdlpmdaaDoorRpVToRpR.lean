/- Chapter 15: the laws' small functions. No condition but on lengths. -/
import Derived.Test.YthflfnehdlpmdaaDoorRpU
namespace Go.Proofs.YthflfnehdlpmdaaDoor
set_option linter.all false
open Go Go.RowKit
set_option maxRecDepth 100000
set_option maxHeartbeats 4000000
/-- The same heard? -/
def sameH (a b : Hs) : Bool := a.head == b.head && a.st == b.st && decide (a.fs = b.fs) && a.data == b.data && a.fin == b.fin
theorem con_same {a b : Hs} (ha : a.fs.length ≤ 4398046511104) (hb : b.fs.length ≤ 4398046511104) : Con Tryd.prog 11 [.agg a.cs, .agg b.cs] [] 0 (.ret (.v (.bool (sameH a b)))) [] := by
  unfold sameH
  refine con_of Tryd.func11 rfl (by show _ ≤ 38; simp) fun X Q hP hnt hnp hret hpan => ?_
  obtain ⟨P0, nt0, w0, K0, S0, np0, pin0, df0⟩ := X
  simp only at hP hnt hnp
  subst hP hnp
  obtain rfl : nt0 = 38 := hnt
  refine aw_region fun K1 hK1 => ?_
  refine aL (z_box 5) ?_
  refine aL (z_box 6) ?_
  refine aL z_assign ?_
  refine awl_nil (hK1 _ _ ?_)
  clear hK1 K1
  refine aw_region fun K2 hK2 => ?_
  refine aL (z_fieldAddr fo_28_0) ?_
  refine aL (z_load sz_4) ?_
  refine aL (z_fieldAddr fo_28_0) ?_
  refine aL (z_load sz_4) ?_
  refine aL (z_eqlB Tryd.underlying4) ?_
  refine aL z_move ?_
  refine gL rfl rfl (ev_tmp rfl) (fun hg => z_fieldAddr fo_28_1) ?_
  refine gL rfl rfl (ev_tmp rfl) (fun hg => z_load sz_3) ?_
  refine gL rfl rfl (ev_tmp rfl) (fun hg => z_fieldAddr fo_28_1) ?_
  refine gL rfl rfl (ev_tmp rfl) (fun hg => z_load sz_3) ?_
  refine gL rfl rfl (ev_tmp rfl) (fun hg => z_eql) ?_
  refine aL z_and ?_
  refine aL z_move ?_
  refine gL rfl rfl (ev_tmp rfl) (fun hg => z_fieldAddr fo_28_2) ?_
  refine gL rfl rfl (ev_tmp rfl) (fun hg => z_load sz_26) ?_
  refine gL rfl rfl (ev_tmp rfl) (fun hg => z_fieldAddr fo_28_2) ?_
  refine gL rfl rfl (ev_tmp rfl) (fun hg => z_load sz_26) ?_
  refine gL rfl rfl (ev_tmp rfl) (fun hg => z_call0 (eC (eC .nil)) en_21 (con_Fields ha hb)) ?_
  refine aL z_and ?_
  refine aL z_move ?_
  refine gL rfl rfl (ev_tmp rfl) (fun hg => z_fieldAddr fo_28_3) ?_
  refine gL rfl rfl (ev_tmp rfl) (fun hg => z_load sz_9) ?_
  refine gL rfl rfl (ev_tmp rfl) (fun hg => z_fieldAddr fo_28_3) ?_
  refine gL rfl rfl (ev_tmp rfl) (fun hg => z_load sz_9) ?_
  refine gL rfl rfl (ev_tmp rfl) (fun hg => z_eqlS) ?_
  refine aL z_and ?_
  refine aL z_move ?_
  refine gL rfl rfl (ev_tmp rfl) (fun hg => z_fieldAddr fo_28_4) ?_
  refine gL rfl rfl (ev_tmp rfl) (fun hg => z_load sz_4) ?_
  refine gL rfl rfl (ev_tmp rfl) (fun hg => z_fieldAddr fo_28_4) ?_
  refine gL rfl rfl (ev_tmp rfl) (fun hg => z_load sz_4) ?_
  refine gL rfl rfl (ev_tmp rfl) (fun hg => z_eqlB Tryd.underlying4) ?_
  refine aL z_and ?_
  refine aL z_assign ?_
  refine awl_nil (hK2 _ _ ?_)
  clear hK2 K2
  refine aw_ret ?_
  refine (hret _ _ _ _ _ rfl (.tmp rfl .nil) rfl ?_ .nil rfl).1
  rfl
/-- What was heard, and what comes. -/
def addH (a b : Hs) : Hs := if b.head = true then ⟨true, b.st, b.fs, a.data ++ b.data, a.fin || b.fin⟩ else ⟨a.head, a.st, a.fs, a.data ++ b.data, a.fin || b.fin⟩
theorem con_add {a b : Hs} (hl : a.data.length + b.data.length ≤ 1000000000) : Con Tryd.prog 16 [.agg a.cs, .agg b.cs] [] 0 (.ret (.agg (addH a b).cs)) [] := by
  obtain ⟨R, hR⟩ : ∃ R, addH a b = R := ⟨_, rfl⟩
  rw [hR]
  unfold addH at hR
  obtain ⟨ah, ast, afs, ad, af⟩ := a
  obtain ⟨bh, bst, bfs, bd, bf⟩ := b
  simp only at hR hl
  refine con_of Tryd.func16 rfl (by show _ ≤ 28; simp) fun X Q hP hnt hnp hret hpan => ?_
  obtain ⟨P0, nt0, w0, K0, S0, np0, pin0, df0⟩ := X
  simp only at hP hnt hnp
  subst hP hnp
  obtain rfl : nt0 = 28 := hnt
  refine aw_region fun K1 hK1 => ?_
  refine aL (z_box 5) ?_
  refine aL (z_box 6) ?_
  refine aL (z_alloc 7 zc_28 zl_28) ?_
  refine awl_nil (hK1 _ _ ?_)
  clear hK1 K1
  refine aw_seq fun K2 hK2 => ?_
  refine aw_region fun K3 hK3 => ?_
  refine aL (z_fieldAddr fo_28_0) ?_
  refine aL (z_load sz_4) ?_
  refine awl_nil (hK3 _ _ ?_)
  clear hK3 K3
  refine aC (fun r1 c1 => ?_) (fun r1 c1 => ?_)
  · refine aw_region fun K4 hK4 => ?_
    refine aL (z_fieldAddr fo_28_0) ?_
    refine aL (z_store sz_4) ?_
    refine awl_nil (hK4 _ _ ?_)
    clear hK4 K4
    refine aw_region fun K5 hK5 => ?_
    refine aL (z_fieldAddr fo_28_1) ?_
    refine aL (z_load sz_3) ?_
    refine aL (z_fieldAddr fo_28_1) ?_
    refine aL (z_store sz_3) ?_
    refine awl_nil (hK5 _ _ ?_)
    clear hK5 K5
    refine aw_region_last ?_
    refine aL (z_fieldAddr fo_28_2) ?_
    refine aL (z_load sz_26) ?_
    refine aL (z_fieldAddr fo_28_2) ?_
    refine aL (z_store sz_26) ?_
    refine awl_nil ?_
    refine hK2 _ _ ?_
    clear hK2
    refine aw_region fun K6 hK6 => ?_
    refine aL (z_fieldAddr fo_28_3) ?_
    refine aL (z_load sz_9) ?_
    refine aL (z_fieldAddr fo_28_3) ?_
    refine aL (z_load sz_9) ?_
    refine aL z_addS ?_
    refine aL (z_fieldAddr fo_28_3) ?_
    refine aL (z_store sz_9) ?_
    refine awl_nil (hK6 _ _ ?_)
    clear hK6 K6
    refine aw_region fun K7 hK7 => ?_
    refine aL (z_fieldAddr fo_28_4) ?_
    refine aL (z_load sz_4) ?_
    refine aL z_move ?_
    refine gL rfl rfl (ev_tmp rfl) (fun hg => z_fieldAddr fo_28_4) ?_
    refine gL rfl rfl (ev_tmp rfl) (fun hg => z_load sz_4) ?_
    refine aL z_or ?_
    refine aL (z_fieldAddr fo_28_4) ?_
    refine aL (z_store sz_4) ?_
    refine awl_nil (hK7 _ _ ?_)
    clear hK7 K7
    refine aw_region fun K8 hK8 => ?_
    refine aL (z_load sz_28) ?_
    refine aL (z_store sz_28) ?_
    refine awl_nil (hK8 _ _ ?_)
    clear hK8 K8
    first
      | (rw [if_pos (by assumption)] at hR
         subst hR)
      | (rw [if_neg (by simp_all)] at hR
         subst hR)
    refine aw_ret ?_
    refine (hret _ _ _ _ _ rfl (rCe sz_28 .nil) rfl ?_ .nil rfl).1
    rfl
  · refine aw_skip ?_
    refine hK2 _ _ ?_
    clear hK2
    refine aw_region fun K9 hK9 => ?_
    refine aL (z_fieldAddr fo_28_3) ?_
    refine aL (z_load sz_9) ?_
    refine aL (z_fieldAddr fo_28_3) ?_
    refine aL (z_load sz_9) ?_
    refine aL z_addS ?_
    refine aL (z_fieldAddr fo_28_3) ?_
    refine aL (z_store sz_9) ?_
    refine awl_nil (hK9 _ _ ?_)
    clear hK9 K9
    refine aw_region fun K10 hK10 => ?_
    refine aL (z_fieldAddr fo_28_4) ?_
    refine aL (z_load sz_4) ?_
    refine aL z_move ?_
    refine gL rfl rfl (ev_tmp rfl) (fun hg => z_fieldAddr fo_28_4) ?_
    refine gL rfl rfl (ev_tmp rfl) (fun hg => z_load sz_4) ?_
    refine aL z_or ?_
    refine aL (z_fieldAddr fo_28_4) ?_
    refine aL (z_store sz_4) ?_
    refine awl_nil (hK10 _ _ ?_)
    clear hK10 K10
    refine aw_region fun K11 hK11 => ?_
    refine aL (z_load sz_28) ?_
    refine aL (z_store sz_28) ?_
    refine awl_nil (hK11 _ _ ?_)
    clear hK11 K11
    first
      | (rw [if_pos (by assumption)] at hR
         subst hR)
      | (rw [if_neg (by simp_all)] at hR
         subst hR)
    refine aw_ret ?_
    refine (hret _ _ _ _ _ rfl (rCe sz_28 .nil) rfl ?_ .nil rfl).1
    rfl
def awkB : List UInt8 := [72, 84, 84, 80, 47, 49, 46, 49, 32, 50, 48, 48, 32, 79, 75, 13, 10, 67, 111, 110, 116, 101, 110, 116, 45, 76, 101, 110, 103, 116, 104, 58, 32, 50, 13, 10, 13, 10, 104, 105, 33]
theorem awk_run : runB (ps0 false) hs0 awkB = .ok (⟨false, .counted, [], 200, false, [⟨[99, 111, 110, 116, 101, 110, 116, 45, 108, 101, 110, 103, 116, 104], [50], false⟩], 1, 0, true, false⟩, ⟨true, 200, [⟨[99, 111, 110, 116, 101, 110, 116, 45, 108, 101, 110, 103, 116, 104], [50], false⟩], [104, 105], true⟩, [33]) := by kernel_rfl
theorem con_awake : Con Tryd.prog 7 [] [] 0 (.ret (.v (.bool true))) [] := by
  have hT := con_Take (b := awkB) (ps0_ok false) rfl (by decide) awk_run
  have hK := con_KeepsE (s := ⟨false, .counted, [], 200, false, [⟨[99, 111, 110, 116, 101, 110, 116, 45, 108, 101, 110, 103, 116, 104], [50], false⟩], 1, 0, true, false⟩) (ov := true) rfl (by decide)
  rw [show kpM ⟨false, .counted, [], 200, false, [⟨[99, 111, 110, 116, 101, 110, 116, 45, 108, 101, 110, 103, 116, 104], [50], false⟩], 1, 0, true, false⟩ = true by kernel_rfl] at hK
  refine con_of Tryd.func7 rfl (by show _ ≤ 42; simp) fun X Q hP hnt hnp hret hpan => ?_
  obtain ⟨P0, nt0, w0, K0, S0, np0, pin0, df0⟩ := X
  simp only at hP hnt hnp
  subst hP hnp
  obtain rfl : nt0 = 42 := hnt
  refine aw_region fun K1 hK1 => ?_
  refine aL z_assign ?_
  refine awl_nil (hK1 _ _ ?_)
  clear hK1 K1
  refine aw_region fun K2 hK2 => ?_
  refine aL (z_callG [0, 1, 2] (eC .nil) en_9 con_New .nil) ?_
  refine aL z_assign ?_
  refine awl_nil (hK2 _ _ ?_)
  clear hK2 K2
  refine aw_region fun K3 hK3 => ?_
  refine aL z_move ?_
  refine aL (z_rowM 10 awkB (pC (pC (pC (pC (pC (pC (pC (pC (pC (pC (pC (pC (pC (pC (pC (pC (pC (pC (pC (pC (pC (pC (pC (pC (pC (pC (pC (pC (pC (pC (pC (pC (pC (pC (pC (pC (pC (pC (pC (pC (pC .nil))))))))))))))))))))))))))))))))))))))))) Tryd.underlying32 sz_5 zc_5 zl_5) ?_
  refine aL (StepU.settle (z_convOwn Tryd.underlying32 Tryd.underlying5)) ?_
  refine aL (z_callG [0, 1, 2] (eC (eC .nil)) en_10 hT (pA (pA (pA .nil)))) ?_
  refine aL z_move ?_
  refine aL z_extract ?_
  refine aL z_extract ?_
  refine aL z_extract ?_
  refine aL (z_alloc 5 zc_28 zl_28) ?_
  refine aL (z_store sz_28) ?_
  refine aL z_assign ?_
  refine aL z_assign ?_
  refine awl_nil (hK3 _ _ ?_)
  clear hK3 K3
  refine aw_region fun K4 hK4 => ?_
  refine aL (z_fieldAddr fo_28_0) ?_
  refine aL (z_load sz_4) ?_
  refine aL z_move ?_
  refine yL rfl rfl (ev_tmp rfl) (by rfl) (z_fieldAddr fo_28_1) ?_
  refine yL rfl rfl (ev_tmp rfl) (by rfl) (z_load sz_3) ?_
  refine yL rfl rfl (ev_tmp rfl) (by rfl) (z_eql) ?_
  refine aL z_and ?_
  refine aL z_move ?_
  refine yL rfl rfl (ev_tmp rfl) (by rfl) (z_fieldAddr fo_28_3) ?_
  refine yL rfl rfl (ev_tmp rfl) (by rfl) (z_load sz_9) ?_
  refine yL rfl rfl (ev_tmp rfl) (by rfl) (z_eqlS) ?_
  refine aL z_and ?_
  refine aL z_move ?_
  refine yL rfl rfl (ev_tmp rfl) (by rfl) (z_fieldAddr fo_28_4) ?_
  refine yL rfl rfl (ev_tmp rfl) (by rfl) (z_load sz_4) ?_
  refine aL z_and ?_
  refine aL z_move ?_
  refine yL rfl rfl (ev_tmp rfl) (by rfl) (z_move) ?_
  refine yL rfl rfl (ev_tmp rfl) (by rfl) (z_eql) ?_
  refine aL z_and ?_
  refine aL z_move ?_
  refine yL rfl rfl (ev_tmp rfl) (by rfl) (z_move) ?_
  refine yL rfl rfl (ev_tmp rfl) (by rfl) (z_eql) ?_
  refine aL z_and ?_
  refine aL z_move ?_
  refine yL rfl rfl (ev_tmp rfl) (by rfl) (z_move) ?_
  refine awl_weak (weak_rever 1 0 rfl) (awl_weak (weak_rever 2 0 rfl) ?_)
  refine yL rfl rfl (ev_tmp rfl) (by rfl) (z_callG [0, 1, 2] (eC .nil) en_12 hK (pA (pA (pA .nil)))) ?_
  refine aL z_and ?_
  refine aL z_assign ?_
  refine awl_nil (hK4 _ _ ?_)
  clear hK4 K4
  refine aw_ret ?_
  refine (hret _ _ _ _ _ rfl (.tmp rfl .nil) rfl ?_ .nil rfl).1
  rfl
end Go.Proofs.YthflfnehdlpmdaaDoor

/- Chapter 15 in plain Lean: lines that are written. No program, no condition. -/
namespace Go.Proofs.YthflfnehdlpmdaaDoor
set_option linter.all false
open Go Go.RowKit
end Go.Proofs.YthflfnehdlpmdaaDoor

/- Chapter 15: two ends, or one that isn't sure, are never heard. No condition but on lengths. -/
namespace Go.Proofs.YthflfnehdlpmdaaDoor
set_option linter.all false
open Go Go.RowKit
set_option maxRecDepth 100000
set_option maxHeartbeats 4000000
end Go.Proofs.YthflfnehdlpmdaaDoor

/- Chapter 15 in plain Lean: bodies that are written. No program, no condition. -/
namespace Go.Proofs.YthflfnehdlpmdaaDoor
set_option linter.all false
open Go Go.RowKit
end Go.Proofs.YthflfnehdlpmdaaDoor

/- Chapter 15 in plain Lean: answers in a row. No program, no condition. -/
namespace Go.Proofs.YthflfnehdlpmdaaDoor
set_option linter.all false
open Go Go.RowKit
/-- What an answer in a row leaves behind. -/
structure RowOk (b : List UInt8) (s : Ps) (h : Hs) : Prop where
  fin : h.fin = true
  data : h.data = b
  keeps : kpM s = true
  ended : s.ended = true
  size : szM s.fs ≤ 1000
end Go.Proofs.YthflfnehdlpmdaaDoor
