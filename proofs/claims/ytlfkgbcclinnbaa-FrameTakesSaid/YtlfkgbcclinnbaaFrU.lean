/- Layer 6: what is wrong with settings. No condition. -/
import Derived.Test.YtlfkgbcclinnbaaFrT
namespace Go.Proofs.Ytlfkgbcclinnbaa
set_option linter.all false
open Go Go.RowKit
set_option maxRecDepth 10000
theorem unfit_at : ∀ (l : List (Int × Int)) (k : Nat) (h : k < l.length) (c : Int), (∀ j (hj : j < l.length), j < k → badSet l[j] = none) → badSet l[k] = some c → unfitM l = Flt.whole c
  | s :: l, 0, h, c, _, hc => by simp at hc; simp [unfitM, hc]
  | s :: l, k + 1, h, c, hn, hc => by
    have h0 := hn 0 (by simp) (by omega)
    simp at h0
    simp only [unfitM, h0]
    exact unfit_at l k (by simp at h; omega) c (fun j hj hk => by have := hn (j + 1) (by simp; omega) (by omega); simpa using this) (by simpa using hc)
theorem unfit_no : ∀ (l : List (Int × Int)), (∀ j (hj : j < l.length), badSet l[j] = none) → unfitM l = Flt.no
  | [], _ => rfl
  | s :: l, hn => by
    have h0 := hn 0 (by simp)
    simp at h0
    simp only [unfitM, h0]
    exact unfit_no l (fun j hj => by have := hn (j + 1) (by simp; omega); simpa using this)
theorem con_unfit {l : List (Int × Int)} (hl : l.length ≤ 20000000) : Con Try.prog 31 [.v (.sl (setV l))] [] 0 (.ret (.agg (unfitM l).cs)) [] := by
  have hz : (setV l).length = l.length := by simp [setV]
  have hs2 : ∀ e ∈ setV l, e.length = 2 := by intro e he; obtain ⟨s, _, rfl⟩ := List.mem_map.1 he; rfl
  refine con_of Try.func31 rfl (by show _ ≤ 46; simp) fun X Q hP hnt hnp hret hpan => ?_
  obtain ⟨P0, nt0, w0, K0, S0, np0, pin0⟩ := X
  simp only at hP hnt hnp
  subst hP hnp
  obtain rfl : nt0 = 46 := hnt
  refine aw_region fun K1 hK1 => ?_
  refine awl_step (step_u rfl (stepU_alloc rfl 0 (Nat.le_of_ble_eq_true rfl) zc_33 zl_33)) rfl rfl ?_
  refine awl_nil (hK1 _ _ ?_)
  clear hK1 K1
  refine aw_seq fun K2 hK2 => ?_
  refine aw_region fun K3 hK3 => ?_
  refine awl_step (step_u rfl (stepU_move rfl (ev_tmp rfl))) rfl rfl ?_
  refine awl_step (step_u rfl (stepU_len rfl Try.underlying22 (by first | exact ev_tmp rfl | exact ev_nil (ev_tmp rfl)))) rfl rfl ?_
  refine awl_step (step_u rfl (stepU_move rfl (ev_int _ _))) rfl rfl ?_
  refine awl_nil (hK3 _ _ ?_)
  clear hK3 K3
  rw [hz]
  refine aw_block ?_
  refine aw_loop (α := {k : Nat // k ≤ l.length ∧ ∀ j (hj : j < l.length), j < k → badSet l[j] = none}) (fun x => ([(2, .ptr 0 0), (5, .v (.sl (setV l))), (6, .v (.int .i64 (l.length : Int))), (7, .v (.int .i64 (x.1 : Int)))], [(0, .box [.v (.bool false), .v (.int .i64 0), .v (.int .i64 0)])])) (fun x => l.length - x.1) ⟨0, by omega, fun j _ h => by omega⟩ ?_ ?_
  · dsimp only
    exact weak_all none trivial (by repeat (first | exact .nil | refine .box rfl (.same rfl) ?_ | refine .box rfl (.eq (by first | rfl | (simp; done)) (.same rfl)) ?_ | refine .row rfl (by first | rfl | (simp; done)) ?_)) (by repeat (first | exact .nil | refine .cons rfl (.keep rfl) ?_ | refine .cons rfl (.eq (by first | rfl | exact d_int (by omega) | exact d_view (by omega) (by omega) | exact d_sl (by simp) | (simp; done) | exact d_bool (by simp_all) | exact d_str (by simp)) (.keep rfl)) ?_ | refine .cons rfl .nil ?_ | refine .cons rfl .any ?_))
  · rintro ⟨k, hk, hq⟩ K4 hK4
    dsimp only
    refine aw_region fun K5 hK5 => ?_
    refine awl_step (step_u rfl (stepU_lss rfl (ev_tmp rfl) (ev_tmp rfl))) rfl rfl ?_
    refine awl_nil (hK5 _ _ ?_)
    clear hK5 K5
    refine aw_seq fun K6 hK6 => ?_
    refine aw_cond (by first | exact ev_tmp rfl | exact ev_bool _) (fun c1 => ?_) (fun c1 => ?_)
    · have r1 := c1
      try simp only [beq_iff_eq, bne_iff_ne, ne_eq, beq_eq_false_iff_ne, bne_eq_false_iff_eq, decide_eq_true_eq, decide_eq_false_iff_not, Bool.and_eq_true, Bool.or_eq_true, Bool.not_eq_true', Bool.not_eq_false', Bool.and_eq_false_iff, Bool.or_eq_false_iff, Bool.not_true, Bool.not_false, gt_iff_lt, ge_iff_le, Int.not_lt, Int.not_le, Decidable.not_not, beq_self_eq_true, bne_self_eq_false] at c1
      refine aw_skip ?_
      refine hK6 _ _ ?_
      clear hK6
      refine aw_seq fun K7 hK7 => ?_
      refine aw_block ?_
      refine aw_region fun K8 hK8 => ?_
      have hlt : k < l.length := by omega
      have hi : (setV l)[k]? = some [V.int .i64 (l[k]).1, V.int .i64 (l[k]).2] := by simp [setV, hlt]
      refine awl_step (step_u rfl (stepU_indexAddr rfl Try.underlying22 sz_59 (by first | exact ev_tmp rfl | exact ev_nil (ev_tmp rfl)) (ev_tmp rfl) rfl (by assumption) (by first | rfl | (simp; done)))) rfl rfl ?_
      refine awl_step (step_u rfl (stepU_loadRef rfl (ev_tmp rfl) sz_59 ⟨.inl rfl, by first | exact Nat.le_of_ble_eq_true rfl | simp⟩ (by first | (simp only [rd, splice, fillD, D.cells, List.drop_succ_cons, List.drop_zero, List.take_succ_cons, List.take_zero, List.headD_cons, List.cons_append, List.nil_append, List.append_nil, List.length_cons, List.length_nil, Nat.reduceAdd, Nat.zero_add, Nat.add_zero, Bool.false_eq_true, if_true, if_false, reduceIte, List.map_cons, List.map_nil, List.drop_nil, List.take_nil, List.replicate, Flt.cs, Flt.whole, Flt.no] <;> rfl) | rfl))) rfl rfl ?_
      refine awl_step (step_u rfl (stepU_alloc rfl 1 (Nat.le_of_ble_eq_true rfl) zc_59 zl_59)) rfl rfl ?_
      refine awl_step (step_u rfl (stepU_store rfl (ev_tmp rfl) (by first | exact ev_tmp rfl | exact ev_nil (ev_tmp rfl)) rfl rfl sz_59 ⟨rfl, by first | exact Nat.le_of_ble_eq_true rfl | simp⟩ (by first | (simp only [rd, splice, fillD, D.cells, List.drop_succ_cons, List.drop_zero, List.take_succ_cons, List.take_zero, List.headD_cons, List.cons_append, List.nil_append, List.append_nil, List.length_cons, List.length_nil, Nat.reduceAdd, Nat.zero_add, Nat.add_zero, Bool.false_eq_true, if_true, if_false, reduceIte, List.map_cons, List.map_nil, List.drop_nil, List.take_nil, List.replicate, Flt.cs, Flt.whole, Flt.no] <;> rfl) | rfl))) rfl rfl ?_
      refine awl_nil (hK8 _ _ ?_)
      clear hK8 K8
      refine aw_block ?_
      refine aw_seq fun K9 hK9 => ?_
      refine aw_region fun K10 hK10 => ?_
      refine awl_step (step_u rfl (stepU_fieldAddr rfl (ev_tmp rfl) fo_59_0)) rfl rfl ?_
      refine awl_step (step_u rfl (stepU_load rfl (ev_tmp rfl) rfl sz_3 ⟨.inr rfl, by first | exact Nat.le_of_ble_eq_true rfl | simp⟩ (by first | (simp only [rd, splice, fillD, D.cells, List.drop_succ_cons, List.drop_zero, List.take_succ_cons, List.take_zero, List.headD_cons, List.cons_append, List.nil_append, List.append_nil, List.length_cons, List.length_nil, Nat.reduceAdd, Nat.zero_add, Nat.add_zero, Bool.false_eq_true, if_true, if_false, reduceIte, List.map_cons, List.map_nil, List.drop_nil, List.take_nil, List.replicate, Flt.cs, Flt.whole, Flt.no] <;> rfl) | rfl))) rfl rfl ?_
      refine awl_step (step_u rfl (stepU_eql rfl (ev_tmp rfl) (ev_int _ _))) rfl rfl ?_
      refine awl_step (step_u rfl (stepU_move rfl (ev_tmp rfl))) rfl rfl ?_
      refine awl_step (step_if rfl rfl (ev_tmp rfl) (fun hg => stepU_fieldAddr rfl ((by first | exact ev_cond (ev_tmp rfl) (by assumption) | exact ev_cond (ev_tmp rfl) (by simp_all) | exact ev_tmp rfl)) fo_59_1)) rfl rfl ?_
      refine awl_step (step_if rfl rfl (ev_tmp rfl) (fun hg => stepU_load rfl ((by first | exact ev_cond (ev_tmp rfl) (by assumption) | exact ev_cond (ev_tmp rfl) (by simp_all) | exact ev_tmp rfl)) rfl sz_2 ⟨.inr rfl, by first | exact Nat.le_of_ble_eq_true rfl | simp⟩ (by first | (simp only [rd, splice, fillD, D.cells, List.drop_succ_cons, List.drop_zero, List.take_succ_cons, List.take_zero, List.headD_cons, List.cons_append, List.nil_append, List.append_nil, List.length_cons, List.length_nil, Nat.reduceAdd, Nat.zero_add, Nat.add_zero, Bool.false_eq_true, if_true, if_false, reduceIte, List.map_cons, List.map_nil, List.drop_nil, List.take_nil, List.replicate, Flt.cs, Flt.whole, Flt.no] <;> rfl) | rfl))) rfl rfl ?_
      refine awl_step (step_if rfl rfl (ev_tmp rfl) (fun hg => stepU_gtr rfl ((by first | exact ev_cond (ev_tmp rfl) (by assumption) | exact ev_cond (ev_tmp rfl) (by simp_all) | exact ev_tmp rfl)) (ev_int _ _))) rfl rfl ?_
      refine awl_step (step_u rfl (stepU_and rfl (by first | exact ev_cond (ev_tmp rfl) (by assumption) | exact ev_cond (ev_tmp rfl) (by simp_all) | exact ev_tmp rfl) (fun hh => (by first | exact ev_tmp rfl | exact ev_bool _ | exact ev_condT (ev_tmp rfl) hh | exact ev_cond (ev_tmp rfl) (by simp_all))) (ev_bool _))) rfl rfl ?_
      refine awl_step (step_u rfl (stepU_assign rfl (ev_tmp rfl))) rfl rfl ?_
      refine awl_nil (hK10 _ _ ?_)
      clear hK10 K10
      refine aw_cond (by first | exact ev_tmp rfl | exact ev_bool _) (fun c2 => ?_) (fun c2 => ?_)
      · have r2 := c2
        try simp only [beq_iff_eq, bne_iff_ne, ne_eq, beq_eq_false_iff_ne, bne_eq_false_iff_eq, decide_eq_true_eq, decide_eq_false_iff_not, Bool.and_eq_true, Bool.or_eq_true, Bool.not_eq_true', Bool.not_eq_false', Bool.and_eq_false_iff, Bool.or_eq_false_iff, Bool.not_true, Bool.not_false, gt_iff_lt, ge_iff_le, Int.not_lt, Int.not_le, Decidable.not_not, beq_self_eq_true, bne_self_eq_false] at c2
        refine aw_skip ?_
        refine hK9 _ _ ?_
        clear hK9
        refine aw_condT (ev_tmp rfl) r2 ?_
        refine aw_region fun K11 hK11 => ?_
        refine awl_step (step_u rfl (stepU_call0 rfl en_26 (con_whole) (.cons (ev_int _ _) .nil) rfl rfl)) rfl rfl ?_
        refine awl_step (step_u rfl (stepU_store rfl (ev_tmp rfl) (by first | exact ev_tmp rfl | exact ev_nil (ev_tmp rfl)) rfl rfl sz_33 ⟨rfl, by first | exact Nat.le_of_ble_eq_true rfl | simp⟩ (by first | (simp only [rd, splice, fillD, D.cells, List.drop_succ_cons, List.drop_zero, List.take_succ_cons, List.take_zero, List.headD_cons, List.cons_append, List.nil_append, List.append_nil, List.length_cons, List.length_nil, Nat.reduceAdd, Nat.zero_add, Nat.add_zero, Bool.false_eq_true, if_true, if_false, reduceIte, List.map_cons, List.map_nil, List.drop_nil, List.take_nil, List.replicate, Flt.cs, Flt.whole, Flt.no] <;> rfl) | rfl))) rfl rfl ?_
        refine awl_nil (hK11 _ _ ?_)
        clear hK11 K11
        refine aw_ret ?_
        refine (hret _ _ _ _ _ rfl (.cell rfl rfl sz_33 ⟨.inl rfl, by first | exact Nat.le_of_ble_eq_true rfl | simp [Flt.cs, Flt.whole, Flt.no]⟩ (by first | (simp only [rd, splice, fillD, D.cells, List.drop_succ_cons, List.drop_zero, List.take_succ_cons, List.take_zero, List.headD_cons, List.cons_append, List.nil_append, List.append_nil, List.length_cons, List.length_nil, Nat.reduceAdd, Nat.zero_add, Nat.add_zero, Bool.false_eq_true, if_true, if_false, reduceIte, List.map_cons, List.map_nil, List.drop_nil, List.take_nil, List.replicate, Flt.cs, Flt.whole, Flt.no] <;> rfl) | rfl) .nil) rfl ?_ .nil rfl).1
        (rw [unfit_at l k (by omega) 1 hq (by unfold badSet; rw [if_pos (by omega)])]; rfl)
      · have r2 := c2
        try simp only [beq_iff_eq, bne_iff_ne, ne_eq, beq_eq_false_iff_ne, bne_eq_false_iff_eq, decide_eq_true_eq, decide_eq_false_iff_not, Bool.and_eq_true, Bool.or_eq_true, Bool.not_eq_true', Bool.not_eq_false', Bool.and_eq_false_iff, Bool.or_eq_false_iff, Bool.not_true, Bool.not_false, gt_iff_lt, ge_iff_le, Int.not_lt, Int.not_le, Decidable.not_not, beq_self_eq_true, bne_self_eq_false] at c2
        refine aw_region_last ?_
        refine awl_step (step_u rfl (stepU_fieldAddr rfl (ev_tmp rfl) fo_59_0)) rfl rfl ?_
        refine awl_step (step_u rfl (stepU_load rfl (ev_tmp rfl) rfl sz_3 ⟨.inr rfl, by first | exact Nat.le_of_ble_eq_true rfl | simp⟩ (by first | (simp only [rd, splice, fillD, D.cells, List.drop_succ_cons, List.drop_zero, List.take_succ_cons, List.take_zero, List.headD_cons, List.cons_append, List.nil_append, List.append_nil, List.length_cons, List.length_nil, Nat.reduceAdd, Nat.zero_add, Nat.add_zero, Bool.false_eq_true, if_true, if_false, reduceIte, List.map_cons, List.map_nil, List.drop_nil, List.take_nil, List.replicate, Flt.cs, Flt.whole, Flt.no] <;> rfl) | rfl))) rfl rfl ?_
        refine awl_step (step_u rfl (stepU_eql rfl (ev_tmp rfl) (ev_int _ _))) rfl rfl ?_
        refine awl_step (step_u rfl (stepU_move rfl (ev_tmp rfl))) rfl rfl ?_
        refine awl_step (step_if rfl rfl (ev_tmp rfl) (fun hg => stepU_fieldAddr rfl ((by first | exact ev_cond (ev_tmp rfl) (by assumption) | exact ev_cond (ev_tmp rfl) (by simp_all) | exact ev_tmp rfl)) fo_59_1)) rfl rfl ?_
        refine awl_step (step_if rfl rfl (ev_tmp rfl) (fun hg => stepU_load rfl ((by first | exact ev_cond (ev_tmp rfl) (by assumption) | exact ev_cond (ev_tmp rfl) (by simp_all) | exact ev_tmp rfl)) rfl sz_2 ⟨.inr rfl, by first | exact Nat.le_of_ble_eq_true rfl | simp⟩ (by first | (simp only [rd, splice, fillD, D.cells, List.drop_succ_cons, List.drop_zero, List.take_succ_cons, List.take_zero, List.headD_cons, List.cons_append, List.nil_append, List.append_nil, List.length_cons, List.length_nil, Nat.reduceAdd, Nat.zero_add, Nat.add_zero, Bool.false_eq_true, if_true, if_false, reduceIte, List.map_cons, List.map_nil, List.drop_nil, List.take_nil, List.replicate, Flt.cs, Flt.whole, Flt.no] <;> rfl) | rfl))) rfl rfl ?_
        refine awl_step (step_if rfl rfl (ev_tmp rfl) (fun hg => stepU_lss rfl ((by first | exact ev_cond (ev_tmp rfl) (by assumption) | exact ev_cond (ev_tmp rfl) (by simp_all) | exact ev_tmp rfl)) (ev_int _ _))) rfl rfl ?_
        refine awl_step (step_if rfl rfl (ev_tmp rfl) (fun hg => stepU_move rfl ((by first | exact ev_cond (ev_tmp rfl) (by assumption) | exact ev_cond (ev_tmp rfl) (by simp_all) | exact ev_tmp rfl)))) rfl rfl ?_
        refine awl_step (step_if2 rfl rfl (ev_tmp rfl) (fun hg => stepU_fieldAddr rfl ((by first | exact ev_cond (ev_tmp rfl) (by assumption) | exact ev_cond (ev_tmp rfl) (by simp_all) | exact ev_tmp rfl)) fo_59_1)) rfl rfl ?_
        refine awl_step (step_if2 rfl rfl (ev_tmp rfl) (fun hg => stepU_load rfl ((by first | exact ev_cond (ev_tmp rfl) (by assumption) | exact ev_cond (ev_tmp rfl) (by simp_all) | exact ev_tmp rfl)) rfl sz_2 ⟨.inr rfl, by first | exact Nat.le_of_ble_eq_true rfl | simp⟩ (by first | (simp only [rd, splice, fillD, D.cells, List.drop_succ_cons, List.drop_zero, List.take_succ_cons, List.take_zero, List.headD_cons, List.cons_append, List.nil_append, List.append_nil, List.length_cons, List.length_nil, Nat.reduceAdd, Nat.zero_add, Nat.add_zero, Bool.false_eq_true, if_true, if_false, reduceIte, List.map_cons, List.map_nil, List.drop_nil, List.take_nil, List.replicate, Flt.cs, Flt.whole, Flt.no] <;> rfl) | rfl))) rfl rfl ?_
        refine awl_step (step_if2 rfl rfl (ev_tmp rfl) (fun hg => stepU_gtr rfl ((by first | exact ev_cond (ev_tmp rfl) (by assumption) | exact ev_cond (ev_tmp rfl) (by simp_all) | exact ev_tmp rfl)) (ev_int _ _))) rfl rfl ?_
        refine awl_step (step_if rfl rfl (ev_tmp rfl) (fun hg => stepU_or rfl (by first | exact ev_cond (ev_tmp rfl) (by assumption) | exact ev_cond (ev_tmp rfl) (by simp_all) | exact ev_tmp rfl) (ev_bool _) (fun hh => (by first | exact ev_tmp rfl | exact ev_bool _ | exact ev_condF (ev_tmp rfl) hh | exact ev_cond (ev_tmp rfl) (by simp_all))))) rfl rfl ?_
        refine awl_step (step_u rfl (stepU_and rfl (by first | exact ev_cond (ev_tmp rfl) (by assumption) | exact ev_cond (ev_tmp rfl) (by simp_all) | exact ev_tmp rfl) (fun hh => (by first | exact ev_tmp rfl | exact ev_bool _ | exact ev_condT (ev_tmp rfl) hh | exact ev_cond (ev_tmp rfl) (by simp_all))) (ev_bool _))) rfl rfl ?_
        refine awl_step (step_u rfl (stepU_assign rfl (ev_tmp rfl))) rfl rfl ?_
        refine awl_nil ?_
        refine hK9 _ _ ?_
        clear hK9
        refine aw_cond (by first | exact ev_tmp rfl | exact ev_bool _) (fun c3 => ?_) (fun c3 => ?_)
        · have r3 := c3
          try simp only [beq_iff_eq, bne_iff_ne, ne_eq, beq_eq_false_iff_ne, bne_eq_false_iff_eq, decide_eq_true_eq, decide_eq_false_iff_not, Bool.and_eq_true, Bool.or_eq_true, Bool.not_eq_true', Bool.not_eq_false', Bool.and_eq_false_iff, Bool.or_eq_false_iff, Bool.not_true, Bool.not_false, gt_iff_lt, ge_iff_le, Int.not_lt, Int.not_le, Decidable.not_not, beq_self_eq_true, bne_self_eq_false] at c3
          refine aw_region fun K12 hK12 => ?_
          refine awl_step (step_u rfl (stepU_call0 rfl en_26 (con_whole) (.cons (ev_int _ _) .nil) rfl rfl)) rfl rfl ?_
          refine awl_step (step_u rfl (stepU_store rfl (ev_tmp rfl) (by first | exact ev_tmp rfl | exact ev_nil (ev_tmp rfl)) rfl rfl sz_33 ⟨rfl, by first | exact Nat.le_of_ble_eq_true rfl | simp⟩ (by first | (simp only [rd, splice, fillD, D.cells, List.drop_succ_cons, List.drop_zero, List.take_succ_cons, List.take_zero, List.headD_cons, List.cons_append, List.nil_append, List.append_nil, List.length_cons, List.length_nil, Nat.reduceAdd, Nat.zero_add, Nat.add_zero, Bool.false_eq_true, if_true, if_false, reduceIte, List.map_cons, List.map_nil, List.drop_nil, List.take_nil, List.replicate, Flt.cs, Flt.whole, Flt.no] <;> rfl) | rfl))) rfl rfl ?_
          refine awl_nil (hK12 _ _ ?_)
          clear hK12 K12
          refine aw_ret ?_
          refine (hret _ _ _ _ _ rfl (.cell rfl rfl sz_33 ⟨.inl rfl, by first | exact Nat.le_of_ble_eq_true rfl | simp [Flt.cs, Flt.whole, Flt.no]⟩ (by first | (simp only [rd, splice, fillD, D.cells, List.drop_succ_cons, List.drop_zero, List.take_succ_cons, List.take_zero, List.headD_cons, List.cons_append, List.nil_append, List.append_nil, List.length_cons, List.length_nil, Nat.reduceAdd, Nat.zero_add, Nat.add_zero, Bool.false_eq_true, if_true, if_false, reduceIte, List.map_cons, List.map_nil, List.drop_nil, List.take_nil, List.replicate, Flt.cs, Flt.whole, Flt.no] <;> rfl) | rfl) .nil) rfl ?_ .nil rfl).1
          (rw [unfit_at l k (by omega) 1 hq (by unfold badSet; rw [if_pos (by omega)])]; rfl)
        · have r3 := c3
          try simp only [beq_iff_eq, bne_iff_ne, ne_eq, beq_eq_false_iff_ne, bne_eq_false_iff_eq, decide_eq_true_eq, decide_eq_false_iff_not, Bool.and_eq_true, Bool.or_eq_true, Bool.not_eq_true', Bool.not_eq_false', Bool.and_eq_false_iff, Bool.or_eq_false_iff, Bool.not_true, Bool.not_false, gt_iff_lt, ge_iff_le, Int.not_lt, Int.not_le, Decidable.not_not, beq_self_eq_true, bne_self_eq_false] at c3
          refine aw_region fun K13 hK13 => ?_
          refine awl_step (step_u rfl (stepU_fieldAddr rfl (ev_tmp rfl) fo_59_0)) rfl rfl ?_
          refine awl_step (step_u rfl (stepU_load rfl (ev_tmp rfl) rfl sz_3 ⟨.inr rfl, by first | exact Nat.le_of_ble_eq_true rfl | simp⟩ (by first | (simp only [rd, splice, fillD, D.cells, List.drop_succ_cons, List.drop_zero, List.take_succ_cons, List.take_zero, List.headD_cons, List.cons_append, List.nil_append, List.append_nil, List.length_cons, List.length_nil, Nat.reduceAdd, Nat.zero_add, Nat.add_zero, Bool.false_eq_true, if_true, if_false, reduceIte, List.map_cons, List.map_nil, List.drop_nil, List.take_nil, List.replicate, Flt.cs, Flt.whole, Flt.no] <;> rfl) | rfl))) rfl rfl ?_
          refine awl_step (step_u rfl (stepU_eql rfl (ev_tmp rfl) (ev_int _ _))) rfl rfl ?_
          refine awl_step (step_u rfl (stepU_move rfl (ev_tmp rfl))) rfl rfl ?_
          refine awl_step (step_if rfl rfl (ev_tmp rfl) (fun hg => stepU_fieldAddr rfl ((by first | exact ev_cond (ev_tmp rfl) (by assumption) | exact ev_cond (ev_tmp rfl) (by simp_all) | exact ev_tmp rfl)) fo_59_1)) rfl rfl ?_
          refine awl_step (step_if rfl rfl (ev_tmp rfl) (fun hg => stepU_load rfl ((by first | exact ev_cond (ev_tmp rfl) (by assumption) | exact ev_cond (ev_tmp rfl) (by simp_all) | exact ev_tmp rfl)) rfl sz_2 ⟨.inr rfl, by first | exact Nat.le_of_ble_eq_true rfl | simp⟩ (by first | (simp only [rd, splice, fillD, D.cells, List.drop_succ_cons, List.drop_zero, List.take_succ_cons, List.take_zero, List.headD_cons, List.cons_append, List.nil_append, List.append_nil, List.length_cons, List.length_nil, Nat.reduceAdd, Nat.zero_add, Nat.add_zero, Bool.false_eq_true, if_true, if_false, reduceIte, List.map_cons, List.map_nil, List.drop_nil, List.take_nil, List.replicate, Flt.cs, Flt.whole, Flt.no] <;> rfl) | rfl))) rfl rfl ?_
          refine awl_step (step_if rfl rfl (ev_tmp rfl) (fun hg => stepU_gtr rfl ((by first | exact ev_cond (ev_tmp rfl) (by assumption) | exact ev_cond (ev_tmp rfl) (by simp_all) | exact ev_tmp rfl)) (ev_int _ _))) rfl rfl ?_
          refine awl_step (step_u rfl (stepU_and rfl (by first | exact ev_cond (ev_tmp rfl) (by assumption) | exact ev_cond (ev_tmp rfl) (by simp_all) | exact ev_tmp rfl) (fun hh => (by first | exact ev_tmp rfl | exact ev_bool _ | exact ev_condT (ev_tmp rfl) hh | exact ev_cond (ev_tmp rfl) (by simp_all))) (ev_bool _))) rfl rfl ?_
          refine awl_step (step_u rfl (stepU_assign rfl (ev_tmp rfl))) rfl rfl ?_
          refine awl_nil (hK13 _ _ ?_)
          clear hK13 K13
          refine aw_cond (by first | exact ev_tmp rfl | exact ev_bool _) (fun c4 => ?_) (fun c4 => ?_)
          · have r4 := c4
            try simp only [beq_iff_eq, bne_iff_ne, ne_eq, beq_eq_false_iff_ne, bne_eq_false_iff_eq, decide_eq_true_eq, decide_eq_false_iff_not, Bool.and_eq_true, Bool.or_eq_true, Bool.not_eq_true', Bool.not_eq_false', Bool.and_eq_false_iff, Bool.or_eq_false_iff, Bool.not_true, Bool.not_false, gt_iff_lt, ge_iff_le, Int.not_lt, Int.not_le, Decidable.not_not, beq_self_eq_true, bne_self_eq_false] at c4
            refine aw_region fun K14 hK14 => ?_
            refine awl_step (step_u rfl (stepU_call0 rfl en_26 (con_whole) (.cons (ev_int _ _) .nil) rfl rfl)) rfl rfl ?_
            refine awl_step (step_u rfl (stepU_store rfl (ev_tmp rfl) (by first | exact ev_tmp rfl | exact ev_nil (ev_tmp rfl)) rfl rfl sz_33 ⟨rfl, by first | exact Nat.le_of_ble_eq_true rfl | simp⟩ (by first | (simp only [rd, splice, fillD, D.cells, List.drop_succ_cons, List.drop_zero, List.take_succ_cons, List.take_zero, List.headD_cons, List.cons_append, List.nil_append, List.append_nil, List.length_cons, List.length_nil, Nat.reduceAdd, Nat.zero_add, Nat.add_zero, Bool.false_eq_true, if_true, if_false, reduceIte, List.map_cons, List.map_nil, List.drop_nil, List.take_nil, List.replicate, Flt.cs, Flt.whole, Flt.no] <;> rfl) | rfl))) rfl rfl ?_
            refine awl_nil (hK14 _ _ ?_)
            clear hK14 K14
            refine aw_ret ?_
            refine (hret _ _ _ _ _ rfl (.cell rfl rfl sz_33 ⟨.inl rfl, by first | exact Nat.le_of_ble_eq_true rfl | simp [Flt.cs, Flt.whole, Flt.no]⟩ (by first | (simp only [rd, splice, fillD, D.cells, List.drop_succ_cons, List.drop_zero, List.take_succ_cons, List.take_zero, List.headD_cons, List.cons_append, List.nil_append, List.append_nil, List.length_cons, List.length_nil, Nat.reduceAdd, Nat.zero_add, Nat.add_zero, Bool.false_eq_true, if_true, if_false, reduceIte, List.map_cons, List.map_nil, List.drop_nil, List.take_nil, List.replicate, Flt.cs, Flt.whole, Flt.no] <;> rfl) | rfl) .nil) rfl ?_ .nil rfl).1
            (rw [unfit_at l k (by omega) 3 hq (by unfold badSet; rw [if_neg (by omega), if_pos (by omega)])]; rfl)
          · have r4 := c4
            try simp only [beq_iff_eq, bne_iff_ne, ne_eq, beq_eq_false_iff_ne, bne_eq_false_iff_eq, decide_eq_true_eq, decide_eq_false_iff_not, Bool.and_eq_true, Bool.or_eq_true, Bool.not_eq_true', Bool.not_eq_false', Bool.and_eq_false_iff, Bool.or_eq_false_iff, Bool.not_true, Bool.not_false, gt_iff_lt, ge_iff_le, Int.not_lt, Int.not_le, Decidable.not_not, beq_self_eq_true, bne_self_eq_false] at c4
            refine aw_skip ?_
            refine hK7 _ _ ?_
            clear hK7
            refine aw_region_last ?_
            refine awl_step (step_u rfl (stepU_add rfl (ev_tmp rfl) (ev_int _ _) (by first | assumption | exact wrap_byte _ | exact i64_wrap (by omega) (by omega) | exact u8_wrap (by omega) (by omega) | exact u32_wrap (by omega) (by omega) | exact u16_wrap (by omega) (by omega) | rfl))) rfl rfl ?_
            refine awl_step (step_u rfl (stepU_move rfl (ev_tmp rfl))) rfl rfl ?_
            refine awl_nil ?_
            refine hK4 _ _ ⟨k + 1, by omega, fun j hj h => ?_⟩ (by show _ - (k + 1) < _ - k; omega) ?_
            · rcases (by omega : j < k ∨ j = k) with h' | rfl
              · exact hq j hj h'
              · show badSet l[j] = none
                unfold badSet
                rw [if_neg (by omega), if_neg (by omega)]
            · exact weak_all none trivial (by repeat (first | exact .nil | refine .box rfl (.same rfl) ?_ | refine .box rfl (.eq (by first | rfl | (simp; done)) (.same rfl)) ?_ | refine .row rfl (by first | rfl | (simp; done)) ?_)) (by repeat (first | exact .nil | refine .cons rfl (.keep rfl) ?_ | refine .cons rfl (.eq (by first | rfl | exact d_int (by omega) | exact d_view (by omega) (by omega) | exact d_sl (by simp) | (simp; done) | exact d_bool (by simp_all) | exact d_str (by simp)) (.keep rfl)) ?_ | refine .cons rfl .nil ?_ | refine .cons rfl .any ?_))
    · have r1 := c1
      try simp only [beq_iff_eq, bne_iff_ne, ne_eq, beq_eq_false_iff_ne, bne_eq_false_iff_eq, decide_eq_true_eq, decide_eq_false_iff_not, Bool.and_eq_true, Bool.or_eq_true, Bool.not_eq_true', Bool.not_eq_false', Bool.and_eq_false_iff, Bool.or_eq_false_iff, Bool.not_true, Bool.not_false, gt_iff_lt, ge_iff_le, Int.not_lt, Int.not_le, Decidable.not_not, beq_self_eq_true, bne_self_eq_false] at c1
      refine aw_exit ?_
      refine hK2 _ _ ?_
      clear hK2
      refine aw_region fun K15 hK15 => ?_
      refine awl_step (step_u rfl (stepU_build rfl pl_33 zc_33 zl_33 rfl .nil (by first | (simp only [rd, splice, fillD, D.cells, List.drop_succ_cons, List.drop_zero, List.take_succ_cons, List.take_zero, List.headD_cons, List.cons_append, List.nil_append, List.append_nil, List.length_cons, List.length_nil, Nat.reduceAdd, Nat.zero_add, Nat.add_zero, Bool.false_eq_true, if_true, if_false, reduceIte, List.map_cons, List.map_nil, List.drop_nil, List.take_nil, List.replicate, Flt.cs, Flt.whole, Flt.no] <;> rfl) | rfl))) rfl rfl ?_
      refine awl_step (step_u rfl (stepU_store rfl (ev_tmp rfl) (by first | exact ev_tmp rfl | exact ev_nil (ev_tmp rfl)) rfl rfl sz_33 ⟨rfl, by first | exact Nat.le_of_ble_eq_true rfl | simp⟩ (by first | (simp only [rd, splice, fillD, D.cells, List.drop_succ_cons, List.drop_zero, List.take_succ_cons, List.take_zero, List.headD_cons, List.cons_append, List.nil_append, List.append_nil, List.length_cons, List.length_nil, Nat.reduceAdd, Nat.zero_add, Nat.add_zero, Bool.false_eq_true, if_true, if_false, reduceIte, List.map_cons, List.map_nil, List.drop_nil, List.take_nil, List.replicate, Flt.cs, Flt.whole, Flt.no] <;> rfl) | rfl))) rfl rfl ?_
      refine awl_nil (hK15 _ _ ?_)
      clear hK15 K15
      refine aw_ret ?_
      refine (hret _ _ _ _ _ rfl (.cell rfl rfl sz_33 ⟨.inl rfl, by first | exact Nat.le_of_ble_eq_true rfl | simp [Flt.cs, Flt.whole, Flt.no]⟩ (by first | (simp only [rd, splice, fillD, D.cells, List.drop_succ_cons, List.drop_zero, List.take_succ_cons, List.take_zero, List.headD_cons, List.cons_append, List.nil_append, List.append_nil, List.length_cons, List.length_nil, Nat.reduceAdd, Nat.zero_add, Nat.add_zero, Bool.false_eq_true, if_true, if_false, reduceIte, List.map_cons, List.map_nil, List.drop_nil, List.take_nil, List.replicate, Flt.cs, Flt.whole, Flt.no] <;> rfl) | rfl) .nil) rfl ?_ .nil rfl).1
      (rw [unfit_no l (fun j hj => hq j hj (by omega))]; rfl)
end Go.Proofs.Ytlfkgbcclinnbaa
