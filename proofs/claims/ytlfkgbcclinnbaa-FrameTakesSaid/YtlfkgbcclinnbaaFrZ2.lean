/- The law FrameTakes, walked. No condition. -/
import Derived.Test.YtlfkgbcclinnbaaFrRe
import Derived.Test.YtlfkgbcclinnbaaFrY
namespace Go.Proofs.Ytlfkgbcclinnbaa
set_option linter.all false
open Go Go.RowKit
set_option maxRecDepth 10000
set_option maxHeartbeats 4000000
theorem take_sets (b : List UInt8) (m : Int) : (takeF b m).f.sets.length ≤ b.length := by
  have hn : Fr.nil.sets.length ≤ b.length := Nat.zero_le _
  by_cases h1 : (b.length : Int) < 9
  · rw [takeF_1 h1]; exact hn
  by_cases h2 : m < (beN (b.take 3) : Int)
  · rw [takeF_2 (by omega) h2]; exact hn
  by_cases h3 : (b.length : Int) < 9 + (beN (b.take 3) : Int)
  · rw [takeF_3 (by omega) (by omega) h3]; exact hn
  rw [takeF_0 (by omega) (by omega)]
  split
  · exact hn
  · split
    · split <;> exact hn
    · have h := openL_sets (f := f0B b) (p := pB b) rfl
      have hp : (pB b).length ≤ b.length := by unfold pB; simp; omega
      unfold openL at h
      cases ho : openM (f0B b) (pB b) with
      | none => exact hn
      | some g =>
        rw [ho] at h
        simp only [Option.getD_some] at h
        simp only
        split
        · split <;> exact hn
        · split
          · exact hn
          · exact Nat.le_trans h hp
theorem con_FrameTakes {b : List UInt8} {most : Int} (hb : b.length ≤ 140737488351232) : Con Try.prog 4 [.v (.sl (bs b)), .v (.int .i64 most)] [] 0 (.ret (.v (.bool true))) [] := by
  have hts := take_sets b most
  refine con_of Try.func4 rfl (by show _ ≤ 52; simp) fun X Q hP hnt hnp hret hpan => ?_
  obtain ⟨P0, nt0, w0, K0, S0, np0, pin0⟩ := X
  simp only at hP hnt hnp
  subst hP hnp
  obtain rfl : nt0 = 52 := hnt
  refine aw_region fun K1 hK1 => ?_
  refine awl_step (step_u rfl (stepU_assign rfl (ev_bool _))) rfl rfl ?_
  refine awl_nil (hK1 _ _ ?_)
  clear hK1 K1
  refine aw_seq fun K2 hK2 => ?_
  refine aw_region fun K3 hK3 => ?_
  refine awl_step (step_u rfl (stepU_call0 rfl en_9 (con_awake) .nil rfl rfl)) rfl rfl ?_
  refine awl_step (step_u rfl (stepU_not rfl (ev_tmp rfl))) rfl rfl ?_
  refine awl_nil (hK3 _ _ ?_)
  clear hK3 K3
  refine aw_cond (by first | exact ev_tmp rfl | exact ev_bool _) (fun c1 => ?_) (fun c1 => ?_)
  · have r1 := c1
    try simp only [beq_iff_eq, bne_iff_ne, ne_eq, beq_eq_false_iff_ne, bne_eq_false_iff_eq, decide_eq_true_eq, decide_eq_false_iff_not, Bool.and_eq_true, Bool.or_eq_true, Bool.not_eq_true', Bool.not_eq_false', Bool.and_eq_false_iff, Bool.or_eq_false_iff, Bool.not_true, Bool.not_false, gt_iff_lt, ge_iff_le, Int.not_lt, Int.not_le, Decidable.not_not, beq_self_eq_true, bne_self_eq_false] at c1
    refine aw_region fun K4 hK4 => ?_
    refine awl_step (step_u rfl (stepU_assign rfl (ev_bool _))) rfl rfl ?_
    refine awl_nil (hK4 _ _ ?_)
    clear hK4 K4
    refine aw_ret ?_
    refine (hret _ _ _ _ _ rfl (.tmp rfl .nil) rfl ?_ .nil rfl).1
    first
      | rfl
      | (exfalso; simp at r1; done)
      | (simp [retD, sameB, eqXs, eqX]; done)
  · have r1 := c1
    try simp only [beq_iff_eq, bne_iff_ne, ne_eq, beq_eq_false_iff_ne, bne_eq_false_iff_eq, decide_eq_true_eq, decide_eq_false_iff_not, Bool.and_eq_true, Bool.or_eq_true, Bool.not_eq_true', Bool.not_eq_false', Bool.and_eq_false_iff, Bool.or_eq_false_iff, Bool.not_true, Bool.not_false, gt_iff_lt, ge_iff_le, Int.not_lt, Int.not_le, Decidable.not_not, beq_self_eq_true, bne_self_eq_false] at c1
    refine aw_skip ?_
    refine hK2 _ _ ?_
    clear hK2
    refine aw_seq fun K5 hK5 => ?_
    refine aw_region fun K6 hK6 => ?_
    refine awl_step (step_u rfl (stepU_move rfl (ev_tmp rfl))) rfl rfl ?_
    refine awl_step (step_u rfl (stepU_lenB rfl Try.underlying27 (ev_tmp rfl))) rfl rfl ?_
    refine awl_step (step_u rfl (stepU_gtr rfl (ev_tmp rfl) (ev_int _ _))) rfl rfl ?_
    refine awl_nil (hK6 _ _ ?_)
    clear hK6 K6
    refine aw_cond (by first | exact ev_tmp rfl | exact ev_bool _) (fun c2 => ?_) (fun c2 => ?_)
    · have r2 := c2
      try simp only [beq_iff_eq, bne_iff_ne, ne_eq, beq_eq_false_iff_ne, bne_eq_false_iff_eq, decide_eq_true_eq, decide_eq_false_iff_not, Bool.and_eq_true, Bool.or_eq_true, Bool.not_eq_true', Bool.not_eq_false', Bool.and_eq_false_iff, Bool.or_eq_false_iff, Bool.not_true, Bool.not_false, gt_iff_lt, ge_iff_le, Int.not_lt, Int.not_le, Decidable.not_not, beq_self_eq_true, bne_self_eq_false] at c2
      refine aw_region fun K7 hK7 => ?_
      refine awl_step (step_u rfl (stepU_assign rfl (ev_bool _))) rfl rfl ?_
      refine awl_nil (hK7 _ _ ?_)
      clear hK7 K7
      refine aw_ret ?_
      refine (hret _ _ _ _ _ rfl (.tmp rfl .nil) rfl ?_ .nil rfl).1
      first
        | rfl
        | (exfalso; simp at r1; done)
        | (simp [retD, sameB, eqXs, eqX]; done)
    · have r2 := c2
      try simp only [beq_iff_eq, bne_iff_ne, ne_eq, beq_eq_false_iff_ne, bne_eq_false_iff_eq, decide_eq_true_eq, decide_eq_false_iff_not, Bool.and_eq_true, Bool.or_eq_true, Bool.not_eq_true', Bool.not_eq_false', Bool.and_eq_false_iff, Bool.or_eq_false_iff, Bool.not_true, Bool.not_false, gt_iff_lt, ge_iff_le, Int.not_lt, Int.not_le, Decidable.not_not, beq_self_eq_true, bne_self_eq_false] at c2
      refine aw_skip ?_
      refine hK5 _ _ ?_
      clear hK5
      refine aw_region fun K8 hK8 => ?_
      refine awl_step (step_u rfl (stepU_row (c := []) 0 (Nat.le_of_ble_eq_true rfl) rfl Try.underlying27 sz_5 zc_5 zl_5 (by decide) .nil (by first | rfl | (simp only [rd, splice, fillD, D.cells, List.drop_succ_cons, List.drop_zero, List.take_succ_cons, List.take_zero, List.headD_cons, List.cons_append, List.nil_append, List.append_nil, List.length_cons, List.length_nil, Nat.reduceAdd, Nat.zero_add, Nat.add_zero, Bool.false_eq_true, if_true, if_false, reduceIte, List.map_cons, List.map_nil, List.drop_nil, List.take_nil, List.replicate] <;> rfl)) ⟨rfl, by first | exact bs_one _ | simp⟩)) rfl rfl ?_
      refine awl_step (step_u rfl (stepU_move rfl (ev_tmp rfl))) rfl rfl ?_
      refine awl_step (step_u rfl (stepU_app rfl Try.underlying27 zi_5 (ev_tmp rfl) rfl (by first | exact ev_tmp rfl | exact ev_nil (ev_tmp rfl)) (by first | exact bs_one _ | (simp; done)) (by first | decide | omega | (simp; omega)) rfl)) rfl rfl ?_
      refine awl_step (step_u rfl (stepU_assign rfl (ev_tmp rfl))) rfl rfl ?_
      refine awl_nil (hK8 _ _ ?_)
      clear hK8 K8
      refine aw_weak (weak_all (fr' := [(0, .v (.sl (bs b))), (1, .v (.int .i64 most)), (5, .v (.sl (bs b)))]) (ah' := []) (some (0, 1, bs b)) ⟨rfl, _, _, rfl⟩ .nil (.cons rfl (.keep rfl) (.cons rfl (.keep rfl) (.cons rfl (.view rfl (by simp)) .nil)))) ?_
      refine aw_region fun K9 hK9 => ?_
      refine awl_step (step_u rfl (stepU_move rfl (ev_tmp rfl))) rfl rfl ?_
      refine awl_step (step_u rfl (stepU_move rfl (ev_tmp rfl))) rfl rfl ?_
      refine awl_step (step_u rfl (stepU_call0 rfl en_14 (con_frTake (b := b) (most := most) (by omega)) (.cons (ev_tmp rfl) (.cons (ev_tmp rfl) .nil)) rfl rfl)) rfl rfl ?_
      refine awl_step (step_u rfl (stepU_move rfl (ev_tmp rfl))) rfl rfl ?_
      refine awl_step (step_u rfl (stepU_extract rfl (ev_tmp rfl) rfl)) rfl rfl ?_
      refine awl_step (step_u rfl (stepU_extract rfl (ev_tmp rfl) rfl)) rfl rfl ?_
      refine awl_step (step_u rfl (stepU_extract rfl (ev_tmp rfl) rfl)) rfl rfl ?_
      refine awl_step (step_u rfl (stepU_alloc rfl 2 (Nat.le_of_ble_eq_true rfl) zc_24 zl_24)) rfl rfl ?_
      refine awl_step (step_u rfl (stepU_alloc rfl 3 (Nat.le_of_ble_eq_true rfl) zc_33 zl_33)) rfl rfl ?_
      refine awl_step (step_u rfl (stepU_store rfl (ev_tmp rfl) (by first | exact ev_tmp rfl | exact ev_nil (ev_tmp rfl)) rfl rfl sz_24 ⟨rfl, by first | exact Nat.le_of_ble_eq_true rfl | simp⟩ (by first | (simp only [rd, splice, fillD, D.cells, List.drop_succ_cons, List.drop_zero, List.take_succ_cons, List.take_zero, List.headD_cons, List.cons_append, List.nil_append, List.append_nil, List.length_cons, List.length_nil, Nat.reduceAdd, Nat.zero_add, Nat.add_zero, Bool.false_eq_true, if_true, if_false, reduceIte, List.map_cons, List.map_nil, List.drop_nil, List.take_nil, List.replicate, Fr.cs, Flt.cs] <;> rfl) | rfl))) rfl rfl ?_
      refine awl_step (step_u rfl (stepU_assign rfl (ev_tmp rfl))) rfl rfl ?_
      refine awl_step (step_u rfl (stepU_store rfl (ev_tmp rfl) (by first | exact ev_tmp rfl | exact ev_nil (ev_tmp rfl)) rfl rfl sz_33 ⟨rfl, by first | exact Nat.le_of_ble_eq_true rfl | simp⟩ (by first | (simp only [rd, splice, fillD, D.cells, List.drop_succ_cons, List.drop_zero, List.take_succ_cons, List.take_zero, List.headD_cons, List.cons_append, List.nil_append, List.append_nil, List.length_cons, List.length_nil, Nat.reduceAdd, Nat.zero_add, Nat.add_zero, Bool.false_eq_true, if_true, if_false, reduceIte, List.map_cons, List.map_nil, List.drop_nil, List.take_nil, List.replicate, Fr.cs, Flt.cs] <;> rfl) | rfl))) rfl rfl ?_
      refine awl_nil (hK9 _ _ ?_)
      clear hK9 K9
      refine aw_region fun K10 hK10 => ?_
      refine awl_step (step_u rfl (stepU_move rfl (ev_tmp rfl))) rfl rfl ?_
      refine awl_step (step_u rfl (stepU_move rfl (ev_tmp rfl))) rfl rfl ?_
      refine awl_step (step_u rfl (stepU_call0 rfl en_15 (con_refTakeF (b := b) (most := most) (by omega)) (.cons (ev_tmp rfl) (.cons (ev_tmp rfl) .nil)) rfl rfl)) rfl rfl ?_
      refine awl_step (step_u rfl (stepU_move rfl (ev_tmp rfl))) rfl rfl ?_
      refine awl_step (step_u rfl (stepU_extract rfl (ev_tmp rfl) rfl)) rfl rfl ?_
      refine awl_step (step_u rfl (stepU_extract rfl (ev_tmp rfl) rfl)) rfl rfl ?_
      refine awl_step (step_u rfl (stepU_extract rfl (ev_tmp rfl) rfl)) rfl rfl ?_
      refine awl_step (step_u rfl (stepU_alloc rfl 4 (Nat.le_of_ble_eq_true rfl) zc_24 zl_24)) rfl rfl ?_
      refine awl_step (step_u rfl (stepU_alloc rfl 5 (Nat.le_of_ble_eq_true rfl) zc_33 zl_33)) rfl rfl ?_
      refine awl_step (step_u rfl (stepU_store rfl (ev_tmp rfl) (by first | exact ev_tmp rfl | exact ev_nil (ev_tmp rfl)) rfl rfl sz_24 ⟨rfl, by first | exact Nat.le_of_ble_eq_true rfl | simp⟩ (by first | (simp only [rd, splice, fillD, D.cells, List.drop_succ_cons, List.drop_zero, List.take_succ_cons, List.take_zero, List.headD_cons, List.cons_append, List.nil_append, List.append_nil, List.length_cons, List.length_nil, Nat.reduceAdd, Nat.zero_add, Nat.add_zero, Bool.false_eq_true, if_true, if_false, reduceIte, List.map_cons, List.map_nil, List.drop_nil, List.take_nil, List.replicate, Fr.cs, Flt.cs] <;> rfl) | rfl))) rfl rfl ?_
      refine awl_step (step_u rfl (stepU_assign rfl (ev_tmp rfl))) rfl rfl ?_
      refine awl_step (step_u rfl (stepU_store rfl (ev_tmp rfl) (by first | exact ev_tmp rfl | exact ev_nil (ev_tmp rfl)) rfl rfl sz_33 ⟨rfl, by first | exact Nat.le_of_ble_eq_true rfl | simp⟩ (by first | (simp only [rd, splice, fillD, D.cells, List.drop_succ_cons, List.drop_zero, List.take_succ_cons, List.take_zero, List.headD_cons, List.cons_append, List.nil_append, List.append_nil, List.length_cons, List.length_nil, Nat.reduceAdd, Nat.zero_add, Nat.add_zero, Bool.false_eq_true, if_true, if_false, reduceIte, List.map_cons, List.map_nil, List.drop_nil, List.take_nil, List.replicate, Fr.cs, Flt.cs] <;> rfl) | rfl))) rfl rfl ?_
      refine awl_nil (hK10 _ _ ?_)
      clear hK10 K10
      refine aw_region fun K11 hK11 => ?_
      refine awl_step (step_u rfl (stepU_load rfl (ev_tmp rfl) rfl sz_24 ⟨.inl rfl, by first | exact Nat.le_of_ble_eq_true rfl | simp⟩ (by first | (simp only [rd, splice, fillD, D.cells, List.drop_succ_cons, List.drop_zero, List.take_succ_cons, List.take_zero, List.headD_cons, List.cons_append, List.nil_append, List.append_nil, List.length_cons, List.length_nil, Nat.reduceAdd, Nat.zero_add, Nat.add_zero, Bool.false_eq_true, if_true, if_false, reduceIte, List.map_cons, List.map_nil, List.drop_nil, List.take_nil, List.replicate, Fr.cs, Flt.cs] <;> rfl) | rfl))) rfl rfl ?_
      refine awl_step (step_u rfl (stepU_load rfl (ev_tmp rfl) rfl sz_24 ⟨.inl rfl, by first | exact Nat.le_of_ble_eq_true rfl | simp⟩ (by first | (simp only [rd, splice, fillD, D.cells, List.drop_succ_cons, List.drop_zero, List.take_succ_cons, List.take_zero, List.headD_cons, List.cons_append, List.nil_append, List.append_nil, List.length_cons, List.length_nil, Nat.reduceAdd, Nat.zero_add, Nat.add_zero, Bool.false_eq_true, if_true, if_false, reduceIte, List.map_cons, List.map_nil, List.drop_nil, List.take_nil, List.replicate, Fr.cs, Flt.cs] <;> rfl) | rfl))) rfl rfl ?_
      refine awl_step (step_u rfl (stepU_call0 rfl en_16 (con_Same (f := (takeF b most).f) (g := (takeF b most).f) (by omega)) (.cons (ev_tmp rfl) (.cons (ev_tmp rfl) .nil)) rfl rfl)) rfl rfl ?_
      refine awl_step (step_u rfl (stepU_move rfl (ev_tmp rfl))) rfl rfl ?_
      refine awl_step (step_if rfl rfl (ev_tmp rfl) (fun hg => stepU_move rfl ((by first | exact ev_cond (ev_tmp rfl) (by assumption) | exact ev_cond (ev_tmp rfl) (by simp_all) | exact ev_tmp rfl)))) rfl rfl ?_
      refine awl_step (step_if rfl rfl (ev_tmp rfl) (fun hg => stepU_move rfl ((by first | exact ev_cond (ev_tmp rfl) (by assumption) | exact ev_cond (ev_tmp rfl) (by simp_all) | exact ev_tmp rfl)))) rfl rfl ?_
      refine awl_step (step_if rfl rfl (ev_tmp rfl) (fun hg => stepU_eql rfl ((by first | exact ev_cond (ev_tmp rfl) (by assumption) | exact ev_cond (ev_tmp rfl) (by simp_all) | exact ev_tmp rfl)) ((by first | exact ev_cond (ev_tmp rfl) (by assumption) | exact ev_cond (ev_tmp rfl) (by simp_all) | exact ev_tmp rfl)))) rfl rfl ?_
      refine awl_step (step_u rfl (stepU_and rfl (by first | exact ev_cond (ev_tmp rfl) (by assumption) | exact ev_cond (ev_tmp rfl) (by simp_all) | exact ev_tmp rfl) (fun hh => (by first | exact ev_tmp rfl | exact ev_bool _ | exact ev_condT (ev_tmp rfl) hh | exact ev_cond (ev_tmp rfl) (by simp_all))) (ev_bool _))) rfl rfl ?_
      refine awl_step (step_u rfl (stepU_move rfl (ev_tmp rfl))) rfl rfl ?_
      refine awl_step (step_if rfl rfl (ev_tmp rfl) (fun hg => stepU_load rfl ((by first | exact ev_cond (ev_tmp rfl) (by assumption) | exact ev_cond (ev_tmp rfl) (by simp_all) | exact ev_tmp rfl)) rfl sz_33 ⟨.inl rfl, by first | exact Nat.le_of_ble_eq_true rfl | simp⟩ (by first | (simp only [rd, splice, fillD, D.cells, List.drop_succ_cons, List.drop_zero, List.take_succ_cons, List.take_zero, List.headD_cons, List.cons_append, List.nil_append, List.append_nil, List.length_cons, List.length_nil, Nat.reduceAdd, Nat.zero_add, Nat.add_zero, Bool.false_eq_true, if_true, if_false, reduceIte, List.map_cons, List.map_nil, List.drop_nil, List.take_nil, List.replicate, Fr.cs, Flt.cs] <;> rfl) | rfl))) rfl rfl ?_
      refine awl_step (step_if rfl rfl (ev_tmp rfl) (fun hg => stepU_load rfl ((by first | exact ev_cond (ev_tmp rfl) (by assumption) | exact ev_cond (ev_tmp rfl) (by simp_all) | exact ev_tmp rfl)) rfl sz_33 ⟨.inl rfl, by first | exact Nat.le_of_ble_eq_true rfl | simp⟩ (by first | (simp only [rd, splice, fillD, D.cells, List.drop_succ_cons, List.drop_zero, List.take_succ_cons, List.take_zero, List.headD_cons, List.cons_append, List.nil_append, List.append_nil, List.length_cons, List.length_nil, Nat.reduceAdd, Nat.zero_add, Nat.add_zero, Bool.false_eq_true, if_true, if_false, reduceIte, List.map_cons, List.map_nil, List.drop_nil, List.take_nil, List.replicate, Fr.cs, Flt.cs] <;> rfl) | rfl))) rfl rfl ?_
      refine awl_step (step_if rfl rfl (ev_tmp rfl) (fun hg => stepU_eqlA rfl sk_33 ((by first | exact ev_cond (ev_tmp rfl) (by assumption) | exact ev_cond (ev_tmp rfl) (by simp_all) | exact ev_tmp rfl)) ((by first | exact ev_cond (ev_tmp rfl) (by assumption) | exact ev_cond (ev_tmp rfl) (by simp_all) | exact ev_tmp rfl)) rfl rfl rfl rfl)) rfl rfl ?_
      refine awl_step (step_u rfl (stepU_and rfl (by first | exact ev_cond (ev_tmp rfl) (by assumption) | exact ev_cond (ev_tmp rfl) (by simp_all) | exact ev_tmp rfl) (fun hh => (by first | exact ev_tmp rfl | exact ev_bool _ | exact ev_condT (ev_tmp rfl) hh | exact ev_cond (ev_tmp rfl) (by simp_all))) (ev_bool _))) rfl rfl ?_
      refine awl_step (step_u rfl (stepU_move rfl (ev_tmp rfl))) rfl rfl ?_
      refine awl_step (step_if rfl rfl (ev_tmp rfl) (fun hg => stepU_move rfl ((by first | exact ev_cond (ev_tmp rfl) (by assumption) | exact ev_cond (ev_tmp rfl) (by simp_all) | exact ev_tmp rfl)))) rfl rfl ?_
      refine awl_step (step_if rfl rfl (ev_tmp rfl) (fun hg => stepU_move rfl ((by first | exact ev_cond (ev_tmp rfl) (by assumption) | exact ev_cond (ev_tmp rfl) (by simp_all) | exact ev_tmp rfl)))) rfl rfl ?_
      refine awl_step (step_if rfl rfl (ev_tmp rfl) (fun hg => stepU_call0 rfl en_13 (con_bytesEq) (.cons (by first | exact ev_cond (ev_tmp rfl) (by assumption) | exact ev_cond (ev_tmp rfl) (by simp_all) | exact ev_tmp rfl) (.cons (by first | exact ev_cond (ev_tmp rfl) (by assumption) | exact ev_cond (ev_tmp rfl) (by simp_all) | exact ev_tmp rfl) .nil)) rfl rfl)) rfl rfl ?_
      refine awl_step (step_u rfl (stepU_and rfl (by first | exact ev_cond (ev_tmp rfl) (by assumption) | exact ev_cond (ev_tmp rfl) (by simp_all) | exact ev_tmp rfl) (fun hh => (by first | exact ev_tmp rfl | exact ev_bool _ | exact ev_condT (ev_tmp rfl) hh | exact ev_cond (ev_tmp rfl) (by simp_all))) (ev_bool _))) rfl rfl ?_
      refine awl_step (step_u rfl (stepU_assign rfl (ev_tmp rfl))) rfl rfl ?_
      refine awl_nil (hK11 _ _ ?_)
      clear hK11 K11
      refine aw_ret ?_
      refine (hret _ _ _ _ _ rfl (.tmp rfl .nil) rfl ?_ .nil rfl).1
      first
        | rfl
        | (exfalso; simp at r1; done)
        | (simp [retD, sameB, eqXs, eqX]; done)
end Go.Proofs.Ytlfkgbcclinnbaa
