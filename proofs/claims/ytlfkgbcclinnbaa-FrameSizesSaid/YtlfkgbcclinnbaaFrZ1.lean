/- The law FrameSizes: a frame longer than the limit is a fault as soon as its first nine bytes are there. No condition. -/
import Derived.Test.YtlfkgbcclinnbaaFrY
namespace Go.Proofs.Ytlfkgbcclinnbaa
set_option linter.all false
open Go Go.RowKit
set_option maxRecDepth 10000
set_option maxHeartbeats 4000000
theorem con_FrameSizes {f : Fr} {less : Int} : Con Try.prog 6 [.agg f.cs, .v (.int .i64 less)] [] 0 (.ret (.v (.bool true))) [] := by
  have hbad : ¬ putE f = 0 → (putF f).length = 0 := fun h => by rw [putF_bad h]; rfl
  have hlen : putE f = 0 → (putF f).length = 9 + (payL f).length := put_len
  have hbe : putE f = 0 → beN ((putF f).take 3) = (payL f).length := fun h => by have := (put_head h []).1; rwa [List.append_nil] at this
  have hbe9 : putE f = 0 → beN (((putF f).take 9).take 3) = (payL f).length := fun h => (put_head h []).2
  have hmx : putE f = 0 → (payL f).length ≤ 16777215 := fun h => (put_ok h).2.1
  have hsame : putE f = 0 → takeF (putF f) (((putF f).length : Int) - 9) = takeF (putF f) 16777215 := fun h =>
    take_same (by rw [hlen h]; omega) (by rw [hbe h, hlen h]; omega) (by rw [hbe h]; have := hmx h; omega)
  have hcut : ∀ m : Int, putE f = 0 → m < ((putF f).length : Int) - 9 → takeF ((putF f).take 9) m = ⟨Fr.nil, 0, Flt.whole 6⟩ := fun m h hm =>
    takeF_2 (by have := hlen h; simp; omega) (by rw [hbe9 h]; have := hlen h; omega)
  refine con_of Try.func6 rfl (by show _ ≤ 89; simp) fun X Q hP hnt hnp hret hpan => ?_
  obtain ⟨P0, nt0, w0, K0, S0, np0, pin0⟩ := X
  simp only at hP hnt hnp
  subst hP hnp
  obtain rfl : nt0 = 89 := hnt
  refine aw_region fun K1 hK1 => ?_
  refine awl_step (step_u rfl (stepU_box rfl 0 (Nat.le_of_ble_eq_true rfl) (ev_tmp rfl) rfl)) rfl rfl ?_
  refine awl_step (step_u rfl (stepU_assign rfl (ev_bool _))) rfl rfl ?_
  refine awl_nil (hK1 _ _ ?_)
  clear hK1 K1
  refine aw_seq fun K2 hK2 => ?_
  refine aw_region fun K3 hK3 => ?_
  refine awl_step (step_u rfl (stepU_call0 rfl en_9 (con_awake) .nil rfl rfl)) rfl rfl ?_
  refine awl_step (step_u rfl (stepU_not rfl (ev_tmp rfl))) rfl rfl ?_
  refine awl_nil (hK3 _ _ ?_)
  clear hK3 K3
  refine aw_cond (by first | exact ev_tmp rfl | exact ev_bool _) (fun c1 => ?_) (fun c1 => ?_)
  · have r1 := c1
    try simp only [beq_iff_eq, bne_iff_ne, ne_eq, beq_eq_false_iff_ne, bne_eq_false_iff_eq, decide_eq_true_eq, decide_eq_false_iff_not, Bool.and_eq_true, Bool.or_eq_true, Bool.not_eq_true', Bool.not_eq_false', Bool.and_eq_false_iff, Bool.or_eq_false_iff, Bool.not_true, Bool.not_false, gt_iff_lt, ge_iff_le, Int.not_lt, Int.not_le, Decidable.not_not, beq_self_eq_true, bne_self_eq_false] at c1
    refine aw_region fun K4 hK4 => ?_
    refine awl_step (step_u rfl (stepU_assign rfl (ev_bool _))) rfl rfl ?_
    refine awl_nil (hK4 _ _ ?_)
    clear hK4 K4
    refine aw_ret ?_
    refine (hret _ _ _ _ _ rfl (.tmp rfl .nil) rfl ?_ .nil rfl).1
    first
      | rfl
      | (exfalso; simp at r1; done)
      | (simp [retD, hbad (by assumption)]; done)
      | (exfalso; have := hlen (by assumption); omega)
      | (exfalso; rw [hsame (by assumption)] at c5; simp [eqXs, eqX] at c5; done)
      | (simp [retD, hcut (((putF f).length : Int) - 9 - less) c3 (by omega), sameB, eqXs, eqX, Flt.whole, Fr.nil]; done)
      | (simp [retD, hcut (((putF f).length : Int) - 9 - 1) c3 (by omega), sameB, eqXs, eqX, Flt.whole, Fr.nil]; done)
  · have r1 := c1
    try simp only [beq_iff_eq, bne_iff_ne, ne_eq, beq_eq_false_iff_ne, bne_eq_false_iff_eq, decide_eq_true_eq, decide_eq_false_iff_not, Bool.and_eq_true, Bool.or_eq_true, Bool.not_eq_true', Bool.not_eq_false', Bool.and_eq_false_iff, Bool.or_eq_false_iff, Bool.not_true, Bool.not_false, gt_iff_lt, ge_iff_le, Int.not_lt, Int.not_le, Decidable.not_not, beq_self_eq_true, bne_self_eq_false] at c1
    refine aw_skip ?_
    refine hK2 _ _ ?_
    clear hK2
    refine aw_seq fun K5 hK5 => ?_
    refine aw_region fun K6 hK6 => ?_
    first
      | refine awl_step (step_u rfl (stepU_load rfl (ev_tmp rfl) rfl sz_24 ⟨.inl rfl, by first | exact Nat.le_of_ble_eq_true rfl | simp⟩ (by first | (simp only [rd, splice, fillD, D.cells, List.drop_succ_cons, List.drop_zero, List.take_succ_cons, List.take_zero, List.headD_cons, List.cons_append, List.nil_append, List.append_nil, List.length_cons, List.length_nil, Nat.reduceAdd, Nat.zero_add, Nat.add_zero, Bool.false_eq_true, if_true, if_false, reduceIte, List.map_cons, List.map_nil, List.drop_nil, List.take_nil, List.replicate, Fr.cs, Flt.cs] <;> rfl) | rfl))) rfl rfl ?_
      | refine awl_step (step_u rfl (stepU_loadRef rfl (ev_tmp rfl) sz_24 ⟨.inl rfl, by first | exact Nat.le_of_ble_eq_true rfl | simp⟩ (by first | (simp only [rd, splice, fillD, D.cells, List.drop_succ_cons, List.drop_zero, List.take_succ_cons, List.take_zero, List.headD_cons, List.cons_append, List.nil_append, List.append_nil, List.length_cons, List.length_nil, Nat.reduceAdd, Nat.zero_add, Nat.add_zero, Bool.false_eq_true, if_true, if_false, reduceIte, List.map_cons, List.map_nil, List.drop_nil, List.take_nil, List.replicate, Fr.cs, Flt.cs] <;> rfl) | rfl))) rfl rfl ?_
      | refine awl_step (step_u rfl (stepU_loadV rfl (ev_tmp rfl) rfl (by assumption) sz_24 ⟨.inl rfl, by first | exact Nat.le_of_ble_eq_true rfl | simp⟩ (by first | (simp only [rd, splice, fillD, D.cells, List.drop_succ_cons, List.drop_zero, List.take_succ_cons, List.take_zero, List.headD_cons, List.cons_append, List.nil_append, List.append_nil, List.length_cons, List.length_nil, Nat.reduceAdd, Nat.zero_add, Nat.add_zero, Bool.false_eq_true, if_true, if_false, reduceIte, List.map_cons, List.map_nil, List.drop_nil, List.take_nil, List.replicate, Fr.cs, Flt.cs] <;> rfl) | rfl))) rfl rfl ?_
    first
      | refine awl_step (step_u rfl (stepU_call0 rfl en_10 (con_small) (.cons (ev_tmp rfl) .nil) rfl rfl)) rfl rfl ?_
      | refine awl_step (step_u rfl (stepU_call0 rfl en_10 (con_small) (.cons (by first | exact ev_tmp rfl | exact ev_nil (ev_tmp rfl)) .nil) rfl rfl)) rfl rfl ?_
    refine awl_step (step_u rfl (stepU_not rfl (ev_tmp rfl))) rfl rfl ?_
    refine awl_nil (hK6 _ _ ?_)
    clear hK6 K6
    refine aw_cond (by first | exact ev_tmp rfl | exact ev_bool _) (fun c2 => ?_) (fun c2 => ?_)
    · have r2 := c2
      try simp only [beq_iff_eq, bne_iff_ne, ne_eq, beq_eq_false_iff_ne, bne_eq_false_iff_eq, decide_eq_true_eq, decide_eq_false_iff_not, Bool.and_eq_true, Bool.or_eq_true, Bool.not_eq_true', Bool.not_eq_false', Bool.and_eq_false_iff, Bool.or_eq_false_iff, Bool.not_true, Bool.not_false, gt_iff_lt, ge_iff_le, Int.not_lt, Int.not_le, Decidable.not_not, beq_self_eq_true, bne_self_eq_false] at c2
      refine aw_region fun K7 hK7 => ?_
      refine awl_step (step_u rfl (stepU_assign rfl (ev_bool _))) rfl rfl ?_
      refine awl_nil (hK7 _ _ ?_)
      clear hK7 K7
      refine aw_ret ?_
      refine (hret _ _ _ _ _ rfl (.tmp rfl .nil) rfl ?_ .nil rfl).1
      first
        | rfl
        | (exfalso; simp at r1; done)
        | (simp [retD, hbad (by assumption)]; done)
        | (exfalso; have := hlen (by assumption); omega)
        | (exfalso; rw [hsame (by assumption)] at c5; simp [eqXs, eqX] at c5; done)
        | (simp [retD, hcut (((putF f).length : Int) - 9 - less) c3 (by omega), sameB, eqXs, eqX, Flt.whole, Fr.nil]; done)
        | (simp [retD, hcut (((putF f).length : Int) - 9 - 1) c3 (by omega), sameB, eqXs, eqX, Flt.whole, Fr.nil]; done)
    · have r2 := c2
      try simp only [beq_iff_eq, bne_iff_ne, ne_eq, beq_eq_false_iff_ne, bne_eq_false_iff_eq, decide_eq_true_eq, decide_eq_false_iff_not, Bool.and_eq_true, Bool.or_eq_true, Bool.not_eq_true', Bool.not_eq_false', Bool.and_eq_false_iff, Bool.or_eq_false_iff, Bool.not_true, Bool.not_false, gt_iff_lt, ge_iff_le, Int.not_lt, Int.not_le, Decidable.not_not, beq_self_eq_true, bne_self_eq_false] at c2
      refine aw_skip ?_
      refine hK5 _ _ ?_
      clear hK5
      refine aw_region fun K8 hK8 => ?_
      first
        | refine awl_step (step_u rfl (stepU_load rfl (ev_tmp rfl) rfl sz_24 ⟨.inl rfl, by first | exact Nat.le_of_ble_eq_true rfl | simp⟩ (by first | (simp only [rd, splice, fillD, D.cells, List.drop_succ_cons, List.drop_zero, List.take_succ_cons, List.take_zero, List.headD_cons, List.cons_append, List.nil_append, List.append_nil, List.length_cons, List.length_nil, Nat.reduceAdd, Nat.zero_add, Nat.add_zero, Bool.false_eq_true, if_true, if_false, reduceIte, List.map_cons, List.map_nil, List.drop_nil, List.take_nil, List.replicate, Fr.cs, Flt.cs] <;> rfl) | rfl))) rfl rfl ?_
        | refine awl_step (step_u rfl (stepU_loadRef rfl (ev_tmp rfl) sz_24 ⟨.inl rfl, by first | exact Nat.le_of_ble_eq_true rfl | simp⟩ (by first | (simp only [rd, splice, fillD, D.cells, List.drop_succ_cons, List.drop_zero, List.take_succ_cons, List.take_zero, List.headD_cons, List.cons_append, List.nil_append, List.append_nil, List.length_cons, List.length_nil, Nat.reduceAdd, Nat.zero_add, Nat.add_zero, Bool.false_eq_true, if_true, if_false, reduceIte, List.map_cons, List.map_nil, List.drop_nil, List.take_nil, List.replicate, Fr.cs, Flt.cs] <;> rfl) | rfl))) rfl rfl ?_
        | refine awl_step (step_u rfl (stepU_loadV rfl (ev_tmp rfl) rfl (by assumption) sz_24 ⟨.inl rfl, by first | exact Nat.le_of_ble_eq_true rfl | simp⟩ (by first | (simp only [rd, splice, fillD, D.cells, List.drop_succ_cons, List.drop_zero, List.take_succ_cons, List.take_zero, List.headD_cons, List.cons_append, List.nil_append, List.append_nil, List.length_cons, List.length_nil, Nat.reduceAdd, Nat.zero_add, Nat.add_zero, Bool.false_eq_true, if_true, if_false, reduceIte, List.map_cons, List.map_nil, List.drop_nil, List.take_nil, List.replicate, Fr.cs, Flt.cs] <;> rfl) | rfl))) rfl rfl ?_
      first
        | refine awl_step (step_u rfl (stepU_call0 rfl en_11 (con_putS (f := f) (by simp [smallB] at c2; omega) (by simp [smallB] at c2; omega)) (.cons (ev_tmp rfl) .nil) rfl rfl)) rfl rfl ?_
        | refine awl_step (step_u rfl (stepU_call0 rfl en_11 (con_putS (f := f) (by simp [smallB] at c2; omega) (by simp [smallB] at c2; omega)) (.cons (by first | exact ev_tmp rfl | exact ev_nil (ev_tmp rfl)) .nil) rfl rfl)) rfl rfl ?_
      refine awl_step (step_u rfl (stepU_move rfl (ev_tmp rfl))) rfl rfl ?_
      refine awl_step (step_u rfl (stepU_extract rfl (ev_tmp rfl) rfl)) rfl rfl ?_
      refine awl_step (step_u rfl (stepU_extract rfl (ev_tmp rfl) rfl)) rfl rfl ?_
      refine awl_step (step_u rfl (stepU_assign rfl (ev_tmp rfl))) rfl rfl ?_
      refine awl_step (step_u rfl (stepU_assign rfl (ev_tmp rfl))) rfl rfl ?_
      refine awl_nil (hK8 _ _ ?_)
      clear hK8 K8
      refine aw_seq fun K9 hK9 => ?_
      refine aw_region fun K10 hK10 => ?_
      refine awl_step (step_u rfl (stepU_move rfl (ev_tmp rfl))) rfl rfl ?_
      first
        | refine awl_step (step_u rfl (stepU_neq rfl (ev_tmp rfl) (ev_int _ _))) rfl rfl ?_
        | refine awl_step (step_u rfl (stepU_neqS rfl (ev_tmp rfl) (ev_int _ _))) rfl rfl ?_
        | refine awl_step (step_u rfl (stepU_neqB rfl Try.underlying28 (ev_tmp rfl) (ev_int _ _))) rfl rfl ?_
      refine awl_nil (hK10 _ _ ?_)
      clear hK10 K10
      refine aw_cond (by first | exact ev_tmp rfl | exact ev_bool _) (fun c3 => ?_) (fun c3 => ?_)
      · have r3 := c3
        try simp only [beq_iff_eq, bne_iff_ne, ne_eq, beq_eq_false_iff_ne, bne_eq_false_iff_eq, decide_eq_true_eq, decide_eq_false_iff_not, Bool.and_eq_true, Bool.or_eq_true, Bool.not_eq_true', Bool.not_eq_false', Bool.and_eq_false_iff, Bool.or_eq_false_iff, Bool.not_true, Bool.not_false, gt_iff_lt, ge_iff_le, Int.not_lt, Int.not_le, Decidable.not_not, beq_self_eq_true, bne_self_eq_false] at c3
        refine aw_region fun K11 hK11 => ?_
        refine awl_step (step_u rfl (stepU_move rfl (ev_tmp rfl))) rfl rfl ?_
        first
          | refine awl_step (step_u rfl (stepU_lenB rfl Try.underlying27 (ev_tmp rfl))) rfl rfl ?_
          | refine awl_step (step_u rfl (stepU_len rfl Try.underlying27 (by first | exact ev_tmp rfl | exact ev_nil (ev_tmp rfl)))) rfl rfl ?_
          | refine awl_step (step_u rfl (stepU_lenV rfl Try.underlying27 (ev_tmp rfl) rfl)) rfl rfl ?_
        first
          | refine awl_step (step_u rfl (stepU_eql rfl (ev_tmp rfl) (ev_int _ _))) rfl rfl ?_
          | refine awl_step (step_u rfl (stepU_eqlS rfl (ev_tmp rfl) (ev_int _ _))) rfl rfl ?_
          | refine awl_step (step_u rfl (stepU_eqlB rfl Try.underlying3 (ev_tmp rfl) (ev_int _ _))) rfl rfl ?_
        refine awl_step (step_u rfl (stepU_assign rfl (ev_tmp rfl))) rfl rfl ?_
        refine awl_nil (hK11 _ _ ?_)
        clear hK11 K11
        refine aw_ret ?_
        refine (hret _ _ _ _ _ rfl (.tmp rfl .nil) rfl ?_ .nil rfl).1
        first
          | rfl
          | (exfalso; simp at r1; done)
          | (simp [retD, hbad (by assumption)]; done)
          | (exfalso; have := hlen (by assumption); omega)
          | (exfalso; rw [hsame (by assumption)] at c5; simp [eqXs, eqX] at c5; done)
          | (simp [retD, hcut (((putF f).length : Int) - 9 - less) c3 (by omega), sameB, eqXs, eqX, Flt.whole, Fr.nil]; done)
          | (simp [retD, hcut (((putF f).length : Int) - 9 - 1) c3 (by omega), sameB, eqXs, eqX, Flt.whole, Fr.nil]; done)
      · have r3 := c3
        try simp only [beq_iff_eq, bne_iff_ne, ne_eq, beq_eq_false_iff_ne, bne_eq_false_iff_eq, decide_eq_true_eq, decide_eq_false_iff_not, Bool.and_eq_true, Bool.or_eq_true, Bool.not_eq_true', Bool.not_eq_false', Bool.and_eq_false_iff, Bool.or_eq_false_iff, Bool.not_true, Bool.not_false, gt_iff_lt, ge_iff_le, Int.not_lt, Int.not_le, Decidable.not_not, beq_self_eq_true, bne_self_eq_false] at c3
        refine aw_skip ?_
        refine hK9 _ _ ?_
        clear hK9
        refine aw_seq fun K12 hK12 => ?_
        refine aw_region fun K13 hK13 => ?_
        refine awl_step (step_u rfl (stepU_move rfl (ev_tmp rfl))) rfl rfl ?_
        first
          | refine awl_step (step_u rfl (stepU_lenB rfl Try.underlying27 (ev_tmp rfl))) rfl rfl ?_
          | refine awl_step (step_u rfl (stepU_len rfl Try.underlying27 (by first | exact ev_tmp rfl | exact ev_nil (ev_tmp rfl)))) rfl rfl ?_
          | refine awl_step (step_u rfl (stepU_lenV rfl Try.underlying27 (ev_tmp rfl) rfl)) rfl rfl ?_
        refine awl_step (step_u rfl (stepU_lss rfl (ev_tmp rfl) (ev_int _ _))) rfl rfl ?_
        refine awl_nil (hK13 _ _ ?_)
        clear hK13 K13
        refine aw_cond (by first | exact ev_tmp rfl | exact ev_bool _) (fun c4 => ?_) (fun c4 => ?_)
        · have r4 := c4
          try simp only [beq_iff_eq, bne_iff_ne, ne_eq, beq_eq_false_iff_ne, bne_eq_false_iff_eq, decide_eq_true_eq, decide_eq_false_iff_not, Bool.and_eq_true, Bool.or_eq_true, Bool.not_eq_true', Bool.not_eq_false', Bool.and_eq_false_iff, Bool.or_eq_false_iff, Bool.not_true, Bool.not_false, gt_iff_lt, ge_iff_le, Int.not_lt, Int.not_le, Decidable.not_not, beq_self_eq_true, bne_self_eq_false] at c4
          refine aw_region fun K14 hK14 => ?_
          refine awl_step (step_u rfl (stepU_assign rfl (ev_bool _))) rfl rfl ?_
          refine awl_nil (hK14 _ _ ?_)
          clear hK14 K14
          refine aw_ret ?_
          refine (hret _ _ _ _ _ rfl (.tmp rfl .nil) rfl ?_ .nil rfl).1
          first
            | rfl
            | (exfalso; simp at r1; done)
            | (simp [retD, hbad (by assumption)]; done)
            | (exfalso; have := hlen (by assumption); omega)
            | (exfalso; rw [hsame (by assumption)] at c5; simp [eqXs, eqX] at c5; done)
            | (simp [retD, hcut (((putF f).length : Int) - 9 - less) c3 (by omega), sameB, eqXs, eqX, Flt.whole, Fr.nil]; done)
            | (simp [retD, hcut (((putF f).length : Int) - 9 - 1) c3 (by omega), sameB, eqXs, eqX, Flt.whole, Fr.nil]; done)
        · have r4 := c4
          try simp only [beq_iff_eq, bne_iff_ne, ne_eq, beq_eq_false_iff_ne, bne_eq_false_iff_eq, decide_eq_true_eq, decide_eq_false_iff_not, Bool.and_eq_true, Bool.or_eq_true, Bool.not_eq_true', Bool.not_eq_false', Bool.and_eq_false_iff, Bool.or_eq_false_iff, Bool.not_true, Bool.not_false, gt_iff_lt, ge_iff_le, Int.not_lt, Int.not_le, Decidable.not_not, beq_self_eq_true, bne_self_eq_false] at c4
          refine aw_skip ?_
          refine hK12 _ _ ?_
          clear hK12
          refine aw_region fun K15 hK15 => ?_
          refine awl_step (step_u rfl (stepU_move rfl (ev_tmp rfl))) rfl rfl ?_
          first
            | refine awl_step (step_u rfl (stepU_lenB rfl Try.underlying27 (ev_tmp rfl))) rfl rfl ?_
            | refine awl_step (step_u rfl (stepU_len rfl Try.underlying27 (by first | exact ev_tmp rfl | exact ev_nil (ev_tmp rfl)))) rfl rfl ?_
            | refine awl_step (step_u rfl (stepU_lenV rfl Try.underlying27 (ev_tmp rfl) rfl)) rfl rfl ?_
          refine awl_step (step_u rfl (stepU_sub rfl (ev_tmp rfl) (ev_int _ _) (by first | assumption | exact wrap_byte _ | exact i64_wrap (by omega) (by omega) | exact u8_wrap (by omega) (by omega) | exact u32_wrap (by omega) (by omega) | exact u16_wrap (by omega) (by omega) | rfl))) rfl rfl ?_
          refine awl_step (step_u rfl (stepU_assign rfl (ev_tmp rfl))) rfl rfl ?_
          refine awl_nil (hK15 _ _ ?_)
          clear hK15 K15
          refine aw_region fun K16 hK16 => ?_
          refine awl_step (step_u rfl (stepU_move rfl (ev_tmp rfl))) rfl rfl ?_
          refine awl_step (step_u rfl (stepU_move rfl (ev_tmp rfl))) rfl rfl ?_
          first
            | refine awl_step (step_u rfl (stepU_call0 rfl en_14 (con_frTake (by have := hlen (by assumption); have := hmx (by assumption); omega)) (.cons (ev_tmp rfl) (.cons (ev_tmp rfl) .nil)) rfl rfl)) rfl rfl ?_
            | refine awl_step (step_u rfl (stepU_call0 rfl en_14 (con_frTake (b := (putF f).take 9) (by simp; omega)) (.cons (ev_tmp rfl) (.cons (ev_tmp rfl) .nil)) rfl rfl)) rfl rfl ?_
            | refine awl_step (step_u rfl (stepU_call0 rfl en_14 (con_frTake (by have := hlen (by assumption); have := hmx (by assumption); omega)) (.cons (by first | exact ev_tmp rfl | exact ev_nil (ev_tmp rfl)) (.cons (by first | exact ev_tmp rfl | exact ev_nil (ev_tmp rfl)) .nil)) rfl rfl)) rfl rfl ?_
            | refine awl_step (step_u rfl (stepU_call0 rfl en_14 (con_frTake (b := (putF f).take 9) (by simp; omega)) (.cons (by first | exact ev_tmp rfl | exact ev_nil (ev_tmp rfl)) (.cons (by first | exact ev_tmp rfl | exact ev_nil (ev_tmp rfl)) .nil)) rfl rfl)) rfl rfl ?_
          refine awl_step (step_u rfl (stepU_move rfl (ev_tmp rfl))) rfl rfl ?_
          refine awl_step (step_u rfl (stepU_extract rfl (ev_tmp rfl) rfl)) rfl rfl ?_
          refine awl_step (step_u rfl (stepU_extract rfl (ev_tmp rfl) rfl)) rfl rfl ?_
          refine awl_step (step_u rfl (stepU_extract rfl (ev_tmp rfl) rfl)) rfl rfl ?_
          refine awl_step (step_u rfl (stepU_alloc rfl 1 (Nat.le_of_ble_eq_true rfl) zc_24 zl_24)) rfl rfl ?_
          refine awl_step (step_u rfl (stepU_alloc rfl 2 (Nat.le_of_ble_eq_true rfl) zc_33 zl_33)) rfl rfl ?_
          refine awl_step (step_u rfl (stepU_store rfl (ev_tmp rfl) (by first | exact ev_tmp rfl | exact ev_nil (ev_tmp rfl)) rfl rfl sz_24 ⟨rfl, by first | exact Nat.le_of_ble_eq_true rfl | simp⟩ (by first | (simp only [rd, splice, fillD, D.cells, List.drop_succ_cons, List.drop_zero, List.take_succ_cons, List.take_zero, List.headD_cons, List.cons_append, List.nil_append, List.append_nil, List.length_cons, List.length_nil, Nat.reduceAdd, Nat.zero_add, Nat.add_zero, Bool.false_eq_true, if_true, if_false, reduceIte, List.map_cons, List.map_nil, List.drop_nil, List.take_nil, List.replicate, Fr.cs, Flt.cs] <;> rfl) | rfl))) rfl rfl ?_
          refine awl_step (step_u rfl (stepU_assign rfl (ev_tmp rfl))) rfl rfl ?_
          refine awl_step (step_u rfl (stepU_store rfl (ev_tmp rfl) (by first | exact ev_tmp rfl | exact ev_nil (ev_tmp rfl)) rfl rfl sz_33 ⟨rfl, by first | exact Nat.le_of_ble_eq_true rfl | simp⟩ (by first | (simp only [rd, splice, fillD, D.cells, List.drop_succ_cons, List.drop_zero, List.take_succ_cons, List.take_zero, List.headD_cons, List.cons_append, List.nil_append, List.append_nil, List.length_cons, List.length_nil, Nat.reduceAdd, Nat.zero_add, Nat.add_zero, Bool.false_eq_true, if_true, if_false, reduceIte, List.map_cons, List.map_nil, List.drop_nil, List.take_nil, List.replicate, Fr.cs, Flt.cs] <;> rfl) | rfl))) rfl rfl ?_
          refine awl_nil (hK16 _ _ ?_)
          clear hK16 K16
          refine aw_region fun K17 hK17 => ?_
          refine awl_step (step_u rfl (stepU_move rfl (ev_tmp rfl))) rfl rfl ?_
          first
            | refine awl_step (step_u rfl (stepU_call0 rfl en_14 (con_frTake (by have := hlen (by assumption); have := hmx (by assumption); omega)) (.cons (ev_tmp rfl) (.cons (ev_int _ _) .nil)) rfl rfl)) rfl rfl ?_
            | refine awl_step (step_u rfl (stepU_call0 rfl en_14 (con_frTake (b := (putF f).take 9) (by simp; omega)) (.cons (ev_tmp rfl) (.cons (ev_int _ _) .nil)) rfl rfl)) rfl rfl ?_
            | refine awl_step (step_u rfl (stepU_call0 rfl en_14 (con_frTake (by have := hlen (by assumption); have := hmx (by assumption); omega)) (.cons (by first | exact ev_tmp rfl | exact ev_nil (ev_tmp rfl)) (.cons (ev_int _ _) .nil)) rfl rfl)) rfl rfl ?_
            | refine awl_step (step_u rfl (stepU_call0 rfl en_14 (con_frTake (b := (putF f).take 9) (by simp; omega)) (.cons (by first | exact ev_tmp rfl | exact ev_nil (ev_tmp rfl)) (.cons (ev_int _ _) .nil)) rfl rfl)) rfl rfl ?_
          refine awl_step (step_u rfl (stepU_move rfl (ev_tmp rfl))) rfl rfl ?_
          refine awl_step (step_u rfl (stepU_extract rfl (ev_tmp rfl) rfl)) rfl rfl ?_
          refine awl_step (step_u rfl (stepU_extract rfl (ev_tmp rfl) rfl)) rfl rfl ?_
          refine awl_step (step_u rfl (stepU_extract rfl (ev_tmp rfl) rfl)) rfl rfl ?_
          refine awl_step (step_u rfl (stepU_alloc rfl 3 (Nat.le_of_ble_eq_true rfl) zc_24 zl_24)) rfl rfl ?_
          refine awl_step (step_u rfl (stepU_alloc rfl 4 (Nat.le_of_ble_eq_true rfl) zc_33 zl_33)) rfl rfl ?_
          refine awl_step (step_u rfl (stepU_store rfl (ev_tmp rfl) (by first | exact ev_tmp rfl | exact ev_nil (ev_tmp rfl)) rfl rfl sz_24 ⟨rfl, by first | exact Nat.le_of_ble_eq_true rfl | simp⟩ (by first | (simp only [rd, splice, fillD, D.cells, List.drop_succ_cons, List.drop_zero, List.take_succ_cons, List.take_zero, List.headD_cons, List.cons_append, List.nil_append, List.append_nil, List.length_cons, List.length_nil, Nat.reduceAdd, Nat.zero_add, Nat.add_zero, Bool.false_eq_true, if_true, if_false, reduceIte, List.map_cons, List.map_nil, List.drop_nil, List.take_nil, List.replicate, Fr.cs, Flt.cs] <;> rfl) | rfl))) rfl rfl ?_
          refine awl_step (step_u rfl (stepU_assign rfl (ev_tmp rfl))) rfl rfl ?_
          refine awl_step (step_u rfl (stepU_store rfl (ev_tmp rfl) (by first | exact ev_tmp rfl | exact ev_nil (ev_tmp rfl)) rfl rfl sz_33 ⟨rfl, by first | exact Nat.le_of_ble_eq_true rfl | simp⟩ (by first | (simp only [rd, splice, fillD, D.cells, List.drop_succ_cons, List.drop_zero, List.take_succ_cons, List.take_zero, List.headD_cons, List.cons_append, List.nil_append, List.append_nil, List.length_cons, List.length_nil, Nat.reduceAdd, Nat.zero_add, Nat.add_zero, Bool.false_eq_true, if_true, if_false, reduceIte, List.map_cons, List.map_nil, List.drop_nil, List.take_nil, List.replicate, Fr.cs, Flt.cs] <;> rfl) | rfl))) rfl rfl ?_
          refine awl_nil (hK17 _ _ ?_)
          clear hK17 K17
          refine aw_seq fun K18 hK18 => ?_
          refine aw_region fun K19 hK19 => ?_
          first
            | refine awl_step (step_u rfl (stepU_load rfl (ev_tmp rfl) rfl sz_33 ⟨.inl rfl, by first | exact Nat.le_of_ble_eq_true rfl | simp⟩ (by first | (simp only [rd, splice, fillD, D.cells, List.drop_succ_cons, List.drop_zero, List.take_succ_cons, List.take_zero, List.headD_cons, List.cons_append, List.nil_append, List.append_nil, List.length_cons, List.length_nil, Nat.reduceAdd, Nat.zero_add, Nat.add_zero, Bool.false_eq_true, if_true, if_false, reduceIte, List.map_cons, List.map_nil, List.drop_nil, List.take_nil, List.replicate, Fr.cs, Flt.cs] <;> rfl) | rfl))) rfl rfl ?_
            | refine awl_step (step_u rfl (stepU_loadRef rfl (ev_tmp rfl) sz_33 ⟨.inl rfl, by first | exact Nat.le_of_ble_eq_true rfl | simp⟩ (by first | (simp only [rd, splice, fillD, D.cells, List.drop_succ_cons, List.drop_zero, List.take_succ_cons, List.take_zero, List.headD_cons, List.cons_append, List.nil_append, List.append_nil, List.length_cons, List.length_nil, Nat.reduceAdd, Nat.zero_add, Nat.add_zero, Bool.false_eq_true, if_true, if_false, reduceIte, List.map_cons, List.map_nil, List.drop_nil, List.take_nil, List.replicate, Fr.cs, Flt.cs] <;> rfl) | rfl))) rfl rfl ?_
            | refine awl_step (step_u rfl (stepU_loadV rfl (ev_tmp rfl) rfl (by assumption) sz_33 ⟨.inl rfl, by first | exact Nat.le_of_ble_eq_true rfl | simp⟩ (by first | (simp only [rd, splice, fillD, D.cells, List.drop_succ_cons, List.drop_zero, List.take_succ_cons, List.take_zero, List.headD_cons, List.cons_append, List.nil_append, List.append_nil, List.length_cons, List.length_nil, Nat.reduceAdd, Nat.zero_add, Nat.add_zero, Bool.false_eq_true, if_true, if_false, reduceIte, List.map_cons, List.map_nil, List.drop_nil, List.take_nil, List.replicate, Fr.cs, Flt.cs] <;> rfl) | rfl))) rfl rfl ?_
          first
            | refine awl_step (step_u rfl (stepU_load rfl (ev_tmp rfl) rfl sz_33 ⟨.inl rfl, by first | exact Nat.le_of_ble_eq_true rfl | simp⟩ (by first | (simp only [rd, splice, fillD, D.cells, List.drop_succ_cons, List.drop_zero, List.take_succ_cons, List.take_zero, List.headD_cons, List.cons_append, List.nil_append, List.append_nil, List.length_cons, List.length_nil, Nat.reduceAdd, Nat.zero_add, Nat.add_zero, Bool.false_eq_true, if_true, if_false, reduceIte, List.map_cons, List.map_nil, List.drop_nil, List.take_nil, List.replicate, Fr.cs, Flt.cs] <;> rfl) | rfl))) rfl rfl ?_
            | refine awl_step (step_u rfl (stepU_loadRef rfl (ev_tmp rfl) sz_33 ⟨.inl rfl, by first | exact Nat.le_of_ble_eq_true rfl | simp⟩ (by first | (simp only [rd, splice, fillD, D.cells, List.drop_succ_cons, List.drop_zero, List.take_succ_cons, List.take_zero, List.headD_cons, List.cons_append, List.nil_append, List.append_nil, List.length_cons, List.length_nil, Nat.reduceAdd, Nat.zero_add, Nat.add_zero, Bool.false_eq_true, if_true, if_false, reduceIte, List.map_cons, List.map_nil, List.drop_nil, List.take_nil, List.replicate, Fr.cs, Flt.cs] <;> rfl) | rfl))) rfl rfl ?_
            | refine awl_step (step_u rfl (stepU_loadV rfl (ev_tmp rfl) rfl (by assumption) sz_33 ⟨.inl rfl, by first | exact Nat.le_of_ble_eq_true rfl | simp⟩ (by first | (simp only [rd, splice, fillD, D.cells, List.drop_succ_cons, List.drop_zero, List.take_succ_cons, List.take_zero, List.headD_cons, List.cons_append, List.nil_append, List.append_nil, List.length_cons, List.length_nil, Nat.reduceAdd, Nat.zero_add, Nat.add_zero, Bool.false_eq_true, if_true, if_false, reduceIte, List.map_cons, List.map_nil, List.drop_nil, List.take_nil, List.replicate, Fr.cs, Flt.cs] <;> rfl) | rfl))) rfl rfl ?_
          refine awl_step (step_u rfl (stepU_neqA rfl sk_33 (ev_tmp rfl) (ev_tmp rfl) rfl rfl rfl rfl)) rfl rfl ?_
          refine awl_nil (hK19 _ _ ?_)
          clear hK19 K19
          refine aw_cond (by first | exact ev_tmp rfl | exact ev_bool _) (fun c5 => ?_) (fun c5 => ?_)
          · have r5 := c5
            try simp only [beq_iff_eq, bne_iff_ne, ne_eq, beq_eq_false_iff_ne, bne_eq_false_iff_eq, decide_eq_true_eq, decide_eq_false_iff_not, Bool.and_eq_true, Bool.or_eq_true, Bool.not_eq_true', Bool.not_eq_false', Bool.and_eq_false_iff, Bool.or_eq_false_iff, Bool.not_true, Bool.not_false, gt_iff_lt, ge_iff_le, Int.not_lt, Int.not_le, Decidable.not_not, beq_self_eq_true, bne_self_eq_false] at c5
            refine aw_region fun K20 hK20 => ?_
            refine awl_step (step_u rfl (stepU_assign rfl (ev_bool _))) rfl rfl ?_
            refine awl_nil (hK20 _ _ ?_)
            clear hK20 K20
            refine aw_ret ?_
            refine (hret _ _ _ _ _ rfl (.tmp rfl .nil) rfl ?_ .nil rfl).1
            first
              | rfl
              | (exfalso; simp at r1; done)
              | (simp [retD, hbad (by assumption)]; done)
              | (exfalso; have := hlen (by assumption); omega)
              | (exfalso; rw [hsame (by assumption)] at c5; simp [eqXs, eqX] at c5; done)
              | (simp [retD, hcut (((putF f).length : Int) - 9 - less) c3 (by omega), sameB, eqXs, eqX, Flt.whole, Fr.nil]; done)
              | (simp [retD, hcut (((putF f).length : Int) - 9 - 1) c3 (by omega), sameB, eqXs, eqX, Flt.whole, Fr.nil]; done)
          · have r5 := c5
            try simp only [beq_iff_eq, bne_iff_ne, ne_eq, beq_eq_false_iff_ne, bne_eq_false_iff_eq, decide_eq_true_eq, decide_eq_false_iff_not, Bool.and_eq_true, Bool.or_eq_true, Bool.not_eq_true', Bool.not_eq_false', Bool.and_eq_false_iff, Bool.or_eq_false_iff, Bool.not_true, Bool.not_false, gt_iff_lt, ge_iff_le, Int.not_lt, Int.not_le, Decidable.not_not, beq_self_eq_true, bne_self_eq_false] at c5
            refine aw_skip ?_
            refine hK18 _ _ ?_
            clear hK18
            refine aw_seq fun K21 hK21 => ?_
            refine aw_region fun K22 hK22 => ?_
            refine awl_step (step_u rfl (stepU_move rfl (ev_tmp rfl))) rfl rfl ?_
            first
              | refine awl_step (step_u rfl (stepU_eql rfl (ev_tmp rfl) (ev_int _ _))) rfl rfl ?_
              | refine awl_step (step_u rfl (stepU_eqlS rfl (ev_tmp rfl) (ev_int _ _))) rfl rfl ?_
              | refine awl_step (step_u rfl (stepU_eqlB rfl Try.underlying3 (ev_tmp rfl) (ev_int _ _))) rfl rfl ?_
            refine awl_nil (hK22 _ _ ?_)
            clear hK22 K22
            refine aw_cond (by first | exact ev_tmp rfl | exact ev_bool _) (fun c6 => ?_) (fun c6 => ?_)
            · have r6 := c6
              try simp only [beq_iff_eq, bne_iff_ne, ne_eq, beq_eq_false_iff_ne, bne_eq_false_iff_eq, decide_eq_true_eq, decide_eq_false_iff_not, Bool.and_eq_true, Bool.or_eq_true, Bool.not_eq_true', Bool.not_eq_false', Bool.and_eq_false_iff, Bool.or_eq_false_iff, Bool.not_true, Bool.not_false, gt_iff_lt, ge_iff_le, Int.not_lt, Int.not_le, Decidable.not_not, beq_self_eq_true, bne_self_eq_false] at c6
              refine aw_region fun K23 hK23 => ?_
              refine awl_step (step_u rfl (stepU_assign rfl (ev_bool _))) rfl rfl ?_
              refine awl_nil (hK23 _ _ ?_)
              clear hK23 K23
              refine aw_ret ?_
              refine (hret _ _ _ _ _ rfl (.tmp rfl .nil) rfl ?_ .nil rfl).1
              first
                | rfl
                | (exfalso; simp at r1; done)
                | (simp [retD, hbad (by assumption)]; done)
                | (exfalso; have := hlen (by assumption); omega)
                | (exfalso; rw [hsame (by assumption)] at c5; simp [eqXs, eqX] at c5; done)
                | (simp [retD, hcut (((putF f).length : Int) - 9 - less) c3 (by omega), sameB, eqXs, eqX, Flt.whole, Fr.nil]; done)
                | (simp [retD, hcut (((putF f).length : Int) - 9 - 1) c3 (by omega), sameB, eqXs, eqX, Flt.whole, Fr.nil]; done)
            · have r6 := c6
              try simp only [beq_iff_eq, bne_iff_ne, ne_eq, beq_eq_false_iff_ne, bne_eq_false_iff_eq, decide_eq_true_eq, decide_eq_false_iff_not, Bool.and_eq_true, Bool.or_eq_true, Bool.not_eq_true', Bool.not_eq_false', Bool.and_eq_false_iff, Bool.or_eq_false_iff, Bool.not_true, Bool.not_false, gt_iff_lt, ge_iff_le, Int.not_lt, Int.not_le, Decidable.not_not, beq_self_eq_true, bne_self_eq_false] at c6
              refine aw_skip ?_
              refine hK21 _ _ ?_
              clear hK21
              refine aw_region fun K24 hK24 => ?_
              refine awl_step (step_u rfl (stepU_move rfl (ev_tmp rfl))) rfl rfl ?_
              refine awl_step (step_u rfl (stepU_sub rfl (ev_tmp rfl) (ev_int _ _) (by first | assumption | exact wrap_byte _ | exact i64_wrap (by omega) (by omega) | exact u8_wrap (by omega) (by omega) | exact u32_wrap (by omega) (by omega) | exact u16_wrap (by omega) (by omega) | rfl))) rfl rfl ?_
              refine awl_step (step_u rfl (stepU_assign rfl (ev_tmp rfl))) rfl rfl ?_
              refine awl_nil (hK24 _ _ ?_)
              clear hK24 K24
              refine aw_seq fun K25 hK25 => ?_
              refine aw_region fun K26 hK26 => ?_
              refine awl_step (step_u rfl (stepU_move rfl (ev_tmp rfl))) rfl rfl ?_
              refine awl_step (step_u rfl (stepU_gtr rfl (ev_tmp rfl) (ev_int _ _))) rfl rfl ?_
              refine awl_step (step_u rfl (stepU_move rfl (ev_tmp rfl))) rfl rfl ?_
              first
                | refine awl_step (step_if rfl rfl (ev_tmp rfl) (fun hg => stepU_move rfl ((by first | exact ev_cond (ev_tmp rfl) (by assumption) | exact ev_cond (ev_tmp rfl) (by simp_all) | exact ev_tmp rfl)))) rfl rfl ?_
                | refine awl_step (step_if2 rfl rfl (ev_tmp rfl) (fun hg => stepU_move rfl ((by first | exact ev_cond (ev_tmp rfl) (by assumption) | exact ev_cond (ev_tmp rfl) (by simp_all) | exact ev_tmp rfl)))) rfl rfl ?_
              first
                | refine awl_step (step_if rfl rfl (ev_tmp rfl) (fun hg => stepU_move rfl ((by first | exact ev_cond (ev_tmp rfl) (by assumption) | exact ev_cond (ev_tmp rfl) (by simp_all) | exact ev_tmp rfl)))) rfl rfl ?_
                | refine awl_step (step_if2 rfl rfl (ev_tmp rfl) (fun hg => stepU_move rfl ((by first | exact ev_cond (ev_tmp rfl) (by assumption) | exact ev_cond (ev_tmp rfl) (by simp_all) | exact ev_tmp rfl)))) rfl rfl ?_
              first
                | refine awl_step (step_if rfl rfl (ev_tmp rfl) (fun hg => stepU_lss rfl ((by first | exact ev_cond (ev_tmp rfl) (by assumption) | exact ev_cond (ev_tmp rfl) (by simp_all) | exact ev_tmp rfl)) ((by first | exact ev_cond (ev_tmp rfl) (by assumption) | exact ev_cond (ev_tmp rfl) (by simp_all) | exact ev_tmp rfl)))) rfl rfl ?_
                | refine awl_step (step_if2 rfl rfl (ev_tmp rfl) (fun hg => stepU_lss rfl ((by first | exact ev_cond (ev_tmp rfl) (by assumption) | exact ev_cond (ev_tmp rfl) (by simp_all) | exact ev_tmp rfl)) ((by first | exact ev_cond (ev_tmp rfl) (by assumption) | exact ev_cond (ev_tmp rfl) (by simp_all) | exact ev_tmp rfl)))) rfl rfl ?_
              refine awl_step (step_u rfl (stepU_and rfl (by first | exact ev_cond (ev_tmp rfl) (by assumption) | exact ev_cond (ev_tmp rfl) (by simp_all) | exact ev_tmp rfl) (fun hh => (by first | exact ev_tmp rfl | exact ev_bool _ | exact ev_condT (ev_tmp rfl) hh | exact ev_cond (ev_tmp rfl) (by simp_all))) (ev_bool _))) rfl rfl ?_
              refine awl_nil (hK26 _ _ ?_)
              clear hK26 K26
              refine aw_cond (by first | exact ev_tmp rfl | exact ev_bool _) (fun c7 => ?_) (fun c7 => ?_)
              · have r7 := c7
                try simp only [beq_iff_eq, bne_iff_ne, ne_eq, beq_eq_false_iff_ne, bne_eq_false_iff_eq, decide_eq_true_eq, decide_eq_false_iff_not, Bool.and_eq_true, Bool.or_eq_true, Bool.not_eq_true', Bool.not_eq_false', Bool.and_eq_false_iff, Bool.or_eq_false_iff, Bool.not_true, Bool.not_false, gt_iff_lt, ge_iff_le, Int.not_lt, Int.not_le, Decidable.not_not, beq_self_eq_true, bne_self_eq_false] at c7
                refine aw_region_last ?_
                refine awl_step (step_u rfl (stepU_move rfl (ev_tmp rfl))) rfl rfl ?_
                refine awl_step (step_u rfl (stepU_move rfl (ev_tmp rfl))) rfl rfl ?_
                refine awl_step (step_u rfl (stepU_sub rfl (ev_tmp rfl) (ev_tmp rfl) (by first | assumption | exact wrap_byte _ | exact i64_wrap (by omega) (by omega) | exact u8_wrap (by omega) (by omega) | exact u32_wrap (by omega) (by omega) | exact u16_wrap (by omega) (by omega) | rfl))) rfl rfl ?_
                refine awl_step (step_u rfl (stepU_assign rfl (ev_tmp rfl))) rfl rfl ?_
                refine awl_nil ?_
                refine hK25 _ _ ?_
                clear hK25
                refine aw_region fun K27 hK27 => ?_
                refine awl_step (step_u rfl (stepU_move rfl (ev_tmp rfl))) rfl rfl ?_
                refine awl_step (step_u rfl (stepU_slice (c' := bs ((putF f).take 9)) rfl Try.underlying27 sz_5 (bs_one _) (ev_tmp rfl) .no (.yes (ev_int _ _) rfl) (by simp) (by simp; omega) (by simp))) rfl rfl ?_
                refine awl_step (step_u rfl (stepU_move rfl (ev_tmp rfl))) rfl rfl ?_
                first
                  | refine awl_step (step_u rfl (stepU_call0 rfl en_14 (con_frTake (by have := hlen (by assumption); have := hmx (by assumption); omega)) (.cons (ev_tmp rfl) (.cons (ev_tmp rfl) .nil)) rfl rfl)) rfl rfl ?_
                  | refine awl_step (step_u rfl (stepU_call0 rfl en_14 (con_frTake (b := (putF f).take 9) (by simp; omega)) (.cons (ev_tmp rfl) (.cons (ev_tmp rfl) .nil)) rfl rfl)) rfl rfl ?_
                  | refine awl_step (step_u rfl (stepU_call0 rfl en_14 (con_frTake (by have := hlen (by assumption); have := hmx (by assumption); omega)) (.cons (by first | exact ev_tmp rfl | exact ev_nil (ev_tmp rfl)) (.cons (by first | exact ev_tmp rfl | exact ev_nil (ev_tmp rfl)) .nil)) rfl rfl)) rfl rfl ?_
                  | refine awl_step (step_u rfl (stepU_call0 rfl en_14 (con_frTake (b := (putF f).take 9) (by simp; omega)) (.cons (by first | exact ev_tmp rfl | exact ev_nil (ev_tmp rfl)) (.cons (by first | exact ev_tmp rfl | exact ev_nil (ev_tmp rfl)) .nil)) rfl rfl)) rfl rfl ?_
                refine awl_step (step_u rfl (stepU_move rfl (ev_tmp rfl))) rfl rfl ?_
                refine awl_step (step_u rfl (stepU_extract rfl (ev_tmp rfl) rfl)) rfl rfl ?_
                refine awl_step (step_u rfl (stepU_extract rfl (ev_tmp rfl) rfl)) rfl rfl ?_
                refine awl_step (step_u rfl (stepU_extract rfl (ev_tmp rfl) rfl)) rfl rfl ?_
                refine awl_step (step_u rfl (stepU_alloc rfl 5 (Nat.le_of_ble_eq_true rfl) zc_24 zl_24)) rfl rfl ?_
                refine awl_step (step_u rfl (stepU_alloc rfl 6 (Nat.le_of_ble_eq_true rfl) zc_33 zl_33)) rfl rfl ?_
                refine awl_step (step_u rfl (stepU_store rfl (ev_tmp rfl) (by first | exact ev_tmp rfl | exact ev_nil (ev_tmp rfl)) rfl rfl sz_24 ⟨rfl, by first | exact Nat.le_of_ble_eq_true rfl | simp⟩ (by first | (simp only [rd, splice, fillD, D.cells, List.drop_succ_cons, List.drop_zero, List.take_succ_cons, List.take_zero, List.headD_cons, List.cons_append, List.nil_append, List.append_nil, List.length_cons, List.length_nil, Nat.reduceAdd, Nat.zero_add, Nat.add_zero, Bool.false_eq_true, if_true, if_false, reduceIte, List.map_cons, List.map_nil, List.drop_nil, List.take_nil, List.replicate, Fr.cs, Flt.cs] <;> rfl) | rfl))) rfl rfl ?_
                refine awl_step (step_u rfl (stepU_assign rfl (ev_tmp rfl))) rfl rfl ?_
                refine awl_step (step_u rfl (stepU_store rfl (ev_tmp rfl) (by first | exact ev_tmp rfl | exact ev_nil (ev_tmp rfl)) rfl rfl sz_33 ⟨rfl, by first | exact Nat.le_of_ble_eq_true rfl | simp⟩ (by first | (simp only [rd, splice, fillD, D.cells, List.drop_succ_cons, List.drop_zero, List.take_succ_cons, List.take_zero, List.headD_cons, List.cons_append, List.nil_append, List.append_nil, List.length_cons, List.length_nil, Nat.reduceAdd, Nat.zero_add, Nat.add_zero, Bool.false_eq_true, if_true, if_false, reduceIte, List.map_cons, List.map_nil, List.drop_nil, List.take_nil, List.replicate, Fr.cs, Flt.cs] <;> rfl) | rfl))) rfl rfl ?_
                refine awl_nil (hK27 _ _ ?_)
                clear hK27 K27
                refine aw_region fun K28 hK28 => ?_
                first
                  | refine awl_step (step_u rfl (stepU_load rfl (ev_tmp rfl) rfl sz_24 ⟨.inl rfl, by first | exact Nat.le_of_ble_eq_true rfl | simp⟩ (by first | (simp only [rd, splice, fillD, D.cells, List.drop_succ_cons, List.drop_zero, List.take_succ_cons, List.take_zero, List.headD_cons, List.cons_append, List.nil_append, List.append_nil, List.length_cons, List.length_nil, Nat.reduceAdd, Nat.zero_add, Nat.add_zero, Bool.false_eq_true, if_true, if_false, reduceIte, List.map_cons, List.map_nil, List.drop_nil, List.take_nil, List.replicate, Fr.cs, Flt.cs] <;> rfl) | rfl))) rfl rfl ?_
                  | refine awl_step (step_u rfl (stepU_loadRef rfl (ev_tmp rfl) sz_24 ⟨.inl rfl, by first | exact Nat.le_of_ble_eq_true rfl | simp⟩ (by first | (simp only [rd, splice, fillD, D.cells, List.drop_succ_cons, List.drop_zero, List.take_succ_cons, List.take_zero, List.headD_cons, List.cons_append, List.nil_append, List.append_nil, List.length_cons, List.length_nil, Nat.reduceAdd, Nat.zero_add, Nat.add_zero, Bool.false_eq_true, if_true, if_false, reduceIte, List.map_cons, List.map_nil, List.drop_nil, List.take_nil, List.replicate, Fr.cs, Flt.cs] <;> rfl) | rfl))) rfl rfl ?_
                  | refine awl_step (step_u rfl (stepU_loadV rfl (ev_tmp rfl) rfl (by assumption) sz_24 ⟨.inl rfl, by first | exact Nat.le_of_ble_eq_true rfl | simp⟩ (by first | (simp only [rd, splice, fillD, D.cells, List.drop_succ_cons, List.drop_zero, List.take_succ_cons, List.take_zero, List.headD_cons, List.cons_append, List.nil_append, List.append_nil, List.length_cons, List.length_nil, Nat.reduceAdd, Nat.zero_add, Nat.add_zero, Bool.false_eq_true, if_true, if_false, reduceIte, List.map_cons, List.map_nil, List.drop_nil, List.take_nil, List.replicate, Fr.cs, Flt.cs] <;> rfl) | rfl))) rfl rfl ?_
                refine awl_step (step_u rfl (stepU_build rfl pl_24 zc_24 zl_24 rfl .nil (by first | (simp only [rd, splice, fillD, D.cells, List.drop_succ_cons, List.drop_zero, List.take_succ_cons, List.take_zero, List.headD_cons, List.cons_append, List.nil_append, List.append_nil, List.length_cons, List.length_nil, Nat.reduceAdd, Nat.zero_add, Nat.add_zero, Bool.false_eq_true, if_true, if_false, reduceIte, List.map_cons, List.map_nil, List.drop_nil, List.take_nil, List.replicate, Fr.cs, Flt.cs] <;> rfl) | rfl))) rfl rfl ?_
                first
                  | refine awl_step (step_u rfl (stepU_call0 rfl en_16 (con_SameN (g := Fr.nil) (by rw [hcut _ (by assumption) (by omega)]; simp [Fr.nil]) rfl) (.cons (ev_tmp rfl) (.cons (ev_tmp rfl) .nil)) rfl rfl)) rfl rfl ?_
                  | refine awl_step (step_u rfl (stepU_call0 rfl en_16 (con_SameN (g := Fr.nil) (by rw [hcut _ (by assumption) (by omega)]; simp [Fr.nil]) rfl) (.cons (by first | exact ev_tmp rfl | exact ev_nil (ev_tmp rfl)) (.cons (by first | exact ev_tmp rfl | exact ev_nil (ev_tmp rfl)) .nil)) rfl rfl)) rfl rfl ?_
                refine awl_step (step_u rfl (stepU_move rfl (ev_tmp rfl))) rfl rfl ?_
                first
                  | refine awl_step (step_if rfl rfl (ev_tmp rfl) (fun hg => stepU_move rfl ((by first | exact ev_cond (ev_tmp rfl) (by assumption) | exact ev_cond (ev_tmp rfl) (by simp_all) | exact ev_tmp rfl)))) rfl rfl ?_
                  | refine awl_step (step_if2 rfl rfl (ev_tmp rfl) (fun hg => stepU_move rfl ((by first | exact ev_cond (ev_tmp rfl) (by assumption) | exact ev_cond (ev_tmp rfl) (by simp_all) | exact ev_tmp rfl)))) rfl rfl ?_
                first
                  | refine awl_step (step_if rfl rfl (ev_tmp rfl) (fun hg => stepU_eql rfl ((by first | exact ev_cond (ev_tmp rfl) (by assumption) | exact ev_cond (ev_tmp rfl) (by simp_all) | exact ev_tmp rfl)) (ev_int _ _))) rfl rfl ?_
                  | refine awl_step (step_if rfl rfl (ev_tmp rfl) (fun hg => stepU_eqlS rfl ((by first | exact ev_cond (ev_tmp rfl) (by assumption) | exact ev_cond (ev_tmp rfl) (by simp_all) | exact ev_tmp rfl)) (ev_int _ _))) rfl rfl ?_
                  | refine awl_step (step_if rfl rfl (ev_tmp rfl) (fun hg => stepU_eqlB rfl Try.underlying3 ((by first | exact ev_cond (ev_tmp rfl) (by assumption) | exact ev_cond (ev_tmp rfl) (by simp_all) | exact ev_tmp rfl)) (ev_int _ _))) rfl rfl ?_
                  | refine awl_step (step_if2 rfl rfl (ev_tmp rfl) (fun hg => stepU_eql rfl ((by first | exact ev_cond (ev_tmp rfl) (by assumption) | exact ev_cond (ev_tmp rfl) (by simp_all) | exact ev_tmp rfl)) (ev_int _ _))) rfl rfl ?_
                  | refine awl_step (step_if2 rfl rfl (ev_tmp rfl) (fun hg => stepU_eqlS rfl ((by first | exact ev_cond (ev_tmp rfl) (by assumption) | exact ev_cond (ev_tmp rfl) (by simp_all) | exact ev_tmp rfl)) (ev_int _ _))) rfl rfl ?_
                  | refine awl_step (step_if2 rfl rfl (ev_tmp rfl) (fun hg => stepU_eqlB rfl Try.underlying3 ((by first | exact ev_cond (ev_tmp rfl) (by assumption) | exact ev_cond (ev_tmp rfl) (by simp_all) | exact ev_tmp rfl)) (ev_int _ _))) rfl rfl ?_
                refine awl_step (step_u rfl (stepU_and rfl (by first | exact ev_cond (ev_tmp rfl) (by assumption) | exact ev_cond (ev_tmp rfl) (by simp_all) | exact ev_tmp rfl) (fun hh => (by first | exact ev_tmp rfl | exact ev_bool _ | exact ev_condT (ev_tmp rfl) hh | exact ev_cond (ev_tmp rfl) (by simp_all))) (ev_bool _))) rfl rfl ?_
                refine awl_step (step_u rfl (stepU_move rfl (ev_tmp rfl))) rfl rfl ?_
                first
                  | refine awl_step (step_if rfl rfl (ev_tmp rfl) (fun hg => stepU_load rfl ((by first | exact ev_cond (ev_tmp rfl) (by assumption) | exact ev_cond (ev_tmp rfl) (by simp_all) | exact ev_tmp rfl)) rfl sz_33 ⟨.inl rfl, by first | exact Nat.le_of_ble_eq_true rfl | simp⟩ (by first | (simp only [rd, splice, fillD, D.cells, List.drop_succ_cons, List.drop_zero, List.take_succ_cons, List.take_zero, List.headD_cons, List.cons_append, List.nil_append, List.append_nil, List.length_cons, List.length_nil, Nat.reduceAdd, Nat.zero_add, Nat.add_zero, Bool.false_eq_true, if_true, if_false, reduceIte, List.map_cons, List.map_nil, List.drop_nil, List.take_nil, List.replicate, Fr.cs, Flt.cs] <;> rfl) | rfl))) rfl rfl ?_
                  | refine awl_step (step_if rfl rfl (ev_tmp rfl) (fun hg => stepU_loadRef rfl ((by first | exact ev_cond (ev_tmp rfl) (by assumption) | exact ev_cond (ev_tmp rfl) (by simp_all) | exact ev_tmp rfl)) sz_33 ⟨.inl rfl, by first | exact Nat.le_of_ble_eq_true rfl | simp⟩ (by first | (simp only [rd, splice, fillD, D.cells, List.drop_succ_cons, List.drop_zero, List.take_succ_cons, List.take_zero, List.headD_cons, List.cons_append, List.nil_append, List.append_nil, List.length_cons, List.length_nil, Nat.reduceAdd, Nat.zero_add, Nat.add_zero, Bool.false_eq_true, if_true, if_false, reduceIte, List.map_cons, List.map_nil, List.drop_nil, List.take_nil, List.replicate, Fr.cs, Flt.cs] <;> rfl) | rfl))) rfl rfl ?_
                  | refine awl_step (step_if rfl rfl (ev_tmp rfl) (fun hg => stepU_loadV rfl ((by first | exact ev_cond (ev_tmp rfl) (by assumption) | exact ev_cond (ev_tmp rfl) (by simp_all) | exact ev_tmp rfl)) rfl (by assumption) sz_33 ⟨.inl rfl, by first | exact Nat.le_of_ble_eq_true rfl | simp⟩ (by first | (simp only [rd, splice, fillD, D.cells, List.drop_succ_cons, List.drop_zero, List.take_succ_cons, List.take_zero, List.headD_cons, List.cons_append, List.nil_append, List.append_nil, List.length_cons, List.length_nil, Nat.reduceAdd, Nat.zero_add, Nat.add_zero, Bool.false_eq_true, if_true, if_false, reduceIte, List.map_cons, List.map_nil, List.drop_nil, List.take_nil, List.replicate, Fr.cs, Flt.cs] <;> rfl) | rfl))) rfl rfl ?_
                  | refine awl_step (step_if2 rfl rfl (ev_tmp rfl) (fun hg => stepU_load rfl ((by first | exact ev_cond (ev_tmp rfl) (by assumption) | exact ev_cond (ev_tmp rfl) (by simp_all) | exact ev_tmp rfl)) rfl sz_33 ⟨.inl rfl, by first | exact Nat.le_of_ble_eq_true rfl | simp⟩ (by first | (simp only [rd, splice, fillD, D.cells, List.drop_succ_cons, List.drop_zero, List.take_succ_cons, List.take_zero, List.headD_cons, List.cons_append, List.nil_append, List.append_nil, List.length_cons, List.length_nil, Nat.reduceAdd, Nat.zero_add, Nat.add_zero, Bool.false_eq_true, if_true, if_false, reduceIte, List.map_cons, List.map_nil, List.drop_nil, List.take_nil, List.replicate, Fr.cs, Flt.cs] <;> rfl) | rfl))) rfl rfl ?_
                  | refine awl_step (step_if2 rfl rfl (ev_tmp rfl) (fun hg => stepU_loadRef rfl ((by first | exact ev_cond (ev_tmp rfl) (by assumption) | exact ev_cond (ev_tmp rfl) (by simp_all) | exact ev_tmp rfl)) sz_33 ⟨.inl rfl, by first | exact Nat.le_of_ble_eq_true rfl | simp⟩ (by first | (simp only [rd, splice, fillD, D.cells, List.drop_succ_cons, List.drop_zero, List.take_succ_cons, List.take_zero, List.headD_cons, List.cons_append, List.nil_append, List.append_nil, List.length_cons, List.length_nil, Nat.reduceAdd, Nat.zero_add, Nat.add_zero, Bool.false_eq_true, if_true, if_false, reduceIte, List.map_cons, List.map_nil, List.drop_nil, List.take_nil, List.replicate, Fr.cs, Flt.cs] <;> rfl) | rfl))) rfl rfl ?_
                  | refine awl_step (step_if2 rfl rfl (ev_tmp rfl) (fun hg => stepU_loadV rfl ((by first | exact ev_cond (ev_tmp rfl) (by assumption) | exact ev_cond (ev_tmp rfl) (by simp_all) | exact ev_tmp rfl)) rfl (by assumption) sz_33 ⟨.inl rfl, by first | exact Nat.le_of_ble_eq_true rfl | simp⟩ (by first | (simp only [rd, splice, fillD, D.cells, List.drop_succ_cons, List.drop_zero, List.take_succ_cons, List.take_zero, List.headD_cons, List.cons_append, List.nil_append, List.append_nil, List.length_cons, List.length_nil, Nat.reduceAdd, Nat.zero_add, Nat.add_zero, Bool.false_eq_true, if_true, if_false, reduceIte, List.map_cons, List.map_nil, List.drop_nil, List.take_nil, List.replicate, Fr.cs, Flt.cs] <;> rfl) | rfl))) rfl rfl ?_
                first
                  | refine awl_step (step_if rfl rfl (ev_tmp rfl) (fun hg => stepU_build rfl pl_33 zc_33 zl_33 rfl (.cons rfl (by first | exact ev_bool _ | exact ev_nil (ev_bool _)) rfl ⟨rfl, Nat.le_of_ble_eq_true rfl⟩ (.cons rfl (by first | exact ev_int _ _ | exact ev_nil (ev_int _ _)) rfl ⟨rfl, Nat.le_of_ble_eq_true rfl⟩ .nil)) (by first | (simp only [rd, splice, fillD, D.cells, List.drop_succ_cons, List.drop_zero, List.take_succ_cons, List.take_zero, List.headD_cons, List.cons_append, List.nil_append, List.append_nil, List.length_cons, List.length_nil, Nat.reduceAdd, Nat.zero_add, Nat.add_zero, Bool.false_eq_true, if_true, if_false, reduceIte, List.map_cons, List.map_nil, List.drop_nil, List.take_nil, List.replicate, Fr.cs, Flt.cs] <;> rfl) | rfl))) rfl rfl ?_
                  | refine awl_step (step_if2 rfl rfl (ev_tmp rfl) (fun hg => stepU_build rfl pl_33 zc_33 zl_33 rfl (.cons rfl (by first | exact ev_bool _ | exact ev_nil (ev_bool _)) rfl ⟨rfl, Nat.le_of_ble_eq_true rfl⟩ (.cons rfl (by first | exact ev_int _ _ | exact ev_nil (ev_int _ _)) rfl ⟨rfl, Nat.le_of_ble_eq_true rfl⟩ .nil)) (by first | (simp only [rd, splice, fillD, D.cells, List.drop_succ_cons, List.drop_zero, List.take_succ_cons, List.take_zero, List.headD_cons, List.cons_append, List.nil_append, List.append_nil, List.length_cons, List.length_nil, Nat.reduceAdd, Nat.zero_add, Nat.add_zero, Bool.false_eq_true, if_true, if_false, reduceIte, List.map_cons, List.map_nil, List.drop_nil, List.take_nil, List.replicate, Fr.cs, Flt.cs] <;> rfl) | rfl))) rfl rfl ?_
                first
                  | refine awl_step (step_if rfl rfl (ev_tmp rfl) (fun hg => stepU_eqlA rfl sk_33 ((by first | exact ev_cond (ev_tmp rfl) (by assumption) | exact ev_cond (ev_tmp rfl) (by simp_all) | exact ev_tmp rfl)) ((by first | exact ev_cond (ev_tmp rfl) (by assumption) | exact ev_cond (ev_tmp rfl) (by simp_all) | exact ev_tmp rfl)) rfl rfl rfl rfl)) rfl rfl ?_
                  | refine awl_step (step_if2 rfl rfl (ev_tmp rfl) (fun hg => stepU_eqlA rfl sk_33 ((by first | exact ev_cond (ev_tmp rfl) (by assumption) | exact ev_cond (ev_tmp rfl) (by simp_all) | exact ev_tmp rfl)) ((by first | exact ev_cond (ev_tmp rfl) (by assumption) | exact ev_cond (ev_tmp rfl) (by simp_all) | exact ev_tmp rfl)) rfl rfl rfl rfl)) rfl rfl ?_
                refine awl_step (step_u rfl (stepU_and rfl (by first | exact ev_cond (ev_tmp rfl) (by assumption) | exact ev_cond (ev_tmp rfl) (by simp_all) | exact ev_tmp rfl) (fun hh => (by first | exact ev_tmp rfl | exact ev_bool _ | exact ev_condT (ev_tmp rfl) hh | exact ev_cond (ev_tmp rfl) (by simp_all))) (ev_bool _))) rfl rfl ?_
                refine awl_step (step_u rfl (stepU_assign rfl (ev_tmp rfl))) rfl rfl ?_
                refine awl_nil (hK28 _ _ ?_)
                clear hK28 K28
                refine aw_ret ?_
                refine (hret _ _ _ _ _ rfl (.tmp rfl .nil) rfl ?_ .nil rfl).1
                first
                  | rfl
                  | (exfalso; simp at r1; done)
                  | (simp [retD, hbad (by assumption)]; done)
                  | (exfalso; have := hlen (by assumption); omega)
                  | (exfalso; rw [hsame (by assumption)] at c5; simp [eqXs, eqX] at c5; done)
                  | (simp [retD, hcut (((putF f).length : Int) - 9 - less) c3 (by omega), sameB, eqXs, eqX, Flt.whole, Fr.nil]; done)
                  | (simp [retD, hcut (((putF f).length : Int) - 9 - 1) c3 (by omega), sameB, eqXs, eqX, Flt.whole, Fr.nil]; done)
              · have r7 := c7
                try simp only [beq_iff_eq, bne_iff_ne, ne_eq, beq_eq_false_iff_ne, bne_eq_false_iff_eq, decide_eq_true_eq, decide_eq_false_iff_not, Bool.and_eq_true, Bool.or_eq_true, Bool.not_eq_true', Bool.not_eq_false', Bool.and_eq_false_iff, Bool.or_eq_false_iff, Bool.not_true, Bool.not_false, gt_iff_lt, ge_iff_le, Int.not_lt, Int.not_le, Decidable.not_not, beq_self_eq_true, bne_self_eq_false] at c7
                refine aw_skip ?_
                refine hK25 _ _ ?_
                clear hK25
                refine aw_region fun K29 hK29 => ?_
                refine awl_step (step_u rfl (stepU_move rfl (ev_tmp rfl))) rfl rfl ?_
                refine awl_step (step_u rfl (stepU_slice (c' := bs ((putF f).take 9)) rfl Try.underlying27 sz_5 (bs_one _) (ev_tmp rfl) .no (.yes (ev_int _ _) rfl) (by simp) (by simp; omega) (by simp))) rfl rfl ?_
                refine awl_step (step_u rfl (stepU_move rfl (ev_tmp rfl))) rfl rfl ?_
                first
                  | refine awl_step (step_u rfl (stepU_call0 rfl en_14 (con_frTake (by have := hlen (by assumption); have := hmx (by assumption); omega)) (.cons (ev_tmp rfl) (.cons (ev_tmp rfl) .nil)) rfl rfl)) rfl rfl ?_
                  | refine awl_step (step_u rfl (stepU_call0 rfl en_14 (con_frTake (b := (putF f).take 9) (by simp; omega)) (.cons (ev_tmp rfl) (.cons (ev_tmp rfl) .nil)) rfl rfl)) rfl rfl ?_
                  | refine awl_step (step_u rfl (stepU_call0 rfl en_14 (con_frTake (by have := hlen (by assumption); have := hmx (by assumption); omega)) (.cons (by first | exact ev_tmp rfl | exact ev_nil (ev_tmp rfl)) (.cons (by first | exact ev_tmp rfl | exact ev_nil (ev_tmp rfl)) .nil)) rfl rfl)) rfl rfl ?_
                  | refine awl_step (step_u rfl (stepU_call0 rfl en_14 (con_frTake (b := (putF f).take 9) (by simp; omega)) (.cons (by first | exact ev_tmp rfl | exact ev_nil (ev_tmp rfl)) (.cons (by first | exact ev_tmp rfl | exact ev_nil (ev_tmp rfl)) .nil)) rfl rfl)) rfl rfl ?_
                refine awl_step (step_u rfl (stepU_move rfl (ev_tmp rfl))) rfl rfl ?_
                refine awl_step (step_u rfl (stepU_extract rfl (ev_tmp rfl) rfl)) rfl rfl ?_
                refine awl_step (step_u rfl (stepU_extract rfl (ev_tmp rfl) rfl)) rfl rfl ?_
                refine awl_step (step_u rfl (stepU_extract rfl (ev_tmp rfl) rfl)) rfl rfl ?_
                refine awl_step (step_u rfl (stepU_alloc rfl 5 (Nat.le_of_ble_eq_true rfl) zc_24 zl_24)) rfl rfl ?_
                refine awl_step (step_u rfl (stepU_alloc rfl 6 (Nat.le_of_ble_eq_true rfl) zc_33 zl_33)) rfl rfl ?_
                refine awl_step (step_u rfl (stepU_store rfl (ev_tmp rfl) (by first | exact ev_tmp rfl | exact ev_nil (ev_tmp rfl)) rfl rfl sz_24 ⟨rfl, by first | exact Nat.le_of_ble_eq_true rfl | simp⟩ (by first | (simp only [rd, splice, fillD, D.cells, List.drop_succ_cons, List.drop_zero, List.take_succ_cons, List.take_zero, List.headD_cons, List.cons_append, List.nil_append, List.append_nil, List.length_cons, List.length_nil, Nat.reduceAdd, Nat.zero_add, Nat.add_zero, Bool.false_eq_true, if_true, if_false, reduceIte, List.map_cons, List.map_nil, List.drop_nil, List.take_nil, List.replicate, Fr.cs, Flt.cs] <;> rfl) | rfl))) rfl rfl ?_
                refine awl_step (step_u rfl (stepU_assign rfl (ev_tmp rfl))) rfl rfl ?_
                refine awl_step (step_u rfl (stepU_store rfl (ev_tmp rfl) (by first | exact ev_tmp rfl | exact ev_nil (ev_tmp rfl)) rfl rfl sz_33 ⟨rfl, by first | exact Nat.le_of_ble_eq_true rfl | simp⟩ (by first | (simp only [rd, splice, fillD, D.cells, List.drop_succ_cons, List.drop_zero, List.take_succ_cons, List.take_zero, List.headD_cons, List.cons_append, List.nil_append, List.append_nil, List.length_cons, List.length_nil, Nat.reduceAdd, Nat.zero_add, Nat.add_zero, Bool.false_eq_true, if_true, if_false, reduceIte, List.map_cons, List.map_nil, List.drop_nil, List.take_nil, List.replicate, Fr.cs, Flt.cs] <;> rfl) | rfl))) rfl rfl ?_
                refine awl_nil (hK29 _ _ ?_)
                clear hK29 K29
                refine aw_region fun K30 hK30 => ?_
                first
                  | refine awl_step (step_u rfl (stepU_load rfl (ev_tmp rfl) rfl sz_24 ⟨.inl rfl, by first | exact Nat.le_of_ble_eq_true rfl | simp⟩ (by first | (simp only [rd, splice, fillD, D.cells, List.drop_succ_cons, List.drop_zero, List.take_succ_cons, List.take_zero, List.headD_cons, List.cons_append, List.nil_append, List.append_nil, List.length_cons, List.length_nil, Nat.reduceAdd, Nat.zero_add, Nat.add_zero, Bool.false_eq_true, if_true, if_false, reduceIte, List.map_cons, List.map_nil, List.drop_nil, List.take_nil, List.replicate, Fr.cs, Flt.cs] <;> rfl) | rfl))) rfl rfl ?_
                  | refine awl_step (step_u rfl (stepU_loadRef rfl (ev_tmp rfl) sz_24 ⟨.inl rfl, by first | exact Nat.le_of_ble_eq_true rfl | simp⟩ (by first | (simp only [rd, splice, fillD, D.cells, List.drop_succ_cons, List.drop_zero, List.take_succ_cons, List.take_zero, List.headD_cons, List.cons_append, List.nil_append, List.append_nil, List.length_cons, List.length_nil, Nat.reduceAdd, Nat.zero_add, Nat.add_zero, Bool.false_eq_true, if_true, if_false, reduceIte, List.map_cons, List.map_nil, List.drop_nil, List.take_nil, List.replicate, Fr.cs, Flt.cs] <;> rfl) | rfl))) rfl rfl ?_
                  | refine awl_step (step_u rfl (stepU_loadV rfl (ev_tmp rfl) rfl (by assumption) sz_24 ⟨.inl rfl, by first | exact Nat.le_of_ble_eq_true rfl | simp⟩ (by first | (simp only [rd, splice, fillD, D.cells, List.drop_succ_cons, List.drop_zero, List.take_succ_cons, List.take_zero, List.headD_cons, List.cons_append, List.nil_append, List.append_nil, List.length_cons, List.length_nil, Nat.reduceAdd, Nat.zero_add, Nat.add_zero, Bool.false_eq_true, if_true, if_false, reduceIte, List.map_cons, List.map_nil, List.drop_nil, List.take_nil, List.replicate, Fr.cs, Flt.cs] <;> rfl) | rfl))) rfl rfl ?_
                refine awl_step (step_u rfl (stepU_build rfl pl_24 zc_24 zl_24 rfl .nil (by first | (simp only [rd, splice, fillD, D.cells, List.drop_succ_cons, List.drop_zero, List.take_succ_cons, List.take_zero, List.headD_cons, List.cons_append, List.nil_append, List.append_nil, List.length_cons, List.length_nil, Nat.reduceAdd, Nat.zero_add, Nat.add_zero, Bool.false_eq_true, if_true, if_false, reduceIte, List.map_cons, List.map_nil, List.drop_nil, List.take_nil, List.replicate, Fr.cs, Flt.cs] <;> rfl) | rfl))) rfl rfl ?_
                first
                  | refine awl_step (step_u rfl (stepU_call0 rfl en_16 (con_SameN (g := Fr.nil) (by rw [hcut _ (by assumption) (by omega)]; simp [Fr.nil]) rfl) (.cons (ev_tmp rfl) (.cons (ev_tmp rfl) .nil)) rfl rfl)) rfl rfl ?_
                  | refine awl_step (step_u rfl (stepU_call0 rfl en_16 (con_SameN (g := Fr.nil) (by rw [hcut _ (by assumption) (by omega)]; simp [Fr.nil]) rfl) (.cons (by first | exact ev_tmp rfl | exact ev_nil (ev_tmp rfl)) (.cons (by first | exact ev_tmp rfl | exact ev_nil (ev_tmp rfl)) .nil)) rfl rfl)) rfl rfl ?_
                refine awl_step (step_u rfl (stepU_move rfl (ev_tmp rfl))) rfl rfl ?_
                first
                  | refine awl_step (step_if rfl rfl (ev_tmp rfl) (fun hg => stepU_move rfl ((by first | exact ev_cond (ev_tmp rfl) (by assumption) | exact ev_cond (ev_tmp rfl) (by simp_all) | exact ev_tmp rfl)))) rfl rfl ?_
                  | refine awl_step (step_if2 rfl rfl (ev_tmp rfl) (fun hg => stepU_move rfl ((by first | exact ev_cond (ev_tmp rfl) (by assumption) | exact ev_cond (ev_tmp rfl) (by simp_all) | exact ev_tmp rfl)))) rfl rfl ?_
                first
                  | refine awl_step (step_if rfl rfl (ev_tmp rfl) (fun hg => stepU_eql rfl ((by first | exact ev_cond (ev_tmp rfl) (by assumption) | exact ev_cond (ev_tmp rfl) (by simp_all) | exact ev_tmp rfl)) (ev_int _ _))) rfl rfl ?_
                  | refine awl_step (step_if rfl rfl (ev_tmp rfl) (fun hg => stepU_eqlS rfl ((by first | exact ev_cond (ev_tmp rfl) (by assumption) | exact ev_cond (ev_tmp rfl) (by simp_all) | exact ev_tmp rfl)) (ev_int _ _))) rfl rfl ?_
                  | refine awl_step (step_if rfl rfl (ev_tmp rfl) (fun hg => stepU_eqlB rfl Try.underlying3 ((by first | exact ev_cond (ev_tmp rfl) (by assumption) | exact ev_cond (ev_tmp rfl) (by simp_all) | exact ev_tmp rfl)) (ev_int _ _))) rfl rfl ?_
                  | refine awl_step (step_if2 rfl rfl (ev_tmp rfl) (fun hg => stepU_eql rfl ((by first | exact ev_cond (ev_tmp rfl) (by assumption) | exact ev_cond (ev_tmp rfl) (by simp_all) | exact ev_tmp rfl)) (ev_int _ _))) rfl rfl ?_
                  | refine awl_step (step_if2 rfl rfl (ev_tmp rfl) (fun hg => stepU_eqlS rfl ((by first | exact ev_cond (ev_tmp rfl) (by assumption) | exact ev_cond (ev_tmp rfl) (by simp_all) | exact ev_tmp rfl)) (ev_int _ _))) rfl rfl ?_
                  | refine awl_step (step_if2 rfl rfl (ev_tmp rfl) (fun hg => stepU_eqlB rfl Try.underlying3 ((by first | exact ev_cond (ev_tmp rfl) (by assumption) | exact ev_cond (ev_tmp rfl) (by simp_all) | exact ev_tmp rfl)) (ev_int _ _))) rfl rfl ?_
                refine awl_step (step_u rfl (stepU_and rfl (by first | exact ev_cond (ev_tmp rfl) (by assumption) | exact ev_cond (ev_tmp rfl) (by simp_all) | exact ev_tmp rfl) (fun hh => (by first | exact ev_tmp rfl | exact ev_bool _ | exact ev_condT (ev_tmp rfl) hh | exact ev_cond (ev_tmp rfl) (by simp_all))) (ev_bool _))) rfl rfl ?_
                refine awl_step (step_u rfl (stepU_move rfl (ev_tmp rfl))) rfl rfl ?_
                first
                  | refine awl_step (step_if rfl rfl (ev_tmp rfl) (fun hg => stepU_load rfl ((by first | exact ev_cond (ev_tmp rfl) (by assumption) | exact ev_cond (ev_tmp rfl) (by simp_all) | exact ev_tmp rfl)) rfl sz_33 ⟨.inl rfl, by first | exact Nat.le_of_ble_eq_true rfl | simp⟩ (by first | (simp only [rd, splice, fillD, D.cells, List.drop_succ_cons, List.drop_zero, List.take_succ_cons, List.take_zero, List.headD_cons, List.cons_append, List.nil_append, List.append_nil, List.length_cons, List.length_nil, Nat.reduceAdd, Nat.zero_add, Nat.add_zero, Bool.false_eq_true, if_true, if_false, reduceIte, List.map_cons, List.map_nil, List.drop_nil, List.take_nil, List.replicate, Fr.cs, Flt.cs] <;> rfl) | rfl))) rfl rfl ?_
                  | refine awl_step (step_if rfl rfl (ev_tmp rfl) (fun hg => stepU_loadRef rfl ((by first | exact ev_cond (ev_tmp rfl) (by assumption) | exact ev_cond (ev_tmp rfl) (by simp_all) | exact ev_tmp rfl)) sz_33 ⟨.inl rfl, by first | exact Nat.le_of_ble_eq_true rfl | simp⟩ (by first | (simp only [rd, splice, fillD, D.cells, List.drop_succ_cons, List.drop_zero, List.take_succ_cons, List.take_zero, List.headD_cons, List.cons_append, List.nil_append, List.append_nil, List.length_cons, List.length_nil, Nat.reduceAdd, Nat.zero_add, Nat.add_zero, Bool.false_eq_true, if_true, if_false, reduceIte, List.map_cons, List.map_nil, List.drop_nil, List.take_nil, List.replicate, Fr.cs, Flt.cs] <;> rfl) | rfl))) rfl rfl ?_
                  | refine awl_step (step_if rfl rfl (ev_tmp rfl) (fun hg => stepU_loadV rfl ((by first | exact ev_cond (ev_tmp rfl) (by assumption) | exact ev_cond (ev_tmp rfl) (by simp_all) | exact ev_tmp rfl)) rfl (by assumption) sz_33 ⟨.inl rfl, by first | exact Nat.le_of_ble_eq_true rfl | simp⟩ (by first | (simp only [rd, splice, fillD, D.cells, List.drop_succ_cons, List.drop_zero, List.take_succ_cons, List.take_zero, List.headD_cons, List.cons_append, List.nil_append, List.append_nil, List.length_cons, List.length_nil, Nat.reduceAdd, Nat.zero_add, Nat.add_zero, Bool.false_eq_true, if_true, if_false, reduceIte, List.map_cons, List.map_nil, List.drop_nil, List.take_nil, List.replicate, Fr.cs, Flt.cs] <;> rfl) | rfl))) rfl rfl ?_
                  | refine awl_step (step_if2 rfl rfl (ev_tmp rfl) (fun hg => stepU_load rfl ((by first | exact ev_cond (ev_tmp rfl) (by assumption) | exact ev_cond (ev_tmp rfl) (by simp_all) | exact ev_tmp rfl)) rfl sz_33 ⟨.inl rfl, by first | exact Nat.le_of_ble_eq_true rfl | simp⟩ (by first | (simp only [rd, splice, fillD, D.cells, List.drop_succ_cons, List.drop_zero, List.take_succ_cons, List.take_zero, List.headD_cons, List.cons_append, List.nil_append, List.append_nil, List.length_cons, List.length_nil, Nat.reduceAdd, Nat.zero_add, Nat.add_zero, Bool.false_eq_true, if_true, if_false, reduceIte, List.map_cons, List.map_nil, List.drop_nil, List.take_nil, List.replicate, Fr.cs, Flt.cs] <;> rfl) | rfl))) rfl rfl ?_
                  | refine awl_step (step_if2 rfl rfl (ev_tmp rfl) (fun hg => stepU_loadRef rfl ((by first | exact ev_cond (ev_tmp rfl) (by assumption) | exact ev_cond (ev_tmp rfl) (by simp_all) | exact ev_tmp rfl)) sz_33 ⟨.inl rfl, by first | exact Nat.le_of_ble_eq_true rfl | simp⟩ (by first | (simp only [rd, splice, fillD, D.cells, List.drop_succ_cons, List.drop_zero, List.take_succ_cons, List.take_zero, List.headD_cons, List.cons_append, List.nil_append, List.append_nil, List.length_cons, List.length_nil, Nat.reduceAdd, Nat.zero_add, Nat.add_zero, Bool.false_eq_true, if_true, if_false, reduceIte, List.map_cons, List.map_nil, List.drop_nil, List.take_nil, List.replicate, Fr.cs, Flt.cs] <;> rfl) | rfl))) rfl rfl ?_
                  | refine awl_step (step_if2 rfl rfl (ev_tmp rfl) (fun hg => stepU_loadV rfl ((by first | exact ev_cond (ev_tmp rfl) (by assumption) | exact ev_cond (ev_tmp rfl) (by simp_all) | exact ev_tmp rfl)) rfl (by assumption) sz_33 ⟨.inl rfl, by first | exact Nat.le_of_ble_eq_true rfl | simp⟩ (by first | (simp only [rd, splice, fillD, D.cells, List.drop_succ_cons, List.drop_zero, List.take_succ_cons, List.take_zero, List.headD_cons, List.cons_append, List.nil_append, List.append_nil, List.length_cons, List.length_nil, Nat.reduceAdd, Nat.zero_add, Nat.add_zero, Bool.false_eq_true, if_true, if_false, reduceIte, List.map_cons, List.map_nil, List.drop_nil, List.take_nil, List.replicate, Fr.cs, Flt.cs] <;> rfl) | rfl))) rfl rfl ?_
                first
                  | refine awl_step (step_if rfl rfl (ev_tmp rfl) (fun hg => stepU_build rfl pl_33 zc_33 zl_33 rfl (.cons rfl (by first | exact ev_bool _ | exact ev_nil (ev_bool _)) rfl ⟨rfl, Nat.le_of_ble_eq_true rfl⟩ (.cons rfl (by first | exact ev_int _ _ | exact ev_nil (ev_int _ _)) rfl ⟨rfl, Nat.le_of_ble_eq_true rfl⟩ .nil)) (by first | (simp only [rd, splice, fillD, D.cells, List.drop_succ_cons, List.drop_zero, List.take_succ_cons, List.take_zero, List.headD_cons, List.cons_append, List.nil_append, List.append_nil, List.length_cons, List.length_nil, Nat.reduceAdd, Nat.zero_add, Nat.add_zero, Bool.false_eq_true, if_true, if_false, reduceIte, List.map_cons, List.map_nil, List.drop_nil, List.take_nil, List.replicate, Fr.cs, Flt.cs] <;> rfl) | rfl))) rfl rfl ?_
                  | refine awl_step (step_if2 rfl rfl (ev_tmp rfl) (fun hg => stepU_build rfl pl_33 zc_33 zl_33 rfl (.cons rfl (by first | exact ev_bool _ | exact ev_nil (ev_bool _)) rfl ⟨rfl, Nat.le_of_ble_eq_true rfl⟩ (.cons rfl (by first | exact ev_int _ _ | exact ev_nil (ev_int _ _)) rfl ⟨rfl, Nat.le_of_ble_eq_true rfl⟩ .nil)) (by first | (simp only [rd, splice, fillD, D.cells, List.drop_succ_cons, List.drop_zero, List.take_succ_cons, List.take_zero, List.headD_cons, List.cons_append, List.nil_append, List.append_nil, List.length_cons, List.length_nil, Nat.reduceAdd, Nat.zero_add, Nat.add_zero, Bool.false_eq_true, if_true, if_false, reduceIte, List.map_cons, List.map_nil, List.drop_nil, List.take_nil, List.replicate, Fr.cs, Flt.cs] <;> rfl) | rfl))) rfl rfl ?_
                first
                  | refine awl_step (step_if rfl rfl (ev_tmp rfl) (fun hg => stepU_eqlA rfl sk_33 ((by first | exact ev_cond (ev_tmp rfl) (by assumption) | exact ev_cond (ev_tmp rfl) (by simp_all) | exact ev_tmp rfl)) ((by first | exact ev_cond (ev_tmp rfl) (by assumption) | exact ev_cond (ev_tmp rfl) (by simp_all) | exact ev_tmp rfl)) rfl rfl rfl rfl)) rfl rfl ?_
                  | refine awl_step (step_if2 rfl rfl (ev_tmp rfl) (fun hg => stepU_eqlA rfl sk_33 ((by first | exact ev_cond (ev_tmp rfl) (by assumption) | exact ev_cond (ev_tmp rfl) (by simp_all) | exact ev_tmp rfl)) ((by first | exact ev_cond (ev_tmp rfl) (by assumption) | exact ev_cond (ev_tmp rfl) (by simp_all) | exact ev_tmp rfl)) rfl rfl rfl rfl)) rfl rfl ?_
                refine awl_step (step_u rfl (stepU_and rfl (by first | exact ev_cond (ev_tmp rfl) (by assumption) | exact ev_cond (ev_tmp rfl) (by simp_all) | exact ev_tmp rfl) (fun hh => (by first | exact ev_tmp rfl | exact ev_bool _ | exact ev_condT (ev_tmp rfl) hh | exact ev_cond (ev_tmp rfl) (by simp_all))) (ev_bool _))) rfl rfl ?_
                refine awl_step (step_u rfl (stepU_assign rfl (ev_tmp rfl))) rfl rfl ?_
                refine awl_nil (hK30 _ _ ?_)
                clear hK30 K30
                refine aw_ret ?_
                refine (hret _ _ _ _ _ rfl (.tmp rfl .nil) rfl ?_ .nil rfl).1
                first
                  | rfl
                  | (exfalso; simp at r1; done)
                  | (simp [retD, hbad (by assumption)]; done)
                  | (exfalso; have := hlen (by assumption); omega)
                  | (exfalso; rw [hsame (by assumption)] at c5; simp [eqXs, eqX] at c5; done)
                  | (simp [retD, hcut (((putF f).length : Int) - 9 - less) c3 (by omega), sameB, eqXs, eqX, Flt.whole, Fr.nil]; done)
                  | (simp [retD, hcut (((putF f).length : Int) - 9 - 1) c3 (by omega), sameB, eqXs, eqX, Flt.whole, Fr.nil]; done)
end Go.Proofs.Ytlfkgbcclinnbaa
