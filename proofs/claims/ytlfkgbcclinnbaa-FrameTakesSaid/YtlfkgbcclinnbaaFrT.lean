/- Layer 6: the program's Take. No condition. -/
import Derived.Test.YtlfkgbcclinnbaaFrB
import Derived.Test.YtlfkgbcclinnbaaAm
namespace Go.Proofs.Ytlfkgbcclinnbaa
set_option linter.all false
open Go Go.RowKit
set_option maxRecDepth 10000
theorem con_misplaced {k s : Int} : Con Try.prog 28 [.v (.int .i64 k), .v (.int .i64 s)] [] 0 (.ret (.v (.bool (misB k s)))) [] := by
  refine con_of Try.func28 rfl (by show _ ≤ 22; simp) fun X Q hP hnt hnp hret hpan => ?_
  obtain ⟨P0, nt0, w0, K0, S0, np0, pin0⟩ := X
  simp only at hP hnt hnp
  subst hP hnp
  obtain rfl : nt0 = 22 := hnt
  refine aw_region fun K1 hK1 => ?_
  refine awl_step (step_u rfl (stepU_assign rfl (ev_bool _))) rfl rfl ?_
  refine awl_nil (hK1 _ _ ?_)
  clear hK1 K1
  refine aw_seq fun K2 hK2 => ?_
  refine aw_region fun K3 hK3 => ?_
  refine awl_step (step_u rfl (stepU_move rfl (ev_tmp rfl))) rfl rfl ?_
  refine awl_nil (hK3 _ _ ?_)
  clear hK3 K3
  refine aw_block ?_
  refine aw_region fun K4 hK4 => ?_
  refine awl_step (step_u rfl (stepU_eql rfl (ev_tmp rfl) (ev_int _ _))) rfl rfl ?_
  refine awl_step (step_u rfl (stepU_assign rfl (ev_tmp rfl))) rfl rfl ?_
  refine awl_nil (hK4 _ _ ?_)
  clear hK4 K4
  refine aw_cond (by first | exact ev_tmp rfl | exact ev_bool _) (fun c1 => ?_) (fun c1 => ?_)
  · have r1 := c1
    try simp only [beq_iff_eq, bne_iff_ne, ne_eq, beq_eq_false_iff_ne, bne_eq_false_iff_eq, decide_eq_true_eq, decide_eq_false_iff_not, Bool.and_eq_true, Bool.or_eq_true, Bool.not_eq_true', Bool.not_eq_false', Bool.and_eq_false_iff, Bool.or_eq_false_iff, Bool.not_true, Bool.not_false, gt_iff_lt, ge_iff_le, Int.not_lt, Int.not_le, Decidable.not_not, beq_self_eq_true, bne_self_eq_false] at c1
    refine aw_region fun K5 hK5 => ?_
    refine awl_step (step_u rfl (stepU_assign rfl (ev_bool _))) rfl rfl ?_
    refine awl_nil (hK5 _ _ ?_)
    clear hK5 K5
    refine aw_ret ?_
    refine (hret _ _ _ _ _ rfl (.tmp rfl .nil) rfl ?_ .nil rfl).1
    (simp [misB, retD, *] <;> (try (rw [Bool.eq_iff_iff]; simp)))
  · have r1 := c1
    try simp only [beq_iff_eq, bne_iff_ne, ne_eq, beq_eq_false_iff_ne, bne_eq_false_iff_eq, decide_eq_true_eq, decide_eq_false_iff_not, Bool.and_eq_true, Bool.or_eq_true, Bool.not_eq_true', Bool.not_eq_false', Bool.and_eq_false_iff, Bool.or_eq_false_iff, Bool.not_true, Bool.not_false, gt_iff_lt, ge_iff_le, Int.not_lt, Int.not_le, Decidable.not_not, beq_self_eq_true, bne_self_eq_false] at c1
    refine aw_seq fun K6 hK6 => ?_
    refine aw_region fun K7 hK7 => ?_
    refine awl_step (step_u rfl (stepU_eql rfl (ev_tmp rfl) (ev_int _ _))) rfl rfl ?_
    refine awl_step (step_u rfl (stepU_assign rfl (ev_tmp rfl))) rfl rfl ?_
    refine awl_nil (hK7 _ _ ?_)
    clear hK7 K7
    refine aw_cond (by first | exact ev_tmp rfl | exact ev_bool _) (fun c2 => ?_) (fun c2 => ?_)
    · have r2 := c2
      try simp only [beq_iff_eq, bne_iff_ne, ne_eq, beq_eq_false_iff_ne, bne_eq_false_iff_eq, decide_eq_true_eq, decide_eq_false_iff_not, Bool.and_eq_true, Bool.or_eq_true, Bool.not_eq_true', Bool.not_eq_false', Bool.and_eq_false_iff, Bool.or_eq_false_iff, Bool.not_true, Bool.not_false, gt_iff_lt, ge_iff_le, Int.not_lt, Int.not_le, Decidable.not_not, beq_self_eq_true, bne_self_eq_false] at c2
      refine aw_skip ?_
      refine hK6 _ _ ?_
      clear hK6
      refine aw_condT (ev_tmp rfl) r2 ?_
      refine aw_region fun K8 hK8 => ?_
      refine awl_step (step_u rfl (stepU_move rfl (ev_tmp rfl))) rfl rfl ?_
      refine awl_step (step_u rfl (stepU_neq rfl (ev_tmp rfl) (ev_int _ _))) rfl rfl ?_
      refine awl_step (step_u rfl (stepU_assign rfl (ev_tmp rfl))) rfl rfl ?_
      refine awl_nil (hK8 _ _ ?_)
      clear hK8 K8
      refine aw_ret ?_
      refine (hret _ _ _ _ _ rfl (.tmp rfl .nil) rfl ?_ .nil rfl).1
      (simp [misB, retD, *] <;> (try (rw [Bool.eq_iff_iff]; simp)))
    · have r2 := c2
      try simp only [beq_iff_eq, bne_iff_ne, ne_eq, beq_eq_false_iff_ne, bne_eq_false_iff_eq, decide_eq_true_eq, decide_eq_false_iff_not, Bool.and_eq_true, Bool.or_eq_true, Bool.not_eq_true', Bool.not_eq_false', Bool.and_eq_false_iff, Bool.or_eq_false_iff, Bool.not_true, Bool.not_false, gt_iff_lt, ge_iff_le, Int.not_lt, Int.not_le, Decidable.not_not, beq_self_eq_true, bne_self_eq_false] at c2
      refine aw_region fun K9 hK9 => ?_
      refine awl_step (step_u rfl (stepU_eql rfl (ev_tmp rfl) (ev_int _ _))) rfl rfl ?_
      refine awl_step (step_u rfl (stepU_assign rfl (ev_tmp rfl))) rfl rfl ?_
      refine awl_nil (hK9 _ _ ?_)
      clear hK9 K9
      refine aw_cond (by first | exact ev_tmp rfl | exact ev_bool _) (fun c3 => ?_) (fun c3 => ?_)
      · have r3 := c3
        try simp only [beq_iff_eq, bne_iff_ne, ne_eq, beq_eq_false_iff_ne, bne_eq_false_iff_eq, decide_eq_true_eq, decide_eq_false_iff_not, Bool.and_eq_true, Bool.or_eq_true, Bool.not_eq_true', Bool.not_eq_false', Bool.and_eq_false_iff, Bool.or_eq_false_iff, Bool.not_true, Bool.not_false, gt_iff_lt, ge_iff_le, Int.not_lt, Int.not_le, Decidable.not_not, beq_self_eq_true, bne_self_eq_false] at c3
        refine aw_skip ?_
        refine hK6 _ _ ?_
        clear hK6
        refine aw_condT (ev_tmp rfl) r3 ?_
        refine aw_region fun K10 hK10 => ?_
        refine awl_step (step_u rfl (stepU_move rfl (ev_tmp rfl))) rfl rfl ?_
        refine awl_step (step_u rfl (stepU_neq rfl (ev_tmp rfl) (ev_int _ _))) rfl rfl ?_
        refine awl_step (step_u rfl (stepU_assign rfl (ev_tmp rfl))) rfl rfl ?_
        refine awl_nil (hK10 _ _ ?_)
        clear hK10 K10
        refine aw_ret ?_
        refine (hret _ _ _ _ _ rfl (.tmp rfl .nil) rfl ?_ .nil rfl).1
        (simp [misB, retD, *] <;> (try (rw [Bool.eq_iff_iff]; simp)))
      · have r3 := c3
        try simp only [beq_iff_eq, bne_iff_ne, ne_eq, beq_eq_false_iff_ne, bne_eq_false_iff_eq, decide_eq_true_eq, decide_eq_false_iff_not, Bool.and_eq_true, Bool.or_eq_true, Bool.not_eq_true', Bool.not_eq_false', Bool.and_eq_false_iff, Bool.or_eq_false_iff, Bool.not_true, Bool.not_false, gt_iff_lt, ge_iff_le, Int.not_lt, Int.not_le, Decidable.not_not, beq_self_eq_true, bne_self_eq_false] at c3
        refine aw_region_last ?_
        refine awl_step (step_u rfl (stepU_eql rfl (ev_tmp rfl) (ev_int _ _))) rfl rfl ?_
        refine awl_step (step_u rfl (stepU_assign rfl (ev_tmp rfl))) rfl rfl ?_
        refine awl_nil ?_
        refine hK6 _ _ ?_
        clear hK6
        refine aw_cond (by first | exact ev_tmp rfl | exact ev_bool _) (fun c4 => ?_) (fun c4 => ?_)
        · have r4 := c4
          try simp only [beq_iff_eq, bne_iff_ne, ne_eq, beq_eq_false_iff_ne, bne_eq_false_iff_eq, decide_eq_true_eq, decide_eq_false_iff_not, Bool.and_eq_true, Bool.or_eq_true, Bool.not_eq_true', Bool.not_eq_false', Bool.and_eq_false_iff, Bool.or_eq_false_iff, Bool.not_true, Bool.not_false, gt_iff_lt, ge_iff_le, Int.not_lt, Int.not_le, Decidable.not_not, beq_self_eq_true, bne_self_eq_false] at c4
          refine aw_region fun K11 hK11 => ?_
          refine awl_step (step_u rfl (stepU_move rfl (ev_tmp rfl))) rfl rfl ?_
          refine awl_step (step_u rfl (stepU_neq rfl (ev_tmp rfl) (ev_int _ _))) rfl rfl ?_
          refine awl_step (step_u rfl (stepU_assign rfl (ev_tmp rfl))) rfl rfl ?_
          refine awl_nil (hK11 _ _ ?_)
          clear hK11 K11
          refine aw_ret ?_
          refine (hret _ _ _ _ _ rfl (.tmp rfl .nil) rfl ?_ .nil rfl).1
          (simp [misB, retD, *] <;> (try (rw [Bool.eq_iff_iff]; simp)))
        · have r4 := c4
          try simp only [beq_iff_eq, bne_iff_ne, ne_eq, beq_eq_false_iff_ne, bne_eq_false_iff_eq, decide_eq_true_eq, decide_eq_false_iff_not, Bool.and_eq_true, Bool.or_eq_true, Bool.not_eq_true', Bool.not_eq_false', Bool.and_eq_false_iff, Bool.or_eq_false_iff, Bool.not_true, Bool.not_false, gt_iff_lt, ge_iff_le, Int.not_lt, Int.not_le, Decidable.not_not, beq_self_eq_true, bne_self_eq_false] at c4
          refine aw_seq fun K12 hK12 => ?_
          refine aw_region fun K13 hK13 => ?_
          refine awl_step (step_u rfl (stepU_eql rfl (ev_tmp rfl) (ev_int _ _))) rfl rfl ?_
          refine awl_step (step_u rfl (stepU_assign rfl (ev_tmp rfl))) rfl rfl ?_
          refine awl_nil (hK13 _ _ ?_)
          clear hK13 K13
          refine aw_cond (by first | exact ev_tmp rfl | exact ev_bool _) (fun c5 => ?_) (fun c5 => ?_)
          · have r5 := c5
            try simp only [beq_iff_eq, bne_iff_ne, ne_eq, beq_eq_false_iff_ne, bne_eq_false_iff_eq, decide_eq_true_eq, decide_eq_false_iff_not, Bool.and_eq_true, Bool.or_eq_true, Bool.not_eq_true', Bool.not_eq_false', Bool.and_eq_false_iff, Bool.or_eq_false_iff, Bool.not_true, Bool.not_false, gt_iff_lt, ge_iff_le, Int.not_lt, Int.not_le, Decidable.not_not, beq_self_eq_true, bne_self_eq_false] at c5
            refine aw_skip ?_
            refine hK12 _ _ ?_
            clear hK12
            refine aw_condT (ev_tmp rfl) r5 ?_
            refine aw_region fun K14 hK14 => ?_
            refine awl_step (step_u rfl (stepU_move rfl (ev_tmp rfl))) rfl rfl ?_
            refine awl_step (step_u rfl (stepU_eql rfl (ev_tmp rfl) (ev_int _ _))) rfl rfl ?_
            refine awl_step (step_u rfl (stepU_assign rfl (ev_tmp rfl))) rfl rfl ?_
            refine awl_nil (hK14 _ _ ?_)
            clear hK14 K14
            refine aw_ret ?_
            refine (hret _ _ _ _ _ rfl (.tmp rfl .nil) rfl ?_ .nil rfl).1
            (simp [misB, retD, *] <;> (try (rw [Bool.eq_iff_iff]; simp)))
          · have r5 := c5
            try simp only [beq_iff_eq, bne_iff_ne, ne_eq, beq_eq_false_iff_ne, bne_eq_false_iff_eq, decide_eq_true_eq, decide_eq_false_iff_not, Bool.and_eq_true, Bool.or_eq_true, Bool.not_eq_true', Bool.not_eq_false', Bool.and_eq_false_iff, Bool.or_eq_false_iff, Bool.not_true, Bool.not_false, gt_iff_lt, ge_iff_le, Int.not_lt, Int.not_le, Decidable.not_not, beq_self_eq_true, bne_self_eq_false] at c5
            refine aw_region fun K15 hK15 => ?_
            refine awl_step (step_u rfl (stepU_eql rfl (ev_tmp rfl) (ev_int _ _))) rfl rfl ?_
            refine awl_step (step_u rfl (stepU_assign rfl (ev_tmp rfl))) rfl rfl ?_
            refine awl_nil (hK15 _ _ ?_)
            clear hK15 K15
            refine aw_cond (by first | exact ev_tmp rfl | exact ev_bool _) (fun c6 => ?_) (fun c6 => ?_)
            · have r6 := c6
              try simp only [beq_iff_eq, bne_iff_ne, ne_eq, beq_eq_false_iff_ne, bne_eq_false_iff_eq, decide_eq_true_eq, decide_eq_false_iff_not, Bool.and_eq_true, Bool.or_eq_true, Bool.not_eq_true', Bool.not_eq_false', Bool.and_eq_false_iff, Bool.or_eq_false_iff, Bool.not_true, Bool.not_false, gt_iff_lt, ge_iff_le, Int.not_lt, Int.not_le, Decidable.not_not, beq_self_eq_true, bne_self_eq_false] at c6
              refine aw_skip ?_
              refine hK12 _ _ ?_
              clear hK12
              refine aw_condT (ev_tmp rfl) r6 ?_
              refine aw_region fun K16 hK16 => ?_
              refine awl_step (step_u rfl (stepU_move rfl (ev_tmp rfl))) rfl rfl ?_
              refine awl_step (step_u rfl (stepU_eql rfl (ev_tmp rfl) (ev_int _ _))) rfl rfl ?_
              refine awl_step (step_u rfl (stepU_assign rfl (ev_tmp rfl))) rfl rfl ?_
              refine awl_nil (hK16 _ _ ?_)
              clear hK16 K16
              refine aw_ret ?_
              refine (hret _ _ _ _ _ rfl (.tmp rfl .nil) rfl ?_ .nil rfl).1
              (simp [misB, retD, *] <;> (try (rw [Bool.eq_iff_iff]; simp)))
            · have r6 := c6
              try simp only [beq_iff_eq, bne_iff_ne, ne_eq, beq_eq_false_iff_ne, bne_eq_false_iff_eq, decide_eq_true_eq, decide_eq_false_iff_not, Bool.and_eq_true, Bool.or_eq_true, Bool.not_eq_true', Bool.not_eq_false', Bool.and_eq_false_iff, Bool.or_eq_false_iff, Bool.not_true, Bool.not_false, gt_iff_lt, ge_iff_le, Int.not_lt, Int.not_le, Decidable.not_not, beq_self_eq_true, bne_self_eq_false] at c6
              refine aw_region fun K17 hK17 => ?_
              refine awl_step (step_u rfl (stepU_eql rfl (ev_tmp rfl) (ev_int _ _))) rfl rfl ?_
              refine awl_step (step_u rfl (stepU_assign rfl (ev_tmp rfl))) rfl rfl ?_
              refine awl_nil (hK17 _ _ ?_)
              clear hK17 K17
              refine aw_cond (by first | exact ev_tmp rfl | exact ev_bool _) (fun c7 => ?_) (fun c7 => ?_)
              · have r7 := c7
                try simp only [beq_iff_eq, bne_iff_ne, ne_eq, beq_eq_false_iff_ne, bne_eq_false_iff_eq, decide_eq_true_eq, decide_eq_false_iff_not, Bool.and_eq_true, Bool.or_eq_true, Bool.not_eq_true', Bool.not_eq_false', Bool.and_eq_false_iff, Bool.or_eq_false_iff, Bool.not_true, Bool.not_false, gt_iff_lt, ge_iff_le, Int.not_lt, Int.not_le, Decidable.not_not, beq_self_eq_true, bne_self_eq_false] at c7
                refine aw_skip ?_
                refine hK12 _ _ ?_
                clear hK12
                refine aw_condT (ev_tmp rfl) r7 ?_
                refine aw_region fun K18 hK18 => ?_
                refine awl_step (step_u rfl (stepU_move rfl (ev_tmp rfl))) rfl rfl ?_
                refine awl_step (step_u rfl (stepU_eql rfl (ev_tmp rfl) (ev_int _ _))) rfl rfl ?_
                refine awl_step (step_u rfl (stepU_assign rfl (ev_tmp rfl))) rfl rfl ?_
                refine awl_nil (hK18 _ _ ?_)
                clear hK18 K18
                refine aw_ret ?_
                refine (hret _ _ _ _ _ rfl (.tmp rfl .nil) rfl ?_ .nil rfl).1
                (simp [misB, retD, *] <;> (try (rw [Bool.eq_iff_iff]; simp)))
              · have r7 := c7
                try simp only [beq_iff_eq, bne_iff_ne, ne_eq, beq_eq_false_iff_ne, bne_eq_false_iff_eq, decide_eq_true_eq, decide_eq_false_iff_not, Bool.and_eq_true, Bool.or_eq_true, Bool.not_eq_true', Bool.not_eq_false', Bool.and_eq_false_iff, Bool.or_eq_false_iff, Bool.not_true, Bool.not_false, gt_iff_lt, ge_iff_le, Int.not_lt, Int.not_le, Decidable.not_not, beq_self_eq_true, bne_self_eq_false] at c7
                refine aw_region fun K19 hK19 => ?_
                refine awl_step (step_u rfl (stepU_eql rfl (ev_tmp rfl) (ev_int _ _))) rfl rfl ?_
                refine awl_step (step_u rfl (stepU_assign rfl (ev_tmp rfl))) rfl rfl ?_
                refine awl_nil (hK19 _ _ ?_)
                clear hK19 K19
                refine aw_cond (by first | exact ev_tmp rfl | exact ev_bool _) (fun c8 => ?_) (fun c8 => ?_)
                · have r8 := c8
                  try simp only [beq_iff_eq, bne_iff_ne, ne_eq, beq_eq_false_iff_ne, bne_eq_false_iff_eq, decide_eq_true_eq, decide_eq_false_iff_not, Bool.and_eq_true, Bool.or_eq_true, Bool.not_eq_true', Bool.not_eq_false', Bool.and_eq_false_iff, Bool.or_eq_false_iff, Bool.not_true, Bool.not_false, gt_iff_lt, ge_iff_le, Int.not_lt, Int.not_le, Decidable.not_not, beq_self_eq_true, bne_self_eq_false] at c8
                  refine aw_skip ?_
                  refine hK12 _ _ ?_
                  clear hK12
                  refine aw_condT (ev_tmp rfl) r8 ?_
                  refine aw_region fun K20 hK20 => ?_
                  refine awl_step (step_u rfl (stepU_move rfl (ev_tmp rfl))) rfl rfl ?_
                  refine awl_step (step_u rfl (stepU_eql rfl (ev_tmp rfl) (ev_int _ _))) rfl rfl ?_
                  refine awl_step (step_u rfl (stepU_assign rfl (ev_tmp rfl))) rfl rfl ?_
                  refine awl_nil (hK20 _ _ ?_)
                  clear hK20 K20
                  refine aw_ret ?_
                  refine (hret _ _ _ _ _ rfl (.tmp rfl .nil) rfl ?_ .nil rfl).1
                  (simp [misB, retD, *] <;> (try (rw [Bool.eq_iff_iff]; simp)))
                · have r8 := c8
                  try simp only [beq_iff_eq, bne_iff_ne, ne_eq, beq_eq_false_iff_ne, bne_eq_false_iff_eq, decide_eq_true_eq, decide_eq_false_iff_not, Bool.and_eq_true, Bool.or_eq_true, Bool.not_eq_true', Bool.not_eq_false', Bool.and_eq_false_iff, Bool.or_eq_false_iff, Bool.not_true, Bool.not_false, gt_iff_lt, ge_iff_le, Int.not_lt, Int.not_le, Decidable.not_not, beq_self_eq_true, bne_self_eq_false] at c8
                  refine aw_region_last ?_
                  refine awl_step (step_u rfl (stepU_eql rfl (ev_tmp rfl) (ev_int _ _))) rfl rfl ?_
                  refine awl_step (step_u rfl (stepU_assign rfl (ev_tmp rfl))) rfl rfl ?_
                  refine awl_nil ?_
                  refine hK12 _ _ ?_
                  clear hK12
                  refine aw_cond (by first | exact ev_tmp rfl | exact ev_bool _) (fun c9 => ?_) (fun c9 => ?_)
                  · have r9 := c9
                    try simp only [beq_iff_eq, bne_iff_ne, ne_eq, beq_eq_false_iff_ne, bne_eq_false_iff_eq, decide_eq_true_eq, decide_eq_false_iff_not, Bool.and_eq_true, Bool.or_eq_true, Bool.not_eq_true', Bool.not_eq_false', Bool.and_eq_false_iff, Bool.or_eq_false_iff, Bool.not_true, Bool.not_false, gt_iff_lt, ge_iff_le, Int.not_lt, Int.not_le, Decidable.not_not, beq_self_eq_true, bne_self_eq_false] at c9
                    refine aw_region fun K21 hK21 => ?_
                    refine awl_step (step_u rfl (stepU_move rfl (ev_tmp rfl))) rfl rfl ?_
                    refine awl_step (step_u rfl (stepU_eql rfl (ev_tmp rfl) (ev_int _ _))) rfl rfl ?_
                    refine awl_step (step_u rfl (stepU_assign rfl (ev_tmp rfl))) rfl rfl ?_
                    refine awl_nil (hK21 _ _ ?_)
                    clear hK21 K21
                    refine aw_ret ?_
                    refine (hret _ _ _ _ _ rfl (.tmp rfl .nil) rfl ?_ .nil rfl).1
                    (simp [misB, retD, *] <;> (try (rw [Bool.eq_iff_iff]; simp)))
                  · have r9 := c9
                    try simp only [beq_iff_eq, bne_iff_ne, ne_eq, beq_eq_false_iff_ne, bne_eq_false_iff_eq, decide_eq_true_eq, decide_eq_false_iff_not, Bool.and_eq_true, Bool.or_eq_true, Bool.not_eq_true', Bool.not_eq_false', Bool.and_eq_false_iff, Bool.or_eq_false_iff, Bool.not_true, Bool.not_false, gt_iff_lt, ge_iff_le, Int.not_lt, Int.not_le, Decidable.not_not, beq_self_eq_true, bne_self_eq_false] at c9
                    refine aw_skip ?_
                    refine hK2 _ _ ?_
                    clear hK2
                    refine aw_region fun K22 hK22 => ?_
                    refine awl_step (step_u rfl (stepU_assign rfl (ev_bool _))) rfl rfl ?_
                    refine awl_nil (hK22 _ _ ?_)
                    clear hK22 K22
                    refine aw_ret ?_
                    refine (hret _ _ _ _ _ rfl (.tmp rfl .nil) rfl ?_ .nil rfl).1
                    (simp [misB, retD, *] <;> (try (rw [Bool.eq_iff_iff]; simp)))
theorem con_whole {c : Int} : Con Try.prog 26 [.v (.int .i64 c)] [] 0 (.ret (.agg (Flt.whole c).cs)) [] := by
  refine con_of Try.func26 rfl (by show _ ≤ 5; simp) fun X Q hP hnt hnp hret hpan => ?_
  obtain ⟨P0, nt0, w0, K0, S0, np0, pin0⟩ := X
  simp only at hP hnt hnp
  subst hP hnp
  obtain rfl : nt0 = 5 := hnt
  refine aw_region fun K1 hK1 => ?_
  refine awl_step (step_u rfl (stepU_alloc rfl 0 (Nat.le_of_ble_eq_true rfl) zc_33 zl_33)) rfl rfl ?_
  refine awl_nil (hK1 _ _ ?_)
  clear hK1 K1
  refine aw_region fun K2 hK2 => ?_
  refine awl_step (step_u rfl (stepU_move rfl (ev_tmp rfl))) rfl rfl ?_
  refine awl_step (step_u rfl (stepU_build rfl pl_33 zc_33 zl_33 rfl (.cons rfl (by first | exact ev_bool _ | exact ev_nil (ev_bool _)) rfl ⟨rfl, Nat.le_of_ble_eq_true rfl⟩ (.cons rfl (by first | exact ev_tmp rfl | exact ev_nil (ev_tmp rfl)) rfl ⟨rfl, Nat.le_of_ble_eq_true rfl⟩ .nil)) (by first | (simp only [rd, splice, fillD, D.cells, List.drop_succ_cons, List.drop_zero, List.take_succ_cons, List.take_zero, List.headD_cons, List.cons_append, List.nil_append, List.append_nil, List.length_cons, List.length_nil, Nat.reduceAdd, Nat.zero_add, Nat.add_zero, Bool.false_eq_true, if_true, if_false, reduceIte, List.map_cons, List.map_nil, List.drop_nil, List.take_nil, List.replicate] <;> rfl) | rfl))) rfl rfl ?_
  refine awl_step (step_u rfl (stepU_store rfl (ev_tmp rfl) (by first | exact ev_tmp rfl | exact ev_nil (ev_tmp rfl)) rfl rfl sz_33 ⟨rfl, by first | exact Nat.le_of_ble_eq_true rfl | simp⟩ (by first | (simp only [rd, splice, fillD, D.cells, List.drop_succ_cons, List.drop_zero, List.take_succ_cons, List.take_zero, List.headD_cons, List.cons_append, List.nil_append, List.append_nil, List.length_cons, List.length_nil, Nat.reduceAdd, Nat.zero_add, Nat.add_zero, Bool.false_eq_true, if_true, if_false, reduceIte, List.map_cons, List.map_nil, List.drop_nil, List.take_nil, List.replicate] <;> rfl) | rfl))) rfl rfl ?_
  refine awl_nil (hK2 _ _ ?_)
  clear hK2 K2
  refine aw_ret ?_
  refine (hret _ _ _ _ _ rfl (.cell rfl rfl sz_33 ⟨.inl rfl, by first | exact Nat.le_of_ble_eq_true rfl | simp []⟩ (by first | (simp only [rd, splice, fillD, D.cells, List.drop_succ_cons, List.drop_zero, List.take_succ_cons, List.take_zero, List.headD_cons, List.cons_append, List.nil_append, List.append_nil, List.length_cons, List.length_nil, Nat.reduceAdd, Nat.zero_add, Nat.add_zero, Bool.false_eq_true, if_true, if_false, reduceIte, List.map_cons, List.map_nil, List.drop_nil, List.take_nil, List.replicate] <;> rfl) | rfl) .nil) rfl ?_ .nil rfl).1
  first | rfl | (simp; done)
theorem con_number {l : List UInt8} {p : Int} (h0 : 0 ≤ p) (h : p ≤ 9223372036854775807) (hl : p.toNat + 4 ≤ l.length) : Con Try.prog 27 [.v (.sl (bs l)), .v (.int .i64 p)] [] 0 (.ret (.v (.int .i64 (at4 l p.toNat)))) [] := by
  have e : takeV l p 4 = at4 l p.toNat := by
    unfold takeV at4; rw [if_neg (by omega)]; rfl
  have hb : 0 ≤ at4 l p.toNat ∧ at4 l p.toNat ≤ 4294967295 := by
    have := beN_small (l.drop p.toNat) 4 4 (by decide)
    unfold at4; omega
  refine con_of Try.func27 rfl (by show _ ≤ 15; simp) fun X Q hP hnt hnp hret hpan => ?_
  obtain ⟨P0, nt0, w0, K0, S0, np0, pin0⟩ := X
  simp only at hP hnt hnp
  subst hP hnp
  obtain rfl : nt0 = 15 := hnt
  refine aw_region fun K1 hK1 => ?_
  refine awl_step (step_u rfl (stepU_assign rfl (ev_int _ _))) rfl rfl ?_
  refine awl_nil (hK1 _ _ ?_)
  clear hK1 K1
  refine aw_region fun K2 hK2 => ?_
  refine awl_step (step_u rfl (stepU_move rfl (ev_tmp rfl))) rfl rfl ?_
  refine awl_step (step_u rfl (stepU_move rfl (ev_tmp rfl))) rfl rfl ?_
  refine awl_step (step_u rfl (stepU_call0 rfl en_25 (con_take (by omega)) (.cons (ev_tmp rfl) (.cons (ev_tmp rfl) (.cons (ev_int _ _) .nil))) rfl rfl)) rfl rfl ?_
  refine awl_step (step_u rfl (stepU_move rfl (ev_tmp rfl))) rfl rfl ?_
  refine awl_step (step_u rfl (stepU_extract rfl (ev_tmp rfl) rfl)) rfl rfl ?_
  refine awl_step (step_u rfl (stepU_extract rfl (ev_tmp rfl) rfl)) rfl rfl ?_
  refine awl_step (step_u rfl (stepU_assign rfl (ev_tmp rfl))) rfl rfl ?_
  refine awl_step (step_u rfl (stepU_assign rfl (ev_tmp rfl))) rfl rfl ?_
  refine awl_nil (hK2 _ _ ?_)
  clear hK2 K2
  refine aw_region fun K3 hK3 => ?_
  refine awl_step (step_u rfl (stepU_move rfl (ev_tmp rfl))) rfl rfl ?_
  refine awl_step (step_u rfl (stepU_conv rfl Try.underlying2 ⟨_, Try.underlying44⟩ (ev_tmp rfl) (by first | assumption | exact wrap_byte _ | exact i64_wrap (by omega) (by omega) | exact u8_wrap (by omega) (by omega) | exact u32_wrap (by omega) (by omega) | exact u16_wrap (by omega) (by omega) | rfl))) rfl rfl ?_
  refine awl_step (step_u rfl (stepU_assign rfl (ev_tmp rfl))) rfl rfl ?_
  refine awl_nil (hK3 _ _ ?_)
  clear hK3 K3
  refine aw_ret ?_
  refine (hret _ _ _ _ _ rfl (.tmp rfl .nil) rfl ?_ .nil rfl).1
  simp [retD, e]
theorem flags (fl : Int) (h0 : 0 ≤ fl) (h1 : fl ≤ 255) : IntKind.i64.wrap ((BitVec.ofInt IntKind.i64.bits fl &&& BitVec.ofInt IntKind.i64.bits 8).toNat) = (if bitB fl 8 then 8 else 0) ∧
    IntKind.i64.wrap ((BitVec.ofInt IntKind.i64.bits fl &&& BitVec.ofInt IntKind.i64.bits 32).toNat) = (if bitB fl 32 then 32 else 0) ∧ IntKind.i64.wrap ((BitVec.ofInt IntKind.i64.bits fl &&& BitVec.ofInt IntKind.i64.bits 1).toNat) = (if bitB fl 1 then 1 else 0) := by
  have := bit_of fl h0 h1
  exact this
theorem con_ahead {k fl : Int} (h : 0 ≤ fl) (h2 : fl ≤ 255) : Con Try.prog 43 [.v (.int .i64 k), .v (.int .i64 fl)] [] 0 (.ret (.v (.int .i64 (aheadM k fl)))) [] := by
  obtain ⟨e8, e32, _⟩ := flags fl h h2
  refine con_of Try.func43 rfl (by show _ ≤ 21; simp) fun X Q hP hnt hnp hret hpan => ?_
  obtain ⟨P0, nt0, w0, K0, S0, np0, pin0⟩ := X
  simp only at hP hnt hnp
  subst hP hnp
  obtain rfl : nt0 = 21 := hnt
  refine aw_region fun K1 hK1 => ?_
  refine awl_step (step_u rfl (stepU_assign rfl (ev_int _ _))) rfl rfl ?_
  refine awl_nil (hK1 _ _ ?_)
  clear hK1 K1
  refine aw_region fun K2 hK2 => ?_
  refine awl_step (step_u rfl (stepU_assign rfl (ev_int _ _))) rfl rfl ?_
  refine awl_nil (hK2 _ _ ?_)
  clear hK2 K2
  refine aw_seq fun K3 hK3 => ?_
  refine aw_region fun K4 hK4 => ?_
  refine awl_step (step_u rfl (stepU_move rfl (ev_tmp rfl))) rfl rfl ?_
  refine awl_step (step_u rfl (stepU_band rfl (ev_tmp rfl) (ev_int _ _) (by first | assumption | rfl))) rfl rfl ?_
  refine awl_step (step_u rfl (stepU_neq rfl (ev_tmp rfl) (ev_int _ _))) rfl rfl ?_
  refine awl_nil (hK4 _ _ ?_)
  clear hK4 K4
  refine aw_cond (by first | exact ev_tmp rfl | exact ev_bool _) (fun c1 => ?_) (fun c1 => ?_)
  · have r1 := c1
    simp at c1
    refine aw_region_last ?_
    refine awl_step (step_u rfl (stepU_move rfl (ev_tmp rfl))) rfl rfl ?_
    refine awl_step (step_u rfl (stepU_add rfl (ev_tmp rfl) (ev_int _ _) (by first | assumption | exact wrap_byte _ | exact i64_wrap (by omega) (by omega) | exact u8_wrap (by omega) (by omega) | exact u32_wrap (by omega) (by omega) | exact u16_wrap (by omega) (by omega) | rfl))) rfl rfl ?_
    refine awl_step (step_u rfl (stepU_assign rfl (ev_tmp rfl))) rfl rfl ?_
    refine awl_nil ?_
    refine hK3 _ _ ?_
    clear hK3
    refine aw_seq fun K5 hK5 => ?_
    refine aw_region fun K6 hK6 => ?_
    refine awl_step (step_u rfl (stepU_move rfl (ev_tmp rfl))) rfl rfl ?_
    refine awl_step (step_u rfl (stepU_eql rfl (ev_tmp rfl) (ev_int _ _))) rfl rfl ?_
    refine awl_step (step_u rfl (stepU_move rfl (ev_tmp rfl))) rfl rfl ?_
    refine awl_step (step_if rfl rfl (ev_tmp rfl) (fun hg => stepU_move rfl ((by first | exact ev_cond (ev_tmp rfl) (by assumption) | exact ev_cond (ev_tmp rfl) (by simp_all) | exact ev_tmp rfl)))) rfl rfl ?_
    refine awl_step (step_if rfl rfl (ev_tmp rfl) (fun hg => stepU_band rfl ((by first | exact ev_cond (ev_tmp rfl) (by assumption) | exact ev_cond (ev_tmp rfl) (by simp_all) | exact ev_tmp rfl)) (ev_int _ _) (by first | assumption | rfl))) rfl rfl ?_
    refine awl_step (step_if rfl rfl (ev_tmp rfl) (fun hg => stepU_neq rfl ((by first | exact ev_cond (ev_tmp rfl) (by assumption) | exact ev_cond (ev_tmp rfl) (by simp_all) | exact ev_tmp rfl)) (ev_int _ _))) rfl rfl ?_
    refine awl_step (step_u rfl (stepU_and rfl (by first | exact ev_cond (ev_tmp rfl) (by assumption) | exact ev_cond (ev_tmp rfl) (by simp_all) | exact ev_tmp rfl) (fun hh => (by first | exact ev_tmp rfl | exact ev_bool _ | exact ev_condT (ev_tmp rfl) hh | exact ev_cond (ev_tmp rfl) (by simp_all))) (ev_bool _))) rfl rfl ?_
    refine awl_nil (hK6 _ _ ?_)
    clear hK6 K6
    refine aw_cond (by first | exact ev_tmp rfl | exact ev_bool _) (fun c2 => ?_) (fun c2 => ?_)
    · have r2 := c2
      simp at c2
      refine aw_region_last ?_
      refine awl_step (step_u rfl (stepU_move rfl (ev_tmp rfl))) rfl rfl ?_
      refine awl_step (step_u rfl (stepU_add rfl (ev_tmp rfl) (ev_int _ _) (by first | assumption | exact wrap_byte _ | exact i64_wrap (by omega) (by omega) | exact u8_wrap (by omega) (by omega) | exact u32_wrap (by omega) (by omega) | exact u16_wrap (by omega) (by omega) | rfl))) rfl rfl ?_
      refine awl_step (step_u rfl (stepU_assign rfl (ev_tmp rfl))) rfl rfl ?_
      refine awl_nil ?_
      refine hK5 _ _ ?_
      clear hK5
      refine aw_region fun K7 hK7 => ?_
      refine awl_step (step_u rfl (stepU_move rfl (ev_tmp rfl))) rfl rfl ?_
      refine awl_step (step_u rfl (stepU_assign rfl (ev_tmp rfl))) rfl rfl ?_
      refine awl_nil (hK7 _ _ ?_)
      clear hK7 K7
      refine aw_ret ?_
      refine (hret _ _ _ _ _ rfl (.tmp rfl .nil) rfl ?_ .nil rfl).1
      revert r1; cases h8 : bitB fl 8 <;> cases h32 : bitB fl 32 <;> by_cases hk : k = 1 <;> simp_all [aheadM, retD]
    · have r2 := c2
      simp at c2
      refine aw_skip ?_
      refine hK5 _ _ ?_
      clear hK5
      refine aw_region fun K8 hK8 => ?_
      refine awl_step (step_u rfl (stepU_move rfl (ev_tmp rfl))) rfl rfl ?_
      refine awl_step (step_u rfl (stepU_assign rfl (ev_tmp rfl))) rfl rfl ?_
      refine awl_nil (hK8 _ _ ?_)
      clear hK8 K8
      refine aw_ret ?_
      refine (hret _ _ _ _ _ rfl (.tmp rfl .nil) rfl ?_ .nil rfl).1
      revert r1; cases h8 : bitB fl 8 <;> cases h32 : bitB fl 32 <;> by_cases hk : k = 1 <;> simp_all [aheadM, retD]
  · have r1 := c1
    simp at c1
    refine aw_skip ?_
    refine hK3 _ _ ?_
    clear hK3
    refine aw_seq fun K9 hK9 => ?_
    refine aw_region fun K10 hK10 => ?_
    refine awl_step (step_u rfl (stepU_move rfl (ev_tmp rfl))) rfl rfl ?_
    refine awl_step (step_u rfl (stepU_eql rfl (ev_tmp rfl) (ev_int _ _))) rfl rfl ?_
    refine awl_step (step_u rfl (stepU_move rfl (ev_tmp rfl))) rfl rfl ?_
    refine awl_step (step_if rfl rfl (ev_tmp rfl) (fun hg => stepU_move rfl ((by first | exact ev_cond (ev_tmp rfl) (by assumption) | exact ev_cond (ev_tmp rfl) (by simp_all) | exact ev_tmp rfl)))) rfl rfl ?_
    refine awl_step (step_if rfl rfl (ev_tmp rfl) (fun hg => stepU_band rfl ((by first | exact ev_cond (ev_tmp rfl) (by assumption) | exact ev_cond (ev_tmp rfl) (by simp_all) | exact ev_tmp rfl)) (ev_int _ _) (by first | assumption | rfl))) rfl rfl ?_
    refine awl_step (step_if rfl rfl (ev_tmp rfl) (fun hg => stepU_neq rfl ((by first | exact ev_cond (ev_tmp rfl) (by assumption) | exact ev_cond (ev_tmp rfl) (by simp_all) | exact ev_tmp rfl)) (ev_int _ _))) rfl rfl ?_
    refine awl_step (step_u rfl (stepU_and rfl (by first | exact ev_cond (ev_tmp rfl) (by assumption) | exact ev_cond (ev_tmp rfl) (by simp_all) | exact ev_tmp rfl) (fun hh => (by first | exact ev_tmp rfl | exact ev_bool _ | exact ev_condT (ev_tmp rfl) hh | exact ev_cond (ev_tmp rfl) (by simp_all))) (ev_bool _))) rfl rfl ?_
    refine awl_nil (hK10 _ _ ?_)
    clear hK10 K10
    refine aw_cond (by first | exact ev_tmp rfl | exact ev_bool _) (fun c3 => ?_) (fun c3 => ?_)
    · have r3 := c3
      simp at c3
      refine aw_region_last ?_
      refine awl_step (step_u rfl (stepU_move rfl (ev_tmp rfl))) rfl rfl ?_
      refine awl_step (step_u rfl (stepU_add rfl (ev_tmp rfl) (ev_int _ _) (by first | assumption | exact wrap_byte _ | exact i64_wrap (by omega) (by omega) | exact u8_wrap (by omega) (by omega) | exact u32_wrap (by omega) (by omega) | exact u16_wrap (by omega) (by omega) | rfl))) rfl rfl ?_
      refine awl_step (step_u rfl (stepU_assign rfl (ev_tmp rfl))) rfl rfl ?_
      refine awl_nil ?_
      refine hK9 _ _ ?_
      clear hK9
      refine aw_region fun K11 hK11 => ?_
      refine awl_step (step_u rfl (stepU_move rfl (ev_tmp rfl))) rfl rfl ?_
      refine awl_step (step_u rfl (stepU_assign rfl (ev_tmp rfl))) rfl rfl ?_
      refine awl_nil (hK11 _ _ ?_)
      clear hK11 K11
      refine aw_ret ?_
      refine (hret _ _ _ _ _ rfl (.tmp rfl .nil) rfl ?_ .nil rfl).1
      revert r1; cases h8 : bitB fl 8 <;> cases h32 : bitB fl 32 <;> by_cases hk : k = 1 <;> simp_all [aheadM, retD]
    · have r3 := c3
      simp at c3
      refine aw_skip ?_
      refine hK9 _ _ ?_
      clear hK9
      refine aw_region fun K12 hK12 => ?_
      refine awl_step (step_u rfl (stepU_move rfl (ev_tmp rfl))) rfl rfl ?_
      refine awl_step (step_u rfl (stepU_assign rfl (ev_tmp rfl))) rfl rfl ?_
      refine awl_nil (hK12 _ _ ?_)
      clear hK12 K12
      refine aw_ret ?_
      refine (hret _ _ _ _ _ rfl (.tmp rfl .nil) rfl ?_ .nil rfl).1
      revert r1; cases h8 : bitB fl 8 <;> cases h32 : bitB fl 32 <;> by_cases hk : k = 1 <;> simp_all [aheadM, retD]
theorem low_of (n : Int) (h0 : 0 ≤ n) (h : n ≤ 4294967295) : IntKind.i64.wrap ((BitVec.ofInt IntKind.i64.bits n &&& BitVec.ofInt IntKind.i64.bits 2147483647).toNat) = lowM n := by
  obtain ⟨k, rfl⟩ := Int.eq_ofNat_of_zero_le h0
  have e : (BitVec.ofInt IntKind.i64.bits (k : Int) &&& BitVec.ofInt IntKind.i64.bits 2147483647).toNat = k % 2147483648 := by
    have h1 : BitVec.ofInt 64 (k : Int) = BitVec.ofNat 64 k := by rw [BitVec.ofInt_natCast]
    show (BitVec.ofInt 64 (k : Int) &&& BitVec.ofInt 64 2147483647).toNat = _
    rw [h1, BitVec.toNat_and]
    have h2 : (BitVec.ofInt 64 2147483647).toNat = 2 ^ 31 - 1 := by decide
    rw [h2, Nat.and_two_pow_sub_one_eq_mod]
    first | (simp; done) | (simp; omega)
  rw [e, i64_wrap (by omega) (by omega)]
  unfold lowM; omega
theorem at4_le (l : List UInt8) (k : Nat) : 0 ≤ at4 l k ∧ at4 l k ≤ 4294967295 := by
  have := beN_small (l.drop k) 4 4 (by decide)
  unfold at4; omega
theorem con_place {f : Fr} {x : V} {l : List UInt8} (hl : 5 ≤ l.length) : Con Try.prog 44 [.ptr 0 0, .v (.sl (bs l))] [(0, .box (f.csX (.v x)))] 1 (.ret (.tup [])) [(0, .box ((placeM f l).csX (.v x)))] := by
  have hi : (bs l)[4]? = some [V.int .u8 ((l.getD 4 0).toNat : Int)] := bs_get (by rw [List.getD_eq_getElem?_getD, List.getElem?_eq_getElem (by omega)]; rfl)
  have hlow := low_of (at4 l (Int.toNat 0)) (at4_le _ _).1 (at4_le _ _).2
  refine con_of Try.func44 rfl (by show _ ≤ 24; simp) fun X Q hP hnt hnp hret hpan => ?_
  obtain ⟨P0, nt0, w0, K0, S0, np0, pin0⟩ := X
  simp only at hP hnt hnp
  subst hP hnp
  obtain rfl : nt0 = 24 := hnt
  refine aw_region fun K1 hK1 => ?_
  refine awl_step (step_u rfl (stepU_move rfl (ev_tmp rfl))) rfl rfl ?_
  refine awl_step (step_u rfl (stepU_call0 rfl en_27 (con_number (by decide) (by decide) (by simp; omega)) (.cons (ev_tmp rfl) (.cons (ev_int _ _) .nil)) rfl rfl)) rfl rfl ?_
  refine awl_step (step_u rfl (stepU_assign rfl (ev_tmp rfl))) rfl rfl ?_
  refine awl_nil (hK1 _ _ ?_)
  clear hK1 K1
  refine aw_region_last ?_
  refine awl_step (step_u rfl (stepU_move rfl (ev_tmp rfl))) rfl rfl ?_
  refine awl_step (step_u rfl (stepU_move rfl (ev_tmp rfl))) rfl rfl ?_
  refine awl_step (step_u rfl (stepU_move rfl (ev_tmp rfl))) rfl rfl ?_
  refine awl_step (step_u rfl (stepU_move rfl (ev_tmp rfl))) rfl rfl ?_
  refine awl_step (step_u rfl (stepU_gtr rfl (ev_tmp rfl) (ev_int _ _))) rfl rfl ?_
  refine awl_step (step_u rfl (stepU_move rfl (ev_tmp rfl))) rfl rfl ?_
  refine awl_step (step_u rfl (stepU_band rfl (ev_tmp rfl) (ev_int _ _) (by first | assumption | rfl))) rfl rfl ?_
  refine awl_step (step_u rfl (stepU_move rfl (ev_tmp rfl))) rfl rfl ?_
  refine awl_step (step_u rfl (stepU_indexAddr rfl Try.underlying27 sz_5 (by first | exact ev_tmp rfl | exact ev_nil (ev_tmp rfl)) (ev_int _ _) rfl (by assumption) (by first | rfl | (simp; done)))) rfl rfl ?_
  refine awl_step (step_u rfl (stepU_loadRef rfl (ev_tmp rfl) sz_5 ⟨.inr rfl, by first | exact Nat.le_of_ble_eq_true rfl | simp⟩ (by first | (simp only [rd, splice, fillD, D.cells, List.drop_succ_cons, List.drop_zero, List.take_succ_cons, List.take_zero, List.headD_cons, List.cons_append, List.nil_append, List.append_nil, List.length_cons, List.length_nil, Nat.reduceAdd, Nat.zero_add, Nat.add_zero, Bool.false_eq_true, if_true, if_false, reduceIte, List.map_cons, List.map_nil, List.drop_nil, List.take_nil, List.replicate, Fr.csX] <;> rfl) | rfl))) rfl rfl ?_
  refine awl_step (step_u rfl (stepU_conv rfl Try.underlying3 ⟨_, Try.underlying5⟩ (ev_tmp rfl) (by first | assumption | exact wrap_byte _ | exact i64_wrap (by omega) (by omega) | exact u8_wrap (by omega) (by omega) | exact u32_wrap (by omega) (by omega) | exact u16_wrap (by omega) (by omega) | rfl))) rfl rfl ?_
  refine awl_step (step_u rfl (stepU_nilCheck rfl (ev_tmp rfl))) rfl rfl ?_
  refine awl_step (step_u rfl (stepU_fieldAddr rfl (ev_tmp rfl) fo_24_11)) rfl rfl ?_
  refine awl_step (step_u rfl (stepU_store rfl (ev_tmp rfl) (by first | exact ev_tmp rfl | exact ev_nil (ev_tmp rfl)) rfl rfl sz_4 ⟨rfl, by first | exact Nat.le_of_ble_eq_true rfl | simp⟩ (by first | (simp only [rd, splice, fillD, D.cells, List.drop_succ_cons, List.drop_zero, List.take_succ_cons, List.take_zero, List.headD_cons, List.cons_append, List.nil_append, List.append_nil, List.length_cons, List.length_nil, Nat.reduceAdd, Nat.zero_add, Nat.add_zero, Bool.false_eq_true, if_true, if_false, reduceIte, List.map_cons, List.map_nil, List.drop_nil, List.take_nil, List.replicate, Fr.csX] <;> rfl) | rfl))) rfl rfl ?_
  refine awl_step (step_u rfl (stepU_nilCheck rfl (ev_tmp rfl))) rfl rfl ?_
  refine awl_step (step_u rfl (stepU_fieldAddr rfl (ev_tmp rfl) fo_24_9)) rfl rfl ?_
  refine awl_step (step_u rfl (stepU_store rfl (ev_tmp rfl) (by first | exact ev_tmp rfl | exact ev_nil (ev_tmp rfl)) rfl rfl sz_3 ⟨rfl, by first | exact Nat.le_of_ble_eq_true rfl | simp⟩ (by first | (simp only [rd, splice, fillD, D.cells, List.drop_succ_cons, List.drop_zero, List.take_succ_cons, List.take_zero, List.headD_cons, List.cons_append, List.nil_append, List.append_nil, List.length_cons, List.length_nil, Nat.reduceAdd, Nat.zero_add, Nat.add_zero, Bool.false_eq_true, if_true, if_false, reduceIte, List.map_cons, List.map_nil, List.drop_nil, List.take_nil, List.replicate, Fr.csX] <;> rfl) | rfl))) rfl rfl ?_
  refine awl_step (step_u rfl (stepU_nilCheck rfl (ev_tmp rfl))) rfl rfl ?_
  refine awl_step (step_u rfl (stepU_fieldAddr rfl (ev_tmp rfl) fo_24_10)) rfl rfl ?_
  refine awl_step (step_u rfl (stepU_store rfl (ev_tmp rfl) (by first | exact ev_tmp rfl | exact ev_nil (ev_tmp rfl)) rfl rfl sz_3 ⟨rfl, by first | exact Nat.le_of_ble_eq_true rfl | simp⟩ (by first | (simp only [rd, splice, fillD, D.cells, List.drop_succ_cons, List.drop_zero, List.take_succ_cons, List.take_zero, List.headD_cons, List.cons_append, List.nil_append, List.append_nil, List.length_cons, List.length_nil, Nat.reduceAdd, Nat.zero_add, Nat.add_zero, Bool.false_eq_true, if_true, if_false, reduceIte, List.map_cons, List.map_nil, List.drop_nil, List.take_nil, List.replicate, Fr.csX] <;> rfl) | rfl))) rfl rfl ?_
  refine awl_nil ?_
  refine (hret _ _ _ _ _ rfl .nil rfl ?_ (.box' rfl (by simp [Fr.csX, placeM]) rfl .nil) rfl).2
  first | rfl | (simp; done)
theorem con_missized {k fl n : Int} (h : 0 ≤ fl) (h2 : fl ≤ 255) (h3 : 0 ≤ n) : Con Try.prog 29 [.v (.int .i64 k), .v (.int .i64 fl), .v (.int .i64 n)] [] 0 (.ret (.v (.bool (missB k fl n)))) [] := by
  obtain ⟨e8, e32, e1⟩ := flags fl h h2
  have e6 : n.tmod 6 = n % 6 := Int.tmod_eq_emod_of_nonneg h3
  refine con_of Try.func29 rfl (by show _ ≤ 46; simp) fun X Q hP hnt hnp hret hpan => ?_
  obtain ⟨P0, nt0, w0, K0, S0, np0, pin0⟩ := X
  simp only at hP hnt hnp
  subst hP hnp
  obtain rfl : nt0 = 46 := hnt
  refine aw_region fun K1 hK1 => ?_
  refine awl_step (step_u rfl (stepU_assign rfl (ev_bool _))) rfl rfl ?_
  refine awl_nil (hK1 _ _ ?_)
  clear hK1 K1
  refine aw_region fun K2 hK2 => ?_
  refine awl_step (step_u rfl (stepU_build rfl pl_64 zc_64 zl_64 rfl (.cons rfl (by first | exact ev_int _ _ | exact ev_nil (ev_int _ _)) rfl ⟨rfl, Nat.le_of_ble_eq_true rfl⟩ (.cons rfl (by first | exact ev_int _ _ | exact ev_nil (ev_int _ _)) rfl ⟨rfl, Nat.le_of_ble_eq_true rfl⟩ (.cons rfl (by first | exact ev_int _ _ | exact ev_nil (ev_int _ _)) rfl ⟨rfl, Nat.le_of_ble_eq_true rfl⟩ (.cons rfl (by first | exact ev_int _ _ | exact ev_nil (ev_int _ _)) rfl ⟨rfl, Nat.le_of_ble_eq_true rfl⟩ .nil)))) (by first | (simp only [rd, splice, fillD, D.cells, List.drop_succ_cons, List.drop_zero, List.take_succ_cons, List.take_zero, List.headD_cons, List.cons_append, List.nil_append, List.append_nil, List.length_cons, List.length_nil, Nat.reduceAdd, Nat.zero_add, Nat.add_zero, Bool.false_eq_true, if_true, if_false, reduceIte, List.map_cons, List.map_nil, List.drop_nil, List.take_nil, List.replicate] <;> rfl) | rfl))) rfl rfl ?_
  refine awl_step (step_u rfl (stepU_alloc rfl 0 (Nat.le_of_ble_eq_true rfl) zc_64 zl_64)) rfl rfl ?_
  refine awl_step (step_u rfl (stepU_store rfl (ev_tmp rfl) (by first | exact ev_tmp rfl | exact ev_nil (ev_tmp rfl)) rfl rfl sz_64 ⟨rfl, by first | exact Nat.le_of_ble_eq_true rfl | simp⟩ (by first | (simp only [rd, splice, fillD, D.cells, List.drop_succ_cons, List.drop_zero, List.take_succ_cons, List.take_zero, List.headD_cons, List.cons_append, List.nil_append, List.append_nil, List.length_cons, List.length_nil, Nat.reduceAdd, Nat.zero_add, Nat.add_zero, Bool.false_eq_true, if_true, if_false, reduceIte, List.map_cons, List.map_nil, List.drop_nil, List.take_nil, List.replicate] <;> rfl) | rfl))) rfl rfl ?_
  refine awl_nil (hK2 _ _ ?_)
  clear hK2 K2
  refine aw_seq fun K3 hK3 => ?_
  refine aw_region fun K4 hK4 => ?_
  refine awl_step (step_u rfl (stepU_move rfl (ev_tmp rfl))) rfl rfl ?_
  refine awl_nil (hK4 _ _ ?_)
  clear hK4 K4
  refine aw_block ?_
  refine aw_seq fun K5 hK5 => ?_
  refine aw_region fun K6 hK6 => ?_
  refine awl_step (step_u rfl (stepU_eql rfl (ev_tmp rfl) (ev_int _ _))) rfl rfl ?_
  refine awl_step (step_u rfl (stepU_assign rfl (ev_tmp rfl))) rfl rfl ?_
  refine awl_nil (hK6 _ _ ?_)
  clear hK6 K6
  refine aw_cond (by first | exact ev_tmp rfl | exact ev_bool _) (fun c1 => ?_) (fun c1 => ?_)
  · have r1 := c1
    simp at c1
    refine aw_skip ?_
    refine hK5 _ _ ?_
    clear hK5
    refine aw_condT (ev_tmp rfl) r1 ?_
    refine aw_region fun K7 hK7 => ?_
    refine awl_step (step_u rfl (stepU_move rfl (ev_tmp rfl))) rfl rfl ?_
    refine awl_step (step_u rfl (stepU_move rfl (ev_tmp rfl))) rfl rfl ?_
    refine awl_step (step_u rfl (stepU_move rfl (ev_tmp rfl))) rfl rfl ?_
    refine awl_step (step_u rfl (stepU_call0 rfl en_43 (con_ahead h h2) (.cons (ev_tmp rfl) (.cons (ev_tmp rfl) .nil)) rfl rfl)) rfl rfl ?_
    refine awl_step (step_u rfl (stepU_lss rfl (ev_tmp rfl) (ev_tmp rfl))) rfl rfl ?_
    refine awl_step (step_u rfl (stepU_assign rfl (ev_tmp rfl))) rfl rfl ?_
    refine awl_nil (hK7 _ _ ?_)
    clear hK7 K7
    refine aw_ret ?_
    refine (hret _ _ _ _ _ rfl (.tmp rfl .nil) rfl ?_ .nil rfl).1
    (simp_all [missB, retD] <;> (try (rw [Bool.eq_iff_iff]; simp)))
  · have r1 := c1
    simp at c1
    refine aw_region_last ?_
    refine awl_step (step_u rfl (stepU_eql rfl (ev_tmp rfl) (ev_int _ _))) rfl rfl ?_
    refine awl_step (step_u rfl (stepU_assign rfl (ev_tmp rfl))) rfl rfl ?_
    refine awl_nil ?_
    refine hK5 _ _ ?_
    clear hK5
    refine aw_cond (by first | exact ev_tmp rfl | exact ev_bool _) (fun c2 => ?_) (fun c2 => ?_)
    · have r2 := c2
      simp at c2
      refine aw_region fun K8 hK8 => ?_
      refine awl_step (step_u rfl (stepU_move rfl (ev_tmp rfl))) rfl rfl ?_
      refine awl_step (step_u rfl (stepU_move rfl (ev_tmp rfl))) rfl rfl ?_
      refine awl_step (step_u rfl (stepU_move rfl (ev_tmp rfl))) rfl rfl ?_
      refine awl_step (step_u rfl (stepU_call0 rfl en_43 (con_ahead h h2) (.cons (ev_tmp rfl) (.cons (ev_tmp rfl) .nil)) rfl rfl)) rfl rfl ?_
      refine awl_step (step_u rfl (stepU_lss rfl (ev_tmp rfl) (ev_tmp rfl))) rfl rfl ?_
      refine awl_step (step_u rfl (stepU_assign rfl (ev_tmp rfl))) rfl rfl ?_
      refine awl_nil (hK8 _ _ ?_)
      clear hK8 K8
      refine aw_ret ?_
      refine (hret _ _ _ _ _ rfl (.tmp rfl .nil) rfl ?_ .nil rfl).1
      (simp_all [missB, retD] <;> (try (rw [Bool.eq_iff_iff]; simp)))
    · have r2 := c2
      simp at c2
      refine aw_region fun K9 hK9 => ?_
      refine awl_step (step_u rfl (stepU_eql rfl (ev_tmp rfl) (ev_int _ _))) rfl rfl ?_
      refine awl_step (step_u rfl (stepU_assign rfl (ev_tmp rfl))) rfl rfl ?_
      refine awl_nil (hK9 _ _ ?_)
      clear hK9 K9
      refine aw_cond (by first | exact ev_tmp rfl | exact ev_bool _) (fun c3 => ?_) (fun c3 => ?_)
      · have r3 := c3
        simp at c3
        refine aw_region fun K10 hK10 => ?_
        refine awl_step (step_u rfl (stepU_move rfl (ev_tmp rfl))) rfl rfl ?_
        refine awl_step (step_u rfl (stepU_rem rfl (ev_tmp rfl) (ev_int _ _) (by omega) (by first | assumption | rfl))) rfl rfl ?_
        refine awl_step (step_u rfl (stepU_neq rfl (ev_tmp rfl) (ev_int _ _))) rfl rfl ?_
        refine awl_step (step_u rfl (stepU_move rfl (ev_tmp rfl))) rfl rfl ?_
        refine awl_step (step_if rfl rfl (ev_tmp rfl) (fun hg => stepU_move rfl ((by first | exact ev_cond (ev_tmp rfl) (by assumption) | exact ev_cond (ev_tmp rfl) (by simp_all) | exact ev_tmp rfl)))) rfl rfl ?_
        refine awl_step (step_if rfl rfl (ev_tmp rfl) (fun hg => stepU_band rfl ((by first | exact ev_cond (ev_tmp rfl) (by assumption) | exact ev_cond (ev_tmp rfl) (by simp_all) | exact ev_tmp rfl)) (ev_int _ _) (by first | assumption | rfl))) rfl rfl ?_
        refine awl_step (step_if rfl rfl (ev_tmp rfl) (fun hg => stepU_neq rfl ((by first | exact ev_cond (ev_tmp rfl) (by assumption) | exact ev_cond (ev_tmp rfl) (by simp_all) | exact ev_tmp rfl)) (ev_int _ _))) rfl rfl ?_
        refine awl_step (step_if rfl rfl (ev_tmp rfl) (fun hg => stepU_move rfl ((by first | exact ev_cond (ev_tmp rfl) (by assumption) | exact ev_cond (ev_tmp rfl) (by simp_all) | exact ev_tmp rfl)))) rfl rfl ?_
        refine awl_step (step_if2 rfl rfl (ev_tmp rfl) (fun hg => stepU_move rfl ((by first | exact ev_cond (ev_tmp rfl) (by assumption) | exact ev_cond (ev_tmp rfl) (by simp_all) | exact ev_tmp rfl)))) rfl rfl ?_
        refine awl_step (step_if2 rfl rfl (ev_tmp rfl) (fun hg => stepU_neq rfl ((by first | exact ev_cond (ev_tmp rfl) (by assumption) | exact ev_cond (ev_tmp rfl) (by simp_all) | exact ev_tmp rfl)) (ev_int _ _))) rfl rfl ?_
        refine awl_step (step_if rfl rfl (ev_tmp rfl) (fun hg => stepU_and rfl (by first | exact ev_cond (ev_tmp rfl) (by assumption) | exact ev_cond (ev_tmp rfl) (by simp_all) | exact ev_tmp rfl) (fun hh => (by first | exact ev_tmp rfl | exact ev_bool _ | exact ev_condT (ev_tmp rfl) hh | exact ev_cond (ev_tmp rfl) (by simp_all))) (ev_bool _))) rfl rfl ?_
        refine awl_step (step_u rfl (stepU_or rfl (by first | exact ev_cond (ev_tmp rfl) (by assumption) | exact ev_cond (ev_tmp rfl) (by simp_all) | exact ev_tmp rfl) (ev_bool _) (fun hh => (by first | exact ev_tmp rfl | exact ev_bool _ | exact ev_condF (ev_tmp rfl) hh | exact ev_cond (ev_tmp rfl) (by simp_all))))) rfl rfl ?_
        refine awl_step (step_u rfl (stepU_assign rfl (ev_tmp rfl))) rfl rfl ?_
        refine awl_nil (hK10 _ _ ?_)
        clear hK10 K10
        refine aw_ret ?_
        refine (hret _ _ _ _ _ rfl (.tmp rfl .nil) rfl ?_ .nil rfl).1
        (simp_all [missB, retD] <;> (try (rw [Bool.eq_iff_iff]; simp)))
      · have r3 := c3
        simp at c3
        refine aw_region fun K11 hK11 => ?_
        refine awl_step (step_u rfl (stepU_eql rfl (ev_tmp rfl) (ev_int _ _))) rfl rfl ?_
        refine awl_step (step_u rfl (stepU_assign rfl (ev_tmp rfl))) rfl rfl ?_
        refine awl_nil (hK11 _ _ ?_)
        clear hK11 K11
        refine aw_cond (by first | exact ev_tmp rfl | exact ev_bool _) (fun c4 => ?_) (fun c4 => ?_)
        · have r4 := c4
          simp at c4
          refine aw_region fun K12 hK12 => ?_
          refine awl_step (step_u rfl (stepU_move rfl (ev_tmp rfl))) rfl rfl ?_
          refine awl_step (step_u rfl (stepU_lss rfl (ev_tmp rfl) (ev_int _ _))) rfl rfl ?_
          refine awl_step (step_u rfl (stepU_assign rfl (ev_tmp rfl))) rfl rfl ?_
          refine awl_nil (hK12 _ _ ?_)
          clear hK12 K12
          refine aw_ret ?_
          refine (hret _ _ _ _ _ rfl (.tmp rfl .nil) rfl ?_ .nil rfl).1
          (simp_all [missB, retD] <;> (try (rw [Bool.eq_iff_iff]; simp)))
        · have r4 := c4
          simp at c4
          refine aw_seq fun K13 hK13 => ?_
          refine aw_region fun K14 hK14 => ?_
          refine awl_step (step_u rfl (stepU_eql rfl (ev_tmp rfl) (ev_int _ _))) rfl rfl ?_
          refine awl_step (step_u rfl (stepU_assign rfl (ev_tmp rfl))) rfl rfl ?_
          refine awl_nil (hK14 _ _ ?_)
          clear hK14 K14
          refine aw_cond (by first | exact ev_tmp rfl | exact ev_bool _) (fun c5 => ?_) (fun c5 => ?_)
          · have r5 := c5
            simp at c5
            refine aw_skip ?_
            refine hK13 _ _ ?_
            clear hK13
            refine aw_condT (ev_tmp rfl) r5 ?_
            refine aw_region fun K15 hK15 => ?_
            refine awl_step (step_u rfl (stepU_move rfl (ev_tmp rfl))) rfl rfl ?_
            refine awl_step (step_u rfl (stepU_move rfl (ev_tmp rfl))) rfl rfl ?_
            refine awl_step (step_u rfl (stepU_indexAddrA 2 rfl Try.underlying64 sz_3 (ev_tmp rfl) (ev_tmp rfl) (by first | rfl | omega) (by decide))) rfl rfl ?_
            refine awl_step (step_u rfl (stepU_load rfl (ev_tmp rfl) rfl sz_3 ⟨.inr rfl, by first | exact Nat.le_of_ble_eq_true rfl | simp⟩ (by first | (simp only [rd, splice, fillD, D.cells, List.drop_succ_cons, List.drop_zero, List.take_succ_cons, List.take_zero, List.headD_cons, List.cons_append, List.nil_append, List.append_nil, List.length_cons, List.length_nil, Nat.reduceAdd, Nat.zero_add, Nat.add_zero, Bool.false_eq_true, if_true, if_false, reduceIte, List.map_cons, List.map_nil, List.drop_nil, List.take_nil, List.replicate] <;> rfl) | rfl))) rfl rfl ?_
            refine awl_step (step_u rfl (stepU_neq rfl (ev_tmp rfl) (ev_tmp rfl))) rfl rfl ?_
            refine awl_step (step_u rfl (stepU_assign rfl (ev_tmp rfl))) rfl rfl ?_
            refine awl_nil (hK15 _ _ ?_)
            clear hK15 K15
            refine aw_ret ?_
            refine (hret _ _ _ _ _ rfl (.tmp rfl .nil) rfl ?_ .nil rfl).1
            (simp_all [missB, retD] <;> (try (rw [Bool.eq_iff_iff]; simp)))
          · have r5 := c5
            simp at c5
            refine aw_region fun K16 hK16 => ?_
            refine awl_step (step_u rfl (stepU_eql rfl (ev_tmp rfl) (ev_int _ _))) rfl rfl ?_
            refine awl_step (step_u rfl (stepU_assign rfl (ev_tmp rfl))) rfl rfl ?_
            refine awl_nil (hK16 _ _ ?_)
            clear hK16 K16
            refine aw_cond (by first | exact ev_tmp rfl | exact ev_bool _) (fun c6 => ?_) (fun c6 => ?_)
            · have r6 := c6
              simp at c6
              refine aw_skip ?_
              refine hK13 _ _ ?_
              clear hK13
              refine aw_condT (ev_tmp rfl) r6 ?_
              refine aw_region fun K17 hK17 => ?_
              refine awl_step (step_u rfl (stepU_move rfl (ev_tmp rfl))) rfl rfl ?_
              refine awl_step (step_u rfl (stepU_move rfl (ev_tmp rfl))) rfl rfl ?_
              refine awl_step (step_u rfl (stepU_indexAddrA 3 rfl Try.underlying64 sz_3 (ev_tmp rfl) (ev_tmp rfl) (by first | rfl | omega) (by decide))) rfl rfl ?_
              refine awl_step (step_u rfl (stepU_load rfl (ev_tmp rfl) rfl sz_3 ⟨.inr rfl, by first | exact Nat.le_of_ble_eq_true rfl | simp⟩ (by first | (simp only [rd, splice, fillD, D.cells, List.drop_succ_cons, List.drop_zero, List.take_succ_cons, List.take_zero, List.headD_cons, List.cons_append, List.nil_append, List.append_nil, List.length_cons, List.length_nil, Nat.reduceAdd, Nat.zero_add, Nat.add_zero, Bool.false_eq_true, if_true, if_false, reduceIte, List.map_cons, List.map_nil, List.drop_nil, List.take_nil, List.replicate] <;> rfl) | rfl))) rfl rfl ?_
              refine awl_step (step_u rfl (stepU_neq rfl (ev_tmp rfl) (ev_tmp rfl))) rfl rfl ?_
              refine awl_step (step_u rfl (stepU_assign rfl (ev_tmp rfl))) rfl rfl ?_
              refine awl_nil (hK17 _ _ ?_)
              clear hK17 K17
              refine aw_ret ?_
              refine (hret _ _ _ _ _ rfl (.tmp rfl .nil) rfl ?_ .nil rfl).1
              (simp_all [missB, retD] <;> (try (rw [Bool.eq_iff_iff]; simp)))
            · have r6 := c6
              simp at c6
              refine aw_region fun K18 hK18 => ?_
              refine awl_step (step_u rfl (stepU_eql rfl (ev_tmp rfl) (ev_int _ _))) rfl rfl ?_
              refine awl_step (step_u rfl (stepU_assign rfl (ev_tmp rfl))) rfl rfl ?_
              refine awl_nil (hK18 _ _ ?_)
              clear hK18 K18
              refine aw_cond (by first | exact ev_tmp rfl | exact ev_bool _) (fun c7 => ?_) (fun c7 => ?_)
              · have r7 := c7
                simp at c7
                refine aw_skip ?_
                refine hK13 _ _ ?_
                clear hK13
                refine aw_condT (ev_tmp rfl) r7 ?_
                refine aw_region fun K19 hK19 => ?_
                refine awl_step (step_u rfl (stepU_move rfl (ev_tmp rfl))) rfl rfl ?_
                refine awl_step (step_u rfl (stepU_move rfl (ev_tmp rfl))) rfl rfl ?_
                refine awl_step (step_u rfl (stepU_indexAddrA 6 rfl Try.underlying64 sz_3 (ev_tmp rfl) (ev_tmp rfl) (by first | rfl | omega) (by decide))) rfl rfl ?_
                refine awl_step (step_u rfl (stepU_load rfl (ev_tmp rfl) rfl sz_3 ⟨.inr rfl, by first | exact Nat.le_of_ble_eq_true rfl | simp⟩ (by first | (simp only [rd, splice, fillD, D.cells, List.drop_succ_cons, List.drop_zero, List.take_succ_cons, List.take_zero, List.headD_cons, List.cons_append, List.nil_append, List.append_nil, List.length_cons, List.length_nil, Nat.reduceAdd, Nat.zero_add, Nat.add_zero, Bool.false_eq_true, if_true, if_false, reduceIte, List.map_cons, List.map_nil, List.drop_nil, List.take_nil, List.replicate] <;> rfl) | rfl))) rfl rfl ?_
                refine awl_step (step_u rfl (stepU_neq rfl (ev_tmp rfl) (ev_tmp rfl))) rfl rfl ?_
                refine awl_step (step_u rfl (stepU_assign rfl (ev_tmp rfl))) rfl rfl ?_
                refine awl_nil (hK19 _ _ ?_)
                clear hK19 K19
                refine aw_ret ?_
                refine (hret _ _ _ _ _ rfl (.tmp rfl .nil) rfl ?_ .nil rfl).1
                (simp_all [missB, retD] <;> (try (rw [Bool.eq_iff_iff]; simp)))
              · have r7 := c7
                simp at c7
                refine aw_region_last ?_
                refine awl_step (step_u rfl (stepU_eql rfl (ev_tmp rfl) (ev_int _ _))) rfl rfl ?_
                refine awl_step (step_u rfl (stepU_assign rfl (ev_tmp rfl))) rfl rfl ?_
                refine awl_nil ?_
                refine hK13 _ _ ?_
                clear hK13
                refine aw_cond (by first | exact ev_tmp rfl | exact ev_bool _) (fun c8 => ?_) (fun c8 => ?_)
                · have r8 := c8
                  simp at c8
                  refine aw_region fun K20 hK20 => ?_
                  refine awl_step (step_u rfl (stepU_move rfl (ev_tmp rfl))) rfl rfl ?_
                  refine awl_step (step_u rfl (stepU_move rfl (ev_tmp rfl))) rfl rfl ?_
                  refine awl_step (step_u rfl (stepU_indexAddrA 8 rfl Try.underlying64 sz_3 (ev_tmp rfl) (ev_tmp rfl) (by first | rfl | omega) (by decide))) rfl rfl ?_
                  refine awl_step (step_u rfl (stepU_load rfl (ev_tmp rfl) rfl sz_3 ⟨.inr rfl, by first | exact Nat.le_of_ble_eq_true rfl | simp⟩ (by first | (simp only [rd, splice, fillD, D.cells, List.drop_succ_cons, List.drop_zero, List.take_succ_cons, List.take_zero, List.headD_cons, List.cons_append, List.nil_append, List.append_nil, List.length_cons, List.length_nil, Nat.reduceAdd, Nat.zero_add, Nat.add_zero, Bool.false_eq_true, if_true, if_false, reduceIte, List.map_cons, List.map_nil, List.drop_nil, List.take_nil, List.replicate] <;> rfl) | rfl))) rfl rfl ?_
                  refine awl_step (step_u rfl (stepU_neq rfl (ev_tmp rfl) (ev_tmp rfl))) rfl rfl ?_
                  refine awl_step (step_u rfl (stepU_assign rfl (ev_tmp rfl))) rfl rfl ?_
                  refine awl_nil (hK20 _ _ ?_)
                  clear hK20 K20
                  refine aw_ret ?_
                  refine (hret _ _ _ _ _ rfl (.tmp rfl .nil) rfl ?_ .nil rfl).1
                  (simp_all [missB, retD] <;> (try (rw [Bool.eq_iff_iff]; simp)))
                · have r8 := c8
                  simp at c8
                  refine aw_skip ?_
                  refine hK3 _ _ ?_
                  clear hK3
                  refine aw_region fun K21 hK21 => ?_
                  refine awl_step (step_u rfl (stepU_assign rfl (ev_bool _))) rfl rfl ?_
                  refine awl_nil (hK21 _ _ ?_)
                  clear hK21 K21
                  refine aw_ret ?_
                  refine (hret _ _ _ _ _ rfl (.tmp rfl .nil) rfl ?_ .nil rfl).1
                  (simp_all [missB, retD] <;> (try (rw [Bool.eq_iff_iff]; simp)))
end Go.Proofs.Ytlfkgbcclinnbaa
