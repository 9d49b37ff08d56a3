/- Layer 6: the document's fields of settings, walked. No condition. -/
import Derived.Test.YtlfkgbcclinnbaaFrRc
namespace Go.Proofs.Ytlfkgbcclinnbaa
set_option linter.all false
open Go Go.RowKit
set_option maxRecDepth 10000
set_option maxHeartbeats 4000000
theorem boxW1s {X : Cx} {fr fr' : Fm} {ah : AH} {cs2 es2 es2' : List D} (s : Sid) (hs : SidOk ah [(1, .box es2')] s) (h2 : look ah 1 = some (.box cs2)) (hd2 : DWs s (dom [(1, .box es2')]) cs2 es2) (he2 : es2 = es2') (hf : FW fr s (dom [(1, .box es2')]) fr') : Weak X fr ah fr' [(1, .box es2')] := by
  subst he2
  exact weak_all s hs (.box h2 hd2 .nil) hf
theorem con_fieldsS {f : Fr} {p : List UInt8} (hf : 0 ≤ f.fl) (hf2 : f.fl ≤ 255) (hm : missB f.ty f.fl p.length = false) (hl : p.length ≤ 1000000000) (hp0 : f.pad = 0) (hd0 : f.data = []) (h4 : f.ty = 4) :
    Con Try.prog 35 [.agg (f.csX NIL), .v (.sl (bs p))] [] 0 (.ret (.tup [.agg (openL f p).cs, .v (.bool (openB f p))])) [] := by
  have hk6 : p.length % 6 = 0 := by simp [missB, h4] at hm; omega
  have hop : openM f p = some { f with sets := setsM (p.length / 6) p } := by rw [openM_eq]; simp [h4]
  refine con_of Try.func35 rfl (by show _ ≤ 109; simp) fun X Q hP hnt hnp hret hpan => ?_
  obtain ⟨P0, nt0, w0, K0, S0, np0, pin0⟩ := X
  simp only at hP hnt hnp
  subst hP hnp
  obtain rfl : nt0 = 109 := hnt
  refine aw_region fun K1 hK1 => ?_
  refine awl_step (step_u rfl (stepU_box rfl 0 (Nat.le_of_ble_eq_true rfl) (ev_tmp rfl) rfl)) rfl rfl ?_
  refine awl_step (step_u rfl (stepU_alloc rfl 1 (Nat.le_of_ble_eq_true rfl) zc_24 zl_24)) rfl rfl ?_
  refine awl_step (step_u rfl (stepU_assign rfl (ev_bool _))) rfl rfl ?_
  refine awl_nil (hK1 _ _ ?_)
  clear hK1 K1
  refine aw_seq fun K2 hK2 => ?_
  refine aw_region fun K3 hK3 => ?_
  refine awl_step (step_u rfl (stepU_fieldAddr rfl (ev_tmp rfl) fo_24_0)) rfl rfl ?_
  refine awl_step (step_u rfl (stepU_load rfl (ev_tmp rfl) rfl sz_3 ⟨.inr rfl, by first | exact Nat.le_of_ble_eq_true rfl | simp⟩ (by first | (simp only [rd, splice, fillD, D.cells, List.drop_succ_cons, List.drop_zero, List.take_succ_cons, List.take_zero, List.headD_cons, List.cons_append, List.nil_append, List.append_nil, List.length_cons, List.length_nil, Nat.reduceAdd, Nat.zero_add, Nat.add_zero, Bool.false_eq_true, if_true, if_false, reduceIte, List.map_cons, List.map_nil, List.drop_nil, List.take_nil, List.replicate, Fr.csX, Fr.cs] <;> rfl) | rfl))) rfl rfl ?_
  refine awl_step (step_u rfl (stepU_leq rfl (ev_tmp rfl) (ev_int _ _))) rfl rfl ?_
  refine awl_step (step_u rfl (stepU_move rfl (ev_tmp rfl))) rfl rfl ?_
  refine awl_step (step_if rfl rfl (ev_tmp rfl) (fun hg => stepU_load rfl ((by first | exact ev_cond (ev_tmp rfl) (by assumption) | exact ev_cond (ev_tmp rfl) (by simp_all) | exact ev_tmp rfl)) rfl sz_24 ⟨.inl rfl, by first | exact Nat.le_of_ble_eq_true rfl | simp⟩ (by first | (simp only [rd, splice, fillD, D.cells, List.drop_succ_cons, List.drop_zero, List.take_succ_cons, List.take_zero, List.headD_cons, List.cons_append, List.nil_append, List.append_nil, List.length_cons, List.length_nil, Nat.reduceAdd, Nat.zero_add, Nat.add_zero, Bool.false_eq_true, if_true, if_false, reduceIte, List.map_cons, List.map_nil, List.drop_nil, List.take_nil, List.replicate, Fr.csX, Fr.cs] <;> rfl) | rfl))) rfl rfl ?_
  refine awl_step (step_if rfl rfl (ev_tmp rfl) (fun hg => stepU_call0 rfl en_42 (con_Has (f := f) (x := NIL) (by simp) hf hf2 rfl) (.cons (by first | exact ev_cond (ev_tmp rfl) (by assumption) | exact ev_cond (ev_tmp rfl) (by simp_all) | exact ev_tmp rfl) (.cons (ev_int _ _) .nil)) rfl rfl)) rfl rfl ?_
  refine awl_step (step_u rfl (stepU_and rfl (by first | exact ev_cond (ev_tmp rfl) (by assumption) | exact ev_cond (ev_tmp rfl) (by simp_all) | exact ev_tmp rfl) (fun hh => (by first | exact ev_tmp rfl | exact ev_bool _ | exact ev_condT (ev_tmp rfl) hh | exact ev_cond (ev_tmp rfl) (by simp_all))) (ev_bool _))) rfl rfl ?_
  refine awl_nil (hK3 _ _ ?_)
  clear hK3 K3
  refine aw_cond (by first | exact ev_tmp rfl | exact ev_bool _) (fun c1 => ?_) (fun c1 => ?_)
  · have r1 := c1
    try simp at c1
    exfalso; have := c1.1; omega
  · have r1 := c1
    try simp at c1
    refine aw_skip ?_
    refine hK2 _ _ ?_
    clear hK2
    refine aw_seq fun K4 hK4 => ?_
    refine aw_region fun K5 hK5 => ?_
    refine awl_step (step_u rfl (stepU_fieldAddr rfl (ev_tmp rfl) fo_24_0)) rfl rfl ?_
    refine awl_step (step_u rfl (stepU_load rfl (ev_tmp rfl) rfl sz_3 ⟨.inr rfl, by first | exact Nat.le_of_ble_eq_true rfl | simp⟩ (by first | (simp only [rd, splice, fillD, D.cells, List.drop_succ_cons, List.drop_zero, List.take_succ_cons, List.take_zero, List.headD_cons, List.cons_append, List.nil_append, List.append_nil, List.length_cons, List.length_nil, Nat.reduceAdd, Nat.zero_add, Nat.add_zero, Bool.false_eq_true, if_true, if_false, reduceIte, List.map_cons, List.map_nil, List.drop_nil, List.take_nil, List.replicate, Fr.csX, Fr.cs] <;> rfl) | rfl))) rfl rfl ?_
    refine awl_step (step_u rfl (stepU_eql rfl (ev_tmp rfl) (ev_int _ _))) rfl rfl ?_
    refine awl_step (step_u rfl (stepU_move rfl (ev_tmp rfl))) rfl rfl ?_
    refine awl_step (step_if rfl rfl (ev_tmp rfl) (fun hg => stepU_fieldAddr rfl ((by first | exact ev_cond (ev_tmp rfl) (by assumption) | exact ev_cond (ev_tmp rfl) (by simp_all) | exact ev_tmp rfl)) fo_24_0)) rfl rfl ?_
    refine awl_step (step_if rfl rfl (ev_tmp rfl) (fun hg => stepU_load rfl ((by first | exact ev_cond (ev_tmp rfl) (by assumption) | exact ev_cond (ev_tmp rfl) (by simp_all) | exact ev_tmp rfl)) rfl sz_3 ⟨.inr rfl, by first | exact Nat.le_of_ble_eq_true rfl | simp⟩ (by first | (simp only [rd, splice, fillD, D.cells, List.drop_succ_cons, List.drop_zero, List.take_succ_cons, List.take_zero, List.headD_cons, List.cons_append, List.nil_append, List.append_nil, List.length_cons, List.length_nil, Nat.reduceAdd, Nat.zero_add, Nat.add_zero, Bool.false_eq_true, if_true, if_false, reduceIte, List.map_cons, List.map_nil, List.drop_nil, List.take_nil, List.replicate, Fr.csX, Fr.cs] <;> rfl) | rfl))) rfl rfl ?_
    refine awl_step (step_if rfl rfl (ev_tmp rfl) (fun hg => stepU_eql rfl ((by first | exact ev_cond (ev_tmp rfl) (by assumption) | exact ev_cond (ev_tmp rfl) (by simp_all) | exact ev_tmp rfl)) (ev_int _ _))) rfl rfl ?_
    refine awl_step (step_if rfl rfl (ev_tmp rfl) (fun hg => stepU_move rfl ((by first | exact ev_cond (ev_tmp rfl) (by assumption) | exact ev_cond (ev_tmp rfl) (by simp_all) | exact ev_tmp rfl)))) rfl rfl ?_
    refine awl_step (step_if2 rfl rfl (ev_tmp rfl) (fun hg => stepU_load rfl ((by first | exact ev_cond (ev_tmp rfl) (by assumption) | exact ev_cond (ev_tmp rfl) (by simp_all) | exact ev_tmp rfl)) rfl sz_24 ⟨.inl rfl, by first | exact Nat.le_of_ble_eq_true rfl | simp⟩ (by first | (simp only [rd, splice, fillD, D.cells, List.drop_succ_cons, List.drop_zero, List.take_succ_cons, List.take_zero, List.headD_cons, List.cons_append, List.nil_append, List.append_nil, List.length_cons, List.length_nil, Nat.reduceAdd, Nat.zero_add, Nat.add_zero, Bool.false_eq_true, if_true, if_false, reduceIte, List.map_cons, List.map_nil, List.drop_nil, List.take_nil, List.replicate, Fr.csX, Fr.cs] <;> rfl) | rfl))) rfl rfl ?_
    refine awl_step (step_if2 rfl rfl (ev_tmp rfl) (fun hg => stepU_call0 rfl en_42 (con_Has (f := f) (x := NIL) (by simp) hf hf2 rfl) (.cons (by first | exact ev_cond (ev_tmp rfl) (by assumption) | exact ev_cond (ev_tmp rfl) (by simp_all) | exact ev_tmp rfl) (.cons (ev_int _ _) .nil)) rfl rfl)) rfl rfl ?_
    refine awl_step (step_if rfl rfl (ev_tmp rfl) (fun hg => stepU_and rfl (by first | exact ev_cond (ev_tmp rfl) (by assumption) | exact ev_cond (ev_tmp rfl) (by simp_all) | exact ev_tmp rfl) (fun hh => (by first | exact ev_tmp rfl | exact ev_bool _ | exact ev_condT (ev_tmp rfl) hh | exact ev_cond (ev_tmp rfl) (by simp_all))) (ev_bool _))) rfl rfl ?_
    refine awl_step (step_u rfl (stepU_or rfl (by first | exact ev_cond (ev_tmp rfl) (by assumption) | exact ev_cond (ev_tmp rfl) (by simp_all) | exact ev_tmp rfl) (ev_bool _) (fun hh => (by first | exact ev_tmp rfl | exact ev_bool _ | exact ev_condF (ev_tmp rfl) hh | exact ev_cond (ev_tmp rfl) (by simp_all))))) rfl rfl ?_
    refine awl_nil (hK5 _ _ ?_)
    clear hK5 K5
    refine aw_cond (by first | exact ev_tmp rfl | exact ev_bool _) (fun c2 => ?_) (fun c2 => ?_)
    · have r2 := c2
      try simp at c2
      exfalso; rcases c2 with h | h
      omega
      have := h.1
      omega
    · have r2 := c2
      try simp at c2
      refine aw_skip ?_
      refine hK4 _ _ ?_
      clear hK4
      refine aw_seq fun K6 hK6 => ?_
      refine aw_region fun K7 hK7 => ?_
      refine awl_step (step_u rfl (stepU_fieldAddr rfl (ev_tmp rfl) fo_24_0)) rfl rfl ?_
      refine awl_step (step_u rfl (stepU_load rfl (ev_tmp rfl) rfl sz_3 ⟨.inr rfl, by first | exact Nat.le_of_ble_eq_true rfl | simp⟩ (by first | (simp only [rd, splice, fillD, D.cells, List.drop_succ_cons, List.drop_zero, List.take_succ_cons, List.take_zero, List.headD_cons, List.cons_append, List.nil_append, List.append_nil, List.length_cons, List.length_nil, Nat.reduceAdd, Nat.zero_add, Nat.add_zero, Bool.false_eq_true, if_true, if_false, reduceIte, List.map_cons, List.map_nil, List.drop_nil, List.take_nil, List.replicate, Fr.csX, Fr.cs] <;> rfl) | rfl))) rfl rfl ?_
      refine awl_step (step_u rfl (stepU_eql rfl (ev_tmp rfl) (ev_int _ _))) rfl rfl ?_
      refine awl_nil (hK7 _ _ ?_)
      clear hK7 K7
      refine aw_cond (by first | exact ev_tmp rfl | exact ev_bool _) (fun c3 => ?_) (fun c3 => ?_)
      · have r3 := c3
        try simp at c3
        exfalso; omega
      · have r3 := c3
        try simp at c3
        refine aw_skip ?_
        refine hK6 _ _ ?_
        clear hK6
        refine aw_seq fun K8 hK8 => ?_
        refine aw_region fun K9 hK9 => ?_
        refine awl_step (step_u rfl (stepU_fieldAddr rfl (ev_tmp rfl) fo_24_0)) rfl rfl ?_
        refine awl_step (step_u rfl (stepU_load rfl (ev_tmp rfl) rfl sz_3 ⟨.inr rfl, by first | exact Nat.le_of_ble_eq_true rfl | simp⟩ (by first | (simp only [rd, splice, fillD, D.cells, List.drop_succ_cons, List.drop_zero, List.take_succ_cons, List.take_zero, List.headD_cons, List.cons_append, List.nil_append, List.append_nil, List.length_cons, List.length_nil, Nat.reduceAdd, Nat.zero_add, Nat.add_zero, Bool.false_eq_true, if_true, if_false, reduceIte, List.map_cons, List.map_nil, List.drop_nil, List.take_nil, List.replicate, Fr.csX, Fr.cs] <;> rfl) | rfl))) rfl rfl ?_
        refine awl_step (step_u rfl (stepU_eql rfl (ev_tmp rfl) (ev_int _ _))) rfl rfl ?_
        refine awl_nil (hK9 _ _ ?_)
        clear hK9 K9
        refine aw_cond (by first | exact ev_tmp rfl | exact ev_bool _) (fun c4 => ?_) (fun c4 => ?_)
        · have r4 := c4
          try simp at c4
          exfalso; omega
        · have r4 := c4
          try simp at c4
          refine aw_skip ?_
          refine hK8 _ _ ?_
          clear hK8
          refine aw_seq fun K10 hK10 => ?_
          refine aw_region fun K11 hK11 => ?_
          refine awl_step (step_u rfl (stepU_fieldAddr rfl (ev_tmp rfl) fo_24_0)) rfl rfl ?_
          refine awl_step (step_u rfl (stepU_load rfl (ev_tmp rfl) rfl sz_3 ⟨.inr rfl, by first | exact Nat.le_of_ble_eq_true rfl | simp⟩ (by first | (simp only [rd, splice, fillD, D.cells, List.drop_succ_cons, List.drop_zero, List.take_succ_cons, List.take_zero, List.headD_cons, List.cons_append, List.nil_append, List.append_nil, List.length_cons, List.length_nil, Nat.reduceAdd, Nat.zero_add, Nat.add_zero, Bool.false_eq_true, if_true, if_false, reduceIte, List.map_cons, List.map_nil, List.drop_nil, List.take_nil, List.replicate, Fr.csX, Fr.cs] <;> rfl) | rfl))) rfl rfl ?_
          refine awl_step (step_u rfl (stepU_eql rfl (ev_tmp rfl) (ev_int _ _))) rfl rfl ?_
          refine awl_nil (hK11 _ _ ?_)
          clear hK11 K11
          refine aw_cond (by first | exact ev_tmp rfl | exact ev_bool _) (fun c5 => ?_) (fun c5 => ?_)
          · have r5 := c5
            try simp at c5
            exfalso; omega
          · have r5 := c5
            try simp at c5
            refine aw_skip ?_
            refine hK10 _ _ ?_
            clear hK10
            refine aw_seq fun K12 hK12 => ?_
            refine aw_block ?_
            refine aw_loop (α := {k : Nat // 6 * k ≤ p.length}) (fun x => ([(2, .ptr 0 0), (4, .ptr 1 0), (1, .v (.sl (bs (p.drop (6 * x.1)))))], [(0, .box (f.csX (.view 2 x.1 0 x.1))), (1, .box (Fr.nil.csX NIL)), (2, .row x.1 2 59 (setV (setsM x.1 p)))])) (fun x => p.length - 6 * x.1) ⟨0, by omega⟩ ?_ ?_
            · dsimp only
              refine Weak.trans (weak_nilB 0 5 2 2 59 rfl rfl rfl (by decide) (Nat.le_of_ble_eq_true rfl) rfl) ?_
              exact weak_all none trivial (by repeat (first | exact .nil | refine .box rfl (.same rfl) ?_ | refine .box rfl (.eq (by first | rfl | (simp; done)) (.same rfl)) ?_ | refine .row rfl (by first | rfl | (simp; done)) ?_)) (by repeat (first | exact .nil | refine .cons rfl (.keep rfl) ?_ | refine .cons rfl (.eq (by first | rfl | exact d_int (by omega) | exact d_view (by omega) (by omega) | exact d_sl (by simp) | (simp; done) | exact d_bool (by simp_all) | exact d_str (by simp)) (.keep rfl)) ?_ | refine .cons rfl .nil ?_ | refine .cons rfl .any ?_))
            · rintro ⟨k, hk⟩ K13 hK13
              dsimp only
              refine aw_seq fun K14 hK14 => ?_
              refine aw_region fun K15 hK15 => ?_
              refine awl_step (step_u rfl (stepU_fieldAddr rfl (ev_tmp rfl) fo_24_0)) rfl rfl ?_
              refine awl_step (step_u rfl (stepU_load rfl (ev_tmp rfl) rfl sz_3 ⟨.inr rfl, by first | exact Nat.le_of_ble_eq_true rfl | simp⟩ (by first | (simp only [rd, splice, fillD, D.cells, List.drop_succ_cons, List.drop_zero, List.take_succ_cons, List.take_zero, List.headD_cons, List.cons_append, List.nil_append, List.append_nil, List.length_cons, List.length_nil, Nat.reduceAdd, Nat.zero_add, Nat.add_zero, Bool.false_eq_true, if_true, if_false, reduceIte, List.map_cons, List.map_nil, List.drop_nil, List.take_nil, List.replicate, Fr.csX, Fr.cs] <;> rfl) | rfl))) rfl rfl ?_
              refine awl_step (step_u rfl (stepU_eql rfl (ev_tmp rfl) (ev_int _ _))) rfl rfl ?_
              refine awl_step (step_u rfl (stepU_move rfl (ev_tmp rfl))) rfl rfl ?_
              refine awl_step (step_if rfl rfl (ev_tmp rfl) (fun hg => stepU_move rfl ((by first | exact ev_cond (ev_tmp rfl) (by assumption) | exact ev_cond (ev_tmp rfl) (by simp_all) | exact ev_tmp rfl)))) rfl rfl ?_
              refine awl_step (step_if rfl rfl (ev_tmp rfl) (fun hg => stepU_lenB rfl Try.underlying27 ((by first | exact ev_cond (ev_tmp rfl) (by assumption) | exact ev_cond (ev_tmp rfl) (by simp_all) | exact ev_tmp rfl)))) rfl rfl ?_
              refine awl_step (step_if rfl rfl (ev_tmp rfl) (fun hg => stepU_gtr rfl ((by first | exact ev_cond (ev_tmp rfl) (by assumption) | exact ev_cond (ev_tmp rfl) (by simp_all) | exact ev_tmp rfl)) (ev_int _ _))) rfl rfl ?_
              refine awl_step (step_u rfl (stepU_and rfl (by first | exact ev_cond (ev_tmp rfl) (by assumption) | exact ev_cond (ev_tmp rfl) (by simp_all) | exact ev_tmp rfl) (fun hh => (by first | exact ev_tmp rfl | exact ev_bool _ | exact ev_condT (ev_tmp rfl) hh | exact ev_cond (ev_tmp rfl) (by simp_all))) (ev_bool _))) rfl rfl ?_
              refine awl_nil (hK15 _ _ ?_)
              clear hK15 K15
              refine aw_cond (by first | exact ev_tmp rfl | exact ev_bool _) (fun c6 => ?_) (fun c6 => ?_)
              · have r6 := c6
                try simp at c6
                refine aw_skip ?_
                refine hK14 _ _ ?_
                clear hK14
                refine aw_block ?_
                refine aw_regionD mx_all (by kernel_rfl) fun K16 hK16 => ?_
                refine awd_step (step_u rfl (stepU_fieldAddr rfl (ev_tmp rfl) fo_24_5)) rfl rfl ?_
                refine awd_step (step_u rfl (stepU_load rfl (ev_tmp rfl) rfl sz_22 ⟨.inr rfl, by first | exact Nat.le_of_ble_eq_true rfl | simp⟩ (by first | (simp only [rd, splice, fillD, D.cells, List.drop_succ_cons, List.drop_zero, List.take_succ_cons, List.take_zero, List.headD_cons, List.cons_append, List.nil_append, List.append_nil, List.length_cons, List.length_nil, Nat.reduceAdd, Nat.zero_add, Nat.add_zero, Bool.false_eq_true, if_true, if_false, reduceIte, List.map_cons, List.map_nil, List.drop_nil, List.take_nil, List.replicate, Fr.csX, Fr.cs] <;> rfl) | rfl))) rfl rfl ?_
                refine awd_step (step_u rfl (stepU_move rfl (ev_tmp rfl))) rfl rfl ?_
                refine awd_step (step_u rfl (stepU_call0 rfl en_32 (con_at (by omega)) (.cons (ev_tmp rfl) (.cons (ev_int _ _) (.cons (ev_int _ _) .nil))) rfl rfl)) rfl rfl ?_
                refine awd_step (step_u rfl (stepU_move rfl (ev_tmp rfl))) rfl rfl ?_
                refine awd_step (step_u rfl (stepU_call0 rfl en_32 (con_at (by omega)) (.cons (ev_tmp rfl) (.cons (ev_int _ _) (.cons (ev_int _ _) .nil))) rfl rfl)) rfl rfl ?_
                have hp6 : 6 * k + 6 ≤ p.length := by have := c6.2; omega
                have e2 : takeV (p.drop (6 * k)) 0 2 = beN ((p.drop (6 * k)).take 2) := by unfold takeV; rw [if_neg (by simp; omega)]; rfl
                have e5 : takeV (p.drop (6 * k)) 2 4 = at4 p (6 * k + 2) := (takeV_4 (p.drop (6 * k)) 2 (by simp; omega)).trans (by unfold at4; rw [List.drop_drop])
                rw [e2, e5]
                refine awd_step (step_u rfl (stepU_build rfl pl_59 zc_59 zl_59 rfl (.cons rfl (by first | exact ev_tmp rfl | exact ev_nil (ev_tmp rfl)) rfl ⟨rfl, Nat.le_of_ble_eq_true rfl⟩ (.cons rfl (by first | exact ev_tmp rfl | exact ev_nil (ev_tmp rfl)) rfl ⟨rfl, Nat.le_of_ble_eq_true rfl⟩ .nil)) (by first | (simp only [rd, splice, fillD, D.cells, List.drop_succ_cons, List.drop_zero, List.take_succ_cons, List.take_zero, List.headD_cons, List.cons_append, List.nil_append, List.append_nil, List.length_cons, List.length_nil, Nat.reduceAdd, Nat.zero_add, Nat.add_zero, Bool.false_eq_true, if_true, if_false, reduceIte, List.map_cons, List.map_nil, List.drop_nil, List.take_nil, List.replicate, Fr.csX, Fr.cs] <;> rfl) | rfl))) rfl rfl ?_
                refine awd_step (step_u rfl (stepU_lits (c := [[.int .i64 (beN ((p.drop (6 * k)).take 2)), .int .i64 (at4 p (6 * k + 2))]]) rfl Try.underlying22 sz_59 zc_59 zl_59 (by decide) (.cons rfl (by first | exact ev_tmp rfl | exact ev_nil (ev_tmp rfl)) rfl ⟨rfl, Nat.le_of_ble_eq_true rfl⟩ .nil) (by first | rfl | (simp only [rd, splice, fillD, D.cells, List.drop_succ_cons, List.drop_zero, List.take_succ_cons, List.take_zero, List.headD_cons, List.cons_append, List.nil_append, List.append_nil, List.length_cons, List.length_nil, Nat.reduceAdd, Nat.zero_add, Nat.add_zero, Bool.false_eq_true, if_true, if_false, reduceIte, List.map_cons, List.map_nil, List.drop_nil, List.take_nil, List.replicate] <;> rfl)) ⟨rfl, by first | exact bs_one _ | simp⟩)) rfl rfl ?_
                refine awd_step (step_u rfl (stepU_app rfl Try.underlying22 zi_59 (ev_tmp rfl) rfl (by first | exact ev_tmp rfl | exact ev_nil (ev_tmp rfl)) (by first | exact bs_one _ | (simp; done)) (by first | decide | omega | (simp; omega)) rfl)) rfl rfl ?_
                refine awd_step (step_u rfl (stepU_fieldAddr rfl (ev_tmp rfl) fo_24_5)) rfl rfl ?_
                refine awd_step (step_u rfl (stepU_store rfl (ev_tmp rfl) (by first | exact ev_tmp rfl | exact ev_nil (ev_tmp rfl)) rfl rfl sz_22 ⟨rfl, by first | exact Nat.le_of_ble_eq_true rfl | simp⟩ (by first | (simp only [rd, splice, fillD, D.cells, List.drop_succ_cons, List.drop_zero, List.take_succ_cons, List.take_zero, List.headD_cons, List.cons_append, List.nil_append, List.append_nil, List.length_cons, List.length_nil, Nat.reduceAdd, Nat.zero_add, Nat.add_zero, Bool.false_eq_true, if_true, if_false, reduceIte, List.map_cons, List.map_nil, List.drop_nil, List.take_nil, List.replicate, Fr.csX, Fr.cs] <;> rfl) | rfl))) rfl rfl ?_
                refine awd_nil (by kernel_rfl) (hK16 _ _ ?_)
                clear hK16 K16
                refine aw_region_last ?_
                refine awl_step (step_u rfl (stepU_move rfl (ev_tmp rfl))) rfl rfl ?_
                refine awl_step (step_u rfl (stepU_slice (c' := bs (p.drop (6 * (k + 1)))) rfl Try.underlying27 sz_5 (bs_one _) (ev_tmp rfl) (.yes (ev_int _ _) rfl) .no (by simp; omega) (by simp) (by simp [Nat.mul_add]; rw [List.take_of_length_le (by simp; omega)]))) rfl rfl ?_
                refine awl_step (step_u rfl (stepU_assign rfl (ev_tmp rfl))) rfl rfl ?_
                refine awl_nil ?_
                have er : List.take k (setV (setsM k p)) ++ [[V.int .i64 (beN ((p.drop (6 * k)).take 2)), V.int .i64 (at4 p (6 * k + 2))]] = setV (setsM (k + 1) p) := by
                  rw [List.take_of_length_le (by simp), setsM_succ, ← setV_app]; rfl
                refine hK13 _ _ ⟨k + 1, by have := c6.2; omega⟩ (by have := c6.2; dsimp only; omega) ?_
                dsimp only
                rw [← er]
                exact weak_all none trivial (by repeat (first | exact .nil | refine .box rfl (.same rfl) ?_ | refine .box rfl (.eq (by first | rfl | (simp; done)) (.same rfl)) ?_ | refine .row rfl (by first | rfl | (simp; done)) ?_)) (by repeat (first | exact .nil | refine .cons rfl (.keep rfl) ?_ | refine .cons rfl (.eq (by first | rfl | exact d_int (by omega) | exact d_view (by omega) (by omega) | exact d_sl (by simp) | (simp; done) | exact d_bool (by simp_all) | exact d_str (by simp)) (.keep rfl)) ?_ | refine .cons rfl .nil ?_ | refine .cons rfl .any ?_))
              · have r6 := c6
                try simp at c6
                refine aw_exit ?_
                refine hK12 _ _ ?_
                clear hK12
                refine aw_seq fun K17 hK17 => ?_
                refine aw_region fun K18 hK18 => ?_
                refine awl_step (step_u rfl (stepU_fieldAddr rfl (ev_tmp rfl) fo_24_4)) rfl rfl ?_
                refine awl_step (step_u rfl (stepU_load rfl (ev_tmp rfl) rfl sz_3 ⟨.inr rfl, by first | exact Nat.le_of_ble_eq_true rfl | simp⟩ (by first | (simp only [rd, splice, fillD, D.cells, List.drop_succ_cons, List.drop_zero, List.take_succ_cons, List.take_zero, List.headD_cons, List.cons_append, List.nil_append, List.append_nil, List.length_cons, List.length_nil, Nat.reduceAdd, Nat.zero_add, Nat.add_zero, Bool.false_eq_true, if_true, if_false, reduceIte, List.map_cons, List.map_nil, List.drop_nil, List.take_nil, List.replicate, Fr.csX, Fr.cs] <;> rfl) | rfl))) rfl rfl ?_
                refine awl_step (step_u rfl (stepU_move rfl (ev_tmp rfl))) rfl rfl ?_
                refine awl_step (step_u rfl (stepU_lenB rfl Try.underlying27 (ev_tmp rfl))) rfl rfl ?_
                refine awl_step (step_u rfl (stepU_gtr rfl (ev_tmp rfl) (ev_tmp rfl))) rfl rfl ?_
                refine awl_nil (hK18 _ _ ?_)
                clear hK18 K18
                refine aw_cond (by first | exact ev_tmp rfl | exact ev_bool _) (fun c7 => ?_) (fun c7 => ?_)
                · have r7 := c7
                  try simp at c7
                  exfalso; have c6' := c6 h4; omega
                · have r7 := c7
                  try simp at c7
                  refine aw_skip ?_
                  refine hK17 _ _ ?_
                  clear hK17
                  refine aw_region fun K19 hK19 => ?_
                  refine awl_step (step_u rfl (stepU_move rfl (ev_tmp rfl))) rfl rfl ?_
                  refine awl_step (step_u rfl (stepU_move rfl (ev_tmp rfl))) rfl rfl ?_
                  refine awl_step (step_u rfl (stepU_lenB rfl Try.underlying27 (ev_tmp rfl))) rfl rfl ?_
                  refine awl_step (step_u rfl (stepU_fieldAddr rfl (ev_tmp rfl) fo_24_4)) rfl rfl ?_
                  refine awl_step (step_u rfl (stepU_load rfl (ev_tmp rfl) rfl sz_3 ⟨.inr rfl, by first | exact Nat.le_of_ble_eq_true rfl | simp⟩ (by first | (simp only [rd, splice, fillD, D.cells, List.drop_succ_cons, List.drop_zero, List.take_succ_cons, List.take_zero, List.headD_cons, List.cons_append, List.nil_append, List.append_nil, List.length_cons, List.length_nil, Nat.reduceAdd, Nat.zero_add, Nat.add_zero, Bool.false_eq_true, if_true, if_false, reduceIte, List.map_cons, List.map_nil, List.drop_nil, List.take_nil, List.replicate, Fr.csX, Fr.cs] <;> rfl) | rfl))) rfl rfl ?_
                  have c6' := c6 h4
                  have hw : IntKind.i64.wrap (((p.drop (6 * k)).length : Int) - f.pad) = ((0 : Nat) : Int) := by
                    rw [i64_wrap (by simp; omega) (by simp; omega)]; simp; omega
                  refine awl_step (step_u rfl (stepU_sub rfl (ev_tmp rfl) (ev_tmp rfl) (by first | assumption | exact wrap_byte _ | exact i64_wrap (by omega) (by omega) | exact u8_wrap (by omega) (by omega) | exact u32_wrap (by omega) (by omega) | exact u16_wrap (by omega) (by omega) | rfl))) rfl rfl ?_
                  refine awl_step (step_u rfl (stepU_slice (j := some 0) (c' := bs []) rfl Try.underlying27 sz_5 (bs_one _) (ev_tmp rfl) .no (.yes (ev_tmp rfl) rfl) (by simp) (by simp) (by simp))) rfl rfl ?_
                  refine awl_step (step_u rfl (stepU_convS rfl Try.underlying27 Try.underlying5 Try.underlying9 (by first | exact ev_tmp rfl | exact ev_nil (ev_tmp rfl)))) rfl rfl ?_
                  refine awl_step (step_u rfl (stepU_fieldAddr rfl (ev_tmp rfl) fo_24_3)) rfl rfl ?_
                  refine awl_step (step_u rfl (stepU_store rfl (ev_tmp rfl) (by first | exact ev_tmp rfl | exact ev_nil (ev_tmp rfl)) rfl rfl sz_9 ⟨rfl, by first | exact Nat.le_of_ble_eq_true rfl | simp⟩ (by first | (simp only [rd, splice, fillD, D.cells, List.drop_succ_cons, List.drop_zero, List.take_succ_cons, List.take_zero, List.headD_cons, List.cons_append, List.nil_append, List.append_nil, List.length_cons, List.length_nil, Nat.reduceAdd, Nat.zero_add, Nat.add_zero, Bool.false_eq_true, if_true, if_false, reduceIte, List.map_cons, List.map_nil, List.drop_nil, List.take_nil, List.replicate, Fr.csX, Fr.cs] <;> rfl) | rfl))) rfl rfl ?_
                  refine awl_nil (hK19 _ _ ?_)
                  clear hK19 K19
                  refine aw_region fun K20 hK20 => ?_
                  refine awl_step (step_u rfl (stepU_load rfl (ev_tmp rfl) rfl sz_24 ⟨.inl rfl, by first | exact Nat.le_of_ble_eq_true rfl | simp⟩ (by first | (simp only [rd, splice, fillD, D.cells, List.drop_succ_cons, List.drop_zero, List.take_succ_cons, List.take_zero, List.headD_cons, List.cons_append, List.nil_append, List.append_nil, List.length_cons, List.length_nil, Nat.reduceAdd, Nat.zero_add, Nat.add_zero, Bool.false_eq_true, if_true, if_false, reduceIte, List.map_cons, List.map_nil, List.drop_nil, List.take_nil, List.replicate, Fr.csX, Fr.cs] <;> rfl) | rfl))) rfl rfl ?_
                  refine awl_step (step_u rfl (stepU_store rfl (ev_tmp rfl) (by first | exact ev_tmp rfl | exact ev_nil (ev_tmp rfl)) rfl rfl sz_24 ⟨rfl, by first | exact Nat.le_of_ble_eq_true rfl | simp⟩ (by first | (simp only [rd, splice, fillD, D.cells, List.drop_succ_cons, List.drop_zero, List.take_succ_cons, List.take_zero, List.headD_cons, List.cons_append, List.nil_append, List.append_nil, List.length_cons, List.length_nil, Nat.reduceAdd, Nat.zero_add, Nat.add_zero, Bool.false_eq_true, if_true, if_false, reduceIte, List.map_cons, List.map_nil, List.drop_nil, List.take_nil, List.replicate, Fr.csX, Fr.cs] <;> rfl) | rfl))) rfl rfl ?_
                  refine awl_step (step_u rfl (stepU_assign rfl (ev_bool _))) rfl rfl ?_
                  refine awl_nil (hK20 _ _ ?_)
                  clear hK20 K20
                  have c6' := c6 h4
                  have hkk : k = p.length / 6 := by omega
                  have hcut : cut 0 (0 + k) (setV (setsM k p)) = setV (setsM (p.length / 6) p) := by
                    rw [← hkk]; unfold cut; rw [List.drop_zero, List.take_of_length_le (by simp)]
                  refine aw_weak (boxW1s (es2' := (openL f p).cs) (fr' := [(4, .ptr 1 0), (5, .v (.bool (openB f p)))]) (some (2, k, setV (setsM k p))) ⟨rfl, _, _, rfl⟩ rfl (by (repeat (first | apply DWs.cons .nil | apply DWs.cons (.keep rfl) | apply DWs.cons (.view rfl hcut))); exact .nil) (by simp [openL, hop, Fr.cs, hd0]) (.cons rfl (.keep rfl) (.cons rfl (.eq (d_bool (by simp [openB, hop])) (.keep rfl)) .nil))) ?_
                  refine aw_ret ?_
                  refine (hret _ _ _ _ _ rfl (.cell rfl rfl sz_24 ⟨.inl rfl, by first | exact Nat.le_of_ble_eq_true rfl | simp [Fr.csX, Fr.cs]⟩ (by first | (simp only [rd, splice, fillD, D.cells, List.drop_succ_cons, List.drop_zero, List.take_succ_cons, List.take_zero, List.headD_cons, List.cons_append, List.nil_append, List.append_nil, List.length_cons, List.length_nil, Nat.reduceAdd, Nat.zero_add, Nat.add_zero, Bool.false_eq_true, if_true, if_false, reduceIte, List.map_cons, List.map_nil, List.drop_nil, List.take_nil, List.replicate, Fr.csX, Fr.cs] <;> rfl) | rfl) (.tmp rfl .nil)) rfl ?_ .nil rfl).1
                  rfl
end Go.Proofs.Ytlfkgbcclinnbaa
