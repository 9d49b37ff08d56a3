/- Layer 6: what the laws ask ahead: small, awake; what is written, cut at its head. No condition. -/
import Derived.Test.YtlfkgbcclinnbaaFrX
namespace Go.Proofs.Ytlfkgbcclinnbaa
set_option linter.all false
open Go Go.RowKit
set_option maxRecDepth 10000
set_option maxHeartbeats 4000000
def smallB (f : Fr) : Bool := decide (f.data.length ≤ 65536) && decide (f.sets.length ≤ 1000)
theorem con_small {f : Fr} : Con Try.prog 10 [.agg f.cs] [] 0 (.ret (.v (.bool (smallB f)))) [] := by
  have hz : (setV f.sets).length = f.sets.length := by simp [setV]
  refine con_of Try.func10 rfl (by show _ ≤ 13; simp) fun X Q hP hnt hnp hret hpan => ?_
  obtain ⟨P0, nt0, w0, K0, S0, np0, pin0⟩ := X
  simp only at hP hnt hnp
  subst hP hnp
  obtain rfl : nt0 = 13 := hnt
  refine aw_region fun K1 hK1 => ?_
  refine awl_step (step_u rfl (stepU_box rfl 0 (Nat.le_of_ble_eq_true rfl) (ev_tmp rfl) rfl)) rfl rfl ?_
  refine awl_step (step_u rfl (stepU_assign rfl (ev_bool _))) rfl rfl ?_
  refine awl_nil (hK1 _ _ ?_)
  clear hK1 K1
  refine aw_region fun K2 hK2 => ?_
  refine awl_step (step_u rfl (stepU_fieldAddr rfl (ev_tmp rfl) fo_24_3)) rfl rfl ?_
  refine awl_step (step_u rfl (stepU_load rfl (ev_tmp rfl) rfl sz_9 ⟨.inr rfl, by first | exact Nat.le_of_ble_eq_true rfl | simp⟩ (by first | (simp only [rd, splice, fillD, D.cells, List.drop_succ_cons, List.drop_zero, List.take_succ_cons, List.take_zero, List.headD_cons, List.cons_append, List.nil_append, List.append_nil, List.length_cons, List.length_nil, Nat.reduceAdd, Nat.zero_add, Nat.add_zero, Bool.false_eq_true, if_true, if_false, reduceIte, List.map_cons, List.map_nil, List.drop_nil, List.take_nil, List.replicate, Fr.cs] <;> rfl) | rfl))) rfl rfl ?_
  refine awl_step (step_u rfl (stepU_lenS rfl Try.underlying9 (ev_tmp rfl))) rfl rfl ?_
  refine awl_step (step_u rfl (stepU_leq rfl (ev_tmp rfl) (ev_int _ _))) rfl rfl ?_
  refine awl_step (step_u rfl (stepU_move rfl (ev_tmp rfl))) rfl rfl ?_
  refine awl_step (step_if rfl rfl (ev_tmp rfl) (fun hg => stepU_fieldAddr rfl ((by first | exact ev_cond (ev_tmp rfl) (by assumption) | exact ev_cond (ev_tmp rfl) (by simp_all) | exact ev_tmp rfl)) fo_24_5)) rfl rfl ?_
  refine awl_step (step_if rfl rfl (ev_tmp rfl) (fun hg => stepU_load rfl ((by first | exact ev_cond (ev_tmp rfl) (by assumption) | exact ev_cond (ev_tmp rfl) (by simp_all) | exact ev_tmp rfl)) rfl sz_22 ⟨.inr rfl, by first | exact Nat.le_of_ble_eq_true rfl | simp⟩ (by first | (simp only [rd, splice, fillD, D.cells, List.drop_succ_cons, List.drop_zero, List.take_succ_cons, List.take_zero, List.headD_cons, List.cons_append, List.nil_append, List.append_nil, List.length_cons, List.length_nil, Nat.reduceAdd, Nat.zero_add, Nat.add_zero, Bool.false_eq_true, if_true, if_false, reduceIte, List.map_cons, List.map_nil, List.drop_nil, List.take_nil, List.replicate, Fr.cs] <;> rfl) | rfl))) rfl rfl ?_
  refine awl_step (step_if rfl rfl (ev_tmp rfl) (fun hg => stepU_len rfl Try.underlying22 (by first | exact (by first | exact ev_cond (ev_tmp rfl) (by assumption) | exact ev_cond (ev_tmp rfl) (by simp_all) | exact ev_tmp rfl) | exact ev_nil ((by first | exact ev_cond (ev_tmp rfl) (by assumption) | exact ev_cond (ev_tmp rfl) (by simp_all) | exact ev_tmp rfl))))) rfl rfl ?_
  refine awl_step (step_if rfl rfl (ev_tmp rfl) (fun hg => stepU_leq rfl ((by first | exact ev_cond (ev_tmp rfl) (by assumption) | exact ev_cond (ev_tmp rfl) (by simp_all) | exact ev_tmp rfl)) (ev_int _ _))) rfl rfl ?_
  refine awl_step (step_u rfl (stepU_and rfl (by first | exact ev_cond (ev_tmp rfl) (by assumption) | exact ev_cond (ev_tmp rfl) (by simp_all) | exact ev_tmp rfl) (fun hh => (by first | exact ev_tmp rfl | exact ev_bool _ | exact ev_condT (ev_tmp rfl) hh | exact ev_cond (ev_tmp rfl) (by simp_all))) (ev_bool _))) rfl rfl ?_
  refine awl_step (step_u rfl (stepU_assign rfl (ev_tmp rfl))) rfl rfl ?_
  refine awl_nil (hK2 _ _ ?_)
  clear hK2 K2
  refine aw_ret ?_
  refine (hret _ _ _ _ _ rfl (.tmp rfl .nil) rfl ?_ .nil rfl).1
  have e1 : decide ((f.data.length : Int) ≤ 65536) = decide (f.data.length ≤ 65536) := decide_eq_decide.2 (by omega)
  have e2 : decide ((f.sets.length : Int) ≤ 1000) = decide (f.sets.length ≤ 1000) := decide_eq_decide.2 (by omega)
  simp [smallB, retD, e1, e2]
/-- A frame that is written. -/
theorem put_ok {f : Fr} (h : putE f = 0) : mayB f = true ∧ (payL f).length ≤ 16777215 ∧ putF f = headL f (payL f).length ++ payL f := by
  have h2 : putF f = headL f (payL f).length ++ payL f := by unfold putF; rw [if_pos h]
  unfold putE at h
  split at h
  · rename_i hm
    split at h
    · cases h
    · exact ⟨hm, by omega, h2⟩
  · cases h
theorem putF_bad {f : Fr} (h : ¬ putE f = 0) : putF f = [] := by unfold putF; rw [if_neg h]
theorem head_len (f : Fr) (n : Nat) : (headL f n).length = 9 := by simp [headL, putB_length]
theorem put_len {f : Fr} (h : putE f = 0) : (putF f).length = 9 + (payL f).length := by
  rw [(put_ok h).2.2]; simp [head_len]
theorem put_head {f : Fr} (h : putE f = 0) (r : List UInt8) : beN (((putF f) ++ r).take 3) = (payL f).length ∧ beN (((putF f).take 9).take 3) = (payL f).length := by
  obtain ⟨_, h2, h3⟩ := put_ok h
  have e : ∀ r, ((headL f (payL f).length ++ r)).take 3 = putB 3 (payL f).length := fun r => by
    unfold headL
    rw [List.append_assoc, List.append_assoc]
    exact List.take_left' (putB_length _ _)
  have e2 : beN (putB 3 (payL f).length) = (payL f).length := by
    rw [putB_val]
    exact Nat.mod_eq_of_lt (by omega)
  constructor
  · rw [h3, List.append_assoc, e, e2]
  · rw [h3, List.take_left' (head_len _ _)]
    have := e []
    rw [List.append_nil] at this
    rw [this, e2]
theorem take_same {b : List UInt8} {m m' : Int} (h : 9 ≤ (b.length : Int)) (h1 : (beN (b.take 3) : Int) ≤ m) (h2 : (beN (b.take 3) : Int) ≤ m') : takeF b m = takeF b m' := by
  by_cases h3 : 9 + (beN (b.take 3) : Int) ≤ (b.length : Int)
  · rw [takeF_0 h1 h3, takeF_0 h2 h3]
  · rw [takeF_3 h h1 (by omega), takeF_3 h h2 (by omega)]
def fAwake : Fr := { Fr.nil with ty := 8, st := 1, inc := 5 }
theorem con_SameN {f g : Fr} (hl : f.sets.length ≤ 100000000) (hs : g.sets = []) : Con Try.prog 16 [.agg f.cs, .agg (g.csX NIL)] [] 0 (.ret (.v (.bool (sameB f g)))) [] :=
  con_args (con_Same hl) fun G w us h => by
    obtain ⟨u, v, rfl, h1, h2⟩ := ds2 h
    exact .cons h1 (.cons (csX_nil hs h2) .nil)
theorem con_awake : Con Try.prog 9 [] [] 0 (.ret (.v (.bool true))) [] := by
  have hp : putE fAwake = 0 := by decide
  have hl : (putF fAwake).length = 13 := by decide
  have hz : (bs (putF fAwake)).length = 13 := by rw [bs_length]; exact hl
  have hi : (bs (putF fAwake))[12]? = some [V.int .u8 5] := bs_get (b := 5) (by decide)
  have ht : takeF [0, 0, 0, 4, 1, 0, 0, 0, 0] 16384 = ⟨{ Fr.nil with ty := 4, fl := 1 }, 9, Flt.no⟩ := by rfl
  refine con_of Try.func9 rfl (by show _ ≤ 49; simp) fun X Q hP hnt hnp hret hpan => ?_
  obtain ⟨P0, nt0, w0, K0, S0, np0, pin0⟩ := X
  simp only at hP hnt hnp
  subst hP hnp
  obtain rfl : nt0 = 49 := hnt
  refine aw_region fun K1 hK1 => ?_
  refine awl_step (step_u rfl (stepU_assign rfl (ev_bool _))) rfl rfl ?_
  refine awl_nil (hK1 _ _ ?_)
  clear hK1 K1
  refine aw_region fun K2 hK2 => ?_
  refine awl_step (step_u rfl (stepU_build rfl pl_24 zc_24 zl_24 rfl (.cons rfl (by first | exact ev_int _ _ | exact ev_nil (ev_int _ _)) rfl ⟨rfl, Nat.le_of_ble_eq_true rfl⟩ (.cons rfl (by first | exact ev_int _ _ | exact ev_nil (ev_int _ _)) rfl ⟨rfl, Nat.le_of_ble_eq_true rfl⟩ (.cons rfl (by first | exact ev_int _ _ | exact ev_nil (ev_int _ _)) rfl ⟨rfl, Nat.le_of_ble_eq_true rfl⟩ .nil))) (by first | (simp only [rd, splice, fillD, D.cells, List.drop_succ_cons, List.drop_zero, List.take_succ_cons, List.take_zero, List.headD_cons, List.cons_append, List.nil_append, List.append_nil, List.length_cons, List.length_nil, Nat.reduceAdd, Nat.zero_add, Nat.add_zero, Bool.false_eq_true, if_true, if_false, reduceIte, List.map_cons, List.map_nil, List.drop_nil, List.take_nil, List.replicate, Fr.cs, Flt.cs, Flt.no, Fr.nil] <;> rfl) | rfl))) rfl rfl ?_
  refine awl_step (step_u rfl (stepU_call0 rfl en_11 (con_putN (f := fAwake) rfl (by decide)) (.cons (ev_tmp rfl) .nil) rfl rfl)) rfl rfl ?_
  refine awl_step (step_u rfl (stepU_move rfl (ev_tmp rfl))) rfl rfl ?_
  refine awl_step (step_u rfl (stepU_extract rfl (ev_tmp rfl) rfl)) rfl rfl ?_
  refine awl_step (step_u rfl (stepU_extract rfl (ev_tmp rfl) rfl)) rfl rfl ?_
  refine awl_step (step_u rfl (stepU_assign rfl (ev_tmp rfl))) rfl rfl ?_
  refine awl_step (step_u rfl (stepU_assign rfl (ev_tmp rfl))) rfl rfl ?_
  refine awl_nil (hK2 _ _ ?_)
  clear hK2 K2
  refine aw_region fun K3 hK3 => ?_
  refine awl_step (step_u rfl (stepU_lits (c := bs [0, 0, 0, 4, 1, 0, 0, 0, 0]) rfl Try.underlying27 sz_5 zc_5 zl_5 (by decide) (.cons rfl (by first | exact ev_int _ _ | exact ev_nil (ev_int _ _)) rfl ⟨rfl, Nat.le_of_ble_eq_true rfl⟩ (.cons rfl (by first | exact ev_int _ _ | exact ev_nil (ev_int _ _)) rfl ⟨rfl, Nat.le_of_ble_eq_true rfl⟩ (.cons rfl (by first | exact ev_int _ _ | exact ev_nil (ev_int _ _)) rfl ⟨rfl, Nat.le_of_ble_eq_true rfl⟩ (.cons rfl (by first | exact ev_int _ _ | exact ev_nil (ev_int _ _)) rfl ⟨rfl, Nat.le_of_ble_eq_true rfl⟩ (.cons rfl (by first | exact ev_int _ _ | exact ev_nil (ev_int _ _)) rfl ⟨rfl, Nat.le_of_ble_eq_true rfl⟩ (.cons rfl (by first | exact ev_int _ _ | exact ev_nil (ev_int _ _)) rfl ⟨rfl, Nat.le_of_ble_eq_true rfl⟩ (.cons rfl (by first | exact ev_int _ _ | exact ev_nil (ev_int _ _)) rfl ⟨rfl, Nat.le_of_ble_eq_true rfl⟩ (.cons rfl (by first | exact ev_int _ _ | exact ev_nil (ev_int _ _)) rfl ⟨rfl, Nat.le_of_ble_eq_true rfl⟩ (.cons rfl (by first | exact ev_int _ _ | exact ev_nil (ev_int _ _)) rfl ⟨rfl, Nat.le_of_ble_eq_true rfl⟩ .nil))))))))) (by first | rfl | (simp only [rd, splice, fillD, D.cells, List.drop_succ_cons, List.drop_zero, List.take_succ_cons, List.take_zero, List.headD_cons, List.cons_append, List.nil_append, List.append_nil, List.length_cons, List.length_nil, Nat.reduceAdd, Nat.zero_add, Nat.add_zero, Bool.false_eq_true, if_true, if_false, reduceIte, List.map_cons, List.map_nil, List.drop_nil, List.take_nil, List.replicate] <;> rfl)) ⟨rfl, by first | exact bs_one _ | simp⟩)) rfl rfl ?_
  refine awl_step (step_u rfl (stepU_call0 rfl en_14 (con_frTake (b := [0, 0, 0, 4, 1, 0, 0, 0, 0]) (most := 16384) (by decide)) (.cons (ev_tmp rfl) (.cons (ev_int _ _) .nil)) rfl rfl)) rfl rfl ?_
  refine awl_step (step_u rfl (stepU_move rfl (ev_tmp rfl))) rfl rfl ?_
  refine awl_step (step_u rfl (stepU_extract rfl (ev_tmp rfl) rfl)) rfl rfl ?_
  refine awl_step (step_u rfl (stepU_extract rfl (ev_tmp rfl) rfl)) rfl rfl ?_
  refine awl_step (step_u rfl (stepU_extract rfl (ev_tmp rfl) rfl)) rfl rfl ?_
  refine awl_step (step_u rfl (stepU_alloc rfl 0 (Nat.le_of_ble_eq_true rfl) zc_24 zl_24)) rfl rfl ?_
  refine awl_step (step_u rfl (stepU_alloc rfl 1 (Nat.le_of_ble_eq_true rfl) zc_33 zl_33)) rfl rfl ?_
  refine awl_step (step_u rfl (stepU_store rfl (ev_tmp rfl) (by first | exact ev_tmp rfl | exact ev_nil (ev_tmp rfl)) rfl rfl sz_24 ⟨rfl, by first | exact Nat.le_of_ble_eq_true rfl | simp⟩ (by first | (simp only [rd, splice, fillD, D.cells, List.drop_succ_cons, List.drop_zero, List.take_succ_cons, List.take_zero, List.headD_cons, List.cons_append, List.nil_append, List.append_nil, List.length_cons, List.length_nil, Nat.reduceAdd, Nat.zero_add, Nat.add_zero, Bool.false_eq_true, if_true, if_false, reduceIte, List.map_cons, List.map_nil, List.drop_nil, List.take_nil, List.replicate, Fr.cs, Flt.cs, Flt.no, Fr.nil] <;> rfl) | rfl))) rfl rfl ?_
  refine awl_step (step_u rfl (stepU_assign rfl (ev_tmp rfl))) rfl rfl ?_
  refine awl_step (step_u rfl (stepU_store rfl (ev_tmp rfl) (by first | exact ev_tmp rfl | exact ev_nil (ev_tmp rfl)) rfl rfl sz_33 ⟨rfl, by first | exact Nat.le_of_ble_eq_true rfl | simp⟩ (by first | (simp only [rd, splice, fillD, D.cells, List.drop_succ_cons, List.drop_zero, List.take_succ_cons, List.take_zero, List.headD_cons, List.cons_append, List.nil_append, List.append_nil, List.length_cons, List.length_nil, Nat.reduceAdd, Nat.zero_add, Nat.add_zero, Bool.false_eq_true, if_true, if_false, reduceIte, List.map_cons, List.map_nil, List.drop_nil, List.take_nil, List.replicate, Fr.cs, Flt.cs, Flt.no, Fr.nil] <;> rfl) | rfl))) rfl rfl ?_
  refine awl_nil (hK3 _ _ ?_)
  clear hK3 K3
  refine aw_region fun K4 hK4 => ?_
  refine awl_step (step_u rfl (stepU_move rfl (ev_tmp rfl))) rfl rfl ?_
  refine awl_step (step_u rfl (stepU_eql rfl (ev_tmp rfl) (ev_int _ _))) rfl rfl ?_
  refine awl_step (step_u rfl (stepU_move rfl (ev_tmp rfl))) rfl rfl ?_
  refine awl_step (step_if rfl rfl (ev_tmp rfl) (fun hg => stepU_move rfl ((by first | exact ev_cond (ev_tmp rfl) (by assumption) | exact ev_cond (ev_tmp rfl) (by simp_all) | exact ev_tmp rfl)))) rfl rfl ?_
  refine awl_step (step_if rfl rfl (ev_tmp rfl) (fun hg => stepU_lenB rfl Try.underlying27 ((by first | exact ev_cond (ev_tmp rfl) (by assumption) | exact ev_cond (ev_tmp rfl) (by simp_all) | exact ev_tmp rfl)))) rfl rfl ?_
  refine awl_step (step_if rfl rfl (ev_tmp rfl) (fun hg => stepU_eql rfl ((by first | exact ev_cond (ev_tmp rfl) (by assumption) | exact ev_cond (ev_tmp rfl) (by simp_all) | exact ev_tmp rfl)) (ev_int _ _))) rfl rfl ?_
  refine awl_step (step_u rfl (stepU_and rfl (by first | exact ev_cond (ev_tmp rfl) (by assumption) | exact ev_cond (ev_tmp rfl) (by simp_all) | exact ev_tmp rfl) (fun hh => (by first | exact ev_tmp rfl | exact ev_bool _ | exact ev_condT (ev_tmp rfl) hh | exact ev_cond (ev_tmp rfl) (by simp_all))) (ev_bool _))) rfl rfl ?_
  refine awl_step (step_u rfl (stepU_move rfl (ev_tmp rfl))) rfl rfl ?_
  refine awl_step (step_if rfl rfl (ev_tmp rfl) (fun hg => stepU_move rfl ((by first | exact ev_cond (ev_tmp rfl) (by assumption) | exact ev_cond (ev_tmp rfl) (by simp_all) | exact ev_tmp rfl)))) rfl rfl ?_
  refine awl_step (step_if rfl rfl (ev_tmp rfl) (fun hg => stepU_indexAddr rfl Try.underlying27 sz_5 (by first | exact (by first | exact ev_cond (ev_tmp rfl) (by assumption) | exact ev_cond (ev_tmp rfl) (by simp_all) | exact ev_tmp rfl) | exact ev_nil ((by first | exact ev_cond (ev_tmp rfl) (by assumption) | exact ev_cond (ev_tmp rfl) (by simp_all) | exact ev_tmp rfl))) (ev_int _ _) rfl (by assumption) (by first | rfl | (simp; done)))) rfl rfl ?_
  refine awl_step (step_if rfl rfl (ev_tmp rfl) (fun hg => stepU_loadRef rfl ((by first | exact ev_cond (ev_tmp rfl) (by assumption) | exact ev_cond (ev_tmp rfl) (by simp_all) | exact ev_tmp rfl)) sz_5 ⟨.inr rfl, by first | exact Nat.le_of_ble_eq_true rfl | simp⟩ (by first | (simp only [rd, splice, fillD, D.cells, List.drop_succ_cons, List.drop_zero, List.take_succ_cons, List.take_zero, List.headD_cons, List.cons_append, List.nil_append, List.append_nil, List.length_cons, List.length_nil, Nat.reduceAdd, Nat.zero_add, Nat.add_zero, Bool.false_eq_true, if_true, if_false, reduceIte, List.map_cons, List.map_nil, List.drop_nil, List.take_nil, List.replicate, Fr.cs, Flt.cs, Flt.no, Fr.nil] <;> rfl) | rfl))) rfl rfl ?_
  refine awl_step (step_if rfl rfl (ev_tmp rfl) (fun hg => stepU_eql rfl ((by first | exact ev_cond (ev_tmp rfl) (by assumption) | exact ev_cond (ev_tmp rfl) (by simp_all) | exact ev_tmp rfl)) (ev_int _ _))) rfl rfl ?_
  refine awl_step (step_u rfl (stepU_and rfl (by first | exact ev_cond (ev_tmp rfl) (by assumption) | exact ev_cond (ev_tmp rfl) (by simp_all) | exact ev_tmp rfl) (fun hh => (by first | exact ev_tmp rfl | exact ev_bool _ | exact ev_condT (ev_tmp rfl) hh | exact ev_cond (ev_tmp rfl) (by simp_all))) (ev_bool _))) rfl rfl ?_
  refine awl_step (step_u rfl (stepU_move rfl (ev_tmp rfl))) rfl rfl ?_
  refine awl_step (step_if rfl rfl (ev_tmp rfl) (fun hg => stepU_fieldAddr rfl ((by first | exact ev_cond (ev_tmp rfl) (by assumption) | exact ev_cond (ev_tmp rfl) (by simp_all) | exact ev_tmp rfl)) fo_24_0)) rfl rfl ?_
  refine awl_step (step_if rfl rfl (ev_tmp rfl) (fun hg => stepU_load rfl ((by first | exact ev_cond (ev_tmp rfl) (by assumption) | exact ev_cond (ev_tmp rfl) (by simp_all) | exact ev_tmp rfl)) rfl sz_3 ⟨.inr rfl, by first | exact Nat.le_of_ble_eq_true rfl | simp⟩ (by first | (simp only [rd, splice, fillD, D.cells, List.drop_succ_cons, List.drop_zero, List.take_succ_cons, List.take_zero, List.headD_cons, List.cons_append, List.nil_append, List.append_nil, List.length_cons, List.length_nil, Nat.reduceAdd, Nat.zero_add, Nat.add_zero, Bool.false_eq_true, if_true, if_false, reduceIte, List.map_cons, List.map_nil, List.drop_nil, List.take_nil, List.replicate, Fr.cs, Flt.cs, Flt.no, Fr.nil] <;> rfl) | rfl))) rfl rfl ?_
  refine awl_step (step_if rfl rfl (ev_tmp rfl) (fun hg => stepU_eql rfl ((by first | exact ev_cond (ev_tmp rfl) (by assumption) | exact ev_cond (ev_tmp rfl) (by simp_all) | exact ev_tmp rfl)) (ev_int _ _))) rfl rfl ?_
  refine awl_step (step_u rfl (stepU_and rfl (by first | exact ev_cond (ev_tmp rfl) (by assumption) | exact ev_cond (ev_tmp rfl) (by simp_all) | exact ev_tmp rfl) (fun hh => (by first | exact ev_tmp rfl | exact ev_bool _ | exact ev_condT (ev_tmp rfl) hh | exact ev_cond (ev_tmp rfl) (by simp_all))) (ev_bool _))) rfl rfl ?_
  refine awl_step (step_u rfl (stepU_move rfl (ev_tmp rfl))) rfl rfl ?_
  refine awl_step (step_if rfl rfl (ev_tmp rfl) (fun hg => stepU_fieldAddr rfl ((by first | exact ev_cond (ev_tmp rfl) (by assumption) | exact ev_cond (ev_tmp rfl) (by simp_all) | exact ev_tmp rfl)) fo_24_1)) rfl rfl ?_
  refine awl_step (step_if rfl rfl (ev_tmp rfl) (fun hg => stepU_load rfl ((by first | exact ev_cond (ev_tmp rfl) (by assumption) | exact ev_cond (ev_tmp rfl) (by simp_all) | exact ev_tmp rfl)) rfl sz_3 ⟨.inr rfl, by first | exact Nat.le_of_ble_eq_true rfl | simp⟩ (by first | (simp only [rd, splice, fillD, D.cells, List.drop_succ_cons, List.drop_zero, List.take_succ_cons, List.take_zero, List.headD_cons, List.cons_append, List.nil_append, List.append_nil, List.length_cons, List.length_nil, Nat.reduceAdd, Nat.zero_add, Nat.add_zero, Bool.false_eq_true, if_true, if_false, reduceIte, List.map_cons, List.map_nil, List.drop_nil, List.take_nil, List.replicate, Fr.cs, Flt.cs, Flt.no, Fr.nil] <;> rfl) | rfl))) rfl rfl ?_
  refine awl_step (step_if rfl rfl (ev_tmp rfl) (fun hg => stepU_eql rfl ((by first | exact ev_cond (ev_tmp rfl) (by assumption) | exact ev_cond (ev_tmp rfl) (by simp_all) | exact ev_tmp rfl)) (ev_int _ _))) rfl rfl ?_
  refine awl_step (step_u rfl (stepU_and rfl (by first | exact ev_cond (ev_tmp rfl) (by assumption) | exact ev_cond (ev_tmp rfl) (by simp_all) | exact ev_tmp rfl) (fun hh => (by first | exact ev_tmp rfl | exact ev_bool _ | exact ev_condT (ev_tmp rfl) hh | exact ev_cond (ev_tmp rfl) (by simp_all))) (ev_bool _))) rfl rfl ?_
  refine awl_step (step_u rfl (stepU_move rfl (ev_tmp rfl))) rfl rfl ?_
  refine awl_step (step_if rfl rfl (ev_tmp rfl) (fun hg => stepU_move rfl ((by first | exact ev_cond (ev_tmp rfl) (by assumption) | exact ev_cond (ev_tmp rfl) (by simp_all) | exact ev_tmp rfl)))) rfl rfl ?_
  refine awl_step (step_if rfl rfl (ev_tmp rfl) (fun hg => stepU_eql rfl ((by first | exact ev_cond (ev_tmp rfl) (by assumption) | exact ev_cond (ev_tmp rfl) (by simp_all) | exact ev_tmp rfl)) (ev_int _ _))) rfl rfl ?_
  refine awl_step (step_u rfl (stepU_and rfl (by first | exact ev_cond (ev_tmp rfl) (by assumption) | exact ev_cond (ev_tmp rfl) (by simp_all) | exact ev_tmp rfl) (fun hh => (by first | exact ev_tmp rfl | exact ev_bool _ | exact ev_condT (ev_tmp rfl) hh | exact ev_cond (ev_tmp rfl) (by simp_all))) (ev_bool _))) rfl rfl ?_
  refine awl_step (step_u rfl (stepU_move rfl (ev_tmp rfl))) rfl rfl ?_
  refine awl_step (step_if rfl rfl (ev_tmp rfl) (fun hg => stepU_fieldAddr rfl ((by first | exact ev_cond (ev_tmp rfl) (by assumption) | exact ev_cond (ev_tmp rfl) (by simp_all) | exact ev_tmp rfl)) fo_33_0)) rfl rfl ?_
  refine awl_step (step_if rfl rfl (ev_tmp rfl) (fun hg => stepU_load rfl ((by first | exact ev_cond (ev_tmp rfl) (by assumption) | exact ev_cond (ev_tmp rfl) (by simp_all) | exact ev_tmp rfl)) rfl sz_4 ⟨.inr rfl, by first | exact Nat.le_of_ble_eq_true rfl | simp⟩ (by first | (simp only [rd, splice, fillD, D.cells, List.drop_succ_cons, List.drop_zero, List.take_succ_cons, List.take_zero, List.headD_cons, List.cons_append, List.nil_append, List.append_nil, List.length_cons, List.length_nil, Nat.reduceAdd, Nat.zero_add, Nat.add_zero, Bool.false_eq_true, if_true, if_false, reduceIte, List.map_cons, List.map_nil, List.drop_nil, List.take_nil, List.replicate, Fr.cs, Flt.cs, Flt.no, Fr.nil] <;> rfl) | rfl))) rfl rfl ?_
  refine awl_step (step_if rfl rfl (ev_tmp rfl) (fun hg => stepU_not rfl ((by first | exact ev_cond (ev_tmp rfl) (by assumption) | exact ev_cond (ev_tmp rfl) (by simp_all) | exact ev_tmp rfl)))) rfl rfl ?_
  refine awl_step (step_u rfl (stepU_and rfl (by first | exact ev_cond (ev_tmp rfl) (by assumption) | exact ev_cond (ev_tmp rfl) (by simp_all) | exact ev_tmp rfl) (fun hh => (by first | exact ev_tmp rfl | exact ev_bool _ | exact ev_condT (ev_tmp rfl) hh | exact ev_cond (ev_tmp rfl) (by simp_all))) (ev_bool _))) rfl rfl ?_
  refine awl_step (step_u rfl (stepU_assign rfl (ev_tmp rfl))) rfl rfl ?_
  refine awl_nil (hK4 _ _ ?_)
  clear hK4 K4
  refine aw_ret ?_
  refine (hret _ _ _ _ _ rfl (.tmp rfl .nil) rfl ?_ .nil rfl).1
  simp [retD, hp, hl, ht, Flt.no]
end Go.Proofs.Ytlfkgbcclinnbaa
