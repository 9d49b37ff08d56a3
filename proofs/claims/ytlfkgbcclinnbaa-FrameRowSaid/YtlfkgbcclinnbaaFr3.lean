/- Layer 6: the contract of the program's payload. No condition. -/
import Derived.Test.YtlfkgbcclinnbaaFr2
import Derived.Deep.DeepCutAuto
namespace Go.Proofs.Ytlfkgbcclinnbaa
set_option linter.all false
open Go Go.RowKit

set_option maxRecDepth 100000 in
set_option maxHeartbeats 3200000 in
theorem pay_d000 (fl st : Int) (data : List UInt8) (pad : Int) (sets : List (Int × Int)) (code last inc dep wt : Int) (sole : Bool) (A : Option Addr) (c : Nat) (p0 : 0 ≤ pad) (p1 : pad ≤ 255) (hd : data.length ≤ 1000000) (b8 : bits .and .i64 fl 8 = 0) (e8 : bitB fl 8 = false) (w : World) :
    Calls Try.prog 18 #[(⟨0, fl, st, data, pad, sets, code, last, inc, dep, wt, sole⟩ : Fr).v A c] w fun e w' => (∃ v, e = .returned v ∧ Own w' w.heap.size 5 v (payL ⟨0, fl, st, data, pad, sets, code, last, inc, dep, wt, sole⟩)) ∧ Below w.heap.size w w' := by
  have hwh : Whole (w.alloc (.cells ([I 0, I fl, I st, .string (S data), I pad, .slice A sets.length c, I code, I last, I inc, I dep, I wt, .bool sole] : List Value).toArray 24)) w.heap.size 24 [I 0, I fl, I st, .string (S data), I pad, .slice A sets.length c, I code, I last, I inc, I dep, I wt, .bool sole] := Whole.new w _ _
  have hbel : Below w.heap.size w (w.alloc (.cells ([I 0, I fl, I st, .string (S data), I pad, .slice A sets.length c, I code, I last, I inc, I dep, I wt, .bool sole] : List Value).toArray 24)) := (Below.refl _ _).alloc (Nat.le_refl _) _
  have hsz : (w.alloc (.cells ([I 0, I fl, I st, .string (S data), I pad, .slice A sets.length c, I code, I last, I inc, I dep, I wt, .bool sole] : List Value).toArray 24)).heap.size = w.heap.size + 1 := by simp
  obtain ⟨i8, hi8⟩ := uint8_row
  have Hf : Hid (payL ⟨0, fl, st, data, pad, sets, code, last, inc, dep, wt, sole⟩ = ([] : List UInt8) ++ data ++ List.replicate pad.toNat 0) := Lib.hid (by simp [payL, padL, zeros, e8])
  have P8 := Lib.hid (u8_of pad p0 p1)
  have hpn : ((UInt8.ofNat pad.toNat).toNat : Int) = pad := by simp; omega
  have Hpn := Lib.hid hpn
  clear hpn e8
  have wr1 : IntKind.u8.wrap pad = pad := IntWalk.u8_in _ (by omega)
  obtain ⟨m, hm⟩ := Int.eq_ofNat_of_zero_le p0
  have Hm := Lib.hid hm
  clear hm
  go_enter Try.func18, Try.ntmps18
  go_wp2_with fail
  generalize w.alloc (.cells #[I 0, I fl, I st, .string (S data), I pad, .slice A sets.length c, I code, I last, I inc, I dep, I wt, .bool sole] 24) = wb at hwh hbel hsz ⊢
  have HB : Hid (∀ wx, Below (w.heap.size + 1) wb wx → wx.cell? ⟨w.heap.size, 0, none⟩ = some (I 0) ∧ wx.cell? ⟨w.heap.size, 1, none⟩ = some (I fl) ∧ wx.cell? ⟨w.heap.size, 2, none⟩ = some (I st) ∧ wx.cell? ⟨w.heap.size, 3, none⟩ = some (.string (S data)) ∧ wx.cell? ⟨w.heap.size, 4, none⟩ = some (I pad) ∧ wx.cell? ⟨w.heap.size, 5, none⟩ = some (.slice A sets.length c) ∧ wx.cell? ⟨w.heap.size, 6, none⟩ = some (I code) ∧ wx.cell? ⟨w.heap.size, 7, none⟩ = some (I last) ∧ wx.cell? ⟨w.heap.size, 8, none⟩ = some (I inc) ∧ wx.cell? ⟨w.heap.size, 9, none⟩ = some (I dep) ∧ wx.cell? ⟨w.heap.size, 10, none⟩ = some (I wt) ∧ wx.cell? ⟨w.heap.size, 11, none⟩ = some (.bool sole)) :=
    Lib.hid fun wx h => have h := hwh.keep h (by omega); ⟨h.at_ 0, h.at_ 1, h.at_ 2, h.at_ 3, h.at_ 4, h.at_ 5, h.at_ 6, h.at_ 7, h.at_ 8, h.at_ 9, h.at_ 10, h.at_ 11⟩
  have HZ : Hid (wb.heap.size = w.heap.size + 1) := Lib.hid hsz
  clear hwh hsz
  obtain ⟨c0, c1, c2, c3, c4, c5, c6, c7, c8, c9, c10, c11⟩ := HB.out wb (Below.refl _ _)
  have hO : Own wb (w.heap.size + 1) 5 (.slice none 0 0) [] := Own.empty _ _ _
  have hB0 : Below (w.heap.size + 1) wb wb := Below.refl _ _
  have hlL : (([] : List UInt8)).length ≤ 6 := by simp [ordL, putB_length]
  have HO := Lib.hid hO; have HlL := Lib.hid hlL; clear hO hlL
  clear c0 c1 c2 c3 c4 c5 c6 c7 c8 c9 c10 c11
  refine wp_region_typed_at (by intro vs; simp only [puts, Act.put, List.setIfInBounds_toArray, List.set_cons_zero, List.set_cons_succ, Nat.reduceAdd]; rfl) (fun wx => Below (w.heap.size + 1) wb wx) (StepIn [3, 6] (w.heap.size + 1)) (fun j => match j with | 3 => some 6 | _ => none) (fun wx => Own wx (w.heap.size + 1) 5 (.slice none 0 0) (([] : List UInt8))) (some 3) (by kernel_rfl) (by kernel_rfl) (by kernel_rfl) (hB0.drew) (own_drew HO.out) (fun k hk x y h _ hs => own_keep h (hs.outr0 hk (by kernel_rfl))) (fun hA => wpR_start ?_)
  have hRf : Hid (∀ (kk : Nat) (ww : World), (StepIn [3, 6] (w.heap.size + 1)) kk ww ww) := Lib.hid (fun k w => StepIn.refl _ _ k w)
  repeat (refine wpR_same (Step := StepIn [3, 6] (w.heap.size + 1)) hA _ (fun k w => hRf.out k w) (by intro vs wz hC hk h0 ho; (try simp only [knownR, live, Region.binds, List.getElem?_cons_zero, List.getElem?_cons_succ, forall_const, true_implies, and_true, Nat.reduceAdd, Nat.reduceSub, Nat.reduceLT, Nat.reduceBEq, Bool.false_eq_true, false_implies, true_and, BEq.rfl] at hk); refine ⟨by first | rfl | exact wanted_at rfl rfl rfl (by simp only [hk, List.getElem_toArray, List.getElem_cons_succ, List.getElem_cons_zero]), ?_⟩; obtain ⟨c0, c1, c2, c3, c4, c5, c6, c7, c8, c9, c10, c11⟩ := HB.out wz hC; go_simp; with_reducible rfl) ?_)
  refine wpR_make (Step := StepIn [3, 6] (w.heap.size + 1)) hA (fun v wx => Own wx (w.heap.size + 1) 5 v (([] : List UInt8) ++ data)) (fun k hk v x y h _ hs => own_keep h (hs.outr hk (by kernel_rfl))) (by intro vs wz hC hk h0 ho; (try simp only [knownR, live, Region.binds, List.getElem?_cons_zero, List.getElem?_cons_succ, forall_const, true_implies, and_true, Nat.reduceAdd, Nat.reduceSub, Nat.reduceLT, Nat.reduceBEq, Bool.false_eq_true, false_implies, true_and, BEq.rfl] at hk); refine ⟨by first | rfl | exact wanted_at rfl rfl rfl (by simp only [hk, List.getElem_toArray, List.getElem_cons_succ, List.getElem_cons_zero]), ?_⟩; obtain ⟨c0, c1, c2, c3, c4, c5, c6, c7, c8, c9, c10, c11⟩ := HB.out wz hC; have h1 := h0 (by kernel_rfl); have hz := hC.size; have hz2 := HZ.out; obtain ⟨v', W', hrun, h2, h3, h4, h5⟩ := append_str (P := Try.prog) (t := 27) (u := 9) (ty := 27) Try.underlying27 Try.underlying9 hi8 h1 data (by have h := HlL.out; (try simp only [List.length_append, List.length_cons, List.length_nil] at h); (try simp only [List.length_append, List.length_cons, List.length_nil]); omega) (by omega); exact ⟨v', W', exec_append (.tmp 34) (.tmp 36) rfl hk.1 hk.2 hrun, h2, hC.trans h5, StepIn.row (by simp) h5⟩) ?_
  repeat (refine wpR_same (Step := StepIn [3, 6] (w.heap.size + 1)) hA _ (fun k w => hRf.out k w) (by intro vs wz hC hk h0 ho; (try simp only [knownR, live, Region.binds, List.getElem?_cons_zero, List.getElem?_cons_succ, forall_const, true_implies, and_true, Nat.reduceAdd, Nat.reduceSub, Nat.reduceLT, Nat.reduceBEq, Bool.false_eq_true, false_implies, true_and, BEq.rfl] at hk); refine ⟨by first | rfl | exact wanted_at rfl rfl rfl (by simp only [hk, List.getElem_toArray, List.getElem_cons_succ, List.getElem_cons_zero]), ?_⟩; obtain ⟨c0, c1, c2, c3, c4, c5, c6, c7, c8, c9, c10, c11⟩ := HB.out wz hC; go_simp; with_reducible rfl) ?_)
  refine wpR_make (Step := StepIn [3, 6] (w.heap.size + 1)) hA (fun v wx => Own wx (w.heap.size + 1) 5 v (([] : List UInt8) ++ data ++ List.replicate m 0)) (fun k hk v x y h _ hs => own_keep h (hs.outr hk (by kernel_rfl))) (by intro vs wz hC hk h0 ho; (try simp only [knownR, live, Region.binds, List.getElem?_cons_zero, List.getElem?_cons_succ, forall_const, true_implies, and_true, Nat.reduceAdd, Nat.reduceSub, Nat.reduceLT, Nat.reduceBEq, Bool.false_eq_true, false_implies, true_and, BEq.rfl] at hk); refine ⟨by first | rfl | exact wanted_at rfl rfl rfl (by simp only [hk, List.getElem_toArray, List.getElem_cons_succ, List.getElem_cons_zero]), ?_⟩; obtain ⟨h1, hp⟩ := hk; obtain ⟨c0, c1, c2, c3, c4, c5, c6, c7, c8, c9, c10, c11⟩ := HB.out wz hC; have hz := hC.size; have hz2 := HZ.out; have hmm := Hm.out; obtain ⟨v', W', hrun, h2, h3, h4, h5⟩ := append_zeros (P := Try.prog) (t := 27) (u := 3) (ty := 27) Try.underlying27 Try.underlying3 hi8 h1 m (by have h := HlL.out; (try simp only [List.length_append, List.length_cons, List.length_nil] at h); (try simp only [List.length_append, List.length_cons, List.length_nil]); omega) (by omega); exact ⟨v', W', exec_append (.tmp 37) (.tmp 39) rfl rfl (by rw [← Hm.out]; exact hp.1) hrun, h2, hC.trans h5, StepIn.row (by simp) h5⟩) ?_
  refine wpR_pure (Step := StepIn [3, 6] (w.heap.size + 1)) hA (fun v wx => Own wx (w.heap.size + 1) 5 v (([] : List UInt8) ++ data ++ List.replicate m 0)) (fun k hk v x y h _ hs => own_keep h (hs.outr hk (by kernel_rfl))) (fun k w => hRf.out k w) (by intro vs wz hC hk h0 ho; (try simp only [knownR, live, Region.binds, List.getElem?_cons_zero, List.getElem?_cons_succ, forall_const, true_implies, and_true, Nat.reduceAdd, Nat.reduceSub, Nat.reduceLT, Nat.reduceBEq, Bool.false_eq_true, false_implies, true_and, BEq.rfl] at hk); refine ⟨by first | rfl | exact wanted_at rfl rfl rfl (by simp only [hk, List.getElem_toArray, List.getElem_cons_succ, List.getElem_cons_zero]), ?_⟩; obtain ⟨h1, _⟩ := hk; obtain ⟨c0, c1, c2, c3, c4, c5, c6, c7, c8, c9, c10, c11⟩ := HB.out wz hC; refine ⟨_, by (go_simp; with_reducible rfl), ?_⟩; exact h1) ?_
  refine wpR_nil hA ?_; intro vs wz hC hk h0; simp only [allR, Nat.reduceAdd, Nat.reduceSub, and_true, Option.isNone_none, Option.isNone_some, forall_const, true_implies, Bool.false_eq_true, false_implies, true_and] at hk; simp only [hk]; clear hRf hA
  have hown := Lib.hid hk.2.2.2.2.2.2
  clear hk
  have em : pad.toNat = m := by have := Hm.out; omega
  have Hem := Lib.hid em
  clear em
  go_wp2_with fail
  go_ret
  exact ⟨⟨_, rfl, by have h := hown.out.more (B' := w.heap.size) (by omega); rw [← Hem.out] at h; rw [Hf.out]; simpa using h⟩, hbel.trans (hC.mono (by omega))⟩
set_option maxRecDepth 100000 in
set_option maxHeartbeats 3200000 in
theorem pay_d010 (fl st : Int) (data : List UInt8) (pad : Int) (sets : List (Int × Int)) (code last inc dep wt : Int) (sole : Bool) (A : Option Addr) (c : Nat) (p0 : 0 ≤ pad) (p1 : pad ≤ 255) (hd : data.length ≤ 1000000) (b8 : bits .and .i64 fl 8 = 8) (e8 : bitB fl 8 = true) (w : World) :
    Calls Try.prog 18 #[(⟨0, fl, st, data, pad, sets, code, last, inc, dep, wt, sole⟩ : Fr).v A c] w fun e w' => (∃ v, e = .returned v ∧ Own w' w.heap.size 5 v (payL ⟨0, fl, st, data, pad, sets, code, last, inc, dep, wt, sole⟩)) ∧ Below w.heap.size w w' := by
  have hwh : Whole (w.alloc (.cells ([I 0, I fl, I st, .string (S data), I pad, .slice A sets.length c, I code, I last, I inc, I dep, I wt, .bool sole] : List Value).toArray 24)) w.heap.size 24 [I 0, I fl, I st, .string (S data), I pad, .slice A sets.length c, I code, I last, I inc, I dep, I wt, .bool sole] := Whole.new w _ _
  have hbel : Below w.heap.size w (w.alloc (.cells ([I 0, I fl, I st, .string (S data), I pad, .slice A sets.length c, I code, I last, I inc, I dep, I wt, .bool sole] : List Value).toArray 24)) := (Below.refl _ _).alloc (Nat.le_refl _) _
  have hsz : (w.alloc (.cells ([I 0, I fl, I st, .string (S data), I pad, .slice A sets.length c, I code, I last, I inc, I dep, I wt, .bool sole] : List Value).toArray 24)).heap.size = w.heap.size + 1 := by simp
  obtain ⟨i8, hi8⟩ := uint8_row
  have Hf : Hid (payL ⟨0, fl, st, data, pad, sets, code, last, inc, dep, wt, sole⟩ = [UInt8.ofNat pad.toNat] ++ data ++ List.replicate pad.toNat 0) := Lib.hid (by simp [payL, padL, zeros, e8])
  have P8 := Lib.hid (u8_of pad p0 p1)
  have hpn : ((UInt8.ofNat pad.toNat).toNat : Int) = pad := by simp; omega
  have Hpn := Lib.hid hpn
  clear hpn e8
  have wr1 : IntKind.u8.wrap pad = pad := IntWalk.u8_in _ (by omega)
  obtain ⟨m, hm⟩ := Int.eq_ofNat_of_zero_le p0
  have Hm := Lib.hid hm
  clear hm
  go_enter Try.func18, Try.ntmps18
  go_upto_region 6 with fail
  generalize w.alloc (.cells #[I 0, I fl, I st, .string (S data), I pad, .slice A sets.length c, I code, I last, I inc, I dep, I wt, .bool sole] 24) = wb at hwh hbel hsz ⊢
  have HB : Hid (∀ wx, Below (w.heap.size + 1) wb wx → wx.cell? ⟨w.heap.size, 0, none⟩ = some (I 0) ∧ wx.cell? ⟨w.heap.size, 1, none⟩ = some (I fl) ∧ wx.cell? ⟨w.heap.size, 2, none⟩ = some (I st) ∧ wx.cell? ⟨w.heap.size, 3, none⟩ = some (.string (S data)) ∧ wx.cell? ⟨w.heap.size, 4, none⟩ = some (I pad) ∧ wx.cell? ⟨w.heap.size, 5, none⟩ = some (.slice A sets.length c) ∧ wx.cell? ⟨w.heap.size, 6, none⟩ = some (I code) ∧ wx.cell? ⟨w.heap.size, 7, none⟩ = some (I last) ∧ wx.cell? ⟨w.heap.size, 8, none⟩ = some (I inc) ∧ wx.cell? ⟨w.heap.size, 9, none⟩ = some (I dep) ∧ wx.cell? ⟨w.heap.size, 10, none⟩ = some (I wt) ∧ wx.cell? ⟨w.heap.size, 11, none⟩ = some (.bool sole)) :=
    Lib.hid fun wx h => have h := hwh.keep h (by omega); ⟨h.at_ 0, h.at_ 1, h.at_ 2, h.at_ 3, h.at_ 4, h.at_ 5, h.at_ 6, h.at_ 7, h.at_ 8, h.at_ 9, h.at_ 10, h.at_ 11⟩
  have HZ : Hid (wb.heap.size = w.heap.size + 1) := Lib.hid hsz
  clear hwh hsz
  obtain ⟨c0, c1, c2, c3, c4, c5, c6, c7, c8, c9, c10, c11⟩ := HB.out wb (Below.refl _ _)
  have hO : Own wb (w.heap.size + 1) 5 (.slice none 0 0) [] := Own.empty _ _ _
  have hB0 : Below (w.heap.size + 1) wb wb := Below.refl _ _
  have HN0 : Hid (∀ wx, Own wx (w.heap.size + 1) 5 (.slice none 0 0) []) := Lib.hid (fun wx => Own.empty wx _ _)
  generalize Value.slice none 0 0 = vn at HN0 ⊢
  clear hO
  have own1 : Hid (Own (wb.alloc (.cells #[.int .u8 pad] 5)) (w.heap.size + 1) 5 vn []) := Lib.hid (HN0.out _)
  have rd1 := Lib.hid (rd_new1 wb 5 pad (UInt8.ofNat pad.toNat) Hpn.out)
  go_wp2_with (at_builtin; refine wpList_append_bytes rfl (.tmp 15) (.tmp 19) 27 rfl Try.underlying27 hi8 (w.heap.size + 1) (wb.heap.size + 1) vn [] [UInt8.ofNat pad.toNat] rfl (some ⟨wb.heap.size, 0, none⟩) 1 1 rfl ?_ own1.out rd1.out rfl (by simp) (by have := HZ.out; simp; omega); intro v2 w2 own2 hg2 hat2 hb2; have hB2 : Below (w.heap.size + 1) wb w2 := ((Below.refl _ _).alloc (by have := HZ.out; omega) _).trans hb2; clear hg2 hat2 hb2 c0 c1 c2 c3 c4 c5 c6 c7 c8 c9 c10 c11; obtain ⟨c0, c1, c2, c3, c4, c5, c6, c7, c8, c9, c10, c11⟩ := HB.out w2 hB2)
  simp only [List.nil_append] at own2
  clear own1 rd1 hB0
  have hz3 := hB2.size
  have hO := own2; have hB0 := hB2; clear own2 hB2
  have hlL : ([UInt8.ofNat pad.toNat]).length ≤ 6 := by simp [ordL, putB_length]
  have HO := Lib.hid hO; have HlL := Lib.hid hlL; clear hO hlL
  clear c0 c1 c2 c3 c4 c5 c6 c7 c8 c9 c10 c11
  refine wp_region_typed_at (by intro vs; simp only [puts, Act.put, List.setIfInBounds_toArray, List.set_cons_zero, List.set_cons_succ, Nat.reduceAdd]; rfl) (fun wx => Below (w.heap.size + 1) wb wx) (StepIn [3, 6] (w.heap.size + 1)) (fun j => match j with | 3 => some 6 | _ => none) (fun wx => Own wx (w.heap.size + 1) 5 (v2) ([UInt8.ofNat pad.toNat])) (some 3) (by kernel_rfl) (by kernel_rfl) (by kernel_rfl) (hB0.drew) (own_drew HO.out) (fun k hk x y h _ hs => own_keep h (hs.outr0 hk (by kernel_rfl))) (fun hA => wpR_start ?_)
  have hRf : Hid (∀ (kk : Nat) (ww : World), (StepIn [3, 6] (w.heap.size + 1)) kk ww ww) := Lib.hid (fun k w => StepIn.refl _ _ k w)
  repeat (refine wpR_same (Step := StepIn [3, 6] (w.heap.size + 1)) hA _ (fun k w => hRf.out k w) (by intro vs wz hC hk h0 ho; (try simp only [knownR, live, Region.binds, List.getElem?_cons_zero, List.getElem?_cons_succ, forall_const, true_implies, and_true, Nat.reduceAdd, Nat.reduceSub, Nat.reduceLT, Nat.reduceBEq, Bool.false_eq_true, false_implies, true_and, BEq.rfl] at hk); refine ⟨by first | rfl | exact wanted_at rfl rfl rfl (by simp only [hk, List.getElem_toArray, List.getElem_cons_succ, List.getElem_cons_zero]), ?_⟩; obtain ⟨c0, c1, c2, c3, c4, c5, c6, c7, c8, c9, c10, c11⟩ := HB.out wz hC; go_simp; with_reducible rfl) ?_)
  refine wpR_make (Step := StepIn [3, 6] (w.heap.size + 1)) hA (fun v wx => Own wx (w.heap.size + 1) 5 v ([UInt8.ofNat pad.toNat] ++ data)) (fun k hk v x y h _ hs => own_keep h (hs.outr hk (by kernel_rfl))) (by intro vs wz hC hk h0 ho; (try simp only [knownR, live, Region.binds, List.getElem?_cons_zero, List.getElem?_cons_succ, forall_const, true_implies, and_true, Nat.reduceAdd, Nat.reduceSub, Nat.reduceLT, Nat.reduceBEq, Bool.false_eq_true, false_implies, true_and, BEq.rfl] at hk); refine ⟨by first | rfl | exact wanted_at rfl rfl rfl (by simp only [hk, List.getElem_toArray, List.getElem_cons_succ, List.getElem_cons_zero]), ?_⟩; obtain ⟨c0, c1, c2, c3, c4, c5, c6, c7, c8, c9, c10, c11⟩ := HB.out wz hC; have h1 := h0 (by kernel_rfl); have hz := hC.size; have hz2 := HZ.out; obtain ⟨v', W', hrun, h2, h3, h4, h5⟩ := append_str (P := Try.prog) (t := 27) (u := 9) (ty := 27) Try.underlying27 Try.underlying9 hi8 h1 data (by have h := HlL.out; (try simp only [List.length_append, List.length_cons, List.length_nil] at h); (try simp only [List.length_append, List.length_cons, List.length_nil]); omega) (by omega); exact ⟨v', W', exec_append (.tmp 34) (.tmp 36) rfl hk.1 hk.2 hrun, h2, hC.trans h5, StepIn.row (by simp) h5⟩) ?_
  repeat (refine wpR_same (Step := StepIn [3, 6] (w.heap.size + 1)) hA _ (fun k w => hRf.out k w) (by intro vs wz hC hk h0 ho; (try simp only [knownR, live, Region.binds, List.getElem?_cons_zero, List.getElem?_cons_succ, forall_const, true_implies, and_true, Nat.reduceAdd, Nat.reduceSub, Nat.reduceLT, Nat.reduceBEq, Bool.false_eq_true, false_implies, true_and, BEq.rfl] at hk); refine ⟨by first | rfl | exact wanted_at rfl rfl rfl (by simp only [hk, List.getElem_toArray, List.getElem_cons_succ, List.getElem_cons_zero]), ?_⟩; obtain ⟨c0, c1, c2, c3, c4, c5, c6, c7, c8, c9, c10, c11⟩ := HB.out wz hC; go_simp; with_reducible rfl) ?_)
  refine wpR_make (Step := StepIn [3, 6] (w.heap.size + 1)) hA (fun v wx => Own wx (w.heap.size + 1) 5 v ([UInt8.ofNat pad.toNat] ++ data ++ List.replicate m 0)) (fun k hk v x y h _ hs => own_keep h (hs.outr hk (by kernel_rfl))) (by intro vs wz hC hk h0 ho; (try simp only [knownR, live, Region.binds, List.getElem?_cons_zero, List.getElem?_cons_succ, forall_const, true_implies, and_true, Nat.reduceAdd, Nat.reduceSub, Nat.reduceLT, Nat.reduceBEq, Bool.false_eq_true, false_implies, true_and, BEq.rfl] at hk); refine ⟨by first | rfl | exact wanted_at rfl rfl rfl (by simp only [hk, List.getElem_toArray, List.getElem_cons_succ, List.getElem_cons_zero]), ?_⟩; obtain ⟨h1, hp⟩ := hk; obtain ⟨c0, c1, c2, c3, c4, c5, c6, c7, c8, c9, c10, c11⟩ := HB.out wz hC; have hz := hC.size; have hz2 := HZ.out; have hmm := Hm.out; obtain ⟨v', W', hrun, h2, h3, h4, h5⟩ := append_zeros (P := Try.prog) (t := 27) (u := 3) (ty := 27) Try.underlying27 Try.underlying3 hi8 h1 m (by have h := HlL.out; (try simp only [List.length_append, List.length_cons, List.length_nil] at h); (try simp only [List.length_append, List.length_cons, List.length_nil]); omega) (by omega); exact ⟨v', W', exec_append (.tmp 37) (.tmp 39) rfl rfl (by rw [← Hm.out]; exact hp.1) hrun, h2, hC.trans h5, StepIn.row (by simp) h5⟩) ?_
  refine wpR_pure (Step := StepIn [3, 6] (w.heap.size + 1)) hA (fun v wx => Own wx (w.heap.size + 1) 5 v ([UInt8.ofNat pad.toNat] ++ data ++ List.replicate m 0)) (fun k hk v x y h _ hs => own_keep h (hs.outr hk (by kernel_rfl))) (fun k w => hRf.out k w) (by intro vs wz hC hk h0 ho; (try simp only [knownR, live, Region.binds, List.getElem?_cons_zero, List.getElem?_cons_succ, forall_const, true_implies, and_true, Nat.reduceAdd, Nat.reduceSub, Nat.reduceLT, Nat.reduceBEq, Bool.false_eq_true, false_implies, true_and, BEq.rfl] at hk); refine ⟨by first | rfl | exact wanted_at rfl rfl rfl (by simp only [hk, List.getElem_toArray, List.getElem_cons_succ, List.getElem_cons_zero]), ?_⟩; obtain ⟨h1, _⟩ := hk; obtain ⟨c0, c1, c2, c3, c4, c5, c6, c7, c8, c9, c10, c11⟩ := HB.out wz hC; refine ⟨_, by (go_simp; with_reducible rfl), ?_⟩; exact h1) ?_
  refine wpR_nil hA ?_; intro vs wz hC hk h0; simp only [allR, Nat.reduceAdd, Nat.reduceSub, and_true, Option.isNone_none, Option.isNone_some, forall_const, true_implies, Bool.false_eq_true, false_implies, true_and] at hk; simp only [hk]; clear hRf hA
  have hown := Lib.hid hk.2.2.2.2.2.2
  clear hk
  have em : pad.toNat = m := by have := Hm.out; omega
  have Hem := Lib.hid em
  clear em
  go_wp2_with fail
  go_ret
  exact ⟨⟨_, rfl, by have h := hown.out.more (B' := w.heap.size) (by omega); rw [← Hem.out] at h; rw [Hf.out]; simpa using h⟩, hbel.trans (hC.mono (by omega))⟩
set_option maxRecDepth 100000 in
set_option maxHeartbeats 3200000 in
theorem pay_d100 (fl st : Int) (data : List UInt8) (pad : Int) (sets : List (Int × Int)) (code last inc dep wt : Int) (sole : Bool) (A : Option Addr) (c : Nat) (p0 : 0 ≤ pad) (p1 : pad ≤ 255) (hd : data.length ≤ 1000000) (b8 : bits .and .i64 fl 8 = 0) (e8 : bitB fl 8 = false) (b32 : bits .and .i64 fl 32 = 0) (e32 : bitB fl 32 = false) (w : World) :
    Calls Try.prog 18 #[(⟨1, fl, st, data, pad, sets, code, last, inc, dep, wt, sole⟩ : Fr).v A c] w fun e w' => (∃ v, e = .returned v ∧ Own w' w.heap.size 5 v (payL ⟨1, fl, st, data, pad, sets, code, last, inc, dep, wt, sole⟩)) ∧ Below w.heap.size w w' := by
  have hwh : Whole (w.alloc (.cells ([I 1, I fl, I st, .string (S data), I pad, .slice A sets.length c, I code, I last, I inc, I dep, I wt, .bool sole] : List Value).toArray 24)) w.heap.size 24 [I 1, I fl, I st, .string (S data), I pad, .slice A sets.length c, I code, I last, I inc, I dep, I wt, .bool sole] := Whole.new w _ _
  have hbel : Below w.heap.size w (w.alloc (.cells ([I 1, I fl, I st, .string (S data), I pad, .slice A sets.length c, I code, I last, I inc, I dep, I wt, .bool sole] : List Value).toArray 24)) := (Below.refl _ _).alloc (Nat.le_refl _) _
  have hsz : (w.alloc (.cells ([I 1, I fl, I st, .string (S data), I pad, .slice A sets.length c, I code, I last, I inc, I dep, I wt, .bool sole] : List Value).toArray 24)).heap.size = w.heap.size + 1 := by simp
  obtain ⟨i8, hi8⟩ := uint8_row
  have Hf : Hid (payL ⟨1, fl, st, data, pad, sets, code, last, inc, dep, wt, sole⟩ = ([] : List UInt8) ++ data ++ List.replicate pad.toNat 0) := Lib.hid (by simp [payL, padL, zeros, e8, e32])
  have P8 := Lib.hid (u8_of pad p0 p1)
  have hpn : ((UInt8.ofNat pad.toNat).toNat : Int) = pad := by simp; omega
  have Hpn := Lib.hid hpn
  clear hpn e8 e32
  have wr1 : IntKind.u8.wrap pad = pad := IntWalk.u8_in _ (by omega)
  obtain ⟨m, hm⟩ := Int.eq_ofNat_of_zero_le p0
  have Hm := Lib.hid hm
  clear hm
  go_enter Try.func18, Try.ntmps18
  go_wp2_with fail
  generalize w.alloc (.cells #[I 1, I fl, I st, .string (S data), I pad, .slice A sets.length c, I code, I last, I inc, I dep, I wt, .bool sole] 24) = wb at hwh hbel hsz ⊢
  have HB : Hid (∀ wx, Below (w.heap.size + 1) wb wx → wx.cell? ⟨w.heap.size, 0, none⟩ = some (I 1) ∧ wx.cell? ⟨w.heap.size, 1, none⟩ = some (I fl) ∧ wx.cell? ⟨w.heap.size, 2, none⟩ = some (I st) ∧ wx.cell? ⟨w.heap.size, 3, none⟩ = some (.string (S data)) ∧ wx.cell? ⟨w.heap.size, 4, none⟩ = some (I pad) ∧ wx.cell? ⟨w.heap.size, 5, none⟩ = some (.slice A sets.length c) ∧ wx.cell? ⟨w.heap.size, 6, none⟩ = some (I code) ∧ wx.cell? ⟨w.heap.size, 7, none⟩ = some (I last) ∧ wx.cell? ⟨w.heap.size, 8, none⟩ = some (I inc) ∧ wx.cell? ⟨w.heap.size, 9, none⟩ = some (I dep) ∧ wx.cell? ⟨w.heap.size, 10, none⟩ = some (I wt) ∧ wx.cell? ⟨w.heap.size, 11, none⟩ = some (.bool sole)) :=
    Lib.hid fun wx h => have h := hwh.keep h (by omega); ⟨h.at_ 0, h.at_ 1, h.at_ 2, h.at_ 3, h.at_ 4, h.at_ 5, h.at_ 6, h.at_ 7, h.at_ 8, h.at_ 9, h.at_ 10, h.at_ 11⟩
  have HZ : Hid (wb.heap.size = w.heap.size + 1) := Lib.hid hsz
  clear hwh hsz
  obtain ⟨c0, c1, c2, c3, c4, c5, c6, c7, c8, c9, c10, c11⟩ := HB.out wb (Below.refl _ _)
  have hO : Own wb (w.heap.size + 1) 5 (.slice none 0 0) [] := Own.empty _ _ _
  have hB0 : Below (w.heap.size + 1) wb wb := Below.refl _ _
  have hlL : (([] : List UInt8)).length ≤ 6 := by simp [ordL, putB_length]
  have HO := Lib.hid hO; have HlL := Lib.hid hlL; clear hO hlL
  clear c0 c1 c2 c3 c4 c5 c6 c7 c8 c9 c10 c11
  refine wp_region_typed_at (by intro vs; simp only [puts, Act.put, List.setIfInBounds_toArray, List.set_cons_zero, List.set_cons_succ, Nat.reduceAdd]; rfl) (fun wx => Below (w.heap.size + 1) wb wx) (StepIn [3, 6] (w.heap.size + 1)) (fun j => match j with | 3 => some 6 | _ => none) (fun wx => Own wx (w.heap.size + 1) 5 (.slice none 0 0) (([] : List UInt8))) (some 3) (by kernel_rfl) (by kernel_rfl) (by kernel_rfl) (hB0.drew) (own_drew HO.out) (fun k hk x y h _ hs => own_keep h (hs.outr0 hk (by kernel_rfl))) (fun hA => wpR_start ?_)
  have hRf : Hid (∀ (kk : Nat) (ww : World), (StepIn [3, 6] (w.heap.size + 1)) kk ww ww) := Lib.hid (fun k w => StepIn.refl _ _ k w)
  repeat (refine wpR_same (Step := StepIn [3, 6] (w.heap.size + 1)) hA _ (fun k w => hRf.out k w) (by intro vs wz hC hk h0 ho; (try simp only [knownR, live, Region.binds, List.getElem?_cons_zero, List.getElem?_cons_succ, forall_const, true_implies, and_true, Nat.reduceAdd, Nat.reduceSub, Nat.reduceLT, Nat.reduceBEq, Bool.false_eq_true, false_implies, true_and, BEq.rfl] at hk); refine ⟨by first | rfl | exact wanted_at rfl rfl rfl (by simp only [hk, List.getElem_toArray, List.getElem_cons_succ, List.getElem_cons_zero]), ?_⟩; obtain ⟨c0, c1, c2, c3, c4, c5, c6, c7, c8, c9, c10, c11⟩ := HB.out wz hC; go_simp; with_reducible rfl) ?_)
  refine wpR_make (Step := StepIn [3, 6] (w.heap.size + 1)) hA (fun v wx => Own wx (w.heap.size + 1) 5 v (([] : List UInt8) ++ data)) (fun k hk v x y h _ hs => own_keep h (hs.outr hk (by kernel_rfl))) (by intro vs wz hC hk h0 ho; (try simp only [knownR, live, Region.binds, List.getElem?_cons_zero, List.getElem?_cons_succ, forall_const, true_implies, and_true, Nat.reduceAdd, Nat.reduceSub, Nat.reduceLT, Nat.reduceBEq, Bool.false_eq_true, false_implies, true_and, BEq.rfl] at hk); refine ⟨by first | rfl | exact wanted_at rfl rfl rfl (by simp only [hk, List.getElem_toArray, List.getElem_cons_succ, List.getElem_cons_zero]), ?_⟩; obtain ⟨c0, c1, c2, c3, c4, c5, c6, c7, c8, c9, c10, c11⟩ := HB.out wz hC; have h1 := h0 (by kernel_rfl); have hz := hC.size; have hz2 := HZ.out; obtain ⟨v', W', hrun, h2, h3, h4, h5⟩ := append_str (P := Try.prog) (t := 27) (u := 9) (ty := 27) Try.underlying27 Try.underlying9 hi8 h1 data (by have h := HlL.out; (try simp only [List.length_append, List.length_cons, List.length_nil] at h); (try simp only [List.length_append, List.length_cons, List.length_nil]); omega) (by omega); exact ⟨v', W', exec_append (.tmp 34) (.tmp 36) rfl hk.1 hk.2 hrun, h2, hC.trans h5, StepIn.row (by simp) h5⟩) ?_
  repeat (refine wpR_same (Step := StepIn [3, 6] (w.heap.size + 1)) hA _ (fun k w => hRf.out k w) (by intro vs wz hC hk h0 ho; (try simp only [knownR, live, Region.binds, List.getElem?_cons_zero, List.getElem?_cons_succ, forall_const, true_implies, and_true, Nat.reduceAdd, Nat.reduceSub, Nat.reduceLT, Nat.reduceBEq, Bool.false_eq_true, false_implies, true_and, BEq.rfl] at hk); refine ⟨by first | rfl | exact wanted_at rfl rfl rfl (by simp only [hk, List.getElem_toArray, List.getElem_cons_succ, List.getElem_cons_zero]), ?_⟩; obtain ⟨c0, c1, c2, c3, c4, c5, c6, c7, c8, c9, c10, c11⟩ := HB.out wz hC; go_simp; with_reducible rfl) ?_)
  refine wpR_make (Step := StepIn [3, 6] (w.heap.size + 1)) hA (fun v wx => Own wx (w.heap.size + 1) 5 v (([] : List UInt8) ++ data ++ List.replicate m 0)) (fun k hk v x y h _ hs => own_keep h (hs.outr hk (by kernel_rfl))) (by intro vs wz hC hk h0 ho; (try simp only [knownR, live, Region.binds, List.getElem?_cons_zero, List.getElem?_cons_succ, forall_const, true_implies, and_true, Nat.reduceAdd, Nat.reduceSub, Nat.reduceLT, Nat.reduceBEq, Bool.false_eq_true, false_implies, true_and, BEq.rfl] at hk); refine ⟨by first | rfl | exact wanted_at rfl rfl rfl (by simp only [hk, List.getElem_toArray, List.getElem_cons_succ, List.getElem_cons_zero]), ?_⟩; obtain ⟨h1, hp⟩ := hk; obtain ⟨c0, c1, c2, c3, c4, c5, c6, c7, c8, c9, c10, c11⟩ := HB.out wz hC; have hz := hC.size; have hz2 := HZ.out; have hmm := Hm.out; obtain ⟨v', W', hrun, h2, h3, h4, h5⟩ := append_zeros (P := Try.prog) (t := 27) (u := 3) (ty := 27) Try.underlying27 Try.underlying3 hi8 h1 m (by have h := HlL.out; (try simp only [List.length_append, List.length_cons, List.length_nil] at h); (try simp only [List.length_append, List.length_cons, List.length_nil]); omega) (by omega); exact ⟨v', W', exec_append (.tmp 37) (.tmp 39) rfl rfl (by rw [← Hm.out]; exact hp.1) hrun, h2, hC.trans h5, StepIn.row (by simp) h5⟩) ?_
  refine wpR_pure (Step := StepIn [3, 6] (w.heap.size + 1)) hA (fun v wx => Own wx (w.heap.size + 1) 5 v (([] : List UInt8) ++ data ++ List.replicate m 0)) (fun k hk v x y h _ hs => own_keep h (hs.outr hk (by kernel_rfl))) (fun k w => hRf.out k w) (by intro vs wz hC hk h0 ho; (try simp only [knownR, live, Region.binds, List.getElem?_cons_zero, List.getElem?_cons_succ, forall_const, true_implies, and_true, Nat.reduceAdd, Nat.reduceSub, Nat.reduceLT, Nat.reduceBEq, Bool.false_eq_true, false_implies, true_and, BEq.rfl] at hk); refine ⟨by first | rfl | exact wanted_at rfl rfl rfl (by simp only [hk, List.getElem_toArray, List.getElem_cons_succ, List.getElem_cons_zero]), ?_⟩; obtain ⟨h1, _⟩ := hk; obtain ⟨c0, c1, c2, c3, c4, c5, c6, c7, c8, c9, c10, c11⟩ := HB.out wz hC; refine ⟨_, by (go_simp; with_reducible rfl), ?_⟩; exact h1) ?_
  refine wpR_nil hA ?_; intro vs wz hC hk h0; simp only [allR, Nat.reduceAdd, Nat.reduceSub, and_true, Option.isNone_none, Option.isNone_some, forall_const, true_implies, Bool.false_eq_true, false_implies, true_and] at hk; simp only [hk]; clear hRf hA
  have hown := Lib.hid hk.2.2.2.2.2.2
  clear hk
  have em : pad.toNat = m := by have := Hm.out; omega
  have Hem := Lib.hid em
  clear em
  go_wp2_with fail
  go_ret
  exact ⟨⟨_, rfl, by have h := hown.out.more (B' := w.heap.size) (by omega); rw [← Hem.out] at h; rw [Hf.out]; simpa using h⟩, hbel.trans (hC.mono (by omega))⟩
set_option maxRecDepth 100000 in
set_option maxHeartbeats 3200000 in
theorem pay_d101 (fl st : Int) (data : List UInt8) (pad : Int) (sets : List (Int × Int)) (code last inc dep wt : Int) (sole : Bool) (A : Option Addr) (c : Nat) (p0 : 0 ≤ pad) (p1 : pad ≤ 255) (hd : data.length ≤ 1000000) (b8 : bits .and .i64 fl 8 = 0) (e8 : bitB fl 8 = false) (b32 : bits .and .i64 fl 32 = 32) (e32 : bitB fl 32 = true) (d0 : 0 ≤ dep) (d1 : dep ≤ 2147483647) (t0 : 0 ≤ wt) (t1 : wt ≤ 255) (w : World) :
    Calls Try.prog 18 #[(⟨1, fl, st, data, pad, sets, code, last, inc, dep, wt, sole⟩ : Fr).v A c] w fun e w' => (∃ v, e = .returned v ∧ Own w' w.heap.size 5 v (payL ⟨1, fl, st, data, pad, sets, code, last, inc, dep, wt, sole⟩)) ∧ Below w.heap.size w w' := by
  have hwh : Whole (w.alloc (.cells ([I 1, I fl, I st, .string (S data), I pad, .slice A sets.length c, I code, I last, I inc, I dep, I wt, .bool sole] : List Value).toArray 24)) w.heap.size 24 [I 1, I fl, I st, .string (S data), I pad, .slice A sets.length c, I code, I last, I inc, I dep, I wt, .bool sole] := Whole.new w _ _
  have hbel : Below w.heap.size w (w.alloc (.cells ([I 1, I fl, I st, .string (S data), I pad, .slice A sets.length c, I code, I last, I inc, I dep, I wt, .bool sole] : List Value).toArray 24)) := (Below.refl _ _).alloc (Nat.le_refl _) _
  have hsz : (w.alloc (.cells ([I 1, I fl, I st, .string (S data), I pad, .slice A sets.length c, I code, I last, I inc, I dep, I wt, .bool sole] : List Value).toArray 24)).heap.size = w.heap.size + 1 := by simp
  obtain ⟨i8, hi8⟩ := uint8_row
  have Hf : Hid (payL ⟨1, fl, st, data, pad, sets, code, last, inc, dep, wt, sole⟩ = ordL ⟨1, fl, st, data, pad, sets, code, last, inc, dep, wt, sole⟩ ++ data ++ List.replicate pad.toNat 0) := Lib.hid (by simp [payL, padL, zeros, e8, e32])
  have P8 := Lib.hid (u8_of pad p0 p1)
  have hpn : ((UInt8.ofNat pad.toNat).toNat : Int) = pad := by simp; omega
  have Hpn := Lib.hid hpn
  clear hpn e8 e32
  have wr1 : IntKind.u8.wrap pad = pad := IntWalk.u8_in _ (by omega)
  obtain ⟨m, hm⟩ := Int.eq_ofNat_of_zero_le p0
  have Hm := Lib.hid hm
  clear hm
  go_enter Try.func18, Try.ntmps18
  go_upto_region 8 with fail
  generalize w.alloc (.cells #[I 1, I fl, I st, .string (S data), I pad, .slice A sets.length c, I code, I last, I inc, I dep, I wt, .bool sole] 24) = wb at hwh hbel hsz ⊢
  have HB : Hid (∀ wx, Below (w.heap.size + 1) wb wx → wx.cell? ⟨w.heap.size, 0, none⟩ = some (I 1) ∧ wx.cell? ⟨w.heap.size, 1, none⟩ = some (I fl) ∧ wx.cell? ⟨w.heap.size, 2, none⟩ = some (I st) ∧ wx.cell? ⟨w.heap.size, 3, none⟩ = some (.string (S data)) ∧ wx.cell? ⟨w.heap.size, 4, none⟩ = some (I pad) ∧ wx.cell? ⟨w.heap.size, 5, none⟩ = some (.slice A sets.length c) ∧ wx.cell? ⟨w.heap.size, 6, none⟩ = some (I code) ∧ wx.cell? ⟨w.heap.size, 7, none⟩ = some (I last) ∧ wx.cell? ⟨w.heap.size, 8, none⟩ = some (I inc) ∧ wx.cell? ⟨w.heap.size, 9, none⟩ = some (I dep) ∧ wx.cell? ⟨w.heap.size, 10, none⟩ = some (I wt) ∧ wx.cell? ⟨w.heap.size, 11, none⟩ = some (.bool sole)) :=
    Lib.hid fun wx h => have h := hwh.keep h (by omega); ⟨h.at_ 0, h.at_ 1, h.at_ 2, h.at_ 3, h.at_ 4, h.at_ 5, h.at_ 6, h.at_ 7, h.at_ 8, h.at_ 9, h.at_ 10, h.at_ 11⟩
  have HZ : Hid (wb.heap.size = w.heap.size + 1) := Lib.hid hsz
  clear hwh hsz
  obtain ⟨c0, c1, c2, c3, c4, c5, c6, c7, c8, c9, c10, c11⟩ := HB.out wb (Below.refl _ _)
  have hO : Own wb (w.heap.size + 1) 5 (.slice none 0 0) [] := Own.empty _ _ _
  have hB0 : Below (w.heap.size + 1) wb wb := Below.refl _ _
  have HN0 : Hid (∀ wx, Own wx (w.heap.size + 1) 5 (.slice none 0 0) []) := Lib.hid (fun wx => Own.empty wx _ _)
  generalize Value.slice none 0 0 = vn at HN0 ⊢
  clear hO
  have hO := HN0.out wb
  have OA := Lib.hid (fun wx => order_any ⟨1, fl, st, data, pad, sets, code, last, inc, dep, wt, sole⟩ A c d0 d1 t0 t1 wx)
  have hO1 := Lib.hid hO; clear hO
  go_wp2_with fail
  refine (OA.out _).mono ?_; rintro e w3 ⟨⟨v3, rfl, own3⟩, hb3⟩
  have hO3 := own_keep hO1.out hb3
  obtain ⟨A3, k3, hv3, _, _, rd3, _⟩ := own3.open_
  have hlen3 : (ordL ⟨1, fl, st, data, pad, sets, code, last, inc, dep, wt, sole⟩).length = 5 := by simp [ordL, putB_length]
  subst hv3
  have hB3 : Below (w.heap.size + 1) wb w3 := hB0.trans (hb3.mono (by have := HZ.out; have := hB0.size; omega))
  have hz4 := hB3.size
  have H1 := Lib.hid hO3; have H2 := Lib.hid rd3; have H3 := Lib.hid hlen3
  clear hO3 rd3 own3 OA hO1 hlen3 c0 c1 c2 c3 c4 c5 c6 c7 c8 c9 c10 c11 hb3 hB0
  obtain ⟨c0, c1, c2, c3, c4, c5, c6, c7, c8, c9, c10, c11⟩ := HB.out w3 hB3
  go_wp2_with (at_builtin; refine wpList_append_bytes rfl (.tmp 30) (.tmp 32) 27 rfl Try.underlying27 hi8 (w.heap.size + 1) _ vn _ _ rfl A3 _ k3 rfl ?_ H1.out H2.out rfl (by simp [H3.out]) (by have := HZ.out; omega); intro v4 w4 own4 hg4 hat4 hb4; have hB4 : Below (w.heap.size + 1) wb w4 := hB3.trans hb4; clear hg4 hat4 hb4 c0 c1 c2 c3 c4 c5 c6 c7 c8 c9 c10 c11; obtain ⟨c0, c1, c2, c3, c4, c5, c6, c7, c8, c9, c10, c11⟩ := HB.out w4 hB4)
  clear H1 H2 hB3
  have hO := own4; have hB0 := hB4; clear own4 hB4
  have hlL : ([] ++ ordL ⟨1, fl, st, data, pad, sets, code, last, inc, dep, wt, sole⟩).length ≤ 6 := by simp [ordL, putB_length]
  have HO := Lib.hid hO; have HlL := Lib.hid hlL; clear hO hlL
  clear c0 c1 c2 c3 c4 c5 c6 c7 c8 c9 c10 c11
  refine wp_region_typed_at (by intro vs; simp only [puts, Act.put, List.setIfInBounds_toArray, List.set_cons_zero, List.set_cons_succ, Nat.reduceAdd]; rfl) (fun wx => Below (w.heap.size + 1) wb wx) (StepIn [3, 6] (w.heap.size + 1)) (fun j => match j with | 3 => some 6 | _ => none) (fun wx => Own wx (w.heap.size + 1) 5 (v4) ([] ++ ordL ⟨1, fl, st, data, pad, sets, code, last, inc, dep, wt, sole⟩)) (some 3) (by kernel_rfl) (by kernel_rfl) (by kernel_rfl) (hB0.drew) (own_drew HO.out) (fun k hk x y h _ hs => own_keep h (hs.outr0 hk (by kernel_rfl))) (fun hA => wpR_start ?_)
  have hRf : Hid (∀ (kk : Nat) (ww : World), (StepIn [3, 6] (w.heap.size + 1)) kk ww ww) := Lib.hid (fun k w => StepIn.refl _ _ k w)
  repeat (refine wpR_same (Step := StepIn [3, 6] (w.heap.size + 1)) hA _ (fun k w => hRf.out k w) (by intro vs wz hC hk h0 ho; (try simp only [knownR, live, Region.binds, List.getElem?_cons_zero, List.getElem?_cons_succ, forall_const, true_implies, and_true, Nat.reduceAdd, Nat.reduceSub, Nat.reduceLT, Nat.reduceBEq, Bool.false_eq_true, false_implies, true_and, BEq.rfl] at hk); refine ⟨by first | rfl | exact wanted_at rfl rfl rfl (by simp only [hk, List.getElem_toArray, List.getElem_cons_succ, List.getElem_cons_zero]), ?_⟩; obtain ⟨c0, c1, c2, c3, c4, c5, c6, c7, c8, c9, c10, c11⟩ := HB.out wz hC; go_simp; with_reducible rfl) ?_)
  refine wpR_make (Step := StepIn [3, 6] (w.heap.size + 1)) hA (fun v wx => Own wx (w.heap.size + 1) 5 v ([] ++ ordL ⟨1, fl, st, data, pad, sets, code, last, inc, dep, wt, sole⟩ ++ data)) (fun k hk v x y h _ hs => own_keep h (hs.outr hk (by kernel_rfl))) (by intro vs wz hC hk h0 ho; (try simp only [knownR, live, Region.binds, List.getElem?_cons_zero, List.getElem?_cons_succ, forall_const, true_implies, and_true, Nat.reduceAdd, Nat.reduceSub, Nat.reduceLT, Nat.reduceBEq, Bool.false_eq_true, false_implies, true_and, BEq.rfl] at hk); refine ⟨by first | rfl | exact wanted_at rfl rfl rfl (by simp only [hk, List.getElem_toArray, List.getElem_cons_succ, List.getElem_cons_zero]), ?_⟩; obtain ⟨c0, c1, c2, c3, c4, c5, c6, c7, c8, c9, c10, c11⟩ := HB.out wz hC; have h1 := h0 (by kernel_rfl); have hz := hC.size; have hz2 := HZ.out; obtain ⟨v', W', hrun, h2, h3, h4, h5⟩ := append_str (P := Try.prog) (t := 27) (u := 9) (ty := 27) Try.underlying27 Try.underlying9 hi8 h1 data (by have h := HlL.out; (try simp only [List.length_append, List.length_cons, List.length_nil] at h); (try simp only [List.length_append, List.length_cons, List.length_nil]); omega) (by omega); exact ⟨v', W', exec_append (.tmp 34) (.tmp 36) rfl hk.1 hk.2 hrun, h2, hC.trans h5, StepIn.row (by simp) h5⟩) ?_
  repeat (refine wpR_same (Step := StepIn [3, 6] (w.heap.size + 1)) hA _ (fun k w => hRf.out k w) (by intro vs wz hC hk h0 ho; (try simp only [knownR, live, Region.binds, List.getElem?_cons_zero, List.getElem?_cons_succ, forall_const, true_implies, and_true, Nat.reduceAdd, Nat.reduceSub, Nat.reduceLT, Nat.reduceBEq, Bool.false_eq_true, false_implies, true_and, BEq.rfl] at hk); refine ⟨by first | rfl | exact wanted_at rfl rfl rfl (by simp only [hk, List.getElem_toArray, List.getElem_cons_succ, List.getElem_cons_zero]), ?_⟩; obtain ⟨c0, c1, c2, c3, c4, c5, c6, c7, c8, c9, c10, c11⟩ := HB.out wz hC; go_simp; with_reducible rfl) ?_)
  refine wpR_make (Step := StepIn [3, 6] (w.heap.size + 1)) hA (fun v wx => Own wx (w.heap.size + 1) 5 v ([] ++ ordL ⟨1, fl, st, data, pad, sets, code, last, inc, dep, wt, sole⟩ ++ data ++ List.replicate m 0)) (fun k hk v x y h _ hs => own_keep h (hs.outr hk (by kernel_rfl))) (by intro vs wz hC hk h0 ho; (try simp only [knownR, live, Region.binds, List.getElem?_cons_zero, List.getElem?_cons_succ, forall_const, true_implies, and_true, Nat.reduceAdd, Nat.reduceSub, Nat.reduceLT, Nat.reduceBEq, Bool.false_eq_true, false_implies, true_and, BEq.rfl] at hk); refine ⟨by first | rfl | exact wanted_at rfl rfl rfl (by simp only [hk, List.getElem_toArray, List.getElem_cons_succ, List.getElem_cons_zero]), ?_⟩; obtain ⟨h1, hp⟩ := hk; obtain ⟨c0, c1, c2, c3, c4, c5, c6, c7, c8, c9, c10, c11⟩ := HB.out wz hC; have hz := hC.size; have hz2 := HZ.out; have hmm := Hm.out; obtain ⟨v', W', hrun, h2, h3, h4, h5⟩ := append_zeros (P := Try.prog) (t := 27) (u := 3) (ty := 27) Try.underlying27 Try.underlying3 hi8 h1 m (by have h := HlL.out; (try simp only [List.length_append, List.length_cons, List.length_nil] at h); (try simp only [List.length_append, List.length_cons, List.length_nil]); omega) (by omega); exact ⟨v', W', exec_append (.tmp 37) (.tmp 39) rfl rfl (by rw [← Hm.out]; exact hp.1) hrun, h2, hC.trans h5, StepIn.row (by simp) h5⟩) ?_
  refine wpR_pure (Step := StepIn [3, 6] (w.heap.size + 1)) hA (fun v wx => Own wx (w.heap.size + 1) 5 v ([] ++ ordL ⟨1, fl, st, data, pad, sets, code, last, inc, dep, wt, sole⟩ ++ data ++ List.replicate m 0)) (fun k hk v x y h _ hs => own_keep h (hs.outr hk (by kernel_rfl))) (fun k w => hRf.out k w) (by intro vs wz hC hk h0 ho; (try simp only [knownR, live, Region.binds, List.getElem?_cons_zero, List.getElem?_cons_succ, forall_const, true_implies, and_true, Nat.reduceAdd, Nat.reduceSub, Nat.reduceLT, Nat.reduceBEq, Bool.false_eq_true, false_implies, true_and, BEq.rfl] at hk); refine ⟨by first | rfl | exact wanted_at rfl rfl rfl (by simp only [hk, List.getElem_toArray, List.getElem_cons_succ, List.getElem_cons_zero]), ?_⟩; obtain ⟨h1, _⟩ := hk; obtain ⟨c0, c1, c2, c3, c4, c5, c6, c7, c8, c9, c10, c11⟩ := HB.out wz hC; refine ⟨_, by (go_simp; with_reducible rfl), ?_⟩; exact h1) ?_
  refine wpR_nil hA ?_; intro vs wz hC hk h0; simp only [allR, Nat.reduceAdd, Nat.reduceSub, and_true, Option.isNone_none, Option.isNone_some, forall_const, true_implies, Bool.false_eq_true, false_implies, true_and] at hk; simp only [hk]; clear hRf hA
  have hown := Lib.hid hk.2.2.2.2.2.2
  clear hk
  have em : pad.toNat = m := by have := Hm.out; omega
  have Hem := Lib.hid em
  clear em
  go_wp2_with fail
  go_ret
  exact ⟨⟨_, rfl, by have h := hown.out.more (B' := w.heap.size) (by omega); rw [← Hem.out] at h; rw [Hf.out]; simpa using h⟩, hbel.trans (hC.mono (by omega))⟩
set_option maxRecDepth 100000 in
set_option maxHeartbeats 3200000 in
theorem pay_d110 (fl st : Int) (data : List UInt8) (pad : Int) (sets : List (Int × Int)) (code last inc dep wt : Int) (sole : Bool) (A : Option Addr) (c : Nat) (p0 : 0 ≤ pad) (p1 : pad ≤ 255) (hd : data.length ≤ 1000000) (b8 : bits .and .i64 fl 8 = 8) (e8 : bitB fl 8 = true) (b32 : bits .and .i64 fl 32 = 0) (e32 : bitB fl 32 = false) (w : World) :
    Calls Try.prog 18 #[(⟨1, fl, st, data, pad, sets, code, last, inc, dep, wt, sole⟩ : Fr).v A c] w fun e w' => (∃ v, e = .returned v ∧ Own w' w.heap.size 5 v (payL ⟨1, fl, st, data, pad, sets, code, last, inc, dep, wt, sole⟩)) ∧ Below w.heap.size w w' := by
  have hwh : Whole (w.alloc (.cells ([I 1, I fl, I st, .string (S data), I pad, .slice A sets.length c, I code, I last, I inc, I dep, I wt, .bool sole] : List Value).toArray 24)) w.heap.size 24 [I 1, I fl, I st, .string (S data), I pad, .slice A sets.length c, I code, I last, I inc, I dep, I wt, .bool sole] := Whole.new w _ _
  have hbel : Below w.heap.size w (w.alloc (.cells ([I 1, I fl, I st, .string (S data), I pad, .slice A sets.length c, I code, I last, I inc, I dep, I wt, .bool sole] : List Value).toArray 24)) := (Below.refl _ _).alloc (Nat.le_refl _) _
  have hsz : (w.alloc (.cells ([I 1, I fl, I st, .string (S data), I pad, .slice A sets.length c, I code, I last, I inc, I dep, I wt, .bool sole] : List Value).toArray 24)).heap.size = w.heap.size + 1 := by simp
  obtain ⟨i8, hi8⟩ := uint8_row
  have Hf : Hid (payL ⟨1, fl, st, data, pad, sets, code, last, inc, dep, wt, sole⟩ = [UInt8.ofNat pad.toNat] ++ data ++ List.replicate pad.toNat 0) := Lib.hid (by simp [payL, padL, zeros, e8, e32])
  have P8 := Lib.hid (u8_of pad p0 p1)
  have hpn : ((UInt8.ofNat pad.toNat).toNat : Int) = pad := by simp; omega
  have Hpn := Lib.hid hpn
  clear hpn e8 e32
  have wr1 : IntKind.u8.wrap pad = pad := IntWalk.u8_in _ (by omega)
  obtain ⟨m, hm⟩ := Int.eq_ofNat_of_zero_le p0
  have Hm := Lib.hid hm
  clear hm
  go_enter Try.func18, Try.ntmps18
  go_upto_region 6 with fail
  generalize w.alloc (.cells #[I 1, I fl, I st, .string (S data), I pad, .slice A sets.length c, I code, I last, I inc, I dep, I wt, .bool sole] 24) = wb at hwh hbel hsz ⊢
  have HB : Hid (∀ wx, Below (w.heap.size + 1) wb wx → wx.cell? ⟨w.heap.size, 0, none⟩ = some (I 1) ∧ wx.cell? ⟨w.heap.size, 1, none⟩ = some (I fl) ∧ wx.cell? ⟨w.heap.size, 2, none⟩ = some (I st) ∧ wx.cell? ⟨w.heap.size, 3, none⟩ = some (.string (S data)) ∧ wx.cell? ⟨w.heap.size, 4, none⟩ = some (I pad) ∧ wx.cell? ⟨w.heap.size, 5, none⟩ = some (.slice A sets.length c) ∧ wx.cell? ⟨w.heap.size, 6, none⟩ = some (I code) ∧ wx.cell? ⟨w.heap.size, 7, none⟩ = some (I last) ∧ wx.cell? ⟨w.heap.size, 8, none⟩ = some (I inc) ∧ wx.cell? ⟨w.heap.size, 9, none⟩ = some (I dep) ∧ wx.cell? ⟨w.heap.size, 10, none⟩ = some (I wt) ∧ wx.cell? ⟨w.heap.size, 11, none⟩ = some (.bool sole)) :=
    Lib.hid fun wx h => have h := hwh.keep h (by omega); ⟨h.at_ 0, h.at_ 1, h.at_ 2, h.at_ 3, h.at_ 4, h.at_ 5, h.at_ 6, h.at_ 7, h.at_ 8, h.at_ 9, h.at_ 10, h.at_ 11⟩
  have HZ : Hid (wb.heap.size = w.heap.size + 1) := Lib.hid hsz
  clear hwh hsz
  obtain ⟨c0, c1, c2, c3, c4, c5, c6, c7, c8, c9, c10, c11⟩ := HB.out wb (Below.refl _ _)
  have hO : Own wb (w.heap.size + 1) 5 (.slice none 0 0) [] := Own.empty _ _ _
  have hB0 : Below (w.heap.size + 1) wb wb := Below.refl _ _
  have HN0 : Hid (∀ wx, Own wx (w.heap.size + 1) 5 (.slice none 0 0) []) := Lib.hid (fun wx => Own.empty wx _ _)
  generalize Value.slice none 0 0 = vn at HN0 ⊢
  clear hO
  have own1 : Hid (Own (wb.alloc (.cells #[.int .u8 pad] 5)) (w.heap.size + 1) 5 vn []) := Lib.hid (HN0.out _)
  have rd1 := Lib.hid (rd_new1 wb 5 pad (UInt8.ofNat pad.toNat) Hpn.out)
  go_wp2_with (at_builtin; refine wpList_append_bytes rfl (.tmp 15) (.tmp 19) 27 rfl Try.underlying27 hi8 (w.heap.size + 1) (wb.heap.size + 1) vn [] [UInt8.ofNat pad.toNat] rfl (some ⟨wb.heap.size, 0, none⟩) 1 1 rfl ?_ own1.out rd1.out rfl (by simp) (by have := HZ.out; simp; omega); intro v2 w2 own2 hg2 hat2 hb2; have hB2 : Below (w.heap.size + 1) wb w2 := ((Below.refl _ _).alloc (by have := HZ.out; omega) _).trans hb2; clear hg2 hat2 hb2 c0 c1 c2 c3 c4 c5 c6 c7 c8 c9 c10 c11; obtain ⟨c0, c1, c2, c3, c4, c5, c6, c7, c8, c9, c10, c11⟩ := HB.out w2 hB2)
  simp only [List.nil_append] at own2
  clear own1 rd1 hB0
  have hz3 := hB2.size
  have hO := own2; have hB0 := hB2; clear own2 hB2
  have hlL : ([UInt8.ofNat pad.toNat]).length ≤ 6 := by simp [ordL, putB_length]
  have HO := Lib.hid hO; have HlL := Lib.hid hlL; clear hO hlL
  clear c0 c1 c2 c3 c4 c5 c6 c7 c8 c9 c10 c11
  refine wp_region_typed_at (by intro vs; simp only [puts, Act.put, List.setIfInBounds_toArray, List.set_cons_zero, List.set_cons_succ, Nat.reduceAdd]; rfl) (fun wx => Below (w.heap.size + 1) wb wx) (StepIn [3, 6] (w.heap.size + 1)) (fun j => match j with | 3 => some 6 | _ => none) (fun wx => Own wx (w.heap.size + 1) 5 (v2) ([UInt8.ofNat pad.toNat])) (some 3) (by kernel_rfl) (by kernel_rfl) (by kernel_rfl) (hB0.drew) (own_drew HO.out) (fun k hk x y h _ hs => own_keep h (hs.outr0 hk (by kernel_rfl))) (fun hA => wpR_start ?_)
  have hRf : Hid (∀ (kk : Nat) (ww : World), (StepIn [3, 6] (w.heap.size + 1)) kk ww ww) := Lib.hid (fun k w => StepIn.refl _ _ k w)
  repeat (refine wpR_same (Step := StepIn [3, 6] (w.heap.size + 1)) hA _ (fun k w => hRf.out k w) (by intro vs wz hC hk h0 ho; (try simp only [knownR, live, Region.binds, List.getElem?_cons_zero, List.getElem?_cons_succ, forall_const, true_implies, and_true, Nat.reduceAdd, Nat.reduceSub, Nat.reduceLT, Nat.reduceBEq, Bool.false_eq_true, false_implies, true_and, BEq.rfl] at hk); refine ⟨by first | rfl | exact wanted_at rfl rfl rfl (by simp only [hk, List.getElem_toArray, List.getElem_cons_succ, List.getElem_cons_zero]), ?_⟩; obtain ⟨c0, c1, c2, c3, c4, c5, c6, c7, c8, c9, c10, c11⟩ := HB.out wz hC; go_simp; with_reducible rfl) ?_)
  refine wpR_make (Step := StepIn [3, 6] (w.heap.size + 1)) hA (fun v wx => Own wx (w.heap.size + 1) 5 v ([UInt8.ofNat pad.toNat] ++ data)) (fun k hk v x y h _ hs => own_keep h (hs.outr hk (by kernel_rfl))) (by intro vs wz hC hk h0 ho; (try simp only [knownR, live, Region.binds, List.getElem?_cons_zero, List.getElem?_cons_succ, forall_const, true_implies, and_true, Nat.reduceAdd, Nat.reduceSub, Nat.reduceLT, Nat.reduceBEq, Bool.false_eq_true, false_implies, true_and, BEq.rfl] at hk); refine ⟨by first | rfl | exact wanted_at rfl rfl rfl (by simp only [hk, List.getElem_toArray, List.getElem_cons_succ, List.getElem_cons_zero]), ?_⟩; obtain ⟨c0, c1, c2, c3, c4, c5, c6, c7, c8, c9, c10, c11⟩ := HB.out wz hC; have h1 := h0 (by kernel_rfl); have hz := hC.size; have hz2 := HZ.out; obtain ⟨v', W', hrun, h2, h3, h4, h5⟩ := append_str (P := Try.prog) (t := 27) (u := 9) (ty := 27) Try.underlying27 Try.underlying9 hi8 h1 data (by have h := HlL.out; (try simp only [List.length_append, List.length_cons, List.length_nil] at h); (try simp only [List.length_append, List.length_cons, List.length_nil]); omega) (by omega); exact ⟨v', W', exec_append (.tmp 34) (.tmp 36) rfl hk.1 hk.2 hrun, h2, hC.trans h5, StepIn.row (by simp) h5⟩) ?_
  repeat (refine wpR_same (Step := StepIn [3, 6] (w.heap.size + 1)) hA _ (fun k w => hRf.out k w) (by intro vs wz hC hk h0 ho; (try simp only [knownR, live, Region.binds, List.getElem?_cons_zero, List.getElem?_cons_succ, forall_const, true_implies, and_true, Nat.reduceAdd, Nat.reduceSub, Nat.reduceLT, Nat.reduceBEq, Bool.false_eq_true, false_implies, true_and, BEq.rfl] at hk); refine ⟨by first | rfl | exact wanted_at rfl rfl rfl (by simp only [hk, List.getElem_toArray, List.getElem_cons_succ, List.getElem_cons_zero]), ?_⟩; obtain ⟨c0, c1, c2, c3, c4, c5, c6, c7, c8, c9, c10, c11⟩ := HB.out wz hC; go_simp; with_reducible rfl) ?_)
  refine wpR_make (Step := StepIn [3, 6] (w.heap.size + 1)) hA (fun v wx => Own wx (w.heap.size + 1) 5 v ([UInt8.ofNat pad.toNat] ++ data ++ List.replicate m 0)) (fun k hk v x y h _ hs => own_keep h (hs.outr hk (by kernel_rfl))) (by intro vs wz hC hk h0 ho; (try simp only [knownR, live, Region.binds, List.getElem?_cons_zero, List.getElem?_cons_succ, forall_const, true_implies, and_true, Nat.reduceAdd, Nat.reduceSub, Nat.reduceLT, Nat.reduceBEq, Bool.false_eq_true, false_implies, true_and, BEq.rfl] at hk); refine ⟨by first | rfl | exact wanted_at rfl rfl rfl (by simp only [hk, List.getElem_toArray, List.getElem_cons_succ, List.getElem_cons_zero]), ?_⟩; obtain ⟨h1, hp⟩ := hk; obtain ⟨c0, c1, c2, c3, c4, c5, c6, c7, c8, c9, c10, c11⟩ := HB.out wz hC; have hz := hC.size; have hz2 := HZ.out; have hmm := Hm.out; obtain ⟨v', W', hrun, h2, h3, h4, h5⟩ := append_zeros (P := Try.prog) (t := 27) (u := 3) (ty := 27) Try.underlying27 Try.underlying3 hi8 h1 m (by have h := HlL.out; (try simp only [List.length_append, List.length_cons, List.length_nil] at h); (try simp only [List.length_append, List.length_cons, List.length_nil]); omega) (by omega); exact ⟨v', W', exec_append (.tmp 37) (.tmp 39) rfl rfl (by rw [← Hm.out]; exact hp.1) hrun, h2, hC.trans h5, StepIn.row (by simp) h5⟩) ?_
  refine wpR_pure (Step := StepIn [3, 6] (w.heap.size + 1)) hA (fun v wx => Own wx (w.heap.size + 1) 5 v ([UInt8.ofNat pad.toNat] ++ data ++ List.replicate m 0)) (fun k hk v x y h _ hs => own_keep h (hs.outr hk (by kernel_rfl))) (fun k w => hRf.out k w) (by intro vs wz hC hk h0 ho; (try simp only [knownR, live, Region.binds, List.getElem?_cons_zero, List.getElem?_cons_succ, forall_const, true_implies, and_true, Nat.reduceAdd, Nat.reduceSub, Nat.reduceLT, Nat.reduceBEq, Bool.false_eq_true, false_implies, true_and, BEq.rfl] at hk); refine ⟨by first | rfl | exact wanted_at rfl rfl rfl (by simp only [hk, List.getElem_toArray, List.getElem_cons_succ, List.getElem_cons_zero]), ?_⟩; obtain ⟨h1, _⟩ := hk; obtain ⟨c0, c1, c2, c3, c4, c5, c6, c7, c8, c9, c10, c11⟩ := HB.out wz hC; refine ⟨_, by (go_simp; with_reducible rfl), ?_⟩; exact h1) ?_
  refine wpR_nil hA ?_; intro vs wz hC hk h0; simp only [allR, Nat.reduceAdd, Nat.reduceSub, and_true, Option.isNone_none, Option.isNone_some, forall_const, true_implies, Bool.false_eq_true, false_implies, true_and] at hk; simp only [hk]; clear hRf hA
  have hown := Lib.hid hk.2.2.2.2.2.2
  clear hk
  have em : pad.toNat = m := by have := Hm.out; omega
  have Hem := Lib.hid em
  clear em
  go_wp2_with fail
  go_ret
  exact ⟨⟨_, rfl, by have h := hown.out.more (B' := w.heap.size) (by omega); rw [← Hem.out] at h; rw [Hf.out]; simpa using h⟩, hbel.trans (hC.mono (by omega))⟩
set_option maxRecDepth 100000 in
set_option maxHeartbeats 3200000 in
theorem pay_d111 (fl st : Int) (data : List UInt8) (pad : Int) (sets : List (Int × Int)) (code last inc dep wt : Int) (sole : Bool) (A : Option Addr) (c : Nat) (p0 : 0 ≤ pad) (p1 : pad ≤ 255) (hd : data.length ≤ 1000000) (b8 : bits .and .i64 fl 8 = 8) (e8 : bitB fl 8 = true) (b32 : bits .and .i64 fl 32 = 32) (e32 : bitB fl 32 = true) (d0 : 0 ≤ dep) (d1 : dep ≤ 2147483647) (t0 : 0 ≤ wt) (t1 : wt ≤ 255) (w : World) :
    Calls Try.prog 18 #[(⟨1, fl, st, data, pad, sets, code, last, inc, dep, wt, sole⟩ : Fr).v A c] w fun e w' => (∃ v, e = .returned v ∧ Own w' w.heap.size 5 v (payL ⟨1, fl, st, data, pad, sets, code, last, inc, dep, wt, sole⟩)) ∧ Below w.heap.size w w' := by
  have hwh : Whole (w.alloc (.cells ([I 1, I fl, I st, .string (S data), I pad, .slice A sets.length c, I code, I last, I inc, I dep, I wt, .bool sole] : List Value).toArray 24)) w.heap.size 24 [I 1, I fl, I st, .string (S data), I pad, .slice A sets.length c, I code, I last, I inc, I dep, I wt, .bool sole] := Whole.new w _ _
  have hbel : Below w.heap.size w (w.alloc (.cells ([I 1, I fl, I st, .string (S data), I pad, .slice A sets.length c, I code, I last, I inc, I dep, I wt, .bool sole] : List Value).toArray 24)) := (Below.refl _ _).alloc (Nat.le_refl _) _
  have hsz : (w.alloc (.cells ([I 1, I fl, I st, .string (S data), I pad, .slice A sets.length c, I code, I last, I inc, I dep, I wt, .bool sole] : List Value).toArray 24)).heap.size = w.heap.size + 1 := by simp
  obtain ⟨i8, hi8⟩ := uint8_row
  have Hf : Hid (payL ⟨1, fl, st, data, pad, sets, code, last, inc, dep, wt, sole⟩ = [UInt8.ofNat pad.toNat] ++ ordL ⟨1, fl, st, data, pad, sets, code, last, inc, dep, wt, sole⟩ ++ data ++ List.replicate pad.toNat 0) := Lib.hid (by simp [payL, padL, zeros, e8, e32])
  have P8 := Lib.hid (u8_of pad p0 p1)
  have hpn : ((UInt8.ofNat pad.toNat).toNat : Int) = pad := by simp; omega
  have Hpn := Lib.hid hpn
  clear hpn e8 e32
  have wr1 : IntKind.u8.wrap pad = pad := IntWalk.u8_in _ (by omega)
  obtain ⟨m, hm⟩ := Int.eq_ofNat_of_zero_le p0
  have Hm := Lib.hid hm
  clear hm
  go_enter Try.func18, Try.ntmps18
  go_upto_region 6 with fail
  generalize w.alloc (.cells #[I 1, I fl, I st, .string (S data), I pad, .slice A sets.length c, I code, I last, I inc, I dep, I wt, .bool sole] 24) = wb at hwh hbel hsz ⊢
  have HB : Hid (∀ wx, Below (w.heap.size + 1) wb wx → wx.cell? ⟨w.heap.size, 0, none⟩ = some (I 1) ∧ wx.cell? ⟨w.heap.size, 1, none⟩ = some (I fl) ∧ wx.cell? ⟨w.heap.size, 2, none⟩ = some (I st) ∧ wx.cell? ⟨w.heap.size, 3, none⟩ = some (.string (S data)) ∧ wx.cell? ⟨w.heap.size, 4, none⟩ = some (I pad) ∧ wx.cell? ⟨w.heap.size, 5, none⟩ = some (.slice A sets.length c) ∧ wx.cell? ⟨w.heap.size, 6, none⟩ = some (I code) ∧ wx.cell? ⟨w.heap.size, 7, none⟩ = some (I last) ∧ wx.cell? ⟨w.heap.size, 8, none⟩ = some (I inc) ∧ wx.cell? ⟨w.heap.size, 9, none⟩ = some (I dep) ∧ wx.cell? ⟨w.heap.size, 10, none⟩ = some (I wt) ∧ wx.cell? ⟨w.heap.size, 11, none⟩ = some (.bool sole)) :=
    Lib.hid fun wx h => have h := hwh.keep h (by omega); ⟨h.at_ 0, h.at_ 1, h.at_ 2, h.at_ 3, h.at_ 4, h.at_ 5, h.at_ 6, h.at_ 7, h.at_ 8, h.at_ 9, h.at_ 10, h.at_ 11⟩
  have HZ : Hid (wb.heap.size = w.heap.size + 1) := Lib.hid hsz
  clear hwh hsz
  obtain ⟨c0, c1, c2, c3, c4, c5, c6, c7, c8, c9, c10, c11⟩ := HB.out wb (Below.refl _ _)
  have hO : Own wb (w.heap.size + 1) 5 (.slice none 0 0) [] := Own.empty _ _ _
  have hB0 : Below (w.heap.size + 1) wb wb := Below.refl _ _
  have HN0 : Hid (∀ wx, Own wx (w.heap.size + 1) 5 (.slice none 0 0) []) := Lib.hid (fun wx => Own.empty wx _ _)
  generalize Value.slice none 0 0 = vn at HN0 ⊢
  clear hO
  have own1 : Hid (Own (wb.alloc (.cells #[.int .u8 pad] 5)) (w.heap.size + 1) 5 vn []) := Lib.hid (HN0.out _)
  have rd1 := Lib.hid (rd_new1 wb 5 pad (UInt8.ofNat pad.toNat) Hpn.out)
  go_wp2_with (at_builtin; refine wpList_append_bytes rfl (.tmp 15) (.tmp 19) 27 rfl Try.underlying27 hi8 (w.heap.size + 1) (wb.heap.size + 1) vn [] [UInt8.ofNat pad.toNat] rfl (some ⟨wb.heap.size, 0, none⟩) 1 1 rfl ?_ own1.out rd1.out rfl (by simp) (by have := HZ.out; simp; omega); intro v2 w2 own2 hg2 hat2 hb2; have hB2 : Below (w.heap.size + 1) wb w2 := ((Below.refl _ _).alloc (by have := HZ.out; omega) _).trans hb2; clear hg2 hat2 hb2 c0 c1 c2 c3 c4 c5 c6 c7 c8 c9 c10 c11; obtain ⟨c0, c1, c2, c3, c4, c5, c6, c7, c8, c9, c10, c11⟩ := HB.out w2 hB2)
  simp only [List.nil_append] at own2
  clear own1 rd1 hB0
  have hz3 := hB2.size
  have hO := own2; have hB0 := hB2; clear own2 hB2
  have OA := Lib.hid (fun wx => order_any ⟨1, fl, st, data, pad, sets, code, last, inc, dep, wt, sole⟩ A c d0 d1 t0 t1 wx)
  have hO1 := Lib.hid hO; clear hO
  refine (OA.out _).mono ?_; rintro e w3 ⟨⟨v3, rfl, own3⟩, hb3⟩
  have hO3 := own_keep hO1.out hb3
  obtain ⟨A3, k3, hv3, _, _, rd3, _⟩ := own3.open_
  have hlen3 : (ordL ⟨1, fl, st, data, pad, sets, code, last, inc, dep, wt, sole⟩).length = 5 := by simp [ordL, putB_length]
  subst hv3
  have hB3 : Below (w.heap.size + 1) wb w3 := hB0.trans (hb3.mono (by have := HZ.out; have := hB0.size; omega))
  have hz4 := hB3.size
  have H1 := Lib.hid hO3; have H2 := Lib.hid rd3; have H3 := Lib.hid hlen3
  clear hO3 rd3 own3 OA hO1 hlen3 c0 c1 c2 c3 c4 c5 c6 c7 c8 c9 c10 c11 hb3 hB0
  obtain ⟨c0, c1, c2, c3, c4, c5, c6, c7, c8, c9, c10, c11⟩ := HB.out w3 hB3
  go_wp2_with (at_builtin; refine wpList_append_bytes rfl (.tmp 30) (.tmp 32) 27 rfl Try.underlying27 hi8 (w.heap.size + 1) _ v2 _ _ rfl A3 _ k3 rfl ?_ H1.out H2.out rfl (by simp [H3.out]) (by have := HZ.out; omega); intro v4 w4 own4 hg4 hat4 hb4; have hB4 : Below (w.heap.size + 1) wb w4 := hB3.trans hb4; clear hg4 hat4 hb4 c0 c1 c2 c3 c4 c5 c6 c7 c8 c9 c10 c11; obtain ⟨c0, c1, c2, c3, c4, c5, c6, c7, c8, c9, c10, c11⟩ := HB.out w4 hB4)
  clear H1 H2 hB3
  have hO := own4; have hB0 := hB4; clear own4 hB4
  have hlL : ([UInt8.ofNat pad.toNat] ++ ordL ⟨1, fl, st, data, pad, sets, code, last, inc, dep, wt, sole⟩).length ≤ 6 := by simp [ordL, putB_length]
  have HO := Lib.hid hO; have HlL := Lib.hid hlL; clear hO hlL
  clear c0 c1 c2 c3 c4 c5 c6 c7 c8 c9 c10 c11
  refine wp_region_typed_at (by intro vs; simp only [puts, Act.put, List.setIfInBounds_toArray, List.set_cons_zero, List.set_cons_succ, Nat.reduceAdd]; rfl) (fun wx => Below (w.heap.size + 1) wb wx) (StepIn [3, 6] (w.heap.size + 1)) (fun j => match j with | 3 => some 6 | _ => none) (fun wx => Own wx (w.heap.size + 1) 5 (v4) ([UInt8.ofNat pad.toNat] ++ ordL ⟨1, fl, st, data, pad, sets, code, last, inc, dep, wt, sole⟩)) (some 3) (by kernel_rfl) (by kernel_rfl) (by kernel_rfl) (hB0.drew) (own_drew HO.out) (fun k hk x y h _ hs => own_keep h (hs.outr0 hk (by kernel_rfl))) (fun hA => wpR_start ?_)
  have hRf : Hid (∀ (kk : Nat) (ww : World), (StepIn [3, 6] (w.heap.size + 1)) kk ww ww) := Lib.hid (fun k w => StepIn.refl _ _ k w)
  repeat (refine wpR_same (Step := StepIn [3, 6] (w.heap.size + 1)) hA _ (fun k w => hRf.out k w) (by intro vs wz hC hk h0 ho; (try simp only [knownR, live, Region.binds, List.getElem?_cons_zero, List.getElem?_cons_succ, forall_const, true_implies, and_true, Nat.reduceAdd, Nat.reduceSub, Nat.reduceLT, Nat.reduceBEq, Bool.false_eq_true, false_implies, true_and, BEq.rfl] at hk); refine ⟨by first | rfl | exact wanted_at rfl rfl rfl (by simp only [hk, List.getElem_toArray, List.getElem_cons_succ, List.getElem_cons_zero]), ?_⟩; obtain ⟨c0, c1, c2, c3, c4, c5, c6, c7, c8, c9, c10, c11⟩ := HB.out wz hC; go_simp; with_reducible rfl) ?_)
  refine wpR_make (Step := StepIn [3, 6] (w.heap.size + 1)) hA (fun v wx => Own wx (w.heap.size + 1) 5 v ([UInt8.ofNat pad.toNat] ++ ordL ⟨1, fl, st, data, pad, sets, code, last, inc, dep, wt, sole⟩ ++ data)) (fun k hk v x y h _ hs => own_keep h (hs.outr hk (by kernel_rfl))) (by intro vs wz hC hk h0 ho; (try simp only [knownR, live, Region.binds, List.getElem?_cons_zero, List.getElem?_cons_succ, forall_const, true_implies, and_true, Nat.reduceAdd, Nat.reduceSub, Nat.reduceLT, Nat.reduceBEq, Bool.false_eq_true, false_implies, true_and, BEq.rfl] at hk); refine ⟨by first | rfl | exact wanted_at rfl rfl rfl (by simp only [hk, List.getElem_toArray, List.getElem_cons_succ, List.getElem_cons_zero]), ?_⟩; obtain ⟨c0, c1, c2, c3, c4, c5, c6, c7, c8, c9, c10, c11⟩ := HB.out wz hC; have h1 := h0 (by kernel_rfl); have hz := hC.size; have hz2 := HZ.out; obtain ⟨v', W', hrun, h2, h3, h4, h5⟩ := append_str (P := Try.prog) (t := 27) (u := 9) (ty := 27) Try.underlying27 Try.underlying9 hi8 h1 data (by have h := HlL.out; (try simp only [List.length_append, List.length_cons, List.length_nil] at h); (try simp only [List.length_append, List.length_cons, List.length_nil]); omega) (by omega); exact ⟨v', W', exec_append (.tmp 34) (.tmp 36) rfl hk.1 hk.2 hrun, h2, hC.trans h5, StepIn.row (by simp) h5⟩) ?_
  repeat (refine wpR_same (Step := StepIn [3, 6] (w.heap.size + 1)) hA _ (fun k w => hRf.out k w) (by intro vs wz hC hk h0 ho; (try simp only [knownR, live, Region.binds, List.getElem?_cons_zero, List.getElem?_cons_succ, forall_const, true_implies, and_true, Nat.reduceAdd, Nat.reduceSub, Nat.reduceLT, Nat.reduceBEq, Bool.false_eq_true, false_implies, true_and, BEq.rfl] at hk); refine ⟨by first | rfl | exact wanted_at rfl rfl rfl (by simp only [hk, List.getElem_toArray, List.getElem_cons_succ, List.getElem_cons_zero]), ?_⟩; obtain ⟨c0, c1, c2, c3, c4, c5, c6, c7, c8, c9, c10, c11⟩ := HB.out wz hC; go_simp; with_reducible rfl) ?_)
  refine wpR_make (Step := StepIn [3, 6] (w.heap.size + 1)) hA (fun v wx => Own wx (w.heap.size + 1) 5 v ([UInt8.ofNat pad.toNat] ++ ordL ⟨1, fl, st, data, pad, sets, code, last, inc, dep, wt, sole⟩ ++ data ++ List.replicate m 0)) (fun k hk v x y h _ hs => own_keep h (hs.outr hk (by kernel_rfl))) (by intro vs wz hC hk h0 ho; (try simp only [knownR, live, Region.binds, List.getElem?_cons_zero, List.getElem?_cons_succ, forall_const, true_implies, and_true, Nat.reduceAdd, Nat.reduceSub, Nat.reduceLT, Nat.reduceBEq, Bool.false_eq_true, false_implies, true_and, BEq.rfl] at hk); refine ⟨by first | rfl | exact wanted_at rfl rfl rfl (by simp only [hk, List.getElem_toArray, List.getElem_cons_succ, List.getElem_cons_zero]), ?_⟩; obtain ⟨h1, hp⟩ := hk; obtain ⟨c0, c1, c2, c3, c4, c5, c6, c7, c8, c9, c10, c11⟩ := HB.out wz hC; have hz := hC.size; have hz2 := HZ.out; have hmm := Hm.out; obtain ⟨v', W', hrun, h2, h3, h4, h5⟩ := append_zeros (P := Try.prog) (t := 27) (u := 3) (ty := 27) Try.underlying27 Try.underlying3 hi8 h1 m (by have h := HlL.out; (try simp only [List.length_append, List.length_cons, List.length_nil] at h); (try simp only [List.length_append, List.length_cons, List.length_nil]); omega) (by omega); exact ⟨v', W', exec_append (.tmp 37) (.tmp 39) rfl rfl (by rw [← Hm.out]; exact hp.1) hrun, h2, hC.trans h5, StepIn.row (by simp) h5⟩) ?_
  refine wpR_pure (Step := StepIn [3, 6] (w.heap.size + 1)) hA (fun v wx => Own wx (w.heap.size + 1) 5 v ([UInt8.ofNat pad.toNat] ++ ordL ⟨1, fl, st, data, pad, sets, code, last, inc, dep, wt, sole⟩ ++ data ++ List.replicate m 0)) (fun k hk v x y h _ hs => own_keep h (hs.outr hk (by kernel_rfl))) (fun k w => hRf.out k w) (by intro vs wz hC hk h0 ho; (try simp only [knownR, live, Region.binds, List.getElem?_cons_zero, List.getElem?_cons_succ, forall_const, true_implies, and_true, Nat.reduceAdd, Nat.reduceSub, Nat.reduceLT, Nat.reduceBEq, Bool.false_eq_true, false_implies, true_and, BEq.rfl] at hk); refine ⟨by first | rfl | exact wanted_at rfl rfl rfl (by simp only [hk, List.getElem_toArray, List.getElem_cons_succ, List.getElem_cons_zero]), ?_⟩; obtain ⟨h1, _⟩ := hk; obtain ⟨c0, c1, c2, c3, c4, c5, c6, c7, c8, c9, c10, c11⟩ := HB.out wz hC; refine ⟨_, by (go_simp; with_reducible rfl), ?_⟩; exact h1) ?_
  refine wpR_nil hA ?_; intro vs wz hC hk h0; simp only [allR, Nat.reduceAdd, Nat.reduceSub, and_true, Option.isNone_none, Option.isNone_some, forall_const, true_implies, Bool.false_eq_true, false_implies, true_and] at hk; simp only [hk]; clear hRf hA
  have hown := Lib.hid hk.2.2.2.2.2.2
  clear hk
  have em : pad.toNat = m := by have := Hm.out; omega
  have Hem := Lib.hid em
  clear em
  go_wp2_with fail
  go_ret
  exact ⟨⟨_, rfl, by have h := hown.out.more (B' := w.heap.size) (by omega); rw [← Hem.out] at h; rw [Hf.out]; simpa using h⟩, hbel.trans (hC.mono (by omega))⟩
end Go.Proofs.Ytlfkgbcclinnbaa
