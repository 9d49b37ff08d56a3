/- Layer 6: the contract of the program's Put. No condition. -/
import Derived.Test.YtlfkgbcclinnbaaFr5
namespace Go.Proofs.Ytlfkgbcclinnbaa
set_option linter.all false
open Go Go.RowKit

theorem put3_any (n : Nat) (h1 : n ≤ 16777215) (w : World) :
    Calls Try.prog 19 #[.int .u32 n, I 3] w fun e w' => (∃ v, e = .returned v ∧ Own w' w.heap.size 5 v (putB 3 n)) ∧ Below w.heap.size w w' := by
  have hp := put_any n (by omega) 3 w
  have e4 : putL n 3 = putB 3 n := putL_of n 3 (by omega) (by omega)
  rw [e4] at hp
  exact hp
set_option maxRecDepth 100000 in
set_option maxHeartbeats 3200000 in
theorem put_frame (f : Fr) (A : Option Addr) (c : Nat) (hd : f.data.length ≤ 1000000) (hn : f.sets.length ≤ 1000000) (w : World) (hr : RdC w w.heap.size A (setC f.sets)) :
    Calls Try.prog 11 #[f.v A c] w fun e w' => (∃ v, e = .returned (.tuple #[v, I (putE f)]) ∧ Own w' w.heap.size 5 v (putF f)) ∧ Below w.heap.size w w' := by
  have hwh : Whole (w.alloc (.cells (f.cells A c).toArray 24)) w.heap.size 24 (f.cells A c) := Whole.new w _ _
  have hbel : Below w.heap.size w (w.alloc (.cells (f.cells A c).toArray 24)) := (Below.refl _ _).alloc (Nat.le_refl _) _
  have hsz : (w.alloc (.cells (f.cells A c).toArray 24)).heap.size = w.heap.size + 1 := by simp
  obtain ⟨i8, hi8⟩ := uint8_row
  have MA := Lib.hid (fun wx (h : Below w.heap.size w wx) => may_any f A c hd hn wx ((hr.keep h).more h.size))
  have PA := Lib.hid (fun wx (h : Below w.heap.size w wx) (hm : rangesB f = true) => pay_any f A c hm hd hn wx ((hr.keep h).more h.size))
  have HE := Lib.hid (show putE f = (if mayB f then (if 16777215 < (payL f).length then 2 else 0) else 1) from rfl)
  have HF := Lib.hid (show putF f = (if putE f = 0 then (putB 3 (payL f).length ++ [UInt8.ofNat f.ty.toNat, UInt8.ofNat f.fl.toNat] ++ putB 4 f.st.toNat) ++ payL f else []) from rfl)
  have HRg : Hid (mayB f = true → rangesB f = true) := Lib.hid (fun h => by simp only [mayB, Bool.and_eq_true] at h; exact h.1)
  have HBd : Hid (mayB f = true → 0 ≤ f.ty ∧ f.ty ≤ 255 ∧ 0 ≤ f.fl ∧ f.fl ≤ 255 ∧ 0 ≤ f.st ∧ f.st ≤ 4294967295) := Lib.hid (fun h => by have := may_facts f (HRg.out h); omega)
  clear hr hd hn
  generalize payL f = P at HE HF PA
  cases hm : mayB f
  · have He : Hid (putE f = 1) := Lib.hid (by rw [HE.out, hm]; rfl)
    have Hf : Hid (putF f = []) := Lib.hid (by rw [HF.out, He.out]; rfl)
    generalize putE f = E at He ⊢
    generalize putF f = L at Hf ⊢
    clear HE HF PA HRg HBd
    obtain ⟨ty, fl, st, data, pad, sets, code, last, inc, dep, wt, sole⟩ := f
    try dsimp only at *
    rw [hm] at MA
    go_enter Try.func11, Try.ntmps11
    go_wp2_with fail
    refine (MA.out _ hbel).mono ?_; rintro e w2 ⟨rfl, hb2⟩
    go_wp2_with fail
    go_ret2
    exact ⟨⟨_, by rw [He.out]; rfl, by rw [Hf.out]; exact Own.empty _ _ _⟩, hbel.trans (hb2.mono (by simp))⟩
  · have PA2 := Lib.hid (fun wx h => PA.out wx h (HRg.out hm))
    have HBd2 := HBd.out hm
    clear PA HRg HBd
    by_cases hl : 16777215 < P.length
    · have He : Hid (putE f = 2) := Lib.hid (by rw [HE.out, hm]; simp [hl])
      have Hf : Hid (putF f = []) := Lib.hid (by rw [HF.out, He.out]; rfl)
      generalize putE f = E at He ⊢
      generalize putF f = L at Hf ⊢
      clear HE HF HBd2
      obtain ⟨ty, fl, st, data, pad, sets, code, last, inc, dep, wt, sole⟩ := f
      try dsimp only at *
      rw [hm] at MA
      go_enter Try.func11, Try.ntmps11
      go_wp2_with fail
      generalize w.alloc (.cells #[I ty, I fl, I st, .string (S data), I pad, .slice A sets.length c, I code, I last, I inc, I dep, I wt, .bool sole] 24) = wb at hwh hbel hsz ⊢
      have HB : Hid (∀ wx, Below (w.heap.size + 1) wb wx → wx.cell? ⟨w.heap.size, 0, none⟩ = some (I ty) ∧ wx.cell? ⟨w.heap.size, 1, none⟩ = some (I fl) ∧ wx.cell? ⟨w.heap.size, 2, none⟩ = some (I st) ∧ wx.cell? ⟨w.heap.size, 3, none⟩ = some (.string (S data)) ∧ wx.cell? ⟨w.heap.size, 4, none⟩ = some (I pad) ∧ wx.cell? ⟨w.heap.size, 5, none⟩ = some (.slice A sets.length c) ∧ wx.cell? ⟨w.heap.size, 6, none⟩ = some (I code) ∧ wx.cell? ⟨w.heap.size, 7, none⟩ = some (I last) ∧ wx.cell? ⟨w.heap.size, 8, none⟩ = some (I inc) ∧ wx.cell? ⟨w.heap.size, 9, none⟩ = some (I dep) ∧ wx.cell? ⟨w.heap.size, 10, none⟩ = some (I wt) ∧ wx.cell? ⟨w.heap.size, 11, none⟩ = some (.bool sole)) :=
        Lib.hid fun wx h => have h := hwh.keep h (by omega); ⟨h.at_ 0, h.at_ 1, h.at_ 2, h.at_ 3, h.at_ 4, h.at_ 5, h.at_ 6, h.at_ 7, h.at_ 8, h.at_ 9, h.at_ 10, h.at_ 11⟩
      have HZ : Hid (wb.heap.size = w.heap.size + 1) := Lib.hid hsz
      clear hwh hsz
      refine (MA.out _ hbel).mono ?_; rintro e w2 ⟨rfl, hb2⟩
      have hB2 : Below (w.heap.size + 1) wb w2 := hb2.mono (by have := HZ.out; omega)
      obtain ⟨c0, c1, c2, c3, c4, c5, c6, c7, c8, c9, c10, c11⟩ := HB.out w2 hB2
      go_wp2_with fail
      refine (PA2.out _ (hbel.trans (hB2.mono (by omega)))).mono ?_; rintro e w3 ⟨⟨v3, rfl, own3⟩, hb3⟩
      obtain ⟨A3, k3, rfl, _, _, _, _⟩ := own3.open_
      have HBf := Lib.hid (hbel.trans ((hB2.trans (hb3.mono (by have := hB2.size; have := HZ.out; omega))).mono (by omega)))
      clear own3 hb3 hb2 hB2 c0 c1 c2 c3 c4 c5 c6 c7 c8 c9 c10 c11
      go_wp2_with fail
      go_ret2
      exact ⟨⟨_, by rw [He.out]; rfl, by rw [Hf.out]; exact Own.empty _ _ _⟩, HBf.out⟩
    · have He : Hid (putE f = 0) := Lib.hid (by rw [HE.out, hm]; simp [hl])
      have Hf : Hid (putF f = (putB 3 P.length ++ [UInt8.ofNat f.ty.toNat, UInt8.ofNat f.fl.toNat] ++ putB 4 f.st.toNat) ++ P) := Lib.hid (by rw [HF.out, He.out]; rfl)
      generalize putE f = E at He ⊢
      generalize putF f = L at Hf ⊢
      clear HE HF
      obtain ⟨ty, fl, st, data, pad, sets, code, last, inc, dep, wt, sole⟩ := f
      try dsimp only at *
      rw [hm] at MA
      obtain ⟨t0, t1, f0, f1, s0, s1⟩ := HBd2
      have W1 := Lib.hid (u8_of ty t0 t1)
      have W2 := Lib.hid (u8_of fl f0 f1)
      have wr1 : IntKind.u8.wrap ty = ty := IntWalk.u8_in _ (by omega)
      have wr2 : IntKind.u8.wrap fl = fl := IntWalk.u8_in _ (by omega)
      have wr3 : IntKind.u32.wrap (P.length : Int) = (P.length : Int) := IntWalk.u32_in _ (by omega)
      go_enter Try.func11, Try.ntmps11
      go_wp2_with fail
      generalize w.alloc (.cells #[I ty, I fl, I st, .string (S data), I pad, .slice A sets.length c, I code, I last, I inc, I dep, I wt, .bool sole] 24) = wb at hwh hbel hsz ⊢
      have HB : Hid (∀ wx, Below (w.heap.size + 1) wb wx → wx.cell? ⟨w.heap.size, 0, none⟩ = some (I ty) ∧ wx.cell? ⟨w.heap.size, 1, none⟩ = some (I fl) ∧ wx.cell? ⟨w.heap.size, 2, none⟩ = some (I st) ∧ wx.cell? ⟨w.heap.size, 3, none⟩ = some (.string (S data)) ∧ wx.cell? ⟨w.heap.size, 4, none⟩ = some (I pad) ∧ wx.cell? ⟨w.heap.size, 5, none⟩ = some (.slice A sets.length c) ∧ wx.cell? ⟨w.heap.size, 6, none⟩ = some (I code) ∧ wx.cell? ⟨w.heap.size, 7, none⟩ = some (I last) ∧ wx.cell? ⟨w.heap.size, 8, none⟩ = some (I inc) ∧ wx.cell? ⟨w.heap.size, 9, none⟩ = some (I dep) ∧ wx.cell? ⟨w.heap.size, 10, none⟩ = some (I wt) ∧ wx.cell? ⟨w.heap.size, 11, none⟩ = some (.bool sole)) :=
        Lib.hid fun wx h => have h := hwh.keep h (by omega); ⟨h.at_ 0, h.at_ 1, h.at_ 2, h.at_ 3, h.at_ 4, h.at_ 5, h.at_ 6, h.at_ 7, h.at_ 8, h.at_ 9, h.at_ 10, h.at_ 11⟩
      have HZ : Hid (wb.heap.size = w.heap.size + 1) := Lib.hid hsz
      clear hwh hsz
      refine (MA.out _ hbel).mono ?_; rintro e w2 ⟨rfl, hb2⟩
      have hB2 : Below (w.heap.size + 1) wb w2 := hb2.mono (by have := HZ.out; omega)
      obtain ⟨c0, c1, c2, c3, c4, c5, c6, c7, c8, c9, c10, c11⟩ := HB.out w2 hB2
      go_wp2_with fail
      refine (PA2.out _ (hbel.trans (hB2.mono (by omega)))).mono ?_; rintro e w3 ⟨⟨v3, rfl, own3⟩, hb3⟩
      obtain ⟨A3, k3, rfl, _, _, rd3, _⟩ := own3.open_
      have hB3 := hB2.trans (hb3.mono (by have := hB2.size; have := HZ.out; omega))
      have HB3 := Lib.hid hB3
      have HRd := Lib.hid rd3
      have HN : Hid (w.heap.size + 1 ≤ w3.heap.size) := Lib.hid (by have := hB3.size; have := HZ.out; omega)
      clear own3 hb3 hb2 hB2 hB3 rd3 c0 c1 c2 c3 c4 c5 c6 c7 c8 c9 c10 c11
      go_wp2_with fail
      refine wp_region_typed_at (by intro vs; simp only [puts, Act.put, List.setIfInBounds_toArray, List.set_cons_zero, List.set_cons_succ, Nat.reduceAdd]; rfl) (fun wx => Below w3.heap.size w3 wx) (StepIn [11] w3.heap.size) (fun j => match j with | 3 => some 11 | 10 => some 11 | _ => none) (fun _ => True) (none) (by kernel_rfl) (by kernel_rfl) (by kernel_rfl) ((Below.refl _ _).drew) (trivial) (fun _ _ _ _ _ _ _ => trivial) (fun hA => wpR_start ?_)
      have hRf : Hid (∀ (kk : Nat) (ww : World), (StepIn [11] w3.heap.size) kk ww ww) := Lib.hid (fun k w => StepIn.refl _ _ k w)
      repeat (refine wpR_same (Step := StepIn [11] w3.heap.size) hA _ (fun k w => hRf.out k w) (by intro vs wz hC hk h0 ho; (try simp only [knownR, live, Region.binds, List.getElem?_cons_zero, List.getElem?_cons_succ, forall_const, true_implies, and_true, Nat.reduceAdd, Nat.reduceSub, Nat.reduceLT, Nat.reduceBEq, Bool.false_eq_true, false_implies, true_and, BEq.rfl] at hk); refine ⟨by first | rfl | exact wanted_at rfl rfl rfl (by simp only [hk, List.getElem_toArray, List.getElem_cons_succ, List.getElem_cons_zero]), ?_⟩; obtain ⟨c0, c1, c2, c3, c4, c5, c6, c7, c8, c9, c10, c11⟩ := HB.out wz (HB3.out.trans (hC.mono HN.out)); go_simp; with_reducible rfl) ?_)
      refine wpR_call (Step := StepIn [11] w3.heap.size) hA (fun v wx => Own wx w3.heap.size 5 v (putB 3 P.length)) (fun k hk v x y h _ hs => own_keep h (hs.outr hk (by kernel_rfl))) (by intro vs wz hC hk h0 ho; (try simp only [knownR, live, Region.binds, List.getElem?_cons_zero, List.getElem?_cons_succ, forall_const, true_implies, and_true, Nat.reduceAdd, Nat.reduceSub, Nat.reduceLT, Nat.reduceBEq, Bool.false_eq_true, false_implies, true_and, BEq.rfl] at hk); refine ⟨by first | rfl | exact wanted_at rfl rfl rfl (by simp only [hk, List.getElem_toArray, List.getElem_cons_succ, List.getElem_cons_zero]), ?_⟩; obtain ⟨c0, c1, c2, c3, c4, c5, c6, c7, c8, c9, c10, c11⟩ := HB.out wz (HB3.out.trans (hC.mono HN.out)); refine ⟨_, _, by (go_simp; first | with_reducible rfl | exact ⟨rfl, rfl⟩), ?_⟩; refine (put3_any P.length (by omega) _).mono ?_; rintro e w4 ⟨⟨v, rfl, hv⟩, hb⟩; have hz := hC.size; exact ⟨v, rfl, hv.more (by omega), hC.trans (hb.mono (by omega)), StepIn.new (by simp) hb⟩) ?_
      repeat (refine wpR_same (Step := StepIn [11] w3.heap.size) hA _ (fun k w => hRf.out k w) (by intro vs wz hC hk h0 ho; (try simp only [knownR, live, Region.binds, List.getElem?_cons_zero, List.getElem?_cons_succ, forall_const, true_implies, and_true, Nat.reduceAdd, Nat.reduceSub, Nat.reduceLT, Nat.reduceBEq, Bool.false_eq_true, false_implies, true_and, BEq.rfl] at hk); refine ⟨by first | rfl | exact wanted_at rfl rfl rfl (by simp only [hk, List.getElem_toArray, List.getElem_cons_succ, List.getElem_cons_zero]), ?_⟩; obtain ⟨c0, c1, c2, c3, c4, c5, c6, c7, c8, c9, c10, c11⟩ := HB.out wz (HB3.out.trans (hC.mono HN.out)); go_simp; with_reducible rfl) ?_)
      refine wpR_make (Step := StepIn [11] w3.heap.size) hA (fun v wx => Reads wx w3.heap.size v [UInt8.ofNat ty.toNat, UInt8.ofNat fl.toNat]) (fun k hk v x y h _ hs => h.keep (hs.outr hk (by kernel_rfl))) (by intro vs wz hC hk h0 ho; (try simp only [knownR, live, Region.binds, List.getElem?_cons_zero, List.getElem?_cons_succ, forall_const, true_implies, and_true, Nat.reduceAdd, Nat.reduceSub, Nat.reduceLT, Nat.reduceBEq, Bool.false_eq_true, false_implies, true_and, BEq.rfl] at hk); refine ⟨by first | rfl | exact wanted_at rfl rfl rfl (by simp only [hk, List.getElem_toArray, List.getElem_cons_succ, List.getElem_cons_zero]), ?_⟩; obtain ⟨c0, c1, c2, c3, c4, c5, c6, c7, c8, c9, c10, c11⟩ := HB.out wz (HB3.out.trans (hC.mono HN.out)); have hz := hC.size; have R := Reads.new wz w3.heap.size 5 [UInt8.ofNat ty.toNat, UInt8.ofNat fl.toNat] (by omega); simp only [List.map_cons, List.map_nil, ← W1.out, ← W2.out] at R; exact ⟨_, _, by (go_simp; try with_reducible rfl), R, hC.alloc (by omega) _, StepIn.new (by simp) ((Below.refl _ _).alloc (Nat.le_refl _) _)⟩) ?_
      refine wpR_make (Step := StepIn [11] w3.heap.size) hA (fun v wx => Own wx w3.heap.size 5 v (putB 3 P.length ++ [UInt8.ofNat ty.toNat, UInt8.ofNat fl.toNat])) (fun k hk v x y h _ hs => own_keep h (hs.outr hk (by kernel_rfl))) (by intro vs wz hC hk h0 ho; (try simp only [knownR, live, Region.binds, List.getElem?_cons_zero, List.getElem?_cons_succ, forall_const, true_implies, and_true, Nat.reduceAdd, Nat.reduceSub, Nat.reduceLT, Nat.reduceBEq, Bool.false_eq_true, false_implies, true_and, BEq.rfl] at hk); refine ⟨by first | rfl | exact wanted_at rfl rfl rfl (by simp only [hk, List.getElem_toArray, List.getElem_cons_succ, List.getElem_cons_zero]), ?_⟩; obtain ⟨h1, ⟨A1, k1, e1, hr1, _⟩, _⟩ := hk; obtain ⟨c0, c1, c2, c3, c4, c5, c6, c7, c8, c9, c10, c11⟩ := HB.out wz (HB3.out.trans (hC.mono HN.out)); have hz := hC.size; obtain ⟨v', W', hrun, h2, h3, h4, h5⟩ := append_bytes (P := Try.prog) (t := 27) (ty := 27) Try.underlying27 hi8 h1 A1 k1 hr1 (by simp [putB_length]) (by omega); exact ⟨v', W', exec_append (.tmp 17) (.tmp 24) rfl rfl e1 hrun, h2, hC.trans h5, StepIn.row (by simp) h5⟩) ?_
      refine wpR_pure (Step := StepIn [11] w3.heap.size) hA (fun v wx => Own wx w3.heap.size 5 v (putB 3 P.length ++ [UInt8.ofNat ty.toNat, UInt8.ofNat fl.toNat])) (fun k hk v x y h _ hs => own_keep h (hs.outr hk (by kernel_rfl))) (fun k w => hRf.out k w) (by intro vs wz hC hk h0 ho; (try simp only [knownR, live, Region.binds, List.getElem?_cons_zero, List.getElem?_cons_succ, forall_const, true_implies, and_true, Nat.reduceAdd, Nat.reduceSub, Nat.reduceLT, Nat.reduceBEq, Bool.false_eq_true, false_implies, true_and, BEq.rfl] at hk); refine ⟨by first | rfl | exact wanted_at rfl rfl rfl (by simp only [hk, List.getElem_toArray, List.getElem_cons_succ, List.getElem_cons_zero]), ?_⟩; obtain ⟨h1, _⟩ := hk; obtain ⟨c0, c1, c2, c3, c4, c5, c6, c7, c8, c9, c10, c11⟩ := HB.out wz (HB3.out.trans (hC.mono HN.out)); refine ⟨_, by (go_simp; with_reducible rfl), ?_⟩; exact h1) ?_
      refine wpR_nil hA ?_; intro vs wz hC hk h0; simp only [allR, Nat.reduceAdd, Nat.reduceSub, and_true, Option.isNone_none, Option.isNone_some, forall_const, true_implies, Bool.false_eq_true, false_implies, true_and] at hk; simp only [hk]; clear hRf hA
      obtain ⟨-, -, -, -, -, -, -, -, -, -, hown⟩ := hk
      generalize vs 12 = v5 at hown ⊢
      obtain ⟨c0, c1, c2, c3, c4, c5, c6, c7, c8, c9, c10, c11⟩ := HB.out wz (HB3.out.trans (hC.mono HN.out))
      have HO5 := Lib.hid hown
      clear hown h0
      go_wp2_with fail
      refine (four_any st s0 s1 _).mono ?_; rintro e w6 ⟨⟨v6, rfl, own6⟩, hb6⟩
      have HO6 := Lib.hid (own_keep HO5.out hb6)
      obtain ⟨A6, k6, rfl, _, _, rd6, _⟩ := own6.open_
      have hlen6 : (putB 4 st.toNat).length = 4 := putB_length _ _
      have HR6 := Lib.hid rd6
      have hB6 : Below w3.heap.size w3 w6 := hC.trans (hb6.mono hC.size)
      have HL5 : Hid ((putB 3 P.length ++ [UInt8.ofNat ty.toNat, UInt8.ofNat fl.toNat]).length = 5) := Lib.hid (by simp [putB_length])
      have HL6 := Lib.hid hlen6
      clear own6 rd6 hb6 hlen6 hC c0 c1 c2 c3 c4 c5 c6 c7 c8 c9 c10 c11
      go_wp2_with (at_builtin; first
        | (refine wpList_append_bytes rfl (.tmp 26) (.tmp 29) 27 rfl Try.underlying27 hi8 w3.heap.size _ v5 _ _ rfl A6 _ k6 rfl ?_ HO6.out HR6.out rfl (by rw [HL5.out, HL6.out]; omega) hB6.size; intro v7 w7 own7 hg7 hat7 hb7; have HO7 := Lib.hid own7; have hB7 := hB6.trans hb7; clear own7 hg7 hat7 hb7)
        | (refine wpList_append_bytes rfl (.tmp 30) (.tmp 31) 27 rfl Try.underlying27 hi8 w3.heap.size w3.heap.size _ _ P rfl A3 _ k3 rfl ?_ HO7.out (HRd.out.keep hB7) rfl (by simp only [List.length_append, putB_length]; simp; omega) hB7.size; intro v8 w8 own8 hg8 hat8 hb8; have HO8 := Lib.hid own8; have hB8 := hB7.trans hb8; clear own8 hg8 hat8 hb8))
      go_ret2
      exact ⟨⟨_, by rw [He.out]; rfl, by rw [Hf.out]; exact HO8.out.more (by have := HN.out; omega)⟩, hbel.trans ((HB3.out.trans (hB8.mono HN.out)).mono (by omega))⟩
end Go.Proofs.Ytlfkgbcclinnbaa
