/- Layer 6: the contract of the program's payload, the other kinds of frames. No condition. -/
import Derived.Test.YtlfkgbcclinnbaaFr2
import Derived.Deep.DeepCutAuto
namespace Go.Proofs.Ytlfkgbcclinnbaa
set_option linter.all false
open Go Go.RowKit

theorem setC_len (l : List (Int × Int)) : (setC l).length = 2 * l.length := by
  induction l with
  | nil => rfl
  | cons s l ih => simp [setC] at ih ⊢; omega
theorem setC_at : ∀ (l : List (Int × Int)) (k : Nat) (h : k < l.length), (setC l)[2 * k]? = some (I l[k].1) ∧ (setC l)[2 * k + 1]? = some (I l[k].2)
  | s :: l, 0, _ => ⟨rfl, rfl⟩
  | s :: l, k + 1, h => by
    have := setC_at l k (by simpa using h)
    rw [show 2 * (k + 1) = 2 * k + 1 + 1 from by omega]
    simpa [setC] using this
theorem RdC.set {w : World} {B : Nat} {A : Option Addr} {l : List (Int × Int)} (h : RdC w B A (setC l)) (k : Nat) (hk : k < l.length) :
    ∃ g o, A = some ⟨g, o, none⟩ ∧ g < B ∧ w.cell? ⟨g, o + k * 2, none⟩ = some (I l[k].1) ∧ w.cell? ⟨g, o + k * 2 + 1, none⟩ = some (I l[k].2) := by
  rcases h with h | ⟨g, o, e, hg, hc⟩
  · have := setC_len l; rw [h] at this; simp at this; omega
  · have hl := setC_len l
    obtain ⟨h1, h2⟩ := setC_at l k hk
    refine ⟨g, o, e, hg, ?_, ?_⟩
    · rw [show o + k * 2 = o + 2 * k from by omega, hc (2 * k) (by omega)]
      rw [List.getElem?_eq_getElem (by omega)] at h1
      exact h1
    · rw [show o + k * 2 + 1 = o + (2 * k + 1) from by omega, hc (2 * k + 1) (by omega)]
      rw [List.getElem?_eq_getElem (by omega)] at h2
      exact h2
theorem put2_any (n : Int) (h0 : 0 ≤ n) (h1 : n ≤ 65535) (w : World) :
    Calls Try.prog 19 #[.int .u32 n, I 2] w fun e w' => (∃ v, e = .returned v ∧ Own w' w.heap.size 5 v (putB 2 n.toNat)) ∧ Below w.heap.size w w' := by
  obtain ⟨k, rfl⟩ := Int.eq_ofNat_of_zero_le h0
  have hp := put_any k (by omega) 2 w
  have e4 : putL k 2 = putB 2 k := putL_of k 2 (by omega) (by omega)
  rw [e4] at hp
  exact hp
set_option maxRecDepth 100000 in
set_option maxHeartbeats 3200000 in
theorem pay_4 (fl st : Int) (data : List UInt8) (pad : Int) (sets : List (Int × Int)) (code last inc dep wt : Int) (sole : Bool) (A : Option Addr) (c : Nat) (hn : sets.length ≤ 1000000) (hs : setsB sets = true) (w : World) (hr : RdC w w.heap.size A (setC sets)) :
    Calls Try.prog 18 #[(⟨4, fl, st, data, pad, sets, code, last, inc, dep, wt, sole⟩ : Fr).v A c] w fun e w' => (∃ v, e = .returned v ∧ Own w' w.heap.size 5 v (payL ⟨4, fl, st, data, pad, sets, code, last, inc, dep, wt, sole⟩)) ∧ Below w.heap.size w w' := by
  have hwh : Whole (w.alloc (.cells ([I 4, I fl, I st, .string (S data), I pad, .slice A sets.length c, I code, I last, I inc, I dep, I wt, .bool sole] : List Value).toArray 24)) w.heap.size 24 [I 4, I fl, I st, .string (S data), I pad, .slice A sets.length c, I code, I last, I inc, I dep, I wt, .bool sole] := Whole.new w _ _
  have hbel : Below w.heap.size w (w.alloc (.cells ([I 4, I fl, I st, .string (S data), I pad, .slice A sets.length c, I code, I last, I inc, I dep, I wt, .bool sole] : List Value).toArray 24)) := (Below.refl _ _).alloc (Nat.le_refl _) _
  have hsz : (w.alloc (.cells ([I 4, I fl, I st, .string (S data), I pad, .slice A sets.length c, I code, I last, I inc, I dep, I wt, .bool sole] : List Value).toArray 24)).heap.size = w.heap.size + 1 := by simp
  obtain ⟨i8, hi8⟩ := uint8_row
  go_enter Try.func18, Try.ntmps18
  go_wp2_with fail
  generalize w.alloc (.cells #[I 4, I fl, I st, .string (S data), I pad, .slice A sets.length c, I code, I last, I inc, I dep, I wt, .bool sole] 24) = wb at hwh hbel hsz ⊢
  have HZ : Hid (wb.heap.size = w.heap.size + 1) := Lib.hid hsz
  have HR : Hid (∀ k (h : k < sets.length), ∃ a b g o, 0 ≤ a ∧ a ≤ 65535 ∧ 0 ≤ b ∧ b ≤ 4294967295 ∧ sets[k] = (a, b) ∧ A = some ⟨g, o, none⟩ ∧ ∀ wx, Below (w.heap.size + 1) wb wx → wx.cell? ⟨g, o + k * 2, none⟩ = some (I a) ∧ wx.cell? ⟨g, o + k * 2 + 1, none⟩ = some (I b)) := Lib.hid fun k hk => by
    have h1 := List.all_eq_true.1 hs sets[k] (List.getElem_mem hk)
    simp only [inB, Bool.and_eq_true, decide_eq_true_eq] at h1
    obtain ⟨g, o, e, hg, h2, h3⟩ := hr.set k hk
    refine ⟨sets[k].1, sets[k].2, g, o, h1.1.1, h1.1.2, h1.2.1, h1.2.2, rfl, e, fun wx hb => ?_⟩
    have hb' : Below w.heap.size w wx := hbel.trans (hb.mono (by omega))
    exact ⟨(hb'.cell (p := ⟨g, o + k * 2, none⟩) hg).trans h2, (hb'.cell (p := ⟨g, o + k * 2 + 1, none⟩) hg).trans h3⟩
  clear hwh hsz hr hs
  go_loopw [3, 55] (fun v k wr => ∃ j : Nat, k = I j ∧ j ≤ sets.length ∧ Own wr (w.heap.size + 1) 5 v ((sets.take j).flatMap setL) ∧ Below (w.heap.size + 1) wb wr) (fun _ k _ => sets.length - (intOf k).toNat)
  case atStart => exact ⟨0, rfl, Nat.zero_le _, Own.empty _ _ _, Below.refl _ _⟩
  case round =>
    obtain ⟨j, rfl, hj, hown, hb⟩ := hrel
    have HO := Lib.hid hown
    clear hown
    by_cases hlt : j < sets.length
    · obtain ⟨a, b, g, o, a0, a1, b0, b1, he, rfl, hc⟩ := HR.out j hlt
      obtain ⟨ca, cb⟩ := hc _ hb
      have HC := Lib.hid hc
      have He := Lib.hid he
      clear hc he
      go_wp2_with fail
      have hwh : Whole (wr.alloc (.cells #[I a, I b] 59)) wr.heap.size 59 [I a, I b] := Whole.new wr _ _
      have hba : Below wr.heap.size wr (wr.alloc (.cells #[I a, I b] 59)) := (Below.refl _ _).alloc (Nat.le_refl _) _
      have hbb : Below (w.heap.size + 1) wb (wr.alloc (.cells #[I a, I b] 59)) := hb.trans (hba.mono (by have := hb.size; have := HZ.out; omega))
      have hO2 := own_keep HO.out hba
      have hlt2 := own_lt HO.out
      generalize wr.alloc (.cells #[I a, I b] 59) = wc at hwh hba hbb hO2 ⊢
      have HW := Lib.hid hwh
      have HO2 := Lib.hid hO2
      have HL := Lib.hid hlt2
      have hlen : ((sets.take j).flatMap setL).length ≤ 6000000 := by
        have : ∀ l : List (Int × Int), (l.flatMap setL).length = 6 * l.length := fun l => by
          induction l with
          | nil => rfl
          | cons s l ih => simp [setL, putB_length] at ih ⊢; omega
        rw [this]; have := List.length_take_le j sets; omega
      have HLn := Lib.hid hlen
      have wr1 : IntKind.u32.wrap a = a := IntWalk.u32_in _ (by omega)
      have HG : Hid (wr.heap.size ≤ wc.heap.size) := Lib.hid hba.size
      have HWB : Hid (w.heap.size + 1 ≤ wr.heap.size) := Lib.hid (by have := hb.size; have := HZ.out; omega)
      clear hwh hO2 hlt2 hlen hba ca cb
      refine wp_region_typed_at (by intro vs; simp only [puts, Act.put, List.setIfInBounds_toArray, List.set_cons_zero, List.set_cons_succ, Nat.reduceAdd]; rfl) (fun wx => Below (w.heap.size + 1) wb wx ∧ Whole wx wr.heap.size 59 [I a, I b]) (StepRow 5 u3.ownBlock [9] (w.heap.size + 1)) (fun j => match j with | 4 => some 5 | 5 => some 9 | 8 => some 9 | _ => none) (fun wx => Own wx (w.heap.size + 1) 5 u3 ((sets.take j).flatMap setL)) (some 5) (by kernel_rfl) (by kernel_rfl) (by kernel_rfl) (⟨hbb.drew, HW.out⟩) (own_drew HO2.out) (fun k hk x y h _ hs => own_keep h (hs.outr0 hk (by kernel_rfl))) (fun hA => wpR_start ?_)
      have hRf : Hid (∀ (kk : Nat) (ww : World), (StepRow 5 u3.ownBlock [9] (w.heap.size + 1)) kk ww ww) := Lib.hid (fun k w => StepRow.refl _ _ _ _ k w)
      refine wpR_same (Step := StepRow 5 u3.ownBlock [9] (w.heap.size + 1)) hA _ (fun k w => hRf.out k w) (by intro vs wz hC hk h0 ho; (try simp only [knownR, live, Region.binds, List.getElem?_cons_zero, List.getElem?_cons_succ, forall_const, true_implies, and_true, Nat.reduceAdd, Nat.reduceSub, Nat.reduceLT, Nat.reduceBEq, Bool.false_eq_true, false_implies, true_and, BEq.rfl] at hk); refine ⟨by first | rfl | exact wanted_at rfl rfl rfl (by simp only [hk, List.getElem_toArray, List.getElem_cons_succ, List.getElem_cons_zero]), ?_⟩; have eO : vs 10 = u3 := ho 10 (by kernel_rfl); have d0 : wz.cell? ⟨wr.heap.size, 0, none⟩ = some (I a) := hC.2.at_ 0; have d1 : wz.cell? ⟨wr.heap.size, 1, none⟩ = some (I b) := hC.2.at_ 1; go_simp; with_reducible rfl) ?_
      repeat (refine wpR_same (Step := StepRow 5 u3.ownBlock [9] (w.heap.size + 1)) hA _ (fun k w => hRf.out k w) (by intro vs wz hC hk h0 ho; (try simp only [knownR, live, Region.binds, List.getElem?_cons_zero, List.getElem?_cons_succ, forall_const, true_implies, and_true, Nat.reduceAdd, Nat.reduceSub, Nat.reduceLT, Nat.reduceBEq, Bool.false_eq_true, false_implies, true_and, BEq.rfl] at hk); refine ⟨by first | rfl | exact wanted_at rfl rfl rfl (by simp only [hk, List.getElem_toArray, List.getElem_cons_succ, List.getElem_cons_zero]), ?_⟩; have d0 : wz.cell? ⟨wr.heap.size, 0, none⟩ = some (I a) := hC.2.at_ 0; have d1 : wz.cell? ⟨wr.heap.size, 1, none⟩ = some (I b) := hC.2.at_ 1; go_simp; with_reducible rfl) ?_)
      refine wpR_call (Step := StepRow 5 u3.ownBlock [9] (w.heap.size + 1)) hA (fun v wx => Reads wx (w.heap.size + 1) v (putB 2 a.toNat)) (fun k hk v x y h _ hs => h.keep (hs.outr hk (by kernel_rfl))) (by intro vs wz hC hk h0 ho; (try simp only [knownR, live, Region.binds, List.getElem?_cons_zero, List.getElem?_cons_succ, forall_const, true_implies, and_true, Nat.reduceAdd, Nat.reduceSub, Nat.reduceLT, Nat.reduceBEq, Bool.false_eq_true, false_implies, true_and, BEq.rfl] at hk); refine ⟨by first | rfl | exact wanted_at rfl rfl rfl (by simp only [hk, List.getElem_toArray, List.getElem_cons_succ, List.getElem_cons_zero]), ?_⟩; have d0 : wz.cell? ⟨wr.heap.size, 0, none⟩ = some (I a) := hC.2.at_ 0; have d1 : wz.cell? ⟨wr.heap.size, 1, none⟩ = some (I b) := hC.2.at_ 1; refine ⟨_, _, by (go_simp; first | with_reducible rfl | exact ⟨rfl, rfl⟩), ?_⟩; refine (put2_any a a0 a1 _).mono ?_; rintro e w2 ⟨⟨v, rfl, hv⟩, hb⟩; have hz := hC.2.lt; have hz2 := HWB.out; exact ⟨v, rfl, (hv.more (by omega)).reads, ⟨hC.1.trans (hb.mono (by omega)), hC.2.keep hb hz⟩, StepRow.new (by simp) (by simp) hb⟩) ?_
      refine wpR_make (Step := StepRow 5 u3.ownBlock [9] (w.heap.size + 1)) hA (fun v wx => Own wx (w.heap.size + 1) 5 v ((sets.take j).flatMap setL ++ putB 2 a.toNat) ∧ v.ownBlock ≠ some wr.heap.size) (fun k hk v x y h _ hs => ⟨own_keep h.1 (hs.outr hk (by kernel_rfl)), h.2⟩) (by intro vs wz hC hk h0 ho; (try simp only [knownR, live, Region.binds, List.getElem?_cons_zero, List.getElem?_cons_succ, forall_const, true_implies, and_true, Nat.reduceAdd, Nat.reduceSub, Nat.reduceLT, Nat.reduceBEq, Bool.false_eq_true, false_implies, true_and, BEq.rfl] at hk); refine ⟨by first | rfl | exact wanted_at rfl rfl rfl (by simp only [hk, List.getElem_toArray, List.getElem_cons_succ, List.getElem_cons_zero]), ?_⟩; obtain ⟨e0, ⟨A1, k1, e1, hr1, _⟩, _⟩ := hk; have d0 : wz.cell? ⟨wr.heap.size, 0, none⟩ = some (I a) := hC.2.at_ 0; have d1 : wz.cell? ⟨wr.heap.size, 1, none⟩ = some (I b) := hC.2.at_ 1; have h1 := h0 (by kernel_rfl); have hz := hC.2.lt; have hz2 := HWB.out; have hnl := HLn.out; obtain ⟨v', W', hrun, h2, h3, h4, h5⟩ := append_bytes (P := Try.prog) (t := 27) (ty := 27) Try.underlying27 hi8 h1 A1 k1 hr1 (by simp only [putB_length]; omega) (by omega); have hne : u3.ownBlock ≠ some wr.heap.size := fun e => Nat.lt_irrefl _ (HL.out _ e); exact ⟨v', W', exec_append (.tmp 59) (.tmp 63) rfl e0 e1 hrun, ⟨h2, fun e => by (rcases h4 with h4 | h4; exact hne (h4.symm.trans e); rw [h4] at e; injection e with e; omega)⟩, ⟨hC.1.trans h5, hC.2.grown h3 (fun e => hne e.symm)⟩, StepRow.one h3 (by simp)⟩) ?_
      repeat (refine wpR_same (Step := StepRow 5 u3.ownBlock [9] (w.heap.size + 1)) hA _ (fun k w => hRf.out k w) (by intro vs wz hC hk h0 ho; (try simp only [knownR, live, Region.binds, List.getElem?_cons_zero, List.getElem?_cons_succ, forall_const, true_implies, and_true, Nat.reduceAdd, Nat.reduceSub, Nat.reduceLT, Nat.reduceBEq, Bool.false_eq_true, false_implies, true_and, BEq.rfl] at hk); refine ⟨by first | rfl | exact wanted_at rfl rfl rfl (by simp only [hk, List.getElem_toArray, List.getElem_cons_succ, List.getElem_cons_zero]), ?_⟩; have d0 : wz.cell? ⟨wr.heap.size, 0, none⟩ = some (I a) := hC.2.at_ 0; have d1 : wz.cell? ⟨wr.heap.size, 1, none⟩ = some (I b) := hC.2.at_ 1; go_simp; with_reducible rfl) ?_)
      refine wpR_call (Step := StepRow 5 u3.ownBlock [9] (w.heap.size + 1)) hA (fun v wx => Reads wx wr.heap.size v (putB 4 b.toNat)) (fun k hk v x y h _ hs => hs.reads hk (by kernel_rfl) h HL.out) (by intro vs wz hC hk h0 ho; (try simp only [knownR, live, Region.binds, List.getElem?_cons_zero, List.getElem?_cons_succ, forall_const, true_implies, and_true, Nat.reduceAdd, Nat.reduceSub, Nat.reduceLT, Nat.reduceBEq, Bool.false_eq_true, false_implies, true_and, BEq.rfl] at hk); refine ⟨by first | rfl | exact wanted_at rfl rfl rfl (by simp only [hk, List.getElem_toArray, List.getElem_cons_succ, List.getElem_cons_zero]), ?_⟩; have d0 : wz.cell? ⟨wr.heap.size, 0, none⟩ = some (I a) := hC.2.at_ 0; have d1 : wz.cell? ⟨wr.heap.size, 1, none⟩ = some (I b) := hC.2.at_ 1; refine ⟨_, _, by (go_simp; first | with_reducible rfl | exact ⟨rfl, rfl⟩), ?_⟩; refine (four_any b b0 b1 _).mono ?_; rintro e w2 ⟨⟨v, rfl, hv⟩, hb⟩; have hz := hC.2.lt; have hz2 := HWB.out; exact ⟨v, rfl, (hv.more (by omega)).reads, ⟨hC.1.trans (hb.mono (by omega)), hC.2.keep hb hz⟩, StepRow.new (by simp) (by simp) hb⟩) ?_
      refine wpR_make (Step := StepRow 5 u3.ownBlock [9] (w.heap.size + 1)) hA (fun v wx => Own wx (w.heap.size + 1) 5 v ((sets.take j).flatMap setL ++ putB 2 a.toNat ++ putB 4 b.toNat)) (fun k hk v x y h _ hs => own_keep h (hs.outr hk (by kernel_rfl))) (by intro vs wz hC hk h0 ho; (try simp only [knownR, live, Region.binds, List.getElem?_cons_zero, List.getElem?_cons_succ, forall_const, true_implies, and_true, Nat.reduceAdd, Nat.reduceSub, Nat.reduceLT, Nat.reduceBEq, Bool.false_eq_true, false_implies, true_and, BEq.rfl] at hk); refine ⟨by first | rfl | exact wanted_at rfl rfl rfl (by simp only [hk, List.getElem_toArray, List.getElem_cons_succ, List.getElem_cons_zero]), ?_⟩; obtain ⟨⟨h1, hne⟩, ⟨A1, k1, e1, hr1, _⟩, _⟩ := hk; have d0 : wz.cell? ⟨wr.heap.size, 0, none⟩ = some (I a) := hC.2.at_ 0; have d1 : wz.cell? ⟨wr.heap.size, 1, none⟩ = some (I b) := hC.2.at_ 1; have hz := hC.2.lt; have hz2 := HWB.out; have hnl := HLn.out; obtain ⟨v', W', hrun, h2, h3, h4, h5⟩ := append_bytes (P := Try.prog) (t := 27) (ty := 27) Try.underlying27 hi8 h1 A1 k1 hr1 (by simp only [putB_length, List.length_append]; omega) (by omega); exact ⟨v', W', exec_append (.tmp 64) (.tmp 67) rfl rfl e1 hrun, h2, ⟨hC.1.trans h5, hC.2.grown h3 (fun e => hne e.symm)⟩, StepRow.many (by simp) (by simp) h5⟩) ?_
      refine wpR_pure (Step := StepRow 5 u3.ownBlock [9] (w.heap.size + 1)) hA (fun v wx => Own wx (w.heap.size + 1) 5 v ((sets.take j).flatMap setL ++ putB 2 a.toNat ++ putB 4 b.toNat)) (fun k hk v x y h _ hs => own_keep h (hs.outr hk (by kernel_rfl))) (fun k w => hRf.out k w) (by intro vs wz hC hk h0 ho; (try simp only [knownR, live, Region.binds, List.getElem?_cons_zero, List.getElem?_cons_succ, forall_const, true_implies, and_true, Nat.reduceAdd, Nat.reduceSub, Nat.reduceLT, Nat.reduceBEq, Bool.false_eq_true, false_implies, true_and, BEq.rfl] at hk); refine ⟨by first | rfl | exact wanted_at rfl rfl rfl (by simp only [hk, List.getElem_toArray, List.getElem_cons_succ, List.getElem_cons_zero]), ?_⟩; obtain ⟨h1, _⟩ := hk; have d0 : wz.cell? ⟨wr.heap.size, 0, none⟩ = some (I a) := hC.2.at_ 0; have d1 : wz.cell? ⟨wr.heap.size, 1, none⟩ = some (I b) := hC.2.at_ 1; refine ⟨_, by (go_simp; with_reducible rfl), ?_⟩; exact h1) ?_
      refine wpR_nil hA ?_; intro vs wz hC hk h0; simp only [allR, Nat.reduceAdd, Nat.reduceSub, and_true, Option.isNone_none, Option.isNone_some, forall_const, true_implies, Bool.false_eq_true, false_implies, true_and] at hk; simp only [hk]; clear hRf hA
      obtain ⟨-, -, -, -, -, -, -, hown⟩ := hk
      have Hn : Hid (Own wz (w.heap.size + 1) 5 (vs 10) ((sets.take (j + 1)).flatMap setL)) := Lib.hid (by
        rw [List.take_succ_eq_append_getElem hlt, List.flatMap_append, He.out]
        simpa [setL] using hown)
      have hCb := hC.1
      clear hown hC h0 HW HO2 HL HLn HC He HG HWB
      go_wp2_with fail
      go_roundw
      case rel => exact ⟨j + 1, by go_num, by omega, Hn.out, hCb⟩
      case measure => simp [intOf]; omega
    · obtain rfl : j = sets.length := by omega
      go_wp2_with fail
      go_ret
      have h := HO.out.more (B' := w.heap.size) (by omega)
      rw [List.take_length] at h
      exact ⟨⟨_, rfl, h⟩, hbel.trans (hb.mono (by omega))⟩
set_option maxRecDepth 100000 in
set_option maxHeartbeats 3200000 in
theorem pay_2 (fl st : Int) (data : List UInt8) (pad : Int) (sets : List (Int × Int)) (code last inc dep wt : Int) (sole : Bool) (A : Option Addr) (c : Nat) (d0 : 0 ≤ dep) (d1 : dep ≤ 2147483647) (t0 : 0 ≤ wt) (t1 : wt ≤ 255) (w : World) :
    Calls Try.prog 18 #[(⟨2, fl, st, data, pad, sets, code, last, inc, dep, wt, sole⟩ : Fr).v A c] w fun e w' => (∃ v, e = .returned v ∧ Own w' w.heap.size 5 v (payL ⟨2, fl, st, data, pad, sets, code, last, inc, dep, wt, sole⟩)) ∧ Below w.heap.size w w' := by
  have OA := Lib.hid (fun wx => order_any ⟨2, fl, st, data, pad, sets, code, last, inc, dep, wt, sole⟩ A c d0 d1 t0 t1 wx)
  have hbel : Below w.heap.size w (w.alloc (.cells ([I 2, I fl, I st, .string (S data), I pad, .slice A sets.length c, I code, I last, I inc, I dep, I wt, .bool sole] : List Value).toArray 24)) := (Below.refl _ _).alloc (Nat.le_refl _) _
  have hsz : (w.alloc (.cells ([I 2, I fl, I st, .string (S data), I pad, .slice A sets.length c, I code, I last, I inc, I dep, I wt, .bool sole] : List Value).toArray 24)).heap.size = w.heap.size + 1 := by simp
  have HZ := Lib.hid hsz
  clear hsz
  go_enter Try.func18, Try.ntmps18
  go_wp2_with fail
  refine (OA.out _).mono ?_; rintro e w3 ⟨⟨v3, rfl, own3⟩, hb3⟩
  have HO := Lib.hid own3
  clear own3
  go_wp2_with fail
  go_ret
  exact ⟨⟨_, rfl, HO.out.more (by have := HZ.out; simp only [List.toArray] at *; simp)⟩, hbel.trans (hb3.mono (by simp))⟩
set_option maxRecDepth 100000 in
set_option maxHeartbeats 3200000 in
theorem pay_3 (fl st : Int) (data : List UInt8) (pad : Int) (sets : List (Int × Int)) (code last inc dep wt : Int) (sole : Bool) (A : Option Addr) (c : Nat) (a0 : 0 ≤ code) (a1 : code ≤ 4294967295) (w : World) :
    Calls Try.prog 18 #[(⟨3, fl, st, data, pad, sets, code, last, inc, dep, wt, sole⟩ : Fr).v A c] w fun e w' => (∃ v, e = .returned v ∧ Own w' w.heap.size 5 v (payL ⟨3, fl, st, data, pad, sets, code, last, inc, dep, wt, sole⟩)) ∧ Below w.heap.size w w' := by
  have OA := Lib.hid (fun wx => four_any code a0 a1 wx)
  have hbel : Below w.heap.size w (w.alloc (.cells ([I 3, I fl, I st, .string (S data), I pad, .slice A sets.length c, I code, I last, I inc, I dep, I wt, .bool sole] : List Value).toArray 24)) := (Below.refl _ _).alloc (Nat.le_refl _) _
  go_enter Try.func18, Try.ntmps18
  go_wp2_with fail
  refine (OA.out _).mono ?_; rintro e w3 ⟨⟨v3, rfl, own3⟩, hb3⟩
  have HO := Lib.hid own3
  clear own3
  go_wp2_with fail
  go_ret
  exact ⟨⟨_, rfl, HO.out.more (by simp)⟩, hbel.trans (hb3.mono (by simp))⟩
set_option maxRecDepth 100000 in
set_option maxHeartbeats 3200000 in
theorem pay_8 (fl st : Int) (data : List UInt8) (pad : Int) (sets : List (Int × Int)) (code last inc dep wt : Int) (sole : Bool) (A : Option Addr) (c : Nat) (a0 : 0 ≤ inc) (a1 : inc ≤ 4294967295) (w : World) :
    Calls Try.prog 18 #[(⟨8, fl, st, data, pad, sets, code, last, inc, dep, wt, sole⟩ : Fr).v A c] w fun e w' => (∃ v, e = .returned v ∧ Own w' w.heap.size 5 v (payL ⟨8, fl, st, data, pad, sets, code, last, inc, dep, wt, sole⟩)) ∧ Below w.heap.size w w' := by
  have OA := Lib.hid (fun wx => four_any inc a0 a1 wx)
  have hbel : Below w.heap.size w (w.alloc (.cells ([I 8, I fl, I st, .string (S data), I pad, .slice A sets.length c, I code, I last, I inc, I dep, I wt, .bool sole] : List Value).toArray 24)) := (Below.refl _ _).alloc (Nat.le_refl _) _
  go_enter Try.func18, Try.ntmps18
  go_wp2_with fail
  refine (OA.out _).mono ?_; rintro e w3 ⟨⟨v3, rfl, own3⟩, hb3⟩
  have HO := Lib.hid own3
  clear own3
  go_wp2_with fail
  go_ret
  exact ⟨⟨_, rfl, HO.out.more (by simp)⟩, hbel.trans (hb3.mono (by simp))⟩
set_option maxRecDepth 100000 in
set_option maxHeartbeats 3200000 in
theorem pay_7 (fl st : Int) (data : List UInt8) (pad : Int) (sets : List (Int × Int)) (code last inc dep wt : Int) (sole : Bool) (A : Option Addr) (c : Nat) (hd : data.length ≤ 1000000) (a0 : 0 ≤ last) (a1 : last ≤ 4294967295) (b0 : 0 ≤ code) (b1 : code ≤ 4294967295) (w : World) :
    Calls Try.prog 18 #[(⟨7, fl, st, data, pad, sets, code, last, inc, dep, wt, sole⟩ : Fr).v A c] w fun e w' => (∃ v, e = .returned v ∧ Own w' w.heap.size 5 v (payL ⟨7, fl, st, data, pad, sets, code, last, inc, dep, wt, sole⟩)) ∧ Below w.heap.size w w' := by
  have hwh : Whole (w.alloc (.cells ([I 7, I fl, I st, .string (S data), I pad, .slice A sets.length c, I code, I last, I inc, I dep, I wt, .bool sole] : List Value).toArray 24)) w.heap.size 24 [I 7, I fl, I st, .string (S data), I pad, .slice A sets.length c, I code, I last, I inc, I dep, I wt, .bool sole] := Whole.new w _ _
  have hbel : Below w.heap.size w (w.alloc (.cells ([I 7, I fl, I st, .string (S data), I pad, .slice A sets.length c, I code, I last, I inc, I dep, I wt, .bool sole] : List Value).toArray 24)) := (Below.refl _ _).alloc (Nat.le_refl _) _
  have hsz : (w.alloc (.cells ([I 7, I fl, I st, .string (S data), I pad, .slice A sets.length c, I code, I last, I inc, I dep, I wt, .bool sole] : List Value).toArray 24)).heap.size = w.heap.size + 1 := by simp
  obtain ⟨i8, hi8⟩ := uint8_row
  go_enter Try.func18, Try.ntmps18
  go_wp2_with fail
  generalize w.alloc (.cells #[I 7, I fl, I st, .string (S data), I pad, .slice A sets.length c, I code, I last, I inc, I dep, I wt, .bool sole] 24) = wb at hwh hbel hsz ⊢
  have HB : Hid (∀ wx, Below (w.heap.size + 1) wb wx → wx.cell? ⟨w.heap.size, 3, none⟩ = some (.string (S data)) ∧ wx.cell? ⟨w.heap.size, 6, none⟩ = some (I code) ∧ wx.cell? ⟨w.heap.size, 7, none⟩ = some (I last)) :=
    Lib.hid fun wx h => have h := hwh.keep h (by omega); ⟨h.at_ 3, h.at_ 6, h.at_ 7⟩
  have HZ : Hid (wb.heap.size = w.heap.size + 1) := Lib.hid hsz
  clear hwh hsz
  refine wp_region_typed_at (by intro vs; simp only [puts, Act.put, List.setIfInBounds_toArray, List.set_cons_zero, List.set_cons_succ, Nat.reduceAdd]; rfl) (fun wx => Below (w.heap.size + 1) wb wx) (StepIn [6] (w.heap.size + 1)) (fun j => match j with | 2 => some 6 | 5 => some 6 | _ => none) (fun _ => True) (none) (by kernel_rfl) (by kernel_rfl) (by kernel_rfl) ((Below.refl _ _).drew) (trivial) (fun _ _ _ _ _ _ _ => trivial) (fun hA => wpR_start ?_)
  have hRf : Hid (∀ (kk : Nat) (ww : World), (StepIn [6] (w.heap.size + 1)) kk ww ww) := Lib.hid (fun k w => StepIn.refl _ _ k w)
  repeat (refine wpR_same (Step := StepIn [6] (w.heap.size + 1)) hA _ (fun k w => hRf.out k w) (by intro vs wz hC hk h0 ho; (try simp only [knownR, live, Region.binds, List.getElem?_cons_zero, List.getElem?_cons_succ, forall_const, true_implies, and_true, Nat.reduceAdd, Nat.reduceSub, Nat.reduceLT, Nat.reduceBEq, Bool.false_eq_true, false_implies, true_and, BEq.rfl] at hk); refine ⟨by first | rfl | exact wanted_at rfl rfl rfl (by simp only [hk, List.getElem_toArray, List.getElem_cons_succ, List.getElem_cons_zero]), ?_⟩; obtain ⟨c3, c6, c7⟩ := HB.out wz hC; go_simp; with_reducible rfl) ?_)
  refine wpR_call (Step := StepIn [6] (w.heap.size + 1)) hA (fun v wx => Own wx (w.heap.size + 1) 5 v (putB 4 last.toNat)) (fun k hk v x y h _ hs => own_keep h (hs.outr hk (by kernel_rfl))) (by intro vs wz hC hk h0 ho; (try simp only [knownR, live, Region.binds, List.getElem?_cons_zero, List.getElem?_cons_succ, forall_const, true_implies, and_true, Nat.reduceAdd, Nat.reduceSub, Nat.reduceLT, Nat.reduceBEq, Bool.false_eq_true, false_implies, true_and, BEq.rfl] at hk); refine ⟨by first | rfl | exact wanted_at rfl rfl rfl (by simp only [hk, List.getElem_toArray, List.getElem_cons_succ, List.getElem_cons_zero]), ?_⟩; obtain ⟨c3, c6, c7⟩ := HB.out wz hC; refine ⟨_, _, by (go_simp; first | with_reducible rfl | exact ⟨rfl, rfl⟩), ?_⟩; refine (four_any last a0 a1 _).mono ?_; rintro e w2 ⟨⟨v, rfl, hv⟩, hb⟩; have hz := hC.size; have hz2 := HZ.out; exact ⟨v, rfl, hv.more (by omega), hC.trans (hb.mono (by omega)), StepIn.new (by simp) hb⟩) ?_
  repeat (refine wpR_same (Step := StepIn [6] (w.heap.size + 1)) hA _ (fun k w => hRf.out k w) (by intro vs wz hC hk h0 ho; (try simp only [knownR, live, Region.binds, List.getElem?_cons_zero, List.getElem?_cons_succ, forall_const, true_implies, and_true, Nat.reduceAdd, Nat.reduceSub, Nat.reduceLT, Nat.reduceBEq, Bool.false_eq_true, false_implies, true_and, BEq.rfl] at hk); refine ⟨by first | rfl | exact wanted_at rfl rfl rfl (by simp only [hk, List.getElem_toArray, List.getElem_cons_succ, List.getElem_cons_zero]), ?_⟩; obtain ⟨c3, c6, c7⟩ := HB.out wz hC; go_simp; with_reducible rfl) ?_)
  refine wpR_call (Step := StepIn [6] (w.heap.size + 1)) hA (fun v wx => Reads wx (w.heap.size + 1) v (putB 4 code.toNat)) (fun k hk v x y h _ hs => h.keep (hs.outr hk (by kernel_rfl))) (by intro vs wz hC hk h0 ho; (try simp only [knownR, live, Region.binds, List.getElem?_cons_zero, List.getElem?_cons_succ, forall_const, true_implies, and_true, Nat.reduceAdd, Nat.reduceSub, Nat.reduceLT, Nat.reduceBEq, Bool.false_eq_true, false_implies, true_and, BEq.rfl] at hk); refine ⟨by first | rfl | exact wanted_at rfl rfl rfl (by simp only [hk, List.getElem_toArray, List.getElem_cons_succ, List.getElem_cons_zero]), ?_⟩; obtain ⟨c3, c6, c7⟩ := HB.out wz hC; refine ⟨_, _, by (go_simp; first | with_reducible rfl | exact ⟨rfl, rfl⟩), ?_⟩; refine (four_any code b0 b1 _).mono ?_; rintro e w2 ⟨⟨v, rfl, hv⟩, hb⟩; have hz := hC.size; have hz2 := HZ.out; exact ⟨v, rfl, (hv.more (by omega)).reads, hC.trans (hb.mono (by omega)), StepIn.new (by simp) hb⟩) ?_
  refine wpR_make (Step := StepIn [6] (w.heap.size + 1)) hA (fun v wx => Own wx (w.heap.size + 1) 5 v (putB 4 last.toNat ++ putB 4 code.toNat)) (fun k hk v x y h _ hs => own_keep h (hs.outr hk (by kernel_rfl))) (by intro vs wz hC hk h0 ho; (try simp only [knownR, live, Region.binds, List.getElem?_cons_zero, List.getElem?_cons_succ, forall_const, true_implies, and_true, Nat.reduceAdd, Nat.reduceSub, Nat.reduceLT, Nat.reduceBEq, Bool.false_eq_true, false_implies, true_and, BEq.rfl] at hk); refine ⟨by first | rfl | exact wanted_at rfl rfl rfl (by simp only [hk, List.getElem_toArray, List.getElem_cons_succ, List.getElem_cons_zero]), ?_⟩; obtain ⟨h1, ⟨A1, k1, e1, hr1, _⟩, _⟩ := hk; obtain ⟨c3, c6, c7⟩ := HB.out wz hC; have hz := hC.size; have hz2 := HZ.out; obtain ⟨v', W', hrun, h2, h3, h4, h5⟩ := append_bytes (P := Try.prog) (t := 27) (ty := 27) Try.underlying27 hi8 h1 A1 k1 hr1 (by simp [putB_length]) (by omega); exact ⟨v', W', exec_append (.tmp 80) (.tmp 83) rfl rfl e1 hrun, h2, hC.trans h5, StepIn.row (by simp) h5⟩) ?_
  refine wpR_pure (Step := StepIn [6] (w.heap.size + 1)) hA (fun v wx => Own wx (w.heap.size + 1) 5 v (putB 4 last.toNat ++ putB 4 code.toNat)) (fun k hk v x y h _ hs => own_keep h (hs.outr hk (by kernel_rfl))) (fun k w => hRf.out k w) (by intro vs wz hC hk h0 ho; (try simp only [knownR, live, Region.binds, List.getElem?_cons_zero, List.getElem?_cons_succ, forall_const, true_implies, and_true, Nat.reduceAdd, Nat.reduceSub, Nat.reduceLT, Nat.reduceBEq, Bool.false_eq_true, false_implies, true_and, BEq.rfl] at hk); refine ⟨by first | rfl | exact wanted_at rfl rfl rfl (by simp only [hk, List.getElem_toArray, List.getElem_cons_succ, List.getElem_cons_zero]), ?_⟩; obtain ⟨h1, _⟩ := hk; obtain ⟨c3, c6, c7⟩ := HB.out wz hC; refine ⟨_, by (go_simp; with_reducible rfl), ?_⟩; exact h1) ?_
  refine wpR_nil hA ?_; intro vs wz hC hk h0; simp only [allR, Nat.reduceAdd, Nat.reduceSub, and_true, Option.isNone_none, Option.isNone_some, forall_const, true_implies, Bool.false_eq_true, false_implies, true_and] at hk; simp only [hk]; clear hRf hA
  obtain ⟨-, -, -, -, -, hown⟩ := hk
  generalize vs 7 = v1 at hown ⊢
  obtain ⟨c3, c6, c7⟩ := HB.out wz hC
  have HO := Lib.hid hown
  clear hown h0
  have hB0 := hC
  clear hC
  go_wp2_with (at_builtin; refine wpList_append_str rfl (.tmp 85) (.tmp 87) rfl Try.underlying27 Try.underlying9 hi8 (w.heap.size + 1) v1 _ data rfl rfl ?_ HO.out (by simp [putB_length]; omega) (by have := HZ.out; have := hB0.size; omega); intro v2 w2 own2 hg2 hat2 hb2; have hB2 : Below (w.heap.size + 1) wb w2 := hB0.trans hb2; have HO2 := Lib.hid own2; clear own2 hg2 hat2 hb2)
  go_ret
  exact ⟨⟨_, rfl, by have h := HO2.out.more (B' := w.heap.size) (by omega); simpa [payL] using h⟩, hbel.trans (hB2.mono (by omega))⟩
set_option maxRecDepth 100000 in
set_option maxHeartbeats 3200000 in
theorem pay_z (ty : Int) (fl st : Int) (data : List UInt8) (pad : Int) (sets : List (Int × Int)) (code last inc dep wt : Int) (sole : Bool) (A : Option Addr) (c : Nat) (hd : data.length ≤ 1000000) (t0 : ¬ ty = 0) (t1 : ¬ ty = 1) (t2 : ¬ ty = 2) (t3 : ¬ ty = 3) (t4 : ¬ ty = 4) (t7 : ¬ ty = 7) (t8 : ¬ ty = 8) (w : World) :
    Calls Try.prog 18 #[(⟨ty, fl, st, data, pad, sets, code, last, inc, dep, wt, sole⟩ : Fr).v A c] w fun e w' => (∃ v, e = .returned v ∧ Own w' w.heap.size 5 v (payL ⟨ty, fl, st, data, pad, sets, code, last, inc, dep, wt, sole⟩)) ∧ Below w.heap.size w w' := by
  have hp : payL ⟨ty, fl, st, data, pad, sets, code, last, inc, dep, wt, sole⟩ = data := by simp [payL, t0, t1, t2, t3, t4, t7, t8]
  have Hp := Lib.hid hp
  clear hp
  have hwh : Whole (w.alloc (.cells ([I ty, I fl, I st, .string (S data), I pad, .slice A sets.length c, I code, I last, I inc, I dep, I wt, .bool sole] : List Value).toArray 24)) w.heap.size 24 [I ty, I fl, I st, .string (S data), I pad, .slice A sets.length c, I code, I last, I inc, I dep, I wt, .bool sole] := Whole.new w _ _
  have hbel : Below w.heap.size w (w.alloc (.cells ([I ty, I fl, I st, .string (S data), I pad, .slice A sets.length c, I code, I last, I inc, I dep, I wt, .bool sole] : List Value).toArray 24)) := (Below.refl _ _).alloc (Nat.le_refl _) _
  have hsz : (w.alloc (.cells ([I ty, I fl, I st, .string (S data), I pad, .slice A sets.length c, I code, I last, I inc, I dep, I wt, .bool sole] : List Value).toArray 24)).heap.size = w.heap.size + 1 := by simp
  obtain ⟨i8, hi8⟩ := uint8_row
  go_enter Try.func18, Try.ntmps18
  go_upto_region 25 with fail
  generalize w.alloc (.cells #[I ty, I fl, I st, .string (S data), I pad, .slice A sets.length c, I code, I last, I inc, I dep, I wt, .bool sole] 24) = wb at hwh hbel hsz ⊢
  have HB : Hid (∀ wx, Below (w.heap.size + 1) wb wx → wx.cell? ⟨w.heap.size, 3, none⟩ = some (.string (S data)) ∧ wx.cell? ⟨w.heap.size, 6, none⟩ = some (I code) ∧ wx.cell? ⟨w.heap.size, 7, none⟩ = some (I last)) :=
    Lib.hid fun wx h => have h := hwh.keep h (by omega); ⟨h.at_ 3, h.at_ 6, h.at_ 7⟩
  have HZ : Hid (wb.heap.size = w.heap.size + 1) := Lib.hid hsz
  clear hwh hsz
  have HN0 : Hid (∀ wx, Own wx (w.heap.size + 1) 5 (.slice none 0 0) []) := Lib.hid (fun wx => Own.empty wx _ _)
  generalize Value.slice none 0 0 = vn at HN0 ⊢
  have hB0 : Below (w.heap.size + 1) wb wb := Below.refl _ _
  obtain ⟨c3, c6, c7⟩ := HB.out wb hB0
  go_wp2_with (at_builtin; refine wpList_append_str rfl (.tmp 85) (.tmp 87) rfl Try.underlying27 Try.underlying9 hi8 (w.heap.size + 1) vn [] data rfl rfl ?_ (HN0.out _) (by simp; omega) (by have := HZ.out; omega); intro v2 w2 own2 hg2 hat2 hb2; have HO2 := Lib.hid own2; have HB2 := Lib.hid hb2; clear own2 hg2 hat2 hb2)
  go_ret
  exact ⟨⟨_, rfl, by have h := HO2.out.more (B' := w.heap.size) (by omega); rw [Hp.out]; simpa using h⟩, hbel.trans (HB2.out.mono (by omega))⟩
end Go.Proofs.Ytlfkgbcclinnbaa
