/- Layer 6: contracts of the program's payload. No condition. -/
import Derived.Test.YtlfkgbcclinnbaaFr
import Derived.Test.YtlfkgbcclinnbaaApp
namespace Go.Proofs.Ytlfkgbcclinnbaa
set_option linter.all false
open Go Go.RowKit

theorem Own.more {w : World} {B B' : Nat} {e : TypeId} {v : Value} {l : List UInt8} (h : Own w B e v l) (hB : B' ≤ B) : Own w B' e v l := by
  refine ⟨h.1, ?_⟩
  rcases h.2 with h2 | ⟨g, cap, cur, hv, hg, r⟩
  · exact .inl h2
  · exact .inr ⟨g, cap, cur, hv, by omega, r⟩
theorem putL_of (n : Nat) (k : Nat) (h1 : 1 ≤ k) (h4 : k ≤ 4) : putL n (k : Int) = putB k n := by
  unfold putL; rw [if_neg (by omega)]; rfl
theorem four_any (n : Int) (h0 : 0 ≤ n) (h1 : n ≤ 4294967295) (w : World) :
    Calls Try.prog 20 #[I n] w fun e w' => (∃ v, e = .returned v ∧ Own w' w.heap.size 5 v (putB 4 n.toNat)) ∧ Below w.heap.size w w' := by
  obtain ⟨k, rfl⟩ := Int.eq_ofNat_of_zero_le h0
  have hp := put_any k (by omega) 4
  have e4 : putL k 4 = putB 4 k := putL_of k 4 (by omega) (by omega)
  rw [e4] at hp
  have Hp := Lib.hid hp
  clear hp
  go_enter Try.func20, Try.ntmps20
  go_wp2_with fail
  refine (Hp.out _).mono ?_; rintro e w1 ⟨⟨v, rfl, hv⟩, hb⟩
  go_wp2_with fail
  go_ret
  exact ⟨⟨v, rfl, hv⟩, hb⟩
abbrev Fr.cells (f : Fr) (A : Option Addr) (c : Nat) : List Value :=
  [I f.ty, I f.fl, I f.st, .string (S f.data), I f.pad, .slice A f.sets.length c, I f.code, I f.last, I f.inc, I f.dep, I f.wt, .bool f.sole]
theorem u8_of (n : Int) (h0 : 0 ≤ n) (h1 : n ≤ 255) : Value.int .u8 n = U (UInt8.ofNat n.toNat) := by
  have : ((UInt8.ofNat n.toNat).toNat : Int) = n := by simp; omega
  rw [U, this]
/-- The high bit of four bytes. -/
theorem high_set (d : Nat) (h : d < 2147483648) : (putB 4 d).set 0 (UInt8.ofNat (d / 256 ^ 3 % 256 + 128)) = putB 4 (d + 2147483648) := by
  have e (i : Nat) (hi : i ≤ 2) : (d + 2147483648) / 256 ^ i % 256 = d / 256 ^ i % 256 := by
    rcases (by omega : i = 0 ∨ i = 1 ∨ i = 2) with rfl | rfl | rfl <;> omega
  have e3 : (d + 2147483648) / 256 ^ 3 % 256 = d / 256 ^ 3 % 256 + 128 := by omega
  show UInt8.ofNat (d / 256 ^ 3 % 256 + 128) :: putB 3 d = UInt8.ofNat ((d + 2147483648) / 256 ^ 3 % 256) :: putB 3 (d + 2147483648)
  rw [e3]
  simp only [putB, e 0 (by omega), e 1 (by omega), e 2 (by omega)]
theorem or128 (x : Nat) (h : x < 128) : bits .or .u8 (x : Int) 128 = ((x + 128 : Nat) : Int) := by
  have : ∀ k : Fin 128, bits .or .u8 (k.val : Int) 128 = ((k.val + 128 : Nat) : Int) := by decide +kernel
  exact this ⟨x, h⟩
/-- A byte of the call's own row is written. -/
theorem Own.cell {w : World} {B : Nat} {e : TypeId} {v : Value} {l : List UInt8} (h : Own w B e v l) (hl : 0 < l.length) :
    ∃ g c, v = .slice (some ⟨g, 0, none⟩) l.length c ∧ B ≤ g ∧ (∀ i (hi : i < l.length), w.cell? ⟨g, i, none⟩ = some (U l[i])) ∧ (∀ i, w.frozen? ⟨g, i, none⟩ = false) ∧
      ∀ i (b : UInt8), i < l.length → Own (w.setCell ⟨g, i, none⟩ (U b)) B e v (l.set i b) := by
  rcases h.2 with ⟨hv, h0⟩ | ⟨g, cap, cur, hv, hB, hg, hc, hm, hs, ht⟩
  · omega
  · have hw : Whole w g e cur.toList := hg
    have hcur : ∀ i (hi : i < l.length), cur.toList[i]? = some (U l[i]) := fun i hi => by
      have : (cur.toList.take (l.length * 1))[i]? = (l.map U)[i]? := by rw [ht]
      rw [List.getElem?_take_of_lt (by omega), List.getElem?_map, List.getElem?_eq_getElem hi] at this
      simpa using this
    refine ⟨g, cap, hv, hB, fun i hi => by rw [hw.at_]; exact hcur i hi, fun i => hw.free i, fun i b hi => ⟨by simp, .inr ⟨g, cap, (cur.toList.set i (U b)).toArray, by rw [hv]; simp, hB, ?_, by simpa using hc, hm, by simpa using hs, ?_⟩⟩⟩
    · exact hw.put i (U b)
    · have ht' : cur.toList.take l.length = l.map U := by simpa using ht
      simp only [List.length_set, Nat.mul_one, List.map_set]
      rw [List.take_set, ht']
set_option maxHeartbeats 1600000 in
theorem order_any (f : Fr) (A : Option Addr) (c : Nat) (d0 : 0 ≤ f.dep) (d1 : f.dep ≤ 2147483647) (w0 : 0 ≤ f.wt) (w1 : f.wt ≤ 255) (w : World) :
    Calls Try.prog 39 #[f.v A c] w fun e w' => (∃ v, e = .returned v ∧ Own w' w.heap.size 5 v (ordL f)) ∧ Below w.heap.size w w' := by
  have hwh : Whole (w.alloc (.cells (f.cells A c).toArray 24)) w.heap.size 24 (f.cells A c) := Whole.new w _ _
  have hbel : Below w.heap.size w (w.alloc (.cells (f.cells A c).toArray 24)) := (Below.refl _ _).alloc (Nat.le_refl _) _
  have hsz : (w.alloc (.cells (f.cells A c).toArray 24)).heap.size = w.heap.size + 1 := by simp
  obtain ⟨ty, fl, st, data, pad, sets, code, last, inc, dep, wt, sole⟩ := f
  dsimp only at d0 d1 w0 w1
  have W8 := Lib.hid (u8_of wt w0 w1)
  have Ho : Hid (ordL ⟨ty, fl, st, data, pad, sets, code, last, inc, dep, wt, sole⟩ = putB 4 (dep.toNat + if sole then 2147483648 else 0) ++ [UInt8.ofNat wt.toNat]) := Lib.hid rfl
  obtain ⟨i8, hi8⟩ := uint8_row
  have wr1 : IntKind.u8.wrap wt = wt := IntWalk.u8_in _ (by omega)
  go_enter Try.func39, Try.ntmps39
  go_wp2_with fail
  generalize w.alloc (.cells #[I ty, I fl, I st, .string (S data), I pad, .slice A sets.length c, I code, I last, I inc, I dep, I wt, .bool sole] 24) = wb at hwh hbel hsz ⊢
  have HB : Hid (∀ wx, Below (w.heap.size + 1) wb wx → wx.cell? ⟨w.heap.size, 9, none⟩ = some (I dep) ∧ wx.cell? ⟨w.heap.size, 10, none⟩ = some (I wt) ∧ wx.cell? ⟨w.heap.size, 11, none⟩ = some (.bool sole)) :=
    Lib.hid fun wx h => have h := hwh.keep h (by omega); ⟨h.at_ 9, h.at_ 10, h.at_ 11⟩
  have hb0 : Below (w.heap.size + 1) wb wb.drew := (Below.refl _ _).drew
  have HZ : Hid (wb.heap.size = w.heap.size + 1) := Lib.hid hsz
  clear hwh hsz
  refine wp_region_typed_at (by intro vs; simp only [puts, Act.put, List.setIfInBounds_toArray, List.set_cons_zero, List.set_cons_succ, Nat.reduceAdd]; rfl) (fun wx => Below (w.heap.size + 1) wb wx) (StepIn [7] (w.heap.size + 1)) (fun j => match j with | 2 => some 7 | 6 => some 7 | _ => none) (fun _ => True) (none) (by kernel_rfl) (by kernel_rfl) (by kernel_rfl) (hb0) (trivial) (fun _ _ _ _ _ _ _ => trivial) (fun hA => wpR_start ?_)
  have hRf : Hid (∀ (kk : Nat) (ww : World), (StepIn [7] (w.heap.size + 1)) kk ww ww) := Lib.hid (fun k w => StepIn.refl _ _ k w)
  repeat (refine wpR_same (Step := StepIn [7] (w.heap.size + 1)) hA _ (fun k w => hRf.out k w) (by intro vs wz hC hk h0 ho; (try simp only [knownR, live, Region.binds, List.getElem?_cons_zero, List.getElem?_cons_succ, forall_const, true_implies, and_true, Nat.reduceAdd, Nat.reduceSub, Nat.reduceLT, Nat.reduceBEq, Bool.false_eq_true, false_implies, true_and, BEq.rfl] at hk); refine ⟨by first | rfl | exact wanted_at rfl rfl rfl (by simp only [hk, List.getElem_toArray, List.getElem_cons_succ, List.getElem_cons_zero]), ?_⟩; obtain ⟨c9, c10, c11⟩ := HB.out wz hC; go_simp; with_reducible rfl) ?_)
  refine wpR_call (Step := StepIn [7] (w.heap.size + 1)) hA (fun v wx => Own wx (w.heap.size + 1) 5 v (putB 4 dep.toNat)) (fun k hk v x y h _ hs => own_keep h (hs.outr hk (by kernel_rfl))) (by intro vs wz hC hk h0 ho; (try simp only [knownR, live, Region.binds, List.getElem?_cons_zero, List.getElem?_cons_succ, forall_const, true_implies, and_true, Nat.reduceAdd, Nat.reduceSub, Nat.reduceLT, Nat.reduceBEq, Bool.false_eq_true, false_implies, true_and, BEq.rfl] at hk); refine ⟨by first | rfl | exact wanted_at rfl rfl rfl (by simp only [hk, List.getElem_toArray, List.getElem_cons_succ, List.getElem_cons_zero]), ?_⟩; obtain ⟨c9, c10, c11⟩ := HB.out wz hC; refine ⟨_, _, by (go_simp; first | with_reducible rfl | exact ⟨rfl, rfl⟩), ?_⟩; refine (four_any dep d0 (by omega) _).mono ?_; rintro e w2 ⟨⟨v, rfl, hv⟩, hb⟩; have hz := hC.size; have hz2 := HZ.out; exact ⟨v, rfl, hv.more (by omega), hC.trans (hb.mono (by omega)), StepIn.new (by simp) hb⟩) ?_
  repeat (refine wpR_same (Step := StepIn [7] (w.heap.size + 1)) hA _ (fun k w => hRf.out k w) (by intro vs wz hC hk h0 ho; (try simp only [knownR, live, Region.binds, List.getElem?_cons_zero, List.getElem?_cons_succ, forall_const, true_implies, and_true, Nat.reduceAdd, Nat.reduceSub, Nat.reduceLT, Nat.reduceBEq, Bool.false_eq_true, false_implies, true_and, BEq.rfl] at hk); refine ⟨by first | rfl | exact wanted_at rfl rfl rfl (by simp only [hk, List.getElem_toArray, List.getElem_cons_succ, List.getElem_cons_zero]), ?_⟩; obtain ⟨c9, c10, c11⟩ := HB.out wz hC; go_simp; with_reducible rfl) ?_)
  refine wpR_make (Step := StepIn [7] (w.heap.size + 1)) hA (fun v wx => Reads wx (w.heap.size + 1) v [UInt8.ofNat wt.toNat]) (fun k hk v x y h _ hs => h.keep (hs.outr hk (by kernel_rfl))) (by intro vs wz hC hk h0 ho; (try simp only [knownR, live, Region.binds, List.getElem?_cons_zero, List.getElem?_cons_succ, forall_const, true_implies, and_true, Nat.reduceAdd, Nat.reduceSub, Nat.reduceLT, Nat.reduceBEq, Bool.false_eq_true, false_implies, true_and, BEq.rfl] at hk); refine ⟨by first | rfl | exact wanted_at rfl rfl rfl (by simp only [hk, List.getElem_toArray, List.getElem_cons_succ, List.getElem_cons_zero]), ?_⟩; obtain ⟨c9, c10, c11⟩ := HB.out wz hC; have hz := hC.size; have hz2 := HZ.out; have R := Reads.new wz (w.heap.size + 1) 5 [UInt8.ofNat wt.toNat] (by omega); simp only [List.map_cons, List.map_nil, ← W8.out] at R; exact ⟨_, _, by (go_simp; try with_reducible rfl), R, hC.alloc (by omega) _, StepIn.new (by simp) ((Below.refl _ _).alloc (Nat.le_refl _) _)⟩) ?_
  refine wpR_make (Step := StepIn [7] (w.heap.size + 1)) hA (fun v wx => Own wx (w.heap.size + 1) 5 v (putB 4 dep.toNat ++ [UInt8.ofNat wt.toNat])) (fun k hk v x y h _ hs => own_keep h (hs.outr hk (by kernel_rfl))) (by intro vs wz hC hk h0 ho; (try simp only [knownR, live, Region.binds, List.getElem?_cons_zero, List.getElem?_cons_succ, forall_const, true_implies, and_true, Nat.reduceAdd, Nat.reduceSub, Nat.reduceLT, Nat.reduceBEq, Bool.false_eq_true, false_implies, true_and, BEq.rfl] at hk); refine ⟨by first | rfl | exact wanted_at rfl rfl rfl (by simp only [hk, List.getElem_toArray, List.getElem_cons_succ, List.getElem_cons_zero]), ?_⟩; obtain ⟨h1, ⟨A1, c1, e1, hr1, _⟩, _⟩ := hk; obtain ⟨c9, c10, c11⟩ := HB.out wz hC; have hz := hC.size; have hz2 := HZ.out; obtain ⟨v', W', hrun, h2, h3, h4, h5⟩ := append_bytes (P := Try.prog) (t := 27) (ty := 27) Try.underlying27 hi8 h1 A1 c1 hr1 (by simp [putB_length]) (by omega); exact ⟨v', W', exec_append (.tmp 6) (.tmp 10) rfl rfl e1 hrun, h2, hC.trans h5, StepIn.row (by simp) h5⟩) ?_
  refine wpR_pure (Step := StepIn [7] (w.heap.size + 1)) hA (fun v wx => Own wx (w.heap.size + 1) 5 v (putB 4 dep.toNat ++ [UInt8.ofNat wt.toNat])) (fun k hk v x y h _ hs => own_keep h (hs.outr hk (by kernel_rfl))) (fun k w => hRf.out k w) (by intro vs wz hC hk h0 ho; (try simp only [knownR, live, Region.binds, List.getElem?_cons_zero, List.getElem?_cons_succ, forall_const, true_implies, and_true, Nat.reduceAdd, Nat.reduceSub, Nat.reduceLT, Nat.reduceBEq, Bool.false_eq_true, false_implies, true_and, BEq.rfl] at hk); refine ⟨by first | rfl | exact wanted_at rfl rfl rfl (by simp only [hk, List.getElem_toArray, List.getElem_cons_succ, List.getElem_cons_zero]), ?_⟩; obtain ⟨hk, _⟩ := hk; obtain ⟨c9, c10, c11⟩ := HB.out wz hC; refine ⟨_, by (go_simp; with_reducible rfl), ?_⟩; exact hk) ?_
  refine wpR_nil hA ?_; intro vs wz hC hk h0; simp only [allR, Nat.reduceAdd, Nat.reduceSub, and_true, Option.isNone_none, Option.isNone_some, forall_const, true_implies, Bool.false_eq_true, false_implies, true_and] at hk; simp only [hk]; clear hRf hA
  obtain ⟨-, -, -, -, -, -, hown⟩ := hk
  obtain ⟨c9, c10, c11⟩ := HB.out wz hC
  have hz := hC.size
  have hz2 := HZ.out
  have hbw : Below w.heap.size w wz := hbel.trans (hC.mono (by omega))
  obtain ⟨g, cp, hv, hg, hcell, hfr, hset⟩ := hown.cell (by simp)
  have hlen : (putB 4 dep.toNat ++ [UInt8.ofNat wt.toNat]).length = 5 := by simp [putB_length]
  rw [hlen] at hv
  have HO : Hid (Own wz (w.heap.size + 1) 5 (.slice (some ⟨g, 0, none⟩) 5 cp) (putB 4 dep.toNat ++ [UInt8.ofNat wt.toNat])) := Lib.hid (by rw [hv] at hown; exact hown)
  clear hown
  cases sole
  · clear hcell hfr hset HB hlen
    go_wp2
    go_ret
    exact ⟨⟨_, rfl, by have h := (HO.out).more (B' := w.heap.size) (by omega); rw [Ho.out]; simp only [Bool.false_eq_true, if_false, Nat.add_zero]; exact h⟩, hbw⟩
  · have h0 := hcell 0 (by omega)
    have f0 := hfr 0
    obtain ⟨d, hd⟩ : ∃ d : Nat, dep.toNat = d := ⟨_, rfl⟩
    have e0 : U (putB 4 dep.toNat ++ [UInt8.ofNat wt.toNat])[0] = .int .u8 ((d / 256 ^ 3 % 256 : Nat) : Int) := by
      rw [hd]; simp [putB, U]
    rw [e0] at h0
    obtain ⟨x, hx⟩ : ∃ x, d / 256 ^ 3 % 256 = x := ⟨_, rfl⟩
    rw [hx] at h0
    have hxl : x < 128 := by omega
    have ho := or128 x hxl
    have hy : U (UInt8.ofNat (x + 128)) = .int .u8 ((x + 128 : Nat) : Int) := by simp [U]; omega
    have HS := hset 0 (UInt8.ofNat (x + 128)) (by omega)
    rw [hy, hv] at HS
    have HE : (putB 4 dep.toNat ++ [UInt8.ofNat wt.toNat]).set 0 (UInt8.ofNat (x + 128)) = ordL ⟨ty, fl, st, data, pad, sets, code, last, inc, dep, wt, true⟩ := by
      rw [Ho.out, hd, List.set_append_left _ _ (by simp [putB_length]), ← hx, high_set d (by omega)]; rfl
    rw [HE] at HS
    have HS := Lib.hid HS
    have hbs : Hid (Below w.heap.size w (wz.setCell ⟨g, 0, none⟩ (.int .u8 ((x + 128 : Nat) : Int)))) := Lib.hid (hbw.setCell (by simp; omega) _)
    clear hcell hfr hset HB hlen HE e0 hx hd hy HO
    go_wp2
    go_ret
    exact ⟨⟨_, rfl, HS.out.more (by omega)⟩, hbs.out⟩
end Go.Proofs.Ytlfkgbcclinnbaa
