/- Layer 7: ChopPreface, walked. No condition. -/
import Derived.Test.YtigodfnckjidoaaChQ
import Derived.Test.YtigodfnckjidoaaBl
namespace Go.Proofs.Ytigodfnckjidoaa
set_option linter.all false
open Go Go.RowKit
set_option maxRecDepth 10000
set_option maxHeartbeats 4000000
theorem xor_byte (a b : UInt8) : IntKind.u8.wrap ((BitVec.ofInt IntKind.u8.bits (a.toNat : Int) ^^^ BitVec.ofInt IntKind.u8.bits (b.toNat : Int)).toNat) = ((a ^^^ b).toNat : Int) := by
  have e1 : BitVec.ofInt IntKind.u8.bits (a.toNat : Int) = a.toBitVec := by
    show BitVec.ofInt 8 ((a.toBitVec.toNat : Nat) : Int) = _
    rw [BitVec.ofInt_natCast, BitVec.ofNat_toNat]; rfl
  have e2 : BitVec.ofInt IntKind.u8.bits (b.toNat : Int) = b.toBitVec := by
    show BitVec.ofInt 8 ((b.toBitVec.toNat : Nat) : Int) = _
    rw [BitVec.ofInt_natCast, BitVec.ofNat_toNat]; rfl
  rw [e1, e2]
  have h : (a ^^^ b).toNat < 256 := (a ^^^ b).toBitVec.isLt
  exact u8_wrap (n := ((a ^^^ b).toNat : Int)) (by omega) (by omega)
theorem xor_ne {a b : UInt8} (h : b ≠ 0) : a ^^^ b ≠ a := fun e => h (by
  have : a ^^^ (a ^^^ b) = b := by rw [← UInt8.xor_assoc, UInt8.xor_self, UInt8.zero_xor]
  rw [e, UInt8.xor_self] at this; exact this.symm)
theorem pre_take : ∀ k : Nat, k ≤ 24 → Fd7.take ⟨100, 0, [], false⟩ (preL.take k) = ([], ⟨100, k, [], false⟩) := fun k hk => by
  have h : k = 0 ∨ k = 1 ∨ k = 2 ∨ k = 3 ∨ k = 4 ∨ k = 5 ∨ k = 6 ∨ k = 7 ∨ k = 8 ∨ k = 9 ∨ k = 10 ∨ k = 11 ∨ k = 12 ∨ k = 13 ∨ k = 14 ∨ k = 15 ∨ k = 16 ∨ k = 17 ∨ k = 18 ∨ k = 19 ∨ k = 20 ∨ k = 21 ∨ k = 22 ∨ k = 23 ∨ k = 24 := by omega
  rcases h with rfl | rfl | rfl | rfl | rfl | rfl | rfl | rfl | rfl | rfl | rfl | rfl | rfl | rfl | rfl | rfl | rfl | rfl | rfl | rfl | rfl | rfl | rfl | rfl | rfl <;> rfl
theorem pre_rest : ∀ k : Nat, k ≤ 24 → Fd7.take ⟨100, k, [], false⟩ (preL.drop k) = ([], ⟨100, 24, [], false⟩) := fun k hk => by
  have h : k = 0 ∨ k = 1 ∨ k = 2 ∨ k = 3 ∨ k = 4 ∨ k = 5 ∨ k = 6 ∨ k = 7 ∨ k = 8 ∨ k = 9 ∨ k = 10 ∨ k = 11 ∨ k = 12 ∨ k = 13 ∨ k = 14 ∨ k = 15 ∨ k = 16 ∨ k = 17 ∨ k = 18 ∨ k = 19 ∨ k = 20 ∨ k = 21 ∨ k = 22 ∨ k = 23 ∨ k = 24 := by omega
  rcases h with rfl | rfl | rfl | rfl | rfl | rfl | rfl | rfl | rfl | rfl | rfl | rfl | rfl | rfl | rfl | rfl | rfl | rfl | rfl | rfl | rfl | rfl | rfl | rfl | rfl <;> rfl
theorem pre_left : ∀ k : Nat, k ≤ 24 → Fd7.leftM ⟨100, k, [], false⟩ = Int.tmod (k : Int) 24 := fun k hk => by
  by_cases h : k = 24
  · subst h; rfl
  · unfold Fd7.leftM
    rw [if_neg (by simp), if_pos (by show k < 24; omega)]
    rw [Int.tmod_eq_of_lt (by omega) (by omega)]
theorem pre_bad {q : Nat} {p x : UInt8} (hq : q < 24) (hp : preL[q]? = some p) (hx : x ≠ p) : Fd7.take ⟨100, q, [], false⟩ [x] = ([badI], ⟨100, q, [], true⟩) := by
  refine take_none (f := ⟨100, q, [], false⟩) rfl ?_
  show greetM q [x] = (q, none)
  unfold greetM
  rw [if_pos hq, if_neg (by rw [hp]; intro e; injection e with e; exact hx e.symm)]
theorem pre_over {q : Nat} (b : List UInt8) : Fd7.take ⟨100, q, [], true⟩ b = ([], ⟨100, q, [], true⟩) := take_over rfl
theorem con_ChopPreface {a c : Int} {y : UInt8} : Con Try.prog 6 [.v (.int .i64 a), .v (.int .u8 (y.toNat : Int)), .v (.int .i64 c)] [] 0 (.ret (.v (.bool true))) [] := by
  obtain ⟨k, hk, hk24⟩ : ∃ k : Nat, ((c < 0 ∨ 24 < c → (k : Int) = 0) ∧ (¬ (c < 0 ∨ 24 < c) → (k : Int) = c)) ∧ k ≤ 24 := by
    by_cases h : c < 0 ∨ 24 < c
    · exact ⟨0, ⟨fun _ => rfl, fun h' => absurd h h'⟩, by omega⟩
    · exact ⟨c.toNat, ⟨fun h' => absurd h' h, fun _ => by omega⟩, by omega⟩
  have t1 := pre_take k hk24
  have t2 := pre_rest k hk24
  have hL := pre_left k hk24
  have hLb : (Fd7.leftM ⟨100, k, [], false⟩ != Int.tmod (k : Int) 24) = false := by rw [hL]; simp
  have hpl : preL.length = 24 := rfl
  have hL24 : (Fd7.leftM ⟨100, 24, [], false⟩ != 0) = false := rfl
  have hL0 : Fd7.leftM ⟨100, 24, [], false⟩ = 0 := rfl
  refine con_of Try.func6 rfl (by show _ ≤ 127; simp) fun X Q hP hnt hnp hret hpan => ?_
  obtain ⟨P0, nt0, w0, K0, S0, np0, pin0, df0⟩ := X
  simp only at hP hnt hnp
  subst hP hnp
  obtain rfl : nt0 = 127 := hnt
  refine aw_region fun K1 hK1 => ?_
  refine aL z_assign ?_
  refine awl_nil (hK1 _ _ ?_)
  clear hK1 K1
  refine aw_seq fun K2 hK2 => ?_
  refine aw_region fun K3 hK3 => ?_
  refine aL (z_call0 .nil en_8 (con_awake)) ?_
  refine aL z_not ?_
  refine awl_nil (hK3 _ _ ?_)
  clear hK3 K3
  refine aC (fun r1 c1 => ?_) (fun r1 c1 => ?_)
  · exact absurd c1 (by decide)
  · refine aw_skip ?_
    refine hK2 _ _ ?_
    clear hK2
    refine aw_region fun K4 hK4 => ?_
    refine aL (z_callG [0, 1] (eC (eC .nil)) en_10 (con_NewF (f := ⟨100, 0, [], false⟩) rfl) .nil) ?_
    refine aL z_assign ?_
    refine awl_nil (hK4 _ _ ?_)
    clear hK4 K4
    refine aw_region fun K5 hK5 => ?_
    refine aL z_assign ?_
    refine awl_nil (hK5 _ _ ?_)
    clear hK5 K5
    refine aw_cut ([(0, .v (.int .i64 a)), (1, .v (.int .u8 (y.toNat : Int))), (2, .v (.int .i64 (k : Int))), (7, .ptr 0 0), (8, .v (.int .i64 24))], [(0, .box (fdI 1 ⟨100, 0, [], false⟩ 0)), (1, rw1 0 [])]) (fun K6 hK6 => ?_) ?_
    rotate_left
    focus
      refine aw_seq fun K7 hK7 => ?_
      refine aw_regionD mx_all (by kernel_rfl) fun K8 hK8 => ?_
      refine aD z_move ?_
      refine aD z_move ?_
      refine aD (z_sliceS Try.underlying9 (l := preL) (j := some k) (hhi := .yes (ev_tmp rfl) rfl) (l' := preL.take k) (hc := rfl)) ?_
      refine aD (z_convB Try.underlying9 Try.underlying24 Try.underlying5) ?_
      refine aD (z_callG [0, 1] (eC (eC .nil)) en_11 (con_TakeE t1 0 (by decide) (by simp; omega)) (pA (pA .nil))) ?_
      first
        | refine aD (z_lenB Try.underlying29) ?_
        | refine aD (z_len Try.underlying29) ?_
        | refine aD (z_lenV Try.underlying29) ?_
      refine aD z_neq ?_
      refine aD z_move ?_
      refine yD rfl rfl (ev_tmp rfl) (by first | rfl | (simp [hLb, hL24, hL0]; done)) (z_move) ?_
      refine yD rfl rfl (ev_tmp rfl) (by first | rfl | (simp [hLb, hL24, hL0]; done)) (z_callF 0 1 en_14 con_LeftR (lentI (f := ⟨100, k, [], false⟩))) ?_
      refine yD rfl rfl (ev_tmp rfl) (by first | rfl | (simp [hLb, hL24, hL0]; done)) (z_move) ?_
      refine yD rfl rfl (ev_tmp rfl) (by first | rfl | (simp [hLb, hL24, hL0]; done)) (z_move) ?_
      refine yD rfl rfl (ev_tmp rfl) (by first | rfl | (simp [hLb, hL24, hL0]; done)) (z_rem) ?_
      refine yD rfl rfl (ev_tmp rfl) (by first | rfl | (simp [hLb, hL24, hL0]; done)) (z_neq) ?_
      refine aD z_or ?_
      refine aD z_move ?_
      refine yD rfl rfl (ev_tmp rfl) (by first | rfl | (simp [hLb, hL24, hL0]; done)) (z_move) ?_
      refine yD rfl rfl (ev_tmp rfl) (by first | rfl | (simp [hLb, hL24, hL0]; done)) (z_move) ?_
      refine yD rfl rfl (ev_tmp rfl) (by first | rfl | (simp [hLb, hL24, hL0]; done)) (z_sliceS Try.underlying9 (l := preL) (i := some k) (hlo := .yes (ev_tmp rfl) rfl) (l' := preL.drop k) (hc := by rw [List.take_of_length_le (by simp)]; rfl)) ?_
      refine yD rfl rfl (ev_tmp rfl) (by first | rfl | (simp [hLb, hL24, hL0]; done)) (z_convB Try.underlying9 Try.underlying24 Try.underlying5) ?_
      refine yD rfl rfl (ev_tmp rfl) (by first | rfl | (simp [hLb, hL24, hL0]; done)) (z_callG [0, 1] (eC (eC .nil)) en_11 (con_TakeE t2 1 (by simpa using hk24) (by simp; omega)) (pA (pA .nil))) ?_
      first
        | refine yD rfl rfl (ev_tmp rfl) (by first | rfl | (simp [hLb, hL24, hL0]; done)) (z_lenB Try.underlying29) ?_
        | refine yD rfl rfl (ev_tmp rfl) (by first | rfl | (simp [hLb, hL24, hL0]; done)) (z_len Try.underlying29) ?_
        | refine yD rfl rfl (ev_tmp rfl) (by first | rfl | (simp [hLb, hL24, hL0]; done)) (z_lenV Try.underlying29) ?_
      refine yD rfl rfl (ev_tmp rfl) (by first | rfl | (simp [hLb, hL24, hL0]; done)) (z_neq) ?_
      refine aD z_or ?_
      refine aD z_move ?_
      refine yD rfl rfl (ev_tmp rfl) (by first | rfl | (simp [hLb, hL24, hL0]; done)) (z_move) ?_
      refine yD rfl rfl (ev_tmp rfl) (by first | rfl | (simp [hLb, hL24, hL0]; done)) (z_callF 0 1 en_14 con_LeftR (lentI (f := ⟨100, 24, [], false⟩))) ?_
      refine yD rfl rfl (ev_tmp rfl) (by first | rfl | (simp [hLb, hL24, hL0]; done)) (z_neq) ?_
      refine aD z_or ?_
      refine aD z_move ?_
      refine yD rfl rfl (ev_tmp rfl) (by first | rfl | (simp [hLb, hL24, hL0]; done)) (z_move) ?_
      refine yD rfl rfl (ev_tmp rfl) (by first | rfl | (simp [hLb, hL24, hL0]; done)) (z_callF 0 1 en_15 con_OverR (lentI (f := ⟨100, 24, [], false⟩))) ?_
      refine aD z_or ?_
      refine awd_nil (by kernel_rfl) (hK8 _ _ ?_)
      clear hK8 K8
      refine aC (fun r2 c2 => ?_) (fun r2 c2 => ?_)
      · exfalso; revert r2; simp [hLb, hL24, hL0]
      · refine aw_skip ?_
        refine hK7 _ _ ?_
        clear hK7
        refine aw_seq fun K9 hK9 => ?_
        refine aw_region fun K10 hK10 => ?_
        refine aL z_move ?_
        refine aL z_lss ?_
        refine aL z_move ?_
        first
          | refine gL rfl rfl (ev_tmp rfl) (fun hg => z_move) ?_
          | refine hL rfl rfl (ev_tmp rfl) (fun hg => z_move) ?_
        first
          | refine gL rfl rfl (ev_tmp rfl) (fun hg => z_move) ?_
          | refine hL rfl rfl (ev_tmp rfl) (fun hg => z_move) ?_
        first
          | refine gL rfl rfl (ev_tmp rfl) (fun hg => z_geq) ?_
          | refine hL rfl rfl (ev_tmp rfl) (fun hg => z_geq) ?_
        refine aL z_or ?_
        refine aL z_move ?_
        first
          | refine gL rfl rfl (ev_tmp rfl) (fun hg => z_move) ?_
          | refine hL rfl rfl (ev_tmp rfl) (fun hg => z_move) ?_
        first
          | refine gL rfl rfl (ev_tmp rfl) (fun hg => z_eql) ?_
          | refine hL rfl rfl (ev_tmp rfl) (fun hg => z_eql) ?_
        refine aL z_or ?_
        refine awl_nil (hK10 _ _ ?_)
        clear hK10 K10
        refine aC (fun r3 c3 => ?_) (fun r3 c3 => ?_)
        · refine aw_region fun K11 hK11 => ?_
          refine aL z_assign ?_
          refine awl_nil (hK11 _ _ ?_)
          clear hK11 K11
          refine aw_ret ?_
          refine (hret _ _ _ _ _ rfl (.tmp rfl .nil) rfl ?_ .nil rfl).1
          first | rfl | skip
        · refine aw_skip ?_
          refine hK9 _ _ ?_
          clear hK9
          refine aw_region fun K12 hK12 => ?_
          obtain ⟨q, hq⟩ : ∃ q : Nat, a = (q : Int) := ⟨a.toNat, by omega⟩
          subst hq
          have hq24 : q < 24 := by omega
          obtain ⟨p, hp⟩ : ∃ p, preL[q]? = some p := ⟨preL[q]'(by rw [hpl]; exact hq24), List.getElem?_eq_getElem _⟩
          obtain ⟨pb, hpb⟩ : ∃ pb, preL.set q (p ^^^ y) = pb := ⟨_, rfl⟩
          have hpbl : pb.length = 24 := by rw [← hpb]; simp [hpl]
          have htk : pb.take q = preL.take q := by
            rw [← hpb]
            apply List.ext_getElem?
            intro i
            rw [List.getElem?_take, List.getElem?_take]
            split
            · rw [List.getElem?_set_ne (by omega)]
            · rfl
          have hb1 : (pb.drop q).take 1 = [p ^^^ y] := by
            have hl : ((pb.drop q).take 1).length = 1 := by simp; omega
            have h0 : ((pb.drop q).take 1)[0]? = some (p ^^^ y) := by
              rw [List.getElem?_take_of_lt (by omega), List.getElem?_drop, Nat.add_zero, ← hpb, List.getElem?_set_self (by rw [hpl]; exact hq24)]
            match hm : (pb.drop q).take 1, hl, h0 with
            | [z], _, h0 => simp at h0; rw [h0]
          have hib : (itV [badI])[0]? = some badI.vs := rfl
          have hLq : Fd7.leftM ⟨100, q, [], false⟩ = (q : Int) := by
            unfold Fd7.leftM
            rw [if_neg (by simp), if_pos (by show q < 24; omega)]
          have hy0 : y ≠ 0 := fun e => by subst e; simp at *
          refine awl_litM 20 (l := preL) (pC (pC (pC (pC (pC (pC (pC (pC (pC (pC (pC (pC (pC (pC (pC (pC (pC (pC (pC (pC (pC (pC (pC (pC .nil)))))))))))))))))))))))) Try.underlying24 Try.underlying5 sz_5 zc_5 zl_5 rfl rfl (Nat.le_of_ble_eq_true rfl) ⟨rfl, Nat.le_of_ble_eq_true rfl, Nat.le_of_ble_eq_true rfl⟩ (Nat.le_of_ble_eq_true rfl) (Nat.le_of_ble_eq_true rfl) (Nat.le_of_ble_eq_true rfl) rfl ?_
          skip
          refine aL z_assign ?_
          refine awl_nil (hK12 _ _ ?_)
          clear hK12 K12
          refine aw_region fun K13 hK13 => ?_
          refine aL z_move ?_
          refine aL z_move ?_
          refine aL z_move ?_
          refine aL z_move ?_
          refine aL (z_indexAddrV (i := q) Try.underlying24 sz_5 (hi := hq24)) ?_
          refine aL (z_loadV sz_5 (cs := [V.int .u8 (p.toNat : Int)]) (hc := by rw [Nat.zero_add]; exact bs_get hp)) ?_
          refine aL z_move ?_
          refine aL (z_bxor (hr := xor_byte p y)) ?_
          refine aL (z_indexAddrV (i := q) Try.underlying24 sz_5 (hi := hq24)) ?_
          refine aL (z_storeV sz_5 (i := 0 + q) (j := 0) (e0 := [V.int .u8 (p.toNat : Int)]) (xs := [V.int .u8 ((p ^^^ y).toNat : Int)]) (c' := bs pb) (hc := by rw [Nat.zero_add]; exact bs_get hp) (hc' := by rw [Nat.zero_add, ← hpb]; simp [bs, List.map_set])) ?_
          refine awl_nil (hK13 _ _ ?_)
          clear hK13 K13
          refine aw_weak (weak_settle (fr' := [(0, .v (.int .i64 (q : Int))), (9, .v (.sl (bs pb)))]) (ah' := []) 20 rfl .nil rfl (.keep rfl rfl (.view rfl (by rw [bs_cut, List.take_of_length_le (by simp [hpl, hpbl])]; simp) .nil))) ?_
          refine aw_region fun K14 hK14 => ?_
          refine aL (z_callG [2, 3] (eC (eC .nil)) en_10 (con_NewF (f := ⟨100, 0, [], false⟩) rfl) .nil) ?_
          refine aL z_assign ?_
          refine awl_nil (hK14 _ _ ?_)
          clear hK14 K14
          refine aw_seq fun K15 hK15 => ?_
          refine aw_region fun K16 hK16 => ?_
          refine aL z_move ?_
          refine aL z_move ?_
          refine aL z_move ?_
          refine aL (z_slice Try.underlying24 sz_5 (j := some q) (hhi := .yes (ev_tmp rfl) rfl) (c' := bs (preL.take q)) (hc := by rw [bs_cut, ← htk]; simp)) ?_
          refine aL (z_callG [2, 3] (eC (eC .nil)) en_11 (con_TakeE (pre_take q (by omega)) 0 (by decide) (by simp; omega)) (pA (pA .nil))) ?_
          first
            | refine aL (z_lenB Try.underlying29) ?_
            | refine aL (z_len Try.underlying29) ?_
            | refine aL (z_lenV Try.underlying29) ?_
          refine aL z_neq ?_
          refine aL z_move ?_
          first
            | refine gL rfl rfl (ev_tmp rfl) (fun hg => z_move) ?_
            | refine hL rfl rfl (ev_tmp rfl) (fun hg => z_move) ?_
          first
            | refine gL rfl rfl (ev_tmp rfl) (fun hg => z_callF 2 3 en_15 con_OverR (lentI (f := ⟨100, q, [], false⟩))) ?_
            | refine hL rfl rfl (ev_tmp rfl) (fun hg => z_callF 2 3 en_15 con_OverR (lentI (f := ⟨100, q, [], false⟩))) ?_
          refine aL z_or ?_
          refine aL z_move ?_
          first
            | refine gL rfl rfl (ev_tmp rfl) (fun hg => z_move) ?_
            | refine hL rfl rfl (ev_tmp rfl) (fun hg => z_move) ?_
          first
            | refine gL rfl rfl (ev_tmp rfl) (fun hg => z_callF 2 3 en_14 con_LeftR (lentI (f := ⟨100, q, [], false⟩))) ?_
            | refine hL rfl rfl (ev_tmp rfl) (fun hg => z_callF 2 3 en_14 con_LeftR (lentI (f := ⟨100, q, [], false⟩))) ?_
          first
            | refine gL rfl rfl (ev_tmp rfl) (fun hg => z_move) ?_
            | refine hL rfl rfl (ev_tmp rfl) (fun hg => z_move) ?_
          first
            | refine gL rfl rfl (ev_tmp rfl) (fun hg => z_neq) ?_
            | refine hL rfl rfl (ev_tmp rfl) (fun hg => z_neq) ?_
          refine aL z_or ?_
          refine awl_nil (hK16 _ _ ?_)
          clear hK16 K16
          refine aC (fun r4 c4 => ?_) (fun r4 c4 => ?_)
          · exfalso; revert r4; simp [hLq]
          · refine aw_skip ?_
            refine hK15 _ _ ?_
            clear hK15
            refine aw_region fun K17 hK17 => ?_
            refine aL z_move ?_
            refine aL z_move ?_
            refine aL z_move ?_
            refine aL z_move ?_
            refine aL z_add ?_
            refine aL (z_slice Try.underlying24 sz_5 (i := some q) (hlo := .yes (ev_tmp rfl) rfl) (j := some (q + 1)) (hhi := .yes (ev_tmp rfl) rfl) (c' := bs [p ^^^ y]) (hc := by rw [bs_cut, ← hb1]; simp)) ?_
            refine aL (z_callG [2, 3] (eC (eC .nil)) en_11 (con_TakeE (pre_bad (by omega) hp (xor_ne hy0)) 1 (by show q ≤ 24; omega) (by simp)) (pA (pA .nil))) ?_
            refine aL z_assign ?_
            refine awl_nil (hK17 _ _ ?_)
            clear hK17 K17
            refine aw_region fun K18 hK18 => ?_
            refine aL z_move ?_
            first
              | refine aL (z_lenB Try.underlying29) ?_
              | refine aL (z_len Try.underlying29) ?_
              | refine aL (z_lenV Try.underlying29) ?_
            refine aL z_eql ?_
            refine aL z_move ?_
            refine yL rfl rfl (ev_tmp rfl) (by first | rfl | (simp; done)) (z_move) ?_
            first
              | refine yL rfl rfl (ev_tmp rfl) (by first | rfl | (simp; done)) (z_indexAddr Try.underlying29 sz_42) ?_
              | refine yL rfl rfl (ev_tmp rfl) (by first | rfl | (simp; done)) (z_indexAddrV Try.underlying29 sz_42) ?_
            first
              | refine yL rfl rfl (ev_tmp rfl) (by first | rfl | (simp; done)) (z_fieldAddr fo_42_1) ?_
              | refine yL rfl rfl (ev_tmp rfl) (by first | rfl | (simp; done)) (z_fieldRef fo_42_1) ?_
              | refine yL rfl rfl (ev_tmp rfl) (by first | rfl | (simp; done)) (z_fieldV fo_42_1) ?_
            first
              | refine yL rfl rfl (ev_tmp rfl) (by first | rfl | (simp; done)) (z_load sz_37) ?_
              | refine yL rfl rfl (ev_tmp rfl) (by first | rfl | (simp; done)) (z_loadRef sz_37) ?_
              | refine yL rfl rfl (ev_tmp rfl) (by first | rfl | (simp; done)) (z_loadV sz_37) ?_
            refine yL rfl rfl (ev_tmp rfl) (by first | rfl | (simp; done)) (z_build (pC (pC .nil)) pl_37 zc_37 zl_37) ?_
            refine yL rfl rfl (ev_tmp rfl) (by first | rfl | (simp; done)) (z_eqlA sk_37) ?_
            refine aL z_and ?_
            refine aL z_move ?_
            refine yL rfl rfl (ev_tmp rfl) (by first | rfl | (simp; done)) (z_move) ?_
            refine yL rfl rfl (ev_tmp rfl) (by first | rfl | (simp; done)) (z_callF 2 3 en_15 con_OverR (lentI (f := ⟨100, q, [], true⟩))) ?_
            refine aL z_and ?_
            refine aL z_move ?_
            refine yL rfl rfl (ev_tmp rfl) (by first | rfl | (simp; done)) (z_move) ?_
            refine yL rfl rfl (ev_tmp rfl) (by first | rfl | (simp; done)) (z_move) ?_
            refine yL rfl rfl (ev_tmp rfl) (by first | rfl | (simp; done)) (z_move) ?_
            refine yL rfl rfl (ev_tmp rfl) (by first | rfl | (simp; done)) (z_add) ?_
            refine yL rfl rfl (ev_tmp rfl) (by first | rfl | (simp; done)) (z_slice Try.underlying24 sz_5 (i := some (q + 1)) (hlo := .yes (ev_tmp rfl) rfl) (c' := bs (pb.drop (q + 1))) (hc := by rw [bs_cut]; simp)) ?_
            refine yL rfl rfl (ev_tmp rfl) (by first | rfl | (simp; done)) (z_callG [2, 3] (eC (eC .nil)) en_11 (con_TakeE (pre_over (pb.drop (q + 1))) 2 (by show q ≤ 24; omega) (by simp; omega)) (pA (pA .nil))) ?_
            first
              | refine yL rfl rfl (ev_tmp rfl) (by first | rfl | (simp; done)) (z_lenB Try.underlying29) ?_
              | refine yL rfl rfl (ev_tmp rfl) (by first | rfl | (simp; done)) (z_len Try.underlying29) ?_
              | refine yL rfl rfl (ev_tmp rfl) (by first | rfl | (simp; done)) (z_lenV Try.underlying29) ?_
            refine yL rfl rfl (ev_tmp rfl) (by first | rfl | (simp; done)) (z_eql) ?_
            refine aL z_and ?_
            refine aL z_assign ?_
            refine awl_nil (hK18 _ _ ?_)
            clear hK18 K18
            refine aw_ret ?_
            refine (hret _ _ _ _ _ rfl (.tmp rfl .nil) rfl ?_ .nil rfl).1
            first | rfl | skip
    refine aw_region fun K19 hK19 => ?_
    refine aL z_move ?_
    refine aL z_lss ?_
    refine aL z_move ?_
    first
      | refine gL rfl rfl (ev_tmp rfl) (fun hg => z_move) ?_
      | refine hL rfl rfl (ev_tmp rfl) (fun hg => z_move) ?_
    first
      | refine gL rfl rfl (ev_tmp rfl) (fun hg => z_move) ?_
      | refine hL rfl rfl (ev_tmp rfl) (fun hg => z_move) ?_
    first
      | refine gL rfl rfl (ev_tmp rfl) (fun hg => z_gtr) ?_
      | refine hL rfl rfl (ev_tmp rfl) (fun hg => z_gtr) ?_
    refine aL z_or ?_
    refine awl_nil (hK19 _ _ ?_)
    clear hK19 K19
    refine aC (fun r5 c5 => ?_) (fun r5 c5 => ?_)
    · refine aw_region_last ?_
      refine aL z_assign ?_
      refine awl_nil ?_
      refine hK6 _ _ ?_
      exact wK
    · refine aw_skip ?_
      refine hK6 _ _ ?_
      exact wK
end Go.Proofs.Ytigodfnckjidoaa
