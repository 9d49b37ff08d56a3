/- Layer 6: the program's Take. No condition. -/
import Derived.Test.YtigodfnckjidoaaFrB0
namespace Go.Proofs.Ytigodfnckjidoaa
set_option linter.all false
open Go Go.RowKit
set_option maxRecDepth 10000
theorem con_misplaced {k s : Int} : Con Try.prog 38 [.v (.int .i64 k), .v (.int .i64 s)] [] 0 (.ret (.v (.bool (misB k s)))) [] := by
  refine con_of Try.func38 rfl (by show _ ≤ 22; simp) fun X Q hP hnt hnp hret hpan => ?_
  obtain ⟨P0, nt0, w0, K0, S0, np0, pin0, df0⟩ := X
  simp only at hP hnt hnp
  subst hP hnp
  obtain rfl : nt0 = 22 := hnt
  refine aw_region fun K1 hK1 => ?_
  refine aL z_assign ?_
  refine awl_nil (hK1 _ _ ?_)
  clear hK1 K1
  refine aw_seq fun K2 hK2 => ?_
  refine aw_region fun K3 hK3 => ?_
  refine aL z_move ?_
  refine awl_nil (hK3 _ _ ?_)
  clear hK3 K3
  refine aw_block ?_
  refine aw_region fun K4 hK4 => ?_
  refine aL z_eql ?_
  refine aL z_assign ?_
  refine awl_nil (hK4 _ _ ?_)
  clear hK4 K4
  refine aC (fun r1 c1 => ?_) (fun r1 c1 => ?_)
  · refine aw_region fun K5 hK5 => ?_
    refine aL z_assign ?_
    refine awl_nil (hK5 _ _ ?_)
    clear hK5 K5
    refine aw_ret ?_
    refine (hret _ _ _ _ _ rfl (.tmp rfl .nil) rfl ?_ .nil rfl).1
    (simp [misB, retD, *] <;> (try (rw [Bool.eq_iff_iff]; simp)))
  · refine aw_seq fun K6 hK6 => ?_
    refine aw_region fun K7 hK7 => ?_
    refine aL z_eql ?_
    refine aL z_assign ?_
    refine awl_nil (hK7 _ _ ?_)
    clear hK7 K7
    refine aC (fun r2 c2 => ?_) (fun r2 c2 => ?_)
    · refine aw_skip ?_
      refine hK6 _ _ ?_
      clear hK6
      refine aw_condT (ev_tmp rfl) r2 ?_
      refine aw_region fun K8 hK8 => ?_
      refine aL z_move ?_
      refine aL z_neq ?_
      refine aL z_assign ?_
      refine awl_nil (hK8 _ _ ?_)
      clear hK8 K8
      refine aw_ret ?_
      refine (hret _ _ _ _ _ rfl (.tmp rfl .nil) rfl ?_ .nil rfl).1
      (simp [misB, retD, *] <;> (try (rw [Bool.eq_iff_iff]; simp)))
    · refine aw_region fun K9 hK9 => ?_
      refine aL z_eql ?_
      refine aL z_assign ?_
      refine awl_nil (hK9 _ _ ?_)
      clear hK9 K9
      refine aC (fun r3 c3 => ?_) (fun r3 c3 => ?_)
      · refine aw_skip ?_
        refine hK6 _ _ ?_
        clear hK6
        refine aw_condT (ev_tmp rfl) r3 ?_
        refine aw_region fun K10 hK10 => ?_
        refine aL z_move ?_
        refine aL z_neq ?_
        refine aL z_assign ?_
        refine awl_nil (hK10 _ _ ?_)
        clear hK10 K10
        refine aw_ret ?_
        refine (hret _ _ _ _ _ rfl (.tmp rfl .nil) rfl ?_ .nil rfl).1
        (simp [misB, retD, *] <;> (try (rw [Bool.eq_iff_iff]; simp)))
      · refine aw_region_last ?_
        refine aL z_eql ?_
        refine aL z_assign ?_
        refine awl_nil ?_
        refine hK6 _ _ ?_
        clear hK6
        refine aC (fun r4 c4 => ?_) (fun r4 c4 => ?_)
        · refine aw_region fun K11 hK11 => ?_
          refine aL z_move ?_
          refine aL z_neq ?_
          refine aL z_assign ?_
          refine awl_nil (hK11 _ _ ?_)
          clear hK11 K11
          refine aw_ret ?_
          refine (hret _ _ _ _ _ rfl (.tmp rfl .nil) rfl ?_ .nil rfl).1
          (simp [misB, retD, *] <;> (try (rw [Bool.eq_iff_iff]; simp)))
        · refine aw_seq fun K12 hK12 => ?_
          refine aw_region fun K13 hK13 => ?_
          refine aL z_eql ?_
          refine aL z_assign ?_
          refine awl_nil (hK13 _ _ ?_)
          clear hK13 K13
          refine aC (fun r5 c5 => ?_) (fun r5 c5 => ?_)
          · refine aw_skip ?_
            refine hK12 _ _ ?_
            clear hK12
            refine aw_condT (ev_tmp rfl) r5 ?_
            refine aw_region fun K14 hK14 => ?_
            refine aL z_move ?_
            refine aL z_eql ?_
            refine aL z_assign ?_
            refine awl_nil (hK14 _ _ ?_)
            clear hK14 K14
            refine aw_ret ?_
            refine (hret _ _ _ _ _ rfl (.tmp rfl .nil) rfl ?_ .nil rfl).1
            (simp [misB, retD, *] <;> (try (rw [Bool.eq_iff_iff]; simp)))
          · refine aw_region fun K15 hK15 => ?_
            refine aL z_eql ?_
            refine aL z_assign ?_
            refine awl_nil (hK15 _ _ ?_)
            clear hK15 K15
            refine aC (fun r6 c6 => ?_) (fun r6 c6 => ?_)
            · refine aw_skip ?_
              refine hK12 _ _ ?_
              clear hK12
              refine aw_condT (ev_tmp rfl) r6 ?_
              refine aw_region fun K16 hK16 => ?_
              refine aL z_move ?_
              refine aL z_eql ?_
              refine aL z_assign ?_
              refine awl_nil (hK16 _ _ ?_)
              clear hK16 K16
              refine aw_ret ?_
              refine (hret _ _ _ _ _ rfl (.tmp rfl .nil) rfl ?_ .nil rfl).1
              (simp [misB, retD, *] <;> (try (rw [Bool.eq_iff_iff]; simp)))
            · refine aw_region fun K17 hK17 => ?_
              refine aL z_eql ?_
              refine aL z_assign ?_
              refine awl_nil (hK17 _ _ ?_)
              clear hK17 K17
              refine aC (fun r7 c7 => ?_) (fun r7 c7 => ?_)
              · refine aw_skip ?_
                refine hK12 _ _ ?_
                clear hK12
                refine aw_condT (ev_tmp rfl) r7 ?_
                refine aw_region fun K18 hK18 => ?_
                refine aL z_move ?_
                refine aL z_eql ?_
                refine aL z_assign ?_
                refine awl_nil (hK18 _ _ ?_)
                clear hK18 K18
                refine aw_ret ?_
                refine (hret _ _ _ _ _ rfl (.tmp rfl .nil) rfl ?_ .nil rfl).1
                (simp [misB, retD, *] <;> (try (rw [Bool.eq_iff_iff]; simp)))
              · refine aw_region fun K19 hK19 => ?_
                refine aL z_eql ?_
                refine aL z_assign ?_
                refine awl_nil (hK19 _ _ ?_)
                clear hK19 K19
                refine aC (fun r8 c8 => ?_) (fun r8 c8 => ?_)
                · refine aw_skip ?_
                  refine hK12 _ _ ?_
                  clear hK12
                  refine aw_condT (ev_tmp rfl) r8 ?_
                  refine aw_region fun K20 hK20 => ?_
                  refine aL z_move ?_
                  refine aL z_eql ?_
                  refine aL z_assign ?_
                  refine awl_nil (hK20 _ _ ?_)
                  clear hK20 K20
                  refine aw_ret ?_
                  refine (hret _ _ _ _ _ rfl (.tmp rfl .nil) rfl ?_ .nil rfl).1
                  (simp [misB, retD, *] <;> (try (rw [Bool.eq_iff_iff]; simp)))
                · refine aw_region_last ?_
                  refine aL z_eql ?_
                  refine aL z_assign ?_
                  refine awl_nil ?_
                  refine hK12 _ _ ?_
                  clear hK12
                  refine aC (fun r9 c9 => ?_) (fun r9 c9 => ?_)
                  · refine aw_region fun K21 hK21 => ?_
                    refine aL z_move ?_
                    refine aL z_eql ?_
                    refine aL z_assign ?_
                    refine awl_nil (hK21 _ _ ?_)
                    clear hK21 K21
                    refine aw_ret ?_
                    refine (hret _ _ _ _ _ rfl (.tmp rfl .nil) rfl ?_ .nil rfl).1
                    (simp [misB, retD, *] <;> (try (rw [Bool.eq_iff_iff]; simp)))
                  · refine aw_skip ?_
                    refine hK2 _ _ ?_
                    clear hK2
                    refine aw_region fun K22 hK22 => ?_
                    refine aL z_assign ?_
                    refine awl_nil (hK22 _ _ ?_)
                    clear hK22 K22
                    refine aw_ret ?_
                    refine (hret _ _ _ _ _ rfl (.tmp rfl .nil) rfl ?_ .nil rfl).1
                    (simp [misB, retD, *] <;> (try (rw [Bool.eq_iff_iff]; simp)))
theorem con_whole {c : Int} : Con Try.prog 36 [.v (.int .i64 c)] [] 0 (.ret (.agg (Flt.whole c).cs)) [] := by
  refine con_of Try.func36 rfl (by show _ ≤ 5; simp) fun X Q hP hnt hnp hret hpan => ?_
  obtain ⟨P0, nt0, w0, K0, S0, np0, pin0, df0⟩ := X
  simp only at hP hnt hnp
  subst hP hnp
  obtain rfl : nt0 = 5 := hnt
  refine aw_region fun K1 hK1 => ?_
  refine aL (z_alloc 0 zc_37 zl_37) ?_
  refine awl_nil (hK1 _ _ ?_)
  clear hK1 K1
  refine aw_region fun K2 hK2 => ?_
  refine aL z_move ?_
  refine aL (z_build (pC (pC .nil)) pl_37 zc_37 zl_37) ?_
  refine aL (z_store sz_37) ?_
  refine awl_nil (hK2 _ _ ?_)
  clear hK2 K2
  refine aw_ret ?_
  refine (hret _ _ _ _ _ rfl (rCe sz_37 .nil) rfl ?_ .nil rfl).1
  first | rfl | (simp; done)
theorem con_number {l : List UInt8} {p : Int} (h0 : 0 ≤ p) (h : p ≤ 9223372036854775807) (hl : p.toNat + 4 ≤ l.length) : Con Try.prog 37 [.v (.sl (bs l)), .v (.int .i64 p)] [] 0 (.ret (.v (.int .i64 (at4 l p.toNat)))) [] := by
  have e : takeV l p 4 = at4 l p.toNat := by
    unfold takeV at4; rw [if_neg (by omega)]; rfl
  have hb : 0 ≤ at4 l p.toNat ∧ at4 l p.toNat ≤ 4294967295 := by
    have := beN_small (l.drop p.toNat) 4 4 (by decide)
    unfold at4; omega
  refine con_of Try.func37 rfl (by show _ ≤ 15; simp) fun X Q hP hnt hnp hret hpan => ?_
  obtain ⟨P0, nt0, w0, K0, S0, np0, pin0, df0⟩ := X
  simp only at hP hnt hnp
  subst hP hnp
  obtain rfl : nt0 = 15 := hnt
  refine aw_region fun K1 hK1 => ?_
  refine aL z_assign ?_
  refine awl_nil (hK1 _ _ ?_)
  clear hK1 K1
  refine aw_region fun K2 hK2 => ?_
  refine aL z_move ?_
  refine aL z_move ?_
  refine aL (z_call0 (eC (eC (eC .nil))) en_35 (con_take (by omega))) ?_
  refine aL z_move ?_
  refine aL z_extract ?_
  refine aL z_extract ?_
  refine aL z_assign ?_
  refine aL z_assign ?_
  refine awl_nil (hK2 _ _ ?_)
  clear hK2 K2
  refine aw_region fun K3 hK3 => ?_
  refine aL z_move ?_
  refine aL (z_conv Try.underlying2 ⟨_, Try.underlying62⟩) ?_
  refine aL z_assign ?_
  refine awl_nil (hK3 _ _ ?_)
  clear hK3 K3
  refine aw_ret ?_
  refine (hret _ _ _ _ _ rfl (.tmp rfl .nil) rfl ?_ .nil rfl).1
  simp [retD, e]
theorem flags (fl : Int) (h0 : 0 ≤ fl) (h1 : fl ≤ 255) : IntKind.i64.wrap ((BitVec.ofInt IntKind.i64.bits fl &&& BitVec.ofInt IntKind.i64.bits 8).toNat) = (if bitB fl 8 then 8 else 0) ∧
    IntKind.i64.wrap ((BitVec.ofInt IntKind.i64.bits fl &&& BitVec.ofInt IntKind.i64.bits 32).toNat) = (if bitB fl 32 then 32 else 0) ∧ IntKind.i64.wrap ((BitVec.ofInt IntKind.i64.bits fl &&& BitVec.ofInt IntKind.i64.bits 1).toNat) = (if bitB fl 1 then 1 else 0) := by
  have := bit_of fl h0 h1
  exact this
theorem con_ahead {k fl : Int} (h : 0 ≤ fl) (h2 : fl ≤ 255) : Con Try.prog 42 [.v (.int .i64 k), .v (.int .i64 fl)] [] 0 (.ret (.v (.int .i64 (aheadM k fl)))) [] := by
  obtain ⟨e8, e32, _⟩ := flags fl h h2
  refine con_of Try.func42 rfl (by show _ ≤ 21; simp) fun X Q hP hnt hnp hret hpan => ?_
  obtain ⟨P0, nt0, w0, K0, S0, np0, pin0, df0⟩ := X
  simp only at hP hnt hnp
  subst hP hnp
  obtain rfl : nt0 = 21 := hnt
  refine aw_region fun K1 hK1 => ?_
  refine aL z_assign ?_
  refine awl_nil (hK1 _ _ ?_)
  clear hK1 K1
  refine aw_region fun K2 hK2 => ?_
  refine aL z_assign ?_
  refine awl_nil (hK2 _ _ ?_)
  clear hK2 K2
  refine aw_seq fun K3 hK3 => ?_
  refine aw_region fun K4 hK4 => ?_
  refine aL z_move ?_
  refine aL z_band ?_
  refine aL z_neq ?_
  refine awl_nil (hK4 _ _ ?_)
  clear hK4 K4
  refine aC (fun r1 c1 => ?_) (fun r1 c1 => ?_)
  · try simp at c1
    refine aw_region_last ?_
    refine aL z_move ?_
    refine aL z_add ?_
    refine aL z_assign ?_
    refine awl_nil ?_
    refine hK3 _ _ ?_
    clear hK3
    refine aw_seq fun K5 hK5 => ?_
    refine aw_region fun K6 hK6 => ?_
    refine aL z_move ?_
    refine aL z_eql ?_
    refine aL z_move ?_
    first
      | refine gL rfl rfl (ev_tmp rfl) (fun hg => z_move) ?_
      | refine hL rfl rfl (ev_tmp rfl) (fun hg => z_move) ?_
    first
      | refine gL rfl rfl (ev_tmp rfl) (fun hg => z_band) ?_
      | refine hL rfl rfl (ev_tmp rfl) (fun hg => z_band) ?_
    first
      | refine gL rfl rfl (ev_tmp rfl) (fun hg => z_neq) ?_
      | refine hL rfl rfl (ev_tmp rfl) (fun hg => z_neq) ?_
    refine aL z_and ?_
    refine awl_nil (hK6 _ _ ?_)
    clear hK6 K6
    refine aC (fun r2 c2 => ?_) (fun r2 c2 => ?_)
    · try simp at c2
      refine aw_region_last ?_
      refine aL z_move ?_
      refine aL z_add ?_
      refine aL z_assign ?_
      refine awl_nil ?_
      refine hK5 _ _ ?_
      clear hK5
      refine aw_region fun K7 hK7 => ?_
      refine aL z_move ?_
      refine aL z_assign ?_
      refine awl_nil (hK7 _ _ ?_)
      clear hK7 K7
      refine aw_ret ?_
      refine (hret _ _ _ _ _ rfl (.tmp rfl .nil) rfl ?_ .nil rfl).1
      revert r1; cases h8 : bitB fl 8 <;> cases h32 : bitB fl 32 <;> by_cases hk : k = 1 <;> simp_all [aheadM, retD]
    · try simp at c2
      refine aw_skip ?_
      refine hK5 _ _ ?_
      clear hK5
      refine aw_region fun K8 hK8 => ?_
      refine aL z_move ?_
      refine aL z_assign ?_
      refine awl_nil (hK8 _ _ ?_)
      clear hK8 K8
      refine aw_ret ?_
      refine (hret _ _ _ _ _ rfl (.tmp rfl .nil) rfl ?_ .nil rfl).1
      revert r1; cases h8 : bitB fl 8 <;> cases h32 : bitB fl 32 <;> by_cases hk : k = 1 <;> simp_all [aheadM, retD]
  · try simp at c1
    refine aw_skip ?_
    refine hK3 _ _ ?_
    clear hK3
    refine aw_seq fun K9 hK9 => ?_
    refine aw_region fun K10 hK10 => ?_
    refine aL z_move ?_
    refine aL z_eql ?_
    refine aL z_move ?_
    first
      | refine gL rfl rfl (ev_tmp rfl) (fun hg => z_move) ?_
      | refine hL rfl rfl (ev_tmp rfl) (fun hg => z_move) ?_
    first
      | refine gL rfl rfl (ev_tmp rfl) (fun hg => z_band) ?_
      | refine hL rfl rfl (ev_tmp rfl) (fun hg => z_band) ?_
    first
      | refine gL rfl rfl (ev_tmp rfl) (fun hg => z_neq) ?_
      | refine hL rfl rfl (ev_tmp rfl) (fun hg => z_neq) ?_
    refine aL z_and ?_
    refine awl_nil (hK10 _ _ ?_)
    clear hK10 K10
    refine aC (fun r3 c3 => ?_) (fun r3 c3 => ?_)
    · try simp at c3
      refine aw_region_last ?_
      refine aL z_move ?_
      refine aL z_add ?_
      refine aL z_assign ?_
      refine awl_nil ?_
      refine hK9 _ _ ?_
      clear hK9
      refine aw_region fun K11 hK11 => ?_
      refine aL z_move ?_
      refine aL z_assign ?_
      refine awl_nil (hK11 _ _ ?_)
      clear hK11 K11
      refine aw_ret ?_
      refine (hret _ _ _ _ _ rfl (.tmp rfl .nil) rfl ?_ .nil rfl).1
      revert r1; cases h8 : bitB fl 8 <;> cases h32 : bitB fl 32 <;> by_cases hk : k = 1 <;> simp_all [aheadM, retD]
    · try simp at c3
      refine aw_skip ?_
      refine hK9 _ _ ?_
      clear hK9
      refine aw_region fun K12 hK12 => ?_
      refine aL z_move ?_
      refine aL z_assign ?_
      refine awl_nil (hK12 _ _ ?_)
      clear hK12 K12
      refine aw_ret ?_
      refine (hret _ _ _ _ _ rfl (.tmp rfl .nil) rfl ?_ .nil rfl).1
      revert r1; cases h8 : bitB fl 8 <;> cases h32 : bitB fl 32 <;> by_cases hk : k = 1 <;> simp_all [aheadM, retD]
theorem low_of (n : Int) (h0 : 0 ≤ n) (h : n ≤ 4294967295) : IntKind.i64.wrap ((BitVec.ofInt IntKind.i64.bits n &&& BitVec.ofInt IntKind.i64.bits 2147483647).toNat) = lowM n := by
  obtain ⟨k, rfl⟩ := Int.eq_ofNat_of_zero_le h0
  have e : (BitVec.ofInt IntKind.i64.bits (k : Int) &&& BitVec.ofInt IntKind.i64.bits 2147483647).toNat = k % 2147483648 := by
    have h1 : BitVec.ofInt 64 (k : Int) = BitVec.ofNat 64 k := by rw [BitVec.ofInt_natCast]
    show (BitVec.ofInt 64 (k : Int) &&& BitVec.ofInt 64 2147483647).toNat = _
    rw [h1, BitVec.toNat_and]
    have h2 : (BitVec.ofInt 64 2147483647).toNat = 2 ^ 31 - 1 := by decide
    rw [h2, Nat.and_two_pow_sub_one_eq_mod]
    first | (simp; done) | (simp; omega)
  rw [e, i64_wrap (by omega) (by omega)]
  unfold lowM; omega
theorem at4_le (l : List UInt8) (k : Nat) : 0 ≤ at4 l k ∧ at4 l k ≤ 4294967295 := by
  have := beN_small (l.drop k) 4 4 (by decide)
  unfold at4; omega
theorem con_place {f : Fr} {x : V} {l : List UInt8} (hl : 5 ≤ l.length) : Con Try.prog 43 [.ptr 0 0, .v (.sl (bs l))] [(0, .box (f.csX (.v x)))] 1 (.ret (.tup [])) [(0, .box ((placeM f l).csX (.v x)))] := by
  have hi : (bs l)[4]? = some [V.int .u8 ((l.getD 4 0).toNat : Int)] := bs_get (by rw [List.getD_eq_getElem?_getD, List.getElem?_eq_getElem (by omega)]; rfl)
  have hlow := low_of (at4 l (Int.toNat 0)) (at4_le _ _).1 (at4_le _ _).2
  refine con_of Try.func43 rfl (by show _ ≤ 24; simp) fun X Q hP hnt hnp hret hpan => ?_
  obtain ⟨P0, nt0, w0, K0, S0, np0, pin0, df0⟩ := X
  simp only at hP hnt hnp
  subst hP hnp
  obtain rfl : nt0 = 24 := hnt
  refine aw_region fun K1 hK1 => ?_
  refine aL z_move ?_
  refine aL (z_call0 (eC (eC .nil)) en_37 (con_number (by decide) (by decide) (by simp; omega))) ?_
  refine aL z_assign ?_
  refine awl_nil (hK1 _ _ ?_)
  clear hK1 K1
  refine aw_region_last ?_
  refine aL z_move ?_
  refine aL z_move ?_
  refine aL z_move ?_
  refine aL z_move ?_
  refine aL z_gtr ?_
  refine aL z_move ?_
  refine aL z_band ?_
  refine aL z_move ?_
  first
    | refine aL (z_indexAddr Try.underlying24 sz_5) ?_
    | refine aL (z_indexAddrV Try.underlying24 sz_5) ?_
  first
    | refine aL (z_load sz_5) ?_
    | refine aL (z_loadRef sz_5) ?_
    | refine aL (z_loadV sz_5) ?_
  refine aL (z_conv Try.underlying3 ⟨_, Try.underlying5⟩) ?_
  refine aL z_nilCheck ?_
  first
    | refine aL (z_fieldAddr fo_40_11) ?_
    | refine aL (z_fieldRef fo_40_11) ?_
    | refine aL (z_fieldV fo_40_11) ?_
  refine aL (z_store sz_4) ?_
  refine aL z_nilCheck ?_
  first
    | refine aL (z_fieldAddr fo_40_9) ?_
    | refine aL (z_fieldRef fo_40_9) ?_
    | refine aL (z_fieldV fo_40_9) ?_
  refine aL (z_store sz_3) ?_
  refine aL z_nilCheck ?_
  first
    | refine aL (z_fieldAddr fo_40_10) ?_
    | refine aL (z_fieldRef fo_40_10) ?_
    | refine aL (z_fieldV fo_40_10) ?_
  refine aL (z_store sz_3) ?_
  refine awl_nil ?_
  refine (hret _ _ _ _ _ rfl .nil rfl ?_ (.box' rfl (by simp [Fr.csX, placeM]) rfl .nil) rfl).2
  first | rfl | (simp; done)
theorem con_missized {k fl n : Int} (h : 0 ≤ fl) (h2 : fl ≤ 255) (h3 : 0 ≤ n) : Con Try.prog 39 [.v (.int .i64 k), .v (.int .i64 fl), .v (.int .i64 n)] [] 0 (.ret (.v (.bool (missB k fl n)))) [] := by
  obtain ⟨e8, e32, e1⟩ := flags fl h h2
  have e6 : n.tmod 6 = n % 6 := Int.tmod_eq_emod_of_nonneg h3
  refine con_of Try.func39 rfl (by show _ ≤ 46; simp) fun X Q hP hnt hnp hret hpan => ?_
  obtain ⟨P0, nt0, w0, K0, S0, np0, pin0, df0⟩ := X
  simp only at hP hnt hnp
  subst hP hnp
  obtain rfl : nt0 = 46 := hnt
  refine aw_region fun K1 hK1 => ?_
  refine aL z_assign ?_
  refine awl_nil (hK1 _ _ ?_)
  clear hK1 K1
  refine aw_region fun K2 hK2 => ?_
  refine aL (z_build (pC (pC (pC (pC .nil)))) pl_82 zc_82 zl_82) ?_
  refine aL (z_alloc 0 zc_82 zl_82) ?_
  refine aL (z_store sz_82) ?_
  refine awl_nil (hK2 _ _ ?_)
  clear hK2 K2
  refine aw_seq fun K3 hK3 => ?_
  refine aw_region fun K4 hK4 => ?_
  refine aL z_move ?_
  refine awl_nil (hK4 _ _ ?_)
  clear hK4 K4
  refine aw_block ?_
  refine aw_seq fun K5 hK5 => ?_
  refine aw_region fun K6 hK6 => ?_
  refine aL z_eql ?_
  refine aL z_assign ?_
  refine awl_nil (hK6 _ _ ?_)
  clear hK6 K6
  refine aC (fun r1 c1 => ?_) (fun r1 c1 => ?_)
  · try simp at c1
    refine aw_skip ?_
    refine hK5 _ _ ?_
    clear hK5
    refine aw_condT (ev_tmp rfl) r1 ?_
    refine aw_region fun K7 hK7 => ?_
    refine aL z_move ?_
    refine aL z_move ?_
    refine aL z_move ?_
    refine aL (z_call0 (eC (eC .nil)) en_42 (con_ahead h h2)) ?_
    refine aL z_lss ?_
    refine aL z_assign ?_
    refine awl_nil (hK7 _ _ ?_)
    clear hK7 K7
    refine aw_ret ?_
    refine (hret _ _ _ _ _ rfl (.tmp rfl .nil) rfl ?_ .nil rfl).1
    (simp_all [missB, retD] <;> (try (rw [Bool.eq_iff_iff]; simp)))
  · try simp at c1
    refine aw_region_last ?_
    refine aL z_eql ?_
    refine aL z_assign ?_
    refine awl_nil ?_
    refine hK5 _ _ ?_
    clear hK5
    refine aC (fun r2 c2 => ?_) (fun r2 c2 => ?_)
    · try simp at c2
      refine aw_region fun K8 hK8 => ?_
      refine aL z_move ?_
      refine aL z_move ?_
      refine aL z_move ?_
      refine aL (z_call0 (eC (eC .nil)) en_42 (con_ahead h h2)) ?_
      refine aL z_lss ?_
      refine aL z_assign ?_
      refine awl_nil (hK8 _ _ ?_)
      clear hK8 K8
      refine aw_ret ?_
      refine (hret _ _ _ _ _ rfl (.tmp rfl .nil) rfl ?_ .nil rfl).1
      (simp_all [missB, retD] <;> (try (rw [Bool.eq_iff_iff]; simp)))
    · try simp at c2
      refine aw_region fun K9 hK9 => ?_
      refine aL z_eql ?_
      refine aL z_assign ?_
      refine awl_nil (hK9 _ _ ?_)
      clear hK9 K9
      refine aC (fun r3 c3 => ?_) (fun r3 c3 => ?_)
      · try simp at c3
        refine aw_region fun K10 hK10 => ?_
        refine aL z_move ?_
        refine aL z_rem ?_
        refine aL z_neq ?_
        refine aL z_move ?_
        first
          | refine gL rfl rfl (ev_tmp rfl) (fun hg => z_move) ?_
          | refine hL rfl rfl (ev_tmp rfl) (fun hg => z_move) ?_
        first
          | refine gL rfl rfl (ev_tmp rfl) (fun hg => z_band) ?_
          | refine hL rfl rfl (ev_tmp rfl) (fun hg => z_band) ?_
        first
          | refine gL rfl rfl (ev_tmp rfl) (fun hg => z_neq) ?_
          | refine hL rfl rfl (ev_tmp rfl) (fun hg => z_neq) ?_
        first
          | refine gL rfl rfl (ev_tmp rfl) (fun hg => z_move) ?_
          | refine hL rfl rfl (ev_tmp rfl) (fun hg => z_move) ?_
        first
          | refine gL rfl rfl (ev_tmp rfl) (fun hg => z_move) ?_
          | refine hL rfl rfl (ev_tmp rfl) (fun hg => z_move) ?_
        first
          | refine gL rfl rfl (ev_tmp rfl) (fun hg => z_neq) ?_
          | refine hL rfl rfl (ev_tmp rfl) (fun hg => z_neq) ?_
        first
          | refine gL rfl rfl (ev_tmp rfl) (fun hg => z_and) ?_
          | refine hL rfl rfl (ev_tmp rfl) (fun hg => z_and) ?_
        refine aL z_or ?_
        refine aL z_assign ?_
        refine awl_nil (hK10 _ _ ?_)
        clear hK10 K10
        refine aw_ret ?_
        refine (hret _ _ _ _ _ rfl (.tmp rfl .nil) rfl ?_ .nil rfl).1
        (simp_all [missB, retD] <;> (try (rw [Bool.eq_iff_iff]; simp)))
      · try simp at c3
        refine aw_region fun K11 hK11 => ?_
        refine aL z_eql ?_
        refine aL z_assign ?_
        refine awl_nil (hK11 _ _ ?_)
        clear hK11 K11
        refine aC (fun r4 c4 => ?_) (fun r4 c4 => ?_)
        · try simp at c4
          refine aw_region fun K12 hK12 => ?_
          refine aL z_move ?_
          refine aL z_lss ?_
          refine aL z_assign ?_
          refine awl_nil (hK12 _ _ ?_)
          clear hK12 K12
          refine aw_ret ?_
          refine (hret _ _ _ _ _ rfl (.tmp rfl .nil) rfl ?_ .nil rfl).1
          (simp_all [missB, retD] <;> (try (rw [Bool.eq_iff_iff]; simp)))
        · try simp at c4
          refine aw_seq fun K13 hK13 => ?_
          refine aw_region fun K14 hK14 => ?_
          refine aL z_eql ?_
          refine aL z_assign ?_
          refine awl_nil (hK14 _ _ ?_)
          clear hK14 K14
          refine aC (fun r5 c5 => ?_) (fun r5 c5 => ?_)
          · try simp at c5
            refine aw_skip ?_
            refine hK13 _ _ ?_
            clear hK13
            refine aw_condT (ev_tmp rfl) r5 ?_
            refine aw_region fun K15 hK15 => ?_
            refine aL z_move ?_
            refine aL z_move ?_
            first
              | refine aL (z_indexAddrA 2 Try.underlying82 sz_3) ?_
              | refine aL (z_indexAddrA 3 Try.underlying82 sz_3) ?_
              | refine aL (z_indexAddrA 6 Try.underlying82 sz_3) ?_
              | refine aL (z_indexAddrA 8 Try.underlying82 sz_3) ?_
            first
              | refine aL (z_load sz_3) ?_
              | refine aL (z_loadRef sz_3) ?_
              | refine aL (z_loadV sz_3) ?_
            refine aL z_neq ?_
            refine aL z_assign ?_
            refine awl_nil (hK15 _ _ ?_)
            clear hK15 K15
            refine aw_ret ?_
            refine (hret _ _ _ _ _ rfl (.tmp rfl .nil) rfl ?_ .nil rfl).1
            (simp_all [missB, retD] <;> (try (rw [Bool.eq_iff_iff]; simp)))
          · try simp at c5
            refine aw_region fun K16 hK16 => ?_
            refine aL z_eql ?_
            refine aL z_assign ?_
            refine awl_nil (hK16 _ _ ?_)
            clear hK16 K16
            refine aC (fun r6 c6 => ?_) (fun r6 c6 => ?_)
            · try simp at c6
              refine aw_skip ?_
              refine hK13 _ _ ?_
              clear hK13
              refine aw_condT (ev_tmp rfl) r6 ?_
              refine aw_region fun K17 hK17 => ?_
              refine aL z_move ?_
              refine aL z_move ?_
              first
                | refine aL (z_indexAddrA 2 Try.underlying82 sz_3) ?_
                | refine aL (z_indexAddrA 3 Try.underlying82 sz_3) ?_
                | refine aL (z_indexAddrA 6 Try.underlying82 sz_3) ?_
                | refine aL (z_indexAddrA 8 Try.underlying82 sz_3) ?_
              first
                | refine aL (z_load sz_3) ?_
                | refine aL (z_loadRef sz_3) ?_
                | refine aL (z_loadV sz_3) ?_
              refine aL z_neq ?_
              refine aL z_assign ?_
              refine awl_nil (hK17 _ _ ?_)
              clear hK17 K17
              refine aw_ret ?_
              refine (hret _ _ _ _ _ rfl (.tmp rfl .nil) rfl ?_ .nil rfl).1
              (simp_all [missB, retD] <;> (try (rw [Bool.eq_iff_iff]; simp)))
            · try simp at c6
              refine aw_region fun K18 hK18 => ?_
              refine aL z_eql ?_
              refine aL z_assign ?_
              refine awl_nil (hK18 _ _ ?_)
              clear hK18 K18
              refine aC (fun r7 c7 => ?_) (fun r7 c7 => ?_)
              · try simp at c7
                refine aw_skip ?_
                refine hK13 _ _ ?_
                clear hK13
                refine aw_condT (ev_tmp rfl) r7 ?_
                refine aw_region fun K19 hK19 => ?_
                refine aL z_move ?_
                refine aL z_move ?_
                first
                  | refine aL (z_indexAddrA 2 Try.underlying82 sz_3) ?_
                  | refine aL (z_indexAddrA 3 Try.underlying82 sz_3) ?_
                  | refine aL (z_indexAddrA 6 Try.underlying82 sz_3) ?_
                  | refine aL (z_indexAddrA 8 Try.underlying82 sz_3) ?_
                first
                  | refine aL (z_load sz_3) ?_
                  | refine aL (z_loadRef sz_3) ?_
                  | refine aL (z_loadV sz_3) ?_
                refine aL z_neq ?_
                refine aL z_assign ?_
                refine awl_nil (hK19 _ _ ?_)
                clear hK19 K19
                refine aw_ret ?_
                refine (hret _ _ _ _ _ rfl (.tmp rfl .nil) rfl ?_ .nil rfl).1
                (simp_all [missB, retD] <;> (try (rw [Bool.eq_iff_iff]; simp)))
              · try simp at c7
                refine aw_region_last ?_
                refine aL z_eql ?_
                refine aL z_assign ?_
                refine awl_nil ?_
                refine hK13 _ _ ?_
                clear hK13
                refine aC (fun r8 c8 => ?_) (fun r8 c8 => ?_)
                · try simp at c8
                  refine aw_region fun K20 hK20 => ?_
                  refine aL z_move ?_
                  refine aL z_move ?_
                  first
                    | refine aL (z_indexAddrA 2 Try.underlying82 sz_3) ?_
                    | refine aL (z_indexAddrA 3 Try.underlying82 sz_3) ?_
                    | refine aL (z_indexAddrA 6 Try.underlying82 sz_3) ?_
                    | refine aL (z_indexAddrA 8 Try.underlying82 sz_3) ?_
                  first
                    | refine aL (z_load sz_3) ?_
                    | refine aL (z_loadRef sz_3) ?_
                    | refine aL (z_loadV sz_3) ?_
                  refine aL z_neq ?_
                  refine aL z_assign ?_
                  refine awl_nil (hK20 _ _ ?_)
                  clear hK20 K20
                  refine aw_ret ?_
                  refine (hret _ _ _ _ _ rfl (.tmp rfl .nil) rfl ?_ .nil rfl).1
                  (simp_all [missB, retD] <;> (try (rw [Bool.eq_iff_iff]; simp)))
                · try simp at c8
                  refine aw_skip ?_
                  refine hK3 _ _ ?_
                  clear hK3
                  refine aw_region fun K21 hK21 => ?_
                  refine aL z_assign ?_
                  refine awl_nil (hK21 _ _ ?_)
                  clear hK21 K21
                  refine aw_ret ?_
                  refine (hret _ _ _ _ _ rfl (.tmp rfl .nil) rfl ?_ .nil rfl).1
                  (simp_all [missB, retD] <;> (try (rw [Bool.eq_iff_iff]; simp)))
end Go.Proofs.Ytigodfnckjidoaa
