/- Layer 6: the document's at, has, sized. No condition. -/
import Derived.Test.YtigodfnckjidoaaFrX
namespace Go.Proofs.Ytigodfnckjidoaa
set_option linter.all false
open Go Go.RowKit
set_option maxRecDepth 10000
set_option maxHeartbeats 4000000
theorem con_rof {c : Int} : Con Try.prog 26 [.v (.int .i64 c)] [] 0 (.ret (.agg (Flt.whole c).cs)) [] := by
  refine con_of Try.func26 rfl (by show _ ≤ 5; simp) fun X Q hP hnt hnp hret hpan => ?_
  obtain ⟨P0, nt0, w0, K0, S0, np0, pin0, df0⟩ := X
  simp only at hP hnt hnp
  subst hP hnp
  obtain rfl : nt0 = 5 := hnt
  refine aw_region fun K1 hK1 => ?_
  refine aL (z_alloc 0 zc_37 zl_37) ?_
  refine awl_nil (hK1 _ _ ?_)
  clear hK1 K1
  refine aw_region fun K2 hK2 => ?_
  refine aL z_move ?_
  refine aL (z_build (pC (pC .nil)) pl_37 zc_37 zl_37) ?_
  refine aL (z_store sz_37) ?_
  refine awl_nil (hK2 _ _ ?_)
  clear hK2 K2
  refine aw_ret ?_
  refine (hret _ _ _ _ _ rfl (rCe sz_37 .nil) rfl ?_ .nil rfl).1
  first | rfl | (simp; done)
theorem takeV_le (l : List UInt8) (p size : Int) : 0 ≤ takeV l p size ∧ takeV l p size ≤ 4294967295 := by
  unfold takeV
  split
  · omega
  · rename_i h
    have := beN_small (l.drop p.toNat) size.toNat 4 (by omega)
    omega
theorem takeV_4 (l : List UInt8) (p : Nat) (h : p + 4 ≤ l.length) : takeV l p 4 = at4 l p := by
  unfold takeV at4; rw [if_neg (by omega)]; simp
theorem con_at {l : List UInt8} {p size : Int} (hp : p ≤ 9223372036854775807) : Con Try.prog 25 [.v (.sl (bs l)), .v (.int .i64 p), .v (.int .i64 size)] [] 0 (.ret (.v (.int .i64 (takeV l p size)))) [] := by
  have hb : 0 ≤ takeV l p size ∧ takeV l p size ≤ 4294967295 := takeV_le l p size
  refine con_of Try.func25 rfl (by show _ ≤ 18; simp) fun X Q hP hnt hnp hret hpan => ?_
  obtain ⟨P0, nt0, w0, K0, S0, np0, pin0, df0⟩ := X
  simp only at hP hnt hnp
  subst hP hnp
  obtain rfl : nt0 = 18 := hnt
  refine aw_region fun K1 hK1 => ?_
  refine aL z_assign ?_
  refine awl_nil (hK1 _ _ ?_)
  clear hK1 K1
  refine aw_region fun K2 hK2 => ?_
  refine aL z_move ?_
  refine aL z_move ?_
  refine aL z_move ?_
  refine aL (z_call0 (eC (eC (eC .nil))) en_34 (con_refTake hp)) ?_
  refine aL z_move ?_
  refine aL z_extract ?_
  refine aL z_extract ?_
  refine aL z_assign ?_
  refine aL z_assign ?_
  refine awl_nil (hK2 _ _ ?_)
  clear hK2 K2
  refine aw_region fun K3 hK3 => ?_
  refine aL z_move ?_
  refine aL (z_conv Try.underlying2 ⟨_, Try.underlying62⟩) ?_
  refine aL z_assign ?_
  refine awl_nil (hK3 _ _ ?_)
  clear hK3 K3
  refine aw_ret ?_
  refine (hret _ _ _ _ _ rfl (.tmp rfl .nil) rfl ?_ .nil rfl).1
  first | rfl | (simp; done)
theorem con_Has {f : Fr} {x : D} {k : Int} (hk : k = 8 ∨ k = 32 ∨ k = 1) (hf : 0 ≤ f.fl) (hf2 : f.fl ≤ 255) (hx : x.live (fun _ => false) = true) : Con Try.prog 33 [.agg (f.csX x), .v (.int .i64 k)] [] 0 (.ret (.v (.bool (bitB f.fl k)))) [] := by
  have hq : IntKind.i64.wrap (f.fl.tdiv k) = f.fl / k := by
    rw [Int.tdiv_eq_ediv_of_nonneg hf]
    rcases hk with rfl | rfl | rfl <;> exact i64_wrap (by omega) (by omega)
  have hr : (f.fl / k).tmod 2 = f.fl / k % 2 := Int.tmod_eq_emod_of_nonneg (by rcases hk with rfl | rfl | rfl <;> omega)
  refine con_of Try.func33 rfl (by show _ ≤ 11; simp) fun X Q hP hnt hnp hret hpan => ?_
  obtain ⟨P0, nt0, w0, K0, S0, np0, pin0, df0⟩ := X
  simp only at hP hnt hnp
  subst hP hnp
  obtain rfl : nt0 = 11 := hnt
  refine aw_region fun K1 hK1 => ?_
  refine aL (z_box 0) ?_
  refine aL z_assign ?_
  refine awl_nil (hK1 _ _ ?_)
  clear hK1 K1
  refine aw_region fun K2 hK2 => ?_
  first
    | refine aL (z_fieldAddr fo_40_1) ?_
    | refine aL (z_fieldRef fo_40_1) ?_
    | refine aL (z_fieldV fo_40_1) ?_
  first
    | refine aL (z_load sz_3) ?_
    | refine aL (z_loadRef sz_3) ?_
    | refine aL (z_loadV sz_3) ?_
  refine aL z_move ?_
  refine aL z_quo ?_
  refine aL z_rem ?_
  refine aL z_eql ?_
  refine aL z_assign ?_
  refine awl_nil (hK2 _ _ ?_)
  clear hK2 K2
  refine aw_ret ?_
  refine (hret _ _ _ _ _ rfl (.tmp rfl .nil) rfl ?_ .nil rfl).1
  (simp [retD, bitB]; rw [Bool.eq_iff_iff]; simp)
theorem con_sized {f : Fr} {x : V} {n : Int} (hf : 0 ≤ f.fl) (hf2 : f.fl ≤ 255) (hn : 0 ≤ n) : Con Try.prog 27 [.agg (f.csX (.v x)), .v (.int .i64 n)] [] 0 (.ret (.v (.bool (!missB f.ty f.fl n)))) [] := by
  have e6 : n.tmod 6 = n % 6 := Int.tmod_eq_emod_of_nonneg hn
  refine con_of Try.func27 rfl (by show _ ≤ 58; simp) fun X Q hP hnt hnp hret hpan => ?_
  obtain ⟨P0, nt0, w0, K0, S0, np0, pin0, df0⟩ := X
  simp only at hP hnt hnp
  subst hP hnp
  obtain rfl : nt0 = 58 := hnt
  refine aw_region fun K1 hK1 => ?_
  refine aL (z_box 0) ?_
  refine aL z_assign ?_
  refine awl_nil (hK1 _ _ ?_)
  clear hK1 K1
  refine aw_seq fun K2 hK2 => ?_
  refine aw_region fun K3 hK3 => ?_
  first
    | refine aL (z_fieldAddr fo_40_0) ?_
    | refine aL (z_fieldRef fo_40_0) ?_
    | refine aL (z_fieldV fo_40_0) ?_
  first
    | refine aL (z_load sz_3) ?_
    | refine aL (z_loadRef sz_3) ?_
    | refine aL (z_loadV sz_3) ?_
  refine awl_nil (hK3 _ _ ?_)
  clear hK3 K3
  refine aw_block ?_
  refine aw_seq fun K4 hK4 => ?_
  refine aw_region fun K5 hK5 => ?_
  refine aL z_eql ?_
  refine aL z_assign ?_
  refine awl_nil (hK5 _ _ ?_)
  clear hK5 K5
  refine aC (fun r1 c1 => ?_) (fun r1 c1 => ?_)
  · try simp at c1
    refine aw_skip ?_
    refine hK4 _ _ ?_
    clear hK4
    refine aw_condT (ev_tmp rfl) r1 ?_
    refine aw_region fun K6 hK6 => ?_
    refine aL z_assign ?_
    refine awl_nil (hK6 _ _ ?_)
    clear hK6 K6
    refine aw_seq fun K7 hK7 => ?_
    refine aw_region fun K8 hK8 => ?_
    first
      | refine aL (z_load sz_40) ?_
      | refine aL (z_loadRef sz_40) ?_
      | refine aL (z_loadV sz_40) ?_
    refine aL (z_call0 (eC (eC .nil)) en_33 (con_Has (f := f) (x := .v x) (by simp) hf hf2 rfl)) ?_
    refine awl_nil (hK8 _ _ ?_)
    clear hK8 K8
    refine aC (fun r2 c2 => ?_) (fun r2 c2 => ?_)
    · try simp at c2
      refine aw_region_last ?_
      refine aL z_move ?_
      refine aL z_add ?_
      refine aL z_assign ?_
      refine awl_nil ?_
      refine hK7 _ _ ?_
      clear hK7
      refine aw_seq fun K9 hK9 => ?_
      refine aw_region fun K10 hK10 => ?_
      first
        | refine aL (z_fieldAddr fo_40_0) ?_
        | refine aL (z_fieldRef fo_40_0) ?_
        | refine aL (z_fieldV fo_40_0) ?_
      first
        | refine aL (z_load sz_3) ?_
        | refine aL (z_loadRef sz_3) ?_
        | refine aL (z_loadV sz_3) ?_
      refine aL z_eql ?_
      refine aL z_move ?_
      first
        | refine gL rfl rfl (ev_tmp rfl) (fun hg => z_load sz_40) ?_
        | refine gL rfl rfl (ev_tmp rfl) (fun hg => z_loadRef sz_40) ?_
        | refine gL rfl rfl (ev_tmp rfl) (fun hg => z_loadV sz_40) ?_
        | refine hL rfl rfl (ev_tmp rfl) (fun hg => z_load sz_40) ?_
        | refine hL rfl rfl (ev_tmp rfl) (fun hg => z_loadRef sz_40) ?_
        | refine hL rfl rfl (ev_tmp rfl) (fun hg => z_loadV sz_40) ?_
      first
        | refine gL rfl rfl (ev_tmp rfl) (fun hg => z_call0 (eC (eC .nil)) en_33 (con_Has (f := f) (x := .v x) (by simp) hf hf2 rfl)) ?_
        | refine hL rfl rfl (ev_tmp rfl) (fun hg => z_call0 (eC (eC .nil)) en_33 (con_Has (f := f) (x := .v x) (by simp) hf hf2 rfl)) ?_
      refine aL z_and ?_
      refine awl_nil (hK10 _ _ ?_)
      clear hK10 K10
      refine aC (fun r3 c3 => ?_) (fun r3 c3 => ?_)
      · try simp at c3
        refine aw_region_last ?_
        refine aL z_move ?_
        refine aL z_add ?_
        refine aL z_assign ?_
        refine awl_nil ?_
        refine hK9 _ _ ?_
        clear hK9
        refine aw_region fun K11 hK11 => ?_
        refine aL z_move ?_
        refine aL z_move ?_
        refine aL z_geq ?_
        refine aL z_assign ?_
        refine awl_nil (hK11 _ _ ?_)
        clear hK11 K11
        refine aw_ret ?_
        refine (hret _ _ _ _ _ rfl (.tmp rfl .nil) rfl ?_ .nil rfl).1
        (simp_all [missB, aheadM, retD] <;> (try (rw [Bool.eq_iff_iff]; simp [or_comm])))
      · try simp at c3
        refine aw_skip ?_
        refine hK9 _ _ ?_
        clear hK9
        refine aw_region fun K12 hK12 => ?_
        refine aL z_move ?_
        refine aL z_move ?_
        refine aL z_geq ?_
        refine aL z_assign ?_
        refine awl_nil (hK12 _ _ ?_)
        clear hK12 K12
        refine aw_ret ?_
        refine (hret _ _ _ _ _ rfl (.tmp rfl .nil) rfl ?_ .nil rfl).1
        (simp_all [missB, aheadM, retD] <;> (try (rw [Bool.eq_iff_iff]; simp [or_comm])))
    · try simp at c2
      refine aw_skip ?_
      refine hK7 _ _ ?_
      clear hK7
      refine aw_seq fun K13 hK13 => ?_
      refine aw_region fun K14 hK14 => ?_
      first
        | refine aL (z_fieldAddr fo_40_0) ?_
        | refine aL (z_fieldRef fo_40_0) ?_
        | refine aL (z_fieldV fo_40_0) ?_
      first
        | refine aL (z_load sz_3) ?_
        | refine aL (z_loadRef sz_3) ?_
        | refine aL (z_loadV sz_3) ?_
      refine aL z_eql ?_
      refine aL z_move ?_
      first
        | refine gL rfl rfl (ev_tmp rfl) (fun hg => z_load sz_40) ?_
        | refine gL rfl rfl (ev_tmp rfl) (fun hg => z_loadRef sz_40) ?_
        | refine gL rfl rfl (ev_tmp rfl) (fun hg => z_loadV sz_40) ?_
        | refine hL rfl rfl (ev_tmp rfl) (fun hg => z_load sz_40) ?_
        | refine hL rfl rfl (ev_tmp rfl) (fun hg => z_loadRef sz_40) ?_
        | refine hL rfl rfl (ev_tmp rfl) (fun hg => z_loadV sz_40) ?_
      first
        | refine gL rfl rfl (ev_tmp rfl) (fun hg => z_call0 (eC (eC .nil)) en_33 (con_Has (f := f) (x := .v x) (by simp) hf hf2 rfl)) ?_
        | refine hL rfl rfl (ev_tmp rfl) (fun hg => z_call0 (eC (eC .nil)) en_33 (con_Has (f := f) (x := .v x) (by simp) hf hf2 rfl)) ?_
      refine aL z_and ?_
      refine awl_nil (hK14 _ _ ?_)
      clear hK14 K14
      refine aC (fun r4 c4 => ?_) (fun r4 c4 => ?_)
      · try simp at c4
        refine aw_region_last ?_
        refine aL z_move ?_
        refine aL z_add ?_
        refine aL z_assign ?_
        refine awl_nil ?_
        refine hK13 _ _ ?_
        clear hK13
        refine aw_region fun K15 hK15 => ?_
        refine aL z_move ?_
        refine aL z_move ?_
        refine aL z_geq ?_
        refine aL z_assign ?_
        refine awl_nil (hK15 _ _ ?_)
        clear hK15 K15
        refine aw_ret ?_
        refine (hret _ _ _ _ _ rfl (.tmp rfl .nil) rfl ?_ .nil rfl).1
        (simp_all [missB, aheadM, retD] <;> (try (rw [Bool.eq_iff_iff]; simp [or_comm])))
      · try simp at c4
        refine aw_skip ?_
        refine hK13 _ _ ?_
        clear hK13
        refine aw_region fun K16 hK16 => ?_
        refine aL z_move ?_
        refine aL z_move ?_
        refine aL z_geq ?_
        refine aL z_assign ?_
        refine awl_nil (hK16 _ _ ?_)
        clear hK16 K16
        refine aw_ret ?_
        refine (hret _ _ _ _ _ rfl (.tmp rfl .nil) rfl ?_ .nil rfl).1
        (simp_all [missB, aheadM, retD] <;> (try (rw [Bool.eq_iff_iff]; simp [or_comm])))
  · try simp at c1
    refine aw_region_last ?_
    refine aL z_eql ?_
    refine aL z_assign ?_
    refine awl_nil ?_
    refine hK4 _ _ ?_
    clear hK4
    refine aC (fun r5 c5 => ?_) (fun r5 c5 => ?_)
    · try simp at c5
      refine aw_region fun K17 hK17 => ?_
      refine aL z_assign ?_
      refine awl_nil (hK17 _ _ ?_)
      clear hK17 K17
      refine aw_seq fun K18 hK18 => ?_
      refine aw_region fun K19 hK19 => ?_
      first
        | refine aL (z_load sz_40) ?_
        | refine aL (z_loadRef sz_40) ?_
        | refine aL (z_loadV sz_40) ?_
      refine aL (z_call0 (eC (eC .nil)) en_33 (con_Has (f := f) (x := .v x) (by simp) hf hf2 rfl)) ?_
      refine awl_nil (hK19 _ _ ?_)
      clear hK19 K19
      refine aC (fun r6 c6 => ?_) (fun r6 c6 => ?_)
      · try simp at c6
        refine aw_region_last ?_
        refine aL z_move ?_
        refine aL z_add ?_
        refine aL z_assign ?_
        refine awl_nil ?_
        refine hK18 _ _ ?_
        clear hK18
        refine aw_seq fun K20 hK20 => ?_
        refine aw_region fun K21 hK21 => ?_
        first
          | refine aL (z_fieldAddr fo_40_0) ?_
          | refine aL (z_fieldRef fo_40_0) ?_
          | refine aL (z_fieldV fo_40_0) ?_
        first
          | refine aL (z_load sz_3) ?_
          | refine aL (z_loadRef sz_3) ?_
          | refine aL (z_loadV sz_3) ?_
        refine aL z_eql ?_
        refine aL z_move ?_
        first
          | refine gL rfl rfl (ev_tmp rfl) (fun hg => z_load sz_40) ?_
          | refine gL rfl rfl (ev_tmp rfl) (fun hg => z_loadRef sz_40) ?_
          | refine gL rfl rfl (ev_tmp rfl) (fun hg => z_loadV sz_40) ?_
          | refine hL rfl rfl (ev_tmp rfl) (fun hg => z_load sz_40) ?_
          | refine hL rfl rfl (ev_tmp rfl) (fun hg => z_loadRef sz_40) ?_
          | refine hL rfl rfl (ev_tmp rfl) (fun hg => z_loadV sz_40) ?_
        first
          | refine gL rfl rfl (ev_tmp rfl) (fun hg => z_call0 (eC (eC .nil)) en_33 (con_Has (f := f) (x := .v x) (by simp) hf hf2 rfl)) ?_
          | refine hL rfl rfl (ev_tmp rfl) (fun hg => z_call0 (eC (eC .nil)) en_33 (con_Has (f := f) (x := .v x) (by simp) hf hf2 rfl)) ?_
        refine aL z_and ?_
        refine awl_nil (hK21 _ _ ?_)
        clear hK21 K21
        refine aC (fun r7 c7 => ?_) (fun r7 c7 => ?_)
        · try simp at c7
          refine aw_region_last ?_
          refine aL z_move ?_
          refine aL z_add ?_
          refine aL z_assign ?_
          refine awl_nil ?_
          refine hK20 _ _ ?_
          clear hK20
          refine aw_region fun K22 hK22 => ?_
          refine aL z_move ?_
          refine aL z_move ?_
          refine aL z_geq ?_
          refine aL z_assign ?_
          refine awl_nil (hK22 _ _ ?_)
          clear hK22 K22
          refine aw_ret ?_
          refine (hret _ _ _ _ _ rfl (.tmp rfl .nil) rfl ?_ .nil rfl).1
          (simp_all [missB, aheadM, retD] <;> (try (rw [Bool.eq_iff_iff]; simp [or_comm])))
        · try simp at c7
          refine aw_skip ?_
          refine hK20 _ _ ?_
          clear hK20
          refine aw_region fun K23 hK23 => ?_
          refine aL z_move ?_
          refine aL z_move ?_
          refine aL z_geq ?_
          refine aL z_assign ?_
          refine awl_nil (hK23 _ _ ?_)
          clear hK23 K23
          refine aw_ret ?_
          refine (hret _ _ _ _ _ rfl (.tmp rfl .nil) rfl ?_ .nil rfl).1
          (simp_all [missB, aheadM, retD] <;> (try (rw [Bool.eq_iff_iff]; simp [or_comm])))
      · try simp at c6
        refine aw_skip ?_
        refine hK18 _ _ ?_
        clear hK18
        refine aw_seq fun K24 hK24 => ?_
        refine aw_region fun K25 hK25 => ?_
        first
          | refine aL (z_fieldAddr fo_40_0) ?_
          | refine aL (z_fieldRef fo_40_0) ?_
          | refine aL (z_fieldV fo_40_0) ?_
        first
          | refine aL (z_load sz_3) ?_
          | refine aL (z_loadRef sz_3) ?_
          | refine aL (z_loadV sz_3) ?_
        refine aL z_eql ?_
        refine aL z_move ?_
        first
          | refine gL rfl rfl (ev_tmp rfl) (fun hg => z_load sz_40) ?_
          | refine gL rfl rfl (ev_tmp rfl) (fun hg => z_loadRef sz_40) ?_
          | refine gL rfl rfl (ev_tmp rfl) (fun hg => z_loadV sz_40) ?_
          | refine hL rfl rfl (ev_tmp rfl) (fun hg => z_load sz_40) ?_
          | refine hL rfl rfl (ev_tmp rfl) (fun hg => z_loadRef sz_40) ?_
          | refine hL rfl rfl (ev_tmp rfl) (fun hg => z_loadV sz_40) ?_
        first
          | refine gL rfl rfl (ev_tmp rfl) (fun hg => z_call0 (eC (eC .nil)) en_33 (con_Has (f := f) (x := .v x) (by simp) hf hf2 rfl)) ?_
          | refine hL rfl rfl (ev_tmp rfl) (fun hg => z_call0 (eC (eC .nil)) en_33 (con_Has (f := f) (x := .v x) (by simp) hf hf2 rfl)) ?_
        refine aL z_and ?_
        refine awl_nil (hK25 _ _ ?_)
        clear hK25 K25
        refine aC (fun r8 c8 => ?_) (fun r8 c8 => ?_)
        · try simp at c8
          refine aw_region_last ?_
          refine aL z_move ?_
          refine aL z_add ?_
          refine aL z_assign ?_
          refine awl_nil ?_
          refine hK24 _ _ ?_
          clear hK24
          refine aw_region fun K26 hK26 => ?_
          refine aL z_move ?_
          refine aL z_move ?_
          refine aL z_geq ?_
          refine aL z_assign ?_
          refine awl_nil (hK26 _ _ ?_)
          clear hK26 K26
          refine aw_ret ?_
          refine (hret _ _ _ _ _ rfl (.tmp rfl .nil) rfl ?_ .nil rfl).1
          (simp_all [missB, aheadM, retD] <;> (try (rw [Bool.eq_iff_iff]; simp [or_comm])))
        · try simp at c8
          refine aw_skip ?_
          refine hK24 _ _ ?_
          clear hK24
          refine aw_region fun K27 hK27 => ?_
          refine aL z_move ?_
          refine aL z_move ?_
          refine aL z_geq ?_
          refine aL z_assign ?_
          refine awl_nil (hK27 _ _ ?_)
          clear hK27 K27
          refine aw_ret ?_
          refine (hret _ _ _ _ _ rfl (.tmp rfl .nil) rfl ?_ .nil rfl).1
          (simp_all [missB, aheadM, retD] <;> (try (rw [Bool.eq_iff_iff]; simp [or_comm])))
    · try simp at c5
      refine aw_region fun K28 hK28 => ?_
      refine aL z_eql ?_
      refine aL z_assign ?_
      refine awl_nil (hK28 _ _ ?_)
      clear hK28 K28
      refine aC (fun r9 c9 => ?_) (fun r9 c9 => ?_)
      · try simp at c9
        refine aw_region fun K29 hK29 => ?_
        refine aL z_move ?_
        refine aL z_eql ?_
        refine aL z_assign ?_
        refine awl_nil (hK29 _ _ ?_)
        clear hK29 K29
        refine aw_ret ?_
        refine (hret _ _ _ _ _ rfl (.tmp rfl .nil) rfl ?_ .nil rfl).1
        (simp_all [missB, aheadM, retD] <;> (try (rw [Bool.eq_iff_iff]; simp [or_comm])))
      · try simp at c9
        refine aw_seq fun K30 hK30 => ?_
        refine aw_region fun K31 hK31 => ?_
        refine aL z_eql ?_
        refine aL z_assign ?_
        refine awl_nil (hK31 _ _ ?_)
        clear hK31 K31
        refine aC (fun r10 c10 => ?_) (fun r10 c10 => ?_)
        · try simp at c10
          refine aw_skip ?_
          refine hK30 _ _ ?_
          clear hK30
          refine aw_condT (ev_tmp rfl) r10 ?_
          refine aw_region fun K32 hK32 => ?_
          refine aL z_move ?_
          refine aL z_eql ?_
          refine aL z_assign ?_
          refine awl_nil (hK32 _ _ ?_)
          clear hK32 K32
          refine aw_ret ?_
          refine (hret _ _ _ _ _ rfl (.tmp rfl .nil) rfl ?_ .nil rfl).1
          (simp_all [missB, aheadM, retD] <;> (try (rw [Bool.eq_iff_iff]; simp [or_comm])))
        · try simp at c10
          refine aw_region_last ?_
          refine aL z_eql ?_
          refine aL z_assign ?_
          refine awl_nil ?_
          refine hK30 _ _ ?_
          clear hK30
          refine aC (fun r11 c11 => ?_) (fun r11 c11 => ?_)
          · try simp at c11
            refine aw_region fun K33 hK33 => ?_
            refine aL z_move ?_
            refine aL z_eql ?_
            refine aL z_assign ?_
            refine awl_nil (hK33 _ _ ?_)
            clear hK33 K33
            refine aw_ret ?_
            refine (hret _ _ _ _ _ rfl (.tmp rfl .nil) rfl ?_ .nil rfl).1
            (simp_all [missB, aheadM, retD] <;> (try (rw [Bool.eq_iff_iff]; simp [or_comm])))
          · try simp at c11
            refine aw_region fun K34 hK34 => ?_
            refine aL z_eql ?_
            refine aL z_assign ?_
            refine awl_nil (hK34 _ _ ?_)
            clear hK34 K34
            refine aC (fun r12 c12 => ?_) (fun r12 c12 => ?_)
            · try simp at c12
              refine aw_region fun K35 hK35 => ?_
              refine aL z_move ?_
              refine aL z_rem ?_
              refine aL z_eql ?_
              refine aL z_move ?_
              first
                | refine gL rfl rfl (ev_tmp rfl) (fun hg => z_move) ?_
                | refine hL rfl rfl (ev_tmp rfl) (fun hg => z_move) ?_
              first
                | refine gL rfl rfl (ev_tmp rfl) (fun hg => z_eql) ?_
                | refine hL rfl rfl (ev_tmp rfl) (fun hg => z_eql) ?_
              first
                | refine gL rfl rfl (ev_tmp rfl) (fun hg => z_move) ?_
                | refine hL rfl rfl (ev_tmp rfl) (fun hg => z_move) ?_
              first
                | refine gL rfl rfl (ev_tmp rfl) (fun hg => z_load sz_40) ?_
                | refine gL rfl rfl (ev_tmp rfl) (fun hg => z_loadRef sz_40) ?_
                | refine gL rfl rfl (ev_tmp rfl) (fun hg => z_loadV sz_40) ?_
                | refine hL rfl rfl (ev_tmp rfl) (fun hg => z_load sz_40) ?_
                | refine hL rfl rfl (ev_tmp rfl) (fun hg => z_loadRef sz_40) ?_
                | refine hL rfl rfl (ev_tmp rfl) (fun hg => z_loadV sz_40) ?_
              first
                | refine gL rfl rfl (ev_tmp rfl) (fun hg => z_call0 (eC (eC .nil)) en_33 (con_Has (f := f) (x := .v x) (by simp) hf hf2 rfl)) ?_
                | refine hL rfl rfl (ev_tmp rfl) (fun hg => z_call0 (eC (eC .nil)) en_33 (con_Has (f := f) (x := .v x) (by simp) hf hf2 rfl)) ?_
              first
                | refine gL rfl rfl (ev_tmp rfl) (fun hg => z_not) ?_
                | refine hL rfl rfl (ev_tmp rfl) (fun hg => z_not) ?_
              first
                | refine gL rfl rfl (ev_tmp rfl) (fun hg => z_or) ?_
                | refine hL rfl rfl (ev_tmp rfl) (fun hg => z_or) ?_
              refine aL z_and ?_
              refine aL z_assign ?_
              refine awl_nil (hK35 _ _ ?_)
              clear hK35 K35
              refine aw_ret ?_
              refine (hret _ _ _ _ _ rfl (.tmp rfl .nil) rfl ?_ .nil rfl).1
              (simp_all [missB, aheadM, retD] <;> (try (rw [Bool.eq_iff_iff]; simp [or_comm])))
            · try simp at c12
              refine aw_region fun K36 hK36 => ?_
              refine aL z_eql ?_
              refine aL z_assign ?_
              refine awl_nil (hK36 _ _ ?_)
              clear hK36 K36
              refine aC (fun r13 c13 => ?_) (fun r13 c13 => ?_)
              · try simp at c13
                refine aw_region fun K37 hK37 => ?_
                refine aL z_move ?_
                refine aL z_eql ?_
                refine aL z_assign ?_
                refine awl_nil (hK37 _ _ ?_)
                clear hK37 K37
                refine aw_ret ?_
                refine (hret _ _ _ _ _ rfl (.tmp rfl .nil) rfl ?_ .nil rfl).1
                (simp_all [missB, aheadM, retD] <;> (try (rw [Bool.eq_iff_iff]; simp [or_comm])))
              · try simp at c13
                refine aw_region fun K38 hK38 => ?_
                refine aL z_eql ?_
                refine aL z_assign ?_
                refine awl_nil (hK38 _ _ ?_)
                clear hK38 K38
                refine aC (fun r14 c14 => ?_) (fun r14 c14 => ?_)
                · try simp at c14
                  refine aw_region fun K39 hK39 => ?_
                  refine aL z_move ?_
                  refine aL z_geq ?_
                  refine aL z_assign ?_
                  refine awl_nil (hK39 _ _ ?_)
                  clear hK39 K39
                  refine aw_ret ?_
                  refine (hret _ _ _ _ _ rfl (.tmp rfl .nil) rfl ?_ .nil rfl).1
                  (simp_all [missB, aheadM, retD] <;> (try (rw [Bool.eq_iff_iff]; simp [or_comm])))
                · try simp at c14
                  refine aw_skip ?_
                  refine hK2 _ _ ?_
                  clear hK2
                  refine aw_region fun K40 hK40 => ?_
                  refine aL z_assign ?_
                  refine awl_nil (hK40 _ _ ?_)
                  clear hK40 K40
                  refine aw_ret ?_
                  refine (hret _ _ _ _ _ rfl (.tmp rfl .nil) rfl ?_ .nil rfl).1
                  (simp_all [missB, aheadM, retD] <;> (try (rw [Bool.eq_iff_iff]; simp [or_comm])))
end Go.Proofs.Ytigodfnckjidoaa
