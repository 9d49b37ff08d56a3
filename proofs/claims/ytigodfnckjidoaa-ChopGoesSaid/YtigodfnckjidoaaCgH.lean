/- Layer 7: ChopGoes, walked. No condition. -/
import Derived.Test.YtigodfnckjidoaaChSToCgG
import Derived.Test.YtigodfnckjidoaaCgWToChT
namespace Go.Proofs.Ytigodfnckjidoaa
set_option linter.all false
open Go Go.RowKit
set_option maxRecDepth 10000
set_option maxHeartbeats 4000000
abbrev Fr.vs (f : Fr) : List V := [.int .i64 f.ty, .int .i64 f.fl, .int .i64 f.st, .str f.data, .int .i64 f.pad, .sl (setV f.sets), .int .i64 f.code, .int .i64 f.last, .int .i64 f.inc, .int .i64 f.dep, .int .i64 f.wt, .bool f.sole]
def fsV (l : List Fr) : List (List V) := l.map Fr.vs
@[simp] theorem fsV_len (l : List Fr) : (fsV l).length = l.length := by simp [fsV]
theorem fsV_get {l : List Fr} {i : Nat} (h : i < l.length) : (fsV l)[i]? = some (l[i]).vs := by simp [fsV, h]
theorem con_refPutN {f : Fr} (hs : f.sets = []) (hd : f.data.length ≤ 1000000) : Con Try.prog 16 [.agg (f.csX NIL)] [] 0 (.ret (.tup [.v (.sl (bs (putF f))), .v (.int .i64 (putE f))])) [] :=
  con_args (con_refPutF hd (by simp [hs])) fun G w us h => by
    obtain ⟨u, rfl, h1⟩ := ds1 h
    exact .cons (csX_nil hs h1) .nil
theorem putF_max (f : Fr) : (putF f).length ≤ 16777224 := by
  by_cases h : putE f = 0
  · rw [put_len h]; have := (put_ok h).2.1; omega
  · rw [putF_bad h]; simp
theorem con_ChopGoes {l : List Fr} {s : Nat} (hs : s ≤ 65535) (hl0 : l.length ≤ maxLen) : Con Try.prog 7 [.v (.sl (fsV l)), .v (.int .u16 (s : Int))] [] 0 (.ret (.v (.bool true))) [] := by
  unfold maxLen at hl0
  have hfl : (fsV l).length = l.length := fsV_len l
  have hw : IntKind.i64.wrap (s : Int) = (s : Int) := i64_wrap (by omega) (by omega)
  have hbl : (putF (badF (s + 1))).length = 13 := by rw [put_len (bad_E (n := s + 1) (by omega)), bad_pay]; rfl
  have hgt : ∀ f : Fr, putE f = 0 → (takeF (putF f) 16777215).x.is = false → Fd7.take ⟨16777215, 24, [], false⟩ (putF (badF (s + 1)) ++ putF f) = ([badI7 (s + 1), ⟨f, Flt.no⟩], ⟨16777215, 24, [], false⟩) := fun f h1 h2 => goes_take (by omega) (by omega) h1 h2
  have hcb : Con Try.prog 16 [.agg (Fr.csX ⟨8, 0, 1 + (s : Int), [], 0, [], 0, 0, 0, 0, 0, false⟩ NIL)] [] 0 (.ret (.tup [.v (.sl (bs (putF (badF (s + 1))))), .v (.int .i64 0)])) [] := by
    have h := con_refPutN (f := badF (s + 1)) rfl (by show 0 ≤ 1000000; omega)
    rw [bad_E (n := s + 1) (by omega)] at h
    rw [show 1 + (s : Int) = ((s + 1 : Nat) : Int) by omega]
    exact h
  obtain ⟨bad, hbad⟩ : ∃ b, putF (badF (s + 1)) = b := ⟨_, rfl⟩
  rw [hbad] at hbl hcb hgt
  obtain ⟨q7, hq7⟩ : ∃ b, badI7 (s + 1) = b := ⟨_, rfl⟩
  have hqv : q7.vs = (badI7 (s + 1)).vs := by rw [hq7]
  rw [hq7] at hgt
  clear hbad hq7
  obtain ⟨f0, hf0⟩ : ∃ f : Fd7, (⟨16777215, 24, [], false⟩ : Fd7) = f := ⟨_, rfl⟩
  have hn0 : Fd7.new 16777215 false = f0 := by rw [← hf0]; rfl
  refine con_of Try.func7 rfl (by show _ ≤ 121; simp) fun X Q hP hnt hnp hret hpan => ?_
  obtain ⟨P0, nt0, w0, K0, S0, np0, pin0, df0⟩ := X
  simp only at hP hnt hnp
  subst hP hnp
  obtain rfl : nt0 = 121 := hnt
  refine aw_region fun K1 hK1 => ?_
  refine aL z_assign ?_
  refine awl_nil (hK1 _ _ ?_)
  clear hK1 K1
  refine aw_seq fun K2 hK2 => ?_
  refine aw_region fun K3 hK3 => ?_
  refine aL (z_call0 .nil en_8 (con_awake)) ?_
  refine aL z_not ?_
  refine awl_nil (hK3 _ _ ?_)
  clear hK3 K3
  refine aC (fun r1 c1 => ?_) (fun r1 c1 => ?_)
  · exact absurd c1 (by decide)
  · refine aw_skip ?_
    refine hK2 _ _ ?_
    clear hK2
    refine aw_region fun K4 hK4 => ?_
    refine aL z_move ?_
    refine aL (z_conv Try.underlying3 ⟨_, Try.underlying45⟩ (hr := hw)) ?_
    refine aL (z_add (hr := i64_wrap (by omega) (by omega))) ?_
    refine aL z_assign ?_
    refine awl_nil (hK4 _ _ ?_)
    clear hK4 K4
    refine aw_region fun K5 hK5 => ?_
    refine aL z_move ?_
    refine aL (z_build (pC (pC .nil)) pl_40 zc_40 zl_40) ?_
    refine aL (z_call0 (eC .nil) en_16 hcb) ?_
    refine aL z_move ?_
    refine aL z_extract ?_
    refine aL z_extract ?_
    refine aL z_assign ?_
    refine aL z_assign ?_
    refine awl_nil (hK5 _ _ ?_)
    clear hK5 K5
    refine aw_region fun K6 hK6 => ?_
    refine aL (z_callG [0, 1] (eC (eC .nil)) en_10 (con_NewF hn0) .nil) ?_
    refine aL z_assign ?_
    refine awl_nil (hK6 _ _ ?_)
    clear hK6 K6
    refine aw_seq fun K7 hK7 => ?_
    refine aw_region fun K8 hK8 => ?_
    refine aL z_assign ?_
    refine awl_nil (hK8 _ _ ?_)
    clear hK8 K8
    refine aw_block ?_
    refine aw_loop (α := {k : Nat // k ≤ l.length}) (fun x => ([(0, .v (.sl (fsV l))), (5, .v (.int .i64 (1 + (s : Int)))), (6, .v (.sl (bs (bad)))), (8, .ptr 0 0), (9, .v (.int .i64 (x.1 : Int)))], [(0, .box (fdI 1 f0 0)), (1, rw1 0 f0.left)])) (fun x => l.length - x.1) ⟨0, by omega⟩ ?_ ?_
    · dsimp only
      exact wK
    · rintro ⟨i, hi0⟩ K9 hK9
      dsimp only
      refine aw_seq fun K10 hK10 => ?_
      refine aw_region fun K11 hK11 => ?_
      refine aL z_move ?_
      refine aL z_move ?_
      first
        | refine aL (z_lenB Try.underlying44) ?_
        | refine aL (z_len Try.underlying44) ?_
        | refine aL (z_lenV Try.underlying44) ?_
      refine aL z_lss ?_
      refine aL z_move ?_
      first
        | refine gL rfl rfl (ev_tmp rfl) (fun hg => z_move) ?_
        | refine hL rfl rfl (ev_tmp rfl) (fun hg => z_move) ?_
      first
        | refine gL rfl rfl (ev_tmp rfl) (fun hg => z_lss) ?_
        | refine hL rfl rfl (ev_tmp rfl) (fun hg => z_lss) ?_
      refine aL z_and ?_
      refine awl_nil (hK11 _ _ ?_)
      clear hK11 K11
      refine aC (fun r2 c2 => ?_) (fun r2 c2 => ?_)
      · refine aw_skip ?_
        refine hK10 _ _ ?_
        clear hK10
        refine aw_seq fun K12 hK12 => ?_
        refine aw_block ?_
        refine aw_seq fun K13 hK13 => ?_
        refine aw_region fun K14 hK14 => ?_
        have hlt : i < l.length := by omega
        have hi := fsV_get hlt
        have hpm := putF_max l[i]
        have hsl : (setV l[i].sets).length = l[i].sets.length := by simp
        have hqq : eqXs [V.bool true, V.int .i64 1, V.int .i64 (1 + (s : Int))] [V.bool true, V.int .i64 1, V.int .i64 (1 + (s : Int))] = true := by simp [eqXs, eqX]
        have hss := (sameB_iff l[i] l[i]).2 rfl
        refine aL z_move ?_
        refine aL z_move ?_
        first
          | refine aL (z_indexAddr Try.underlying44 sz_40) ?_
          | refine aL (z_indexAddrV Try.underlying44 sz_40) ?_
        first
          | refine aL (z_fieldAddr fo_40_3) ?_
          | refine aL (z_fieldRef fo_40_3) ?_
          | refine aL (z_fieldV fo_40_3) ?_
        first
          | refine aL (z_load sz_9) ?_
          | refine aL (z_loadRef sz_9) ?_
          | refine aL (z_loadV sz_9) ?_
        refine aL (z_lenS Try.underlying9) ?_
        refine aL z_gtr ?_
        refine aL z_move ?_
        first
          | refine gL rfl rfl (ev_tmp rfl) (fun hg => z_move) ?_
          | refine hL rfl rfl (ev_tmp rfl) (fun hg => z_move) ?_
        first
          | refine gL rfl rfl (ev_tmp rfl) (fun hg => z_move) ?_
          | refine hL rfl rfl (ev_tmp rfl) (fun hg => z_move) ?_
        first
          | refine gL rfl rfl (ev_tmp rfl) (fun hg => z_indexAddr Try.underlying44 sz_40) ?_
          | refine gL rfl rfl (ev_tmp rfl) (fun hg => z_indexAddrV Try.underlying44 sz_40) ?_
          | refine hL rfl rfl (ev_tmp rfl) (fun hg => z_indexAddr Try.underlying44 sz_40) ?_
          | refine hL rfl rfl (ev_tmp rfl) (fun hg => z_indexAddrV Try.underlying44 sz_40) ?_
        first
          | refine gL rfl rfl (ev_tmp rfl) (fun hg => z_fieldAddr fo_40_5) ?_
          | refine gL rfl rfl (ev_tmp rfl) (fun hg => z_fieldRef fo_40_5) ?_
          | refine gL rfl rfl (ev_tmp rfl) (fun hg => z_fieldV fo_40_5) ?_
          | refine hL rfl rfl (ev_tmp rfl) (fun hg => z_fieldAddr fo_40_5) ?_
          | refine hL rfl rfl (ev_tmp rfl) (fun hg => z_fieldRef fo_40_5) ?_
          | refine hL rfl rfl (ev_tmp rfl) (fun hg => z_fieldV fo_40_5) ?_
        first
          | refine gL rfl rfl (ev_tmp rfl) (fun hg => z_load sz_38) ?_
          | refine gL rfl rfl (ev_tmp rfl) (fun hg => z_loadRef sz_38) ?_
          | refine gL rfl rfl (ev_tmp rfl) (fun hg => z_loadV sz_38) ?_
          | refine hL rfl rfl (ev_tmp rfl) (fun hg => z_load sz_38) ?_
          | refine hL rfl rfl (ev_tmp rfl) (fun hg => z_loadRef sz_38) ?_
          | refine hL rfl rfl (ev_tmp rfl) (fun hg => z_loadV sz_38) ?_
        first
          | refine gL rfl rfl (ev_tmp rfl) (fun hg => z_lenB Try.underlying38) ?_
          | refine gL rfl rfl (ev_tmp rfl) (fun hg => z_len Try.underlying38) ?_
          | refine gL rfl rfl (ev_tmp rfl) (fun hg => z_lenV Try.underlying38) ?_
          | refine hL rfl rfl (ev_tmp rfl) (fun hg => z_lenB Try.underlying38) ?_
          | refine hL rfl rfl (ev_tmp rfl) (fun hg => z_len Try.underlying38) ?_
          | refine hL rfl rfl (ev_tmp rfl) (fun hg => z_lenV Try.underlying38) ?_
        first
          | refine gL rfl rfl (ev_tmp rfl) (fun hg => z_gtr) ?_
          | refine hL rfl rfl (ev_tmp rfl) (fun hg => z_gtr) ?_
        refine aL z_or ?_
        refine awl_nil (hK14 _ _ ?_)
        clear hK14 K14
        refine aC (fun r3 c3 => ?_) (fun r3 c3 => ?_)
        · refine aw_region fun K15 hK15 => ?_
          refine aL z_assign ?_
          refine awl_nil (hK15 _ _ ?_)
          clear hK15 K15
          refine aw_ret ?_
          refine (hret _ _ _ _ _ rfl (.tmp rfl .nil) rfl ?_ .nil rfl).1
          rfl
        · refine aw_skip ?_
          refine hK13 _ _ ?_
          clear hK13
          refine aw_region fun K16 hK16 => ?_
          refine aL z_move ?_
          refine aL z_move ?_
          first
            | refine aL (z_indexAddr Try.underlying44 sz_40) ?_
            | refine aL (z_indexAddrV Try.underlying44 sz_40) ?_
          first
            | refine aL (z_load sz_40) ?_
            | refine aL (z_loadRef sz_40) ?_
            | refine aL (z_loadV sz_40) ?_
          refine aL (z_call0 (eC .nil) en_16 (con_refPutF (f := l[i]) (by omega) (by omega))) ?_
          refine aL z_move ?_
          refine aL z_extract ?_
          refine aL z_extract ?_
          refine aL z_assign ?_
          refine aL z_assign ?_
          refine awl_nil (hK16 _ _ ?_)
          clear hK16 K16
          refine aw_region fun K17 hK17 => ?_
          refine aL z_move ?_
          refine aL (z_call0 (eC (eC .nil)) en_17 (con_refTakeF (b := putF l[i]) (by have := putF_max l[i]; omega))) ?_
          refine aL z_move ?_
          refine aL z_extract ?_
          refine aL z_extract ?_
          refine aL z_extract ?_
          refine aL (z_alloc 10 zc_40 zl_40) ?_
          refine aL (z_alloc 11 zc_37 zl_37) ?_
          refine aL (z_store sz_40) ?_
          refine aL z_assign ?_
          refine aL (z_store sz_37) ?_
          refine awl_nil (hK17 _ _ ?_)
          clear hK17 K17
          refine aw_seq fun K18 hK18 => ?_
          refine aw_region fun K19 hK19 => ?_
          refine aL z_move ?_
          refine aL z_neq ?_
          refine aL z_move ?_
          first
            | refine gL rfl rfl (ev_tmp rfl) (fun hg => z_fieldAddr fo_37_0) ?_
            | refine gL rfl rfl (ev_tmp rfl) (fun hg => z_fieldRef fo_37_0) ?_
            | refine gL rfl rfl (ev_tmp rfl) (fun hg => z_fieldV fo_37_0) ?_
            | refine hL rfl rfl (ev_tmp rfl) (fun hg => z_fieldAddr fo_37_0) ?_
            | refine hL rfl rfl (ev_tmp rfl) (fun hg => z_fieldRef fo_37_0) ?_
            | refine hL rfl rfl (ev_tmp rfl) (fun hg => z_fieldV fo_37_0) ?_
          first
            | refine gL rfl rfl (ev_tmp rfl) (fun hg => z_load sz_4) ?_
            | refine gL rfl rfl (ev_tmp rfl) (fun hg => z_loadRef sz_4) ?_
            | refine gL rfl rfl (ev_tmp rfl) (fun hg => z_loadV sz_4) ?_
            | refine hL rfl rfl (ev_tmp rfl) (fun hg => z_load sz_4) ?_
            | refine hL rfl rfl (ev_tmp rfl) (fun hg => z_loadRef sz_4) ?_
            | refine hL rfl rfl (ev_tmp rfl) (fun hg => z_loadV sz_4) ?_
          refine aL z_or ?_
          refine awl_nil (hK19 _ _ ?_)
          clear hK19 K19
          refine aC (fun r4 c4 => ?_) (fun r4 c4 => ?_)
          · refine aw_exit ?_
            refine hK12 _ _ ?_
            clear hK12
            refine aw_region_last ?_
            refine aL z_move ?_
            refine aL z_add ?_
            refine aL z_assign ?_
            refine awl_nil ?_
            refine hK9 _ _ ⟨i + 1, by omega⟩ (by dsimp only; omega) ?_
            first
              | exact wK
              | exact Weak.trans (weak_rever 1 0 rfl) wK
          · refine aw_skip ?_
            refine hK18 _ _ ?_
            clear hK18
            refine aw_region fun K20 hK20 => ?_
            refine aL z_move ?_
            refine aL (z_row 12 .nil Try.underlying24 sz_5 zc_5 zl_5 (c := bs [])) ?_
            refine aL z_move ?_
            first
              | refine aL (z_app Try.underlying24 zi_5) ?_
              | refine aL (z_appV Try.underlying24 zi_5) ?_
              | refine aL (z_appN 13 Try.underlying24 zi_5) ?_
              | refine aL (z_appNV 13 Try.underlying24 zi_5) ?_
            refine aL z_move ?_
            refine aL (StepU.settle (z_app Try.underlying24 zi_5 (c' := bs (bad ++ putF l[i])) (hc := by rw [List.take_of_length_le (by simp)]; simp))) ?_
            have hT : f0.take (bad ++ putF l[i]) = ([q7, ⟨l[i], Flt.no⟩], f0) := (by rw [← hf0]; exact hgt _ (by omega) (by simp_all))
            have hq0 : (itV [q7, ⟨l[i], Flt.no⟩])[0]? = some [V.int .i64 0, V.int .i64 0, V.int .i64 0, V.str [], V.int .i64 0, V.sl [], V.int .i64 0, V.int .i64 0, V.int .i64 0, V.int .i64 0, V.int .i64 0, V.bool false, V.bool true, V.int .i64 1, V.int .i64 (1 + (s : Int))] := (by show some q7.vs = _; rw [hqv, show (1 + (s : Int)) = ((s + 1 : Nat) : Int) by omega]; rfl)
            have hq1 : (itV [q7, ⟨l[i], Flt.no⟩])[1]? = some (Itm.vs ⟨l[i], Flt.no⟩) := rfl
            refine aL (z_callG [0, 1] (eC (eC .nil)) en_11 (con_TakeE hT 0 (by rw [← hf0]; decide) (by rw [← hf0]; simp; omega)) (pA (pA .nil))) ?_
            refine aL z_assign ?_
            refine awl_nil (hK20 _ _ ?_)
            clear hK20 K20
            refine aw_regionD mx_all (by kernel_rfl) fun K21 hK21 => ?_
            refine aD z_move ?_
            first
              | refine aD (z_lenB Try.underlying29) ?_
              | refine aD (z_len Try.underlying29) ?_
              | refine aD (z_lenV Try.underlying29) ?_
            refine aD z_neq ?_
            refine aD z_move ?_
            first
              | refine gD rfl rfl (ev_tmp rfl) (fun hg => z_move) ?_
              | refine hD rfl rfl (ev_tmp rfl) (fun hg => z_move) ?_
            first
              | refine gD rfl rfl (ev_tmp rfl) (fun hg => z_indexAddr Try.underlying29 sz_42) ?_
              | refine gD rfl rfl (ev_tmp rfl) (fun hg => z_indexAddrV Try.underlying29 sz_42) ?_
              | refine hD rfl rfl (ev_tmp rfl) (fun hg => z_indexAddr Try.underlying29 sz_42) ?_
              | refine hD rfl rfl (ev_tmp rfl) (fun hg => z_indexAddrV Try.underlying29 sz_42) ?_
            first
              | refine gD rfl rfl (ev_tmp rfl) (fun hg => z_fieldAddr fo_42_1) ?_
              | refine gD rfl rfl (ev_tmp rfl) (fun hg => z_fieldRef fo_42_1) ?_
              | refine gD rfl rfl (ev_tmp rfl) (fun hg => z_fieldV fo_42_1) ?_
              | refine hD rfl rfl (ev_tmp rfl) (fun hg => z_fieldAddr fo_42_1) ?_
              | refine hD rfl rfl (ev_tmp rfl) (fun hg => z_fieldRef fo_42_1) ?_
              | refine hD rfl rfl (ev_tmp rfl) (fun hg => z_fieldV fo_42_1) ?_
            first
              | refine gD rfl rfl (ev_tmp rfl) (fun hg => z_load sz_37) ?_
              | refine gD rfl rfl (ev_tmp rfl) (fun hg => z_loadRef sz_37) ?_
              | refine gD rfl rfl (ev_tmp rfl) (fun hg => z_loadV sz_37) ?_
              | refine hD rfl rfl (ev_tmp rfl) (fun hg => z_load sz_37) ?_
              | refine hD rfl rfl (ev_tmp rfl) (fun hg => z_loadRef sz_37) ?_
              | refine hD rfl rfl (ev_tmp rfl) (fun hg => z_loadV sz_37) ?_
            first
              | refine gD rfl rfl (ev_tmp rfl) (fun hg => z_move) ?_
              | refine hD rfl rfl (ev_tmp rfl) (fun hg => z_move) ?_
            first
              | refine gD rfl rfl (ev_tmp rfl) (fun hg => z_build (pC (pC (pC .nil))) pl_37 zc_37 zl_37) ?_
              | refine hD rfl rfl (ev_tmp rfl) (fun hg => z_build (pC (pC (pC .nil))) pl_37 zc_37 zl_37) ?_
            first
              | refine gD rfl rfl (ev_tmp rfl) (fun hg => z_neqA sk_37) ?_
              | refine hD rfl rfl (ev_tmp rfl) (fun hg => z_neqA sk_37) ?_
            refine aD z_or ?_
            refine aD z_move ?_
            first
              | refine gD rfl rfl (ev_tmp rfl) (fun hg => z_move) ?_
              | refine hD rfl rfl (ev_tmp rfl) (fun hg => z_move) ?_
            first
              | refine gD rfl rfl (ev_tmp rfl) (fun hg => z_indexAddr Try.underlying29 sz_42) ?_
              | refine gD rfl rfl (ev_tmp rfl) (fun hg => z_indexAddrV Try.underlying29 sz_42) ?_
              | refine hD rfl rfl (ev_tmp rfl) (fun hg => z_indexAddr Try.underlying29 sz_42) ?_
              | refine hD rfl rfl (ev_tmp rfl) (fun hg => z_indexAddrV Try.underlying29 sz_42) ?_
            first
              | refine gD rfl rfl (ev_tmp rfl) (fun hg => z_fieldAddr fo_42_1) ?_
              | refine gD rfl rfl (ev_tmp rfl) (fun hg => z_fieldRef fo_42_1) ?_
              | refine gD rfl rfl (ev_tmp rfl) (fun hg => z_fieldV fo_42_1) ?_
              | refine hD rfl rfl (ev_tmp rfl) (fun hg => z_fieldAddr fo_42_1) ?_
              | refine hD rfl rfl (ev_tmp rfl) (fun hg => z_fieldRef fo_42_1) ?_
              | refine hD rfl rfl (ev_tmp rfl) (fun hg => z_fieldV fo_42_1) ?_
            first
              | refine gD rfl rfl (ev_tmp rfl) (fun hg => z_fieldAddr fo_37_0) ?_
              | refine gD rfl rfl (ev_tmp rfl) (fun hg => z_fieldRef fo_37_0) ?_
              | refine gD rfl rfl (ev_tmp rfl) (fun hg => z_fieldV fo_37_0) ?_
              | refine hD rfl rfl (ev_tmp rfl) (fun hg => z_fieldAddr fo_37_0) ?_
              | refine hD rfl rfl (ev_tmp rfl) (fun hg => z_fieldRef fo_37_0) ?_
              | refine hD rfl rfl (ev_tmp rfl) (fun hg => z_fieldV fo_37_0) ?_
            first
              | refine gD rfl rfl (ev_tmp rfl) (fun hg => z_load sz_4) ?_
              | refine gD rfl rfl (ev_tmp rfl) (fun hg => z_loadRef sz_4) ?_
              | refine gD rfl rfl (ev_tmp rfl) (fun hg => z_loadV sz_4) ?_
              | refine hD rfl rfl (ev_tmp rfl) (fun hg => z_load sz_4) ?_
              | refine hD rfl rfl (ev_tmp rfl) (fun hg => z_loadRef sz_4) ?_
              | refine hD rfl rfl (ev_tmp rfl) (fun hg => z_loadV sz_4) ?_
            refine aD z_or ?_
            refine aD z_move ?_
            first
              | refine gD rfl rfl (ev_tmp rfl) (fun hg => z_move) ?_
              | refine hD rfl rfl (ev_tmp rfl) (fun hg => z_move) ?_
            first
              | refine gD rfl rfl (ev_tmp rfl) (fun hg => z_indexAddr Try.underlying29 sz_42) ?_
              | refine gD rfl rfl (ev_tmp rfl) (fun hg => z_indexAddrV Try.underlying29 sz_42) ?_
              | refine hD rfl rfl (ev_tmp rfl) (fun hg => z_indexAddr Try.underlying29 sz_42) ?_
              | refine hD rfl rfl (ev_tmp rfl) (fun hg => z_indexAddrV Try.underlying29 sz_42) ?_
            first
              | refine gD rfl rfl (ev_tmp rfl) (fun hg => z_fieldAddr fo_42_0) ?_
              | refine gD rfl rfl (ev_tmp rfl) (fun hg => z_fieldRef fo_42_0) ?_
              | refine gD rfl rfl (ev_tmp rfl) (fun hg => z_fieldV fo_42_0) ?_
              | refine hD rfl rfl (ev_tmp rfl) (fun hg => z_fieldAddr fo_42_0) ?_
              | refine hD rfl rfl (ev_tmp rfl) (fun hg => z_fieldRef fo_42_0) ?_
              | refine hD rfl rfl (ev_tmp rfl) (fun hg => z_fieldV fo_42_0) ?_
            first
              | refine gD rfl rfl (ev_tmp rfl) (fun hg => z_load sz_40) ?_
              | refine gD rfl rfl (ev_tmp rfl) (fun hg => z_loadRef sz_40) ?_
              | refine gD rfl rfl (ev_tmp rfl) (fun hg => z_loadV sz_40) ?_
              | refine hD rfl rfl (ev_tmp rfl) (fun hg => z_load sz_40) ?_
              | refine hD rfl rfl (ev_tmp rfl) (fun hg => z_loadRef sz_40) ?_
              | refine hD rfl rfl (ev_tmp rfl) (fun hg => z_loadV sz_40) ?_
            first
              | refine gD rfl rfl (ev_tmp rfl) (fun hg => z_move) ?_
              | refine hD rfl rfl (ev_tmp rfl) (fun hg => z_move) ?_
            first
              | refine gD rfl rfl (ev_tmp rfl) (fun hg => z_move) ?_
              | refine hD rfl rfl (ev_tmp rfl) (fun hg => z_move) ?_
            first
              | refine gD rfl rfl (ev_tmp rfl) (fun hg => z_indexAddr Try.underlying44 sz_40) ?_
              | refine gD rfl rfl (ev_tmp rfl) (fun hg => z_indexAddrV Try.underlying44 sz_40) ?_
              | refine hD rfl rfl (ev_tmp rfl) (fun hg => z_indexAddr Try.underlying44 sz_40) ?_
              | refine hD rfl rfl (ev_tmp rfl) (fun hg => z_indexAddrV Try.underlying44 sz_40) ?_
            first
              | refine gD rfl rfl (ev_tmp rfl) (fun hg => z_load sz_40) ?_
              | refine gD rfl rfl (ev_tmp rfl) (fun hg => z_loadRef sz_40) ?_
              | refine gD rfl rfl (ev_tmp rfl) (fun hg => z_loadV sz_40) ?_
              | refine hD rfl rfl (ev_tmp rfl) (fun hg => z_load sz_40) ?_
              | refine hD rfl rfl (ev_tmp rfl) (fun hg => z_loadRef sz_40) ?_
              | refine hD rfl rfl (ev_tmp rfl) (fun hg => z_loadV sz_40) ?_
            first
              | refine gD rfl rfl (ev_tmp rfl) (fun hg => z_call0 (eC (eC .nil (h := by first | exact ev_cond (ev_tmp rfl) (by assumption) | (refine ev_cond (ev_tmp rfl) ?_; simp_all; done))) (h := by first | exact ev_cond (ev_tmp rfl) (by assumption) | (refine ev_cond (ev_tmp rfl) ?_; simp_all; done))) en_18 (con_Same (f := l[i]) (g := l[i]) (by omega))) ?_
              | refine hD rfl rfl (ev_tmp rfl) (fun hg => z_call0 (eC (eC .nil (h := by first | exact ev_cond (ev_tmp rfl) (by assumption) | (refine ev_cond (ev_tmp rfl) ?_; simp_all; done))) (h := by first | exact ev_cond (ev_tmp rfl) (by assumption) | (refine ev_cond (ev_tmp rfl) ?_; simp_all; done))) en_18 (con_Same (f := l[i]) (g := l[i]) (by omega))) ?_
            first
              | refine gD rfl rfl (ev_tmp rfl) (fun hg => z_not) ?_
              | refine hD rfl rfl (ev_tmp rfl) (fun hg => z_not) ?_
            refine aD z_or ?_
            refine aD z_move ?_
            first
              | refine gD rfl rfl (ev_tmp rfl) (fun hg => z_move) ?_
              | refine hD rfl rfl (ev_tmp rfl) (fun hg => z_move) ?_
            first
              | refine gD rfl rfl (ev_tmp rfl) (fun hg => z_callF 0 1 en_15 con_OverR (lentI (f := f0))) ?_
              | refine hD rfl rfl (ev_tmp rfl) (fun hg => z_callF 0 1 en_15 con_OverR (lentI (f := f0))) ?_
            refine aD z_or ?_
            refine aD z_move ?_
            first
              | refine gD rfl rfl (ev_tmp rfl) (fun hg => z_move) ?_
              | refine hD rfl rfl (ev_tmp rfl) (fun hg => z_move) ?_
            first
              | refine gD rfl rfl (ev_tmp rfl) (fun hg => z_callF 0 1 en_14 con_LeftR (lentI (f := f0))) ?_
              | refine hD rfl rfl (ev_tmp rfl) (fun hg => z_callF 0 1 en_14 con_LeftR (lentI (f := f0))) ?_
            first
              | refine gD rfl rfl (ev_tmp rfl) (fun hg => z_neq) ?_
              | refine hD rfl rfl (ev_tmp rfl) (fun hg => z_neq) ?_
            refine aD z_or ?_
            refine awd_nil (by kernel_rfl) (hK21 _ _ ?_)
            clear hK21 K21
            refine aC (fun r5 c5 => ?_) (fun r5 c5 => ?_)
            · exfalso
              rw [hqq, hss] at c5
              rcases c5 with ((((h | h) | h) | h) | h) | h
              · exact h rfl
              · cases h
              · cases h
              · cases h
              · rw [← hf0] at h; cases h
              · rw [← hf0] at h; exact h rfl
            · refine aw_skip ?_
              refine hK12 _ _ ?_
              clear hK12
              refine aw_region_last ?_
              refine aL z_move ?_
              refine aL z_add ?_
              refine aL z_assign ?_
              refine awl_nil ?_
              refine hK9 _ _ ⟨i + 1, by omega⟩ (by dsimp only; omega) ?_
              first
                | exact wK
                | exact Weak.trans (weak_rever 1 0 rfl) wK
      · refine aw_exit ?_
        refine hK7 _ _ ?_
        clear hK7
        refine aw_region fun K22 hK22 => ?_
        refine aL z_assign ?_
        refine awl_nil (hK22 _ _ ?_)
        clear hK22 K22
        refine aw_ret ?_
        refine (hret _ _ _ _ _ rfl (.tmp rfl .nil) rfl ?_ .nil rfl).1
        rfl
end Go.Proofs.Ytigodfnckjidoaa
