/- Layers 11 and 14: Via; how a request goes on: the program's. No condition. -/
import Derived.Test.YtnjbfiejgiaibaaDoorHpC
namespace Go.Proofs.YtnjbfiejgiaibaaDoor
set_option linter.all false
open Go Go.RowKit
set_option maxRecDepth 10000
set_option maxHeartbeats 4000000
abbrev viaF (who : List UInt8) : Fd := ⟨[118, 105, 97], who, false⟩
theorem con_Via {l : List Fd} {who : List UInt8} (hl : l.length ≤ 1099511627776) : Con Tryd.prog 29 [.v (.sl (fdV l)), .v (.str who)] [] 0 (.ret (.v (.sl (fdV (l ++ [viaF who]))))) [] := by
  refine con_of Tryd.func29 rfl (by show _ ≤ 11; simp) fun X Q hP hnt hnp hret hpan => ?_
  obtain ⟨P0, nt0, w0, K0, S0, np0, pin0, df0⟩ := X
  simp only at hP hnt hnp
  subst hP hnp
  obtain rfl : nt0 = 11 := hnt
  refine aw_region fun K1 hK1 => ?_
  refine aL z_assign ?_
  refine awl_nil (hK1 _ _ ?_)
  clear hK1 K1
  refine aw_region fun K2 hK2 => ?_
  refine aL z_move ?_
  refine aL (z_appN 5 Tryd.underlying22 zi_47 (hs := fdV_one _) (hb := by simp; omega)) ?_
  refine aL z_move ?_
  refine aL (z_build (pC (pC .nil)) pl_47 zc_47 zl_47) ?_
  refine aL (z_lits (pC .nil) Tryd.underlying22 sz_47 zc_47 zl_47 (c := [[_, _, _]])) ?_
  refine aL (StepU.settle (z_app Tryd.underlying22 zi_47 (c' := fdV (l ++ [viaF who])) (hc := fdV_snoc (by simp)) (hb := by simp; omega)) (hl := by simp)) ?_
  refine aL z_assign ?_
  refine awl_nil (hK2 _ _ ?_)
  clear hK2 K2
  refine aw_ret ?_
  refine (hret _ _ _ _ _ rfl (.tmp rfl .nil) rfl ?_ .nil rfl).1
  rfl
abbrev hostF (a : List UInt8) : Fd := ⟨[104, 111, 115, 116], a, false⟩
def clh : List (List UInt8) := [[99, 111, 110, 116, 101, 110, 116, 45, 108, 101, 110, 103, 116, 104], [104, 111, 115, 116]]
theorem clh_le : ∀ k ∈ clh, k.length ≤ 100 := by decide
def ofM (r : Rq) (b who : List UInt8) : Ak := ⟨r.m, r.p, hostF r.a :: noM (stripM r.f) clh ++ [viaF ([50, 32] ++ who)], b⟩
theorem noM_mem {l : List Fd} {ks : List (List UInt8)} {f : Fd} (h : f ∈ noM l ks) : f ∈ l := (List.mem_filter.1 h).1
theorem con_Of {r : Rq} {b who : List UInt8} (hs : szM r.f ≤ 1000000000) (hw : who.length ≤ 140737488355328) : Con Tryd.prog 14 [.agg r.cs, .v (.str b), .v (.str who)] [] 0 (.ret (.agg (ofM r b who).cs)) [] := by
  obtain ⟨h1, h2⟩ := fsz hs
  have h3 := szM_len r.f
  have hn1 : (stripM r.f).length ≤ r.f.length := noM_le _ _
  have hn2 : (noM (stripM r.f) clh).length ≤ (stripM r.f).length := noM_le _ _
  refine con_of Tryd.func14 rfl (by show _ ≤ 28; simp) fun X Q hP hnt hnp hret hpan => ?_
  obtain ⟨P0, nt0, w0, K0, S0, np0, pin0, df0⟩ := X
  simp only at hP hnt hnp
  subst hP hnp
  obtain rfl : nt0 = 28 := hnt
  refine aw_region fun K1 hK1 => ?_
  refine aL (z_box 5) ?_
  refine aL (z_alloc 6 zc_24 zl_24) ?_
  refine awl_nil (hK1 _ _ ?_)
  clear hK1 K1
  refine aw_regionD mx_all (by kernel_rfl) fun K2 hK2 => ?_
  first
    | refine aD (z_fieldAddr fo_33_2) ?_
    | refine aD (z_fieldRef fo_33_2) ?_
    | refine aD (z_fieldV fo_33_2) ?_
  first
    | refine aD (z_load sz_9) ?_
    | refine aD (z_loadRef sz_9) ?_
    | refine aD (z_loadV sz_9) ?_
  refine aD (z_build (pC (pC .nil)) pl_47 zc_47 zl_47) ?_
  refine aD (z_row 7 (pC .nil) Tryd.underlying22 sz_47 zc_47 zl_47 (c := fdV [hostF r.a]) (hcn := ⟨rfl, fdV_one _⟩)) ?_
  first
    | refine aD (z_fieldAddr fo_33_4) ?_
    | refine aD (z_fieldRef fo_33_4) ?_
    | refine aD (z_fieldV fo_33_4) ?_
  first
    | refine aD (z_load sz_22) ?_
    | refine aD (z_loadRef sz_22) ?_
    | refine aD (z_loadV sz_22) ?_
  refine aD (z_call0 (eC .nil) en_28 (con_Strip hs)) ?_
  refine aD (z_lits (pC (pC .nil)) Tryd.underlying64 sz_9 zc_9 zl_9 (c := stV clh) (hcn := ⟨rfl, stV_one _⟩)) ?_
  refine aD (z_call0 (eC (eC .nil)) en_27 (con_Without (l := stripM r.f) (names := clh) (by omega) (fun f hf => (h2 f (noM_mem hf)).1) (by decide) (fun k hk => Nat.le_trans (clh_le k hk) (by decide)))) ?_
  refine aD (StepU.settle (z_app Tryd.underlying22 zi_47 (c' := fdV (hostF r.a :: noM (stripM r.f) clh)) (hs := fdV_one _) (hc := rfl) (hb := by simp; omega)) (hl := by simp; omega)) ?_
  refine aD z_assign ?_
  refine awd_nil (by kernel_rfl) (hK2 _ _ ?_)
  clear hK2 K2
  refine aw_regionD mx_all (by kernel_rfl) fun K3 hK3 => ?_
  first
    | refine aD (z_fieldAddr fo_33_0) ?_
    | refine aD (z_fieldRef fo_33_0) ?_
    | refine aD (z_fieldV fo_33_0) ?_
  first
    | refine aD (z_load sz_9) ?_
    | refine aD (z_loadRef sz_9) ?_
    | refine aD (z_loadV sz_9) ?_
  first
    | refine aD (z_fieldAddr fo_33_3) ?_
    | refine aD (z_fieldRef fo_33_3) ?_
    | refine aD (z_fieldV fo_33_3) ?_
  first
    | refine aD (z_load sz_9) ?_
    | refine aD (z_loadRef sz_9) ?_
    | refine aD (z_loadV sz_9) ?_
  refine aD z_move ?_
  refine aD z_move ?_
  refine aD z_addS ?_
  refine aD (z_call0 (eC (eC .nil)) en_29 (con_Via (l := hostF r.a :: noM (stripM r.f) clh) (who := [50, 32] ++ who) (by simp only [List.length_cons]; omega))) ?_
  refine aD z_move ?_
  refine aD (z_build (pC (pC (pC (pC .nil)))) pl_24 zc_24 zl_24) ?_
  refine aD (z_store sz_24) ?_
  refine awd_nil (by kernel_rfl) (hK3 _ _ ?_)
  clear hK3 K3
  refine aw_ret ?_
  refine (hret _ _ _ _ _ rfl (rCe sz_24 .nil) rfl ?_ .nil rfl).1
  rfl
end Go.Proofs.YtnjbfiejgiaibaaDoor
