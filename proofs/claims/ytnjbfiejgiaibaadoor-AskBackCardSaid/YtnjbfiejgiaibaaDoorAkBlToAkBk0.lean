/- Chapter 14: AskCuts, walked. No condition. -/
import Derived.Test.YtnjbfiejgiaibaaDoorAkVToAkLw
import Derived.Test.YtnjbfiejgiaibaaDoorAkC0ToAkQ
namespace Go.Proofs.YtnjbfiejgiaibaaDoor
set_option linter.all false
open Go Go.RowKit
set_option maxRecDepth 10000
set_option maxHeartbeats 4000000
theorem sameA_self (a : Ak) : sameA a a = true := by unfold sameA; simp
theorem putA_yes {a : Ak} (h : putAE a = 0) : mayM a = true ∧ putA a = askA a ++ a.b ∧ (askA a).length ≤ 65536 := by
  refine ⟨?_, by unfold putA; rw [if_pos h], ?_⟩
  · unfold putAE at h
    by_cases hm : mayM a = true
    · exact hm
    · rw [if_neg hm] at h; omega
  · unfold putAE at h
    by_cases hm : mayM a = true
    · rw [if_pos hm] at h; split at h <;> omega
    · rw [if_neg hm] at h; omega
theorem putA_no {a : Ak} (h : ¬ putAE a = 0) : putA a = [] := by unfold putA; rw [if_neg h]
theorem askA_pos (a : Ak) : 0 < (askA a).length := by
  have := congrArg List.length (askA_lines a [])
  simp at this; omega
theorem lowA_len (a : Ak) : (lowA a).fs.length = a.fs.length := by unfold lowA; simp
theorem con_AskCuts {a : Ak} {at0 : Int} {behind : List UInt8} (ha : a.fits) (hbl : behind.length ≤ 140737488351232) : Con Tryd.prog 5 [.agg a.cs, .v (.int .i64 at0), .v (.sl (bs behind))] [] 0 (.ret (.v (.bool true))) [] := by
  obtain ⟨h1, h2, h3, h4, h5⟩ := ha
  have hbb := bs_length behind
  refine con_of Tryd.func5 rfl (by show _ ≤ 92; simp) fun X Q hP hnt hnp hret hpan => ?_
  obtain ⟨P0, nt0, w0, K0, S0, np0, pin0, df0⟩ := X
  simp only at hP hnt hnp
  subst hP hnp
  obtain rfl : nt0 = 92 := hnt
  refine aw_region fun K1 hK1 => ?_
  refine aL (z_box 0) ?_
  refine aL z_assign ?_
  refine awl_nil (hK1 _ _ ?_)
  clear hK1 K1
  refine aw_seq fun K2 hK2 => ?_
  refine aw_region fun K3 hK3 => ?_
  refine aL (z_call0 .nil en_7 (con_awake14)) ?_
  refine aL z_not ?_
  refine awl_nil (hK3 _ _ ?_)
  clear hK3 K3
  refine aC (fun r1 c1 => ?_) (fun r1 c1 => ?_)
  · exact absurd c1 (by decide)
  · refine aw_skip ?_
    refine hK2 _ _ ?_
    clear hK2
    refine aw_seq fun K4 hK4 => ?_
    refine aw_region fun K5 hK5 => ?_
    first
      | refine aL (z_fieldAddr fo_24_0) ?_
      | refine aL (z_fieldRef fo_24_0) ?_
      | refine aL (z_fieldV fo_24_0) ?_
    first
      | refine aL (z_load sz_9) ?_
      | refine aL (z_loadRef sz_9) ?_
      | refine aL (z_loadV sz_9) ?_
    refine aL (z_lenS Tryd.underlying9) ?_
    refine aL z_gtr ?_
    refine aL z_move ?_
    first
      | refine gL rfl rfl (ev_tmp rfl) (fun hg => z_fieldAddr fo_24_1) ?_
      | refine gL rfl rfl (ev_tmp rfl) (fun hg => z_fieldRef fo_24_1) ?_
      | refine gL rfl rfl (ev_tmp rfl) (fun hg => z_fieldV fo_24_1) ?_
      | refine hL rfl rfl (ev_tmp rfl) (fun hg => z_fieldAddr fo_24_1) ?_
      | refine hL rfl rfl (ev_tmp rfl) (fun hg => z_fieldRef fo_24_1) ?_
      | refine hL rfl rfl (ev_tmp rfl) (fun hg => z_fieldV fo_24_1) ?_
    first
      | refine gL rfl rfl (ev_tmp rfl) (fun hg => z_load sz_9) ?_
      | refine gL rfl rfl (ev_tmp rfl) (fun hg => z_loadRef sz_9) ?_
      | refine gL rfl rfl (ev_tmp rfl) (fun hg => z_loadV sz_9) ?_
      | refine hL rfl rfl (ev_tmp rfl) (fun hg => z_load sz_9) ?_
      | refine hL rfl rfl (ev_tmp rfl) (fun hg => z_loadRef sz_9) ?_
      | refine hL rfl rfl (ev_tmp rfl) (fun hg => z_loadV sz_9) ?_
    first
      | refine gL rfl rfl (ev_tmp rfl) (fun hg => z_lenS Tryd.underlying9) ?_
      | refine hL rfl rfl (ev_tmp rfl) (fun hg => z_lenS Tryd.underlying9) ?_
    first
      | refine gL rfl rfl (ev_tmp rfl) (fun hg => z_gtr) ?_
      | refine hL rfl rfl (ev_tmp rfl) (fun hg => z_gtr) ?_
    refine aL z_or ?_
    refine aL z_move ?_
    first
      | refine gL rfl rfl (ev_tmp rfl) (fun hg => z_load sz_24) ?_
      | refine gL rfl rfl (ev_tmp rfl) (fun hg => z_loadRef sz_24) ?_
      | refine gL rfl rfl (ev_tmp rfl) (fun hg => z_loadV sz_24) ?_
      | refine hL rfl rfl (ev_tmp rfl) (fun hg => z_load sz_24) ?_
      | refine hL rfl rfl (ev_tmp rfl) (fun hg => z_loadRef sz_24) ?_
      | refine hL rfl rfl (ev_tmp rfl) (fun hg => z_loadV sz_24) ?_
    first
      | refine gL rfl rfl (ev_tmp rfl) (fun hg => z_call0 (eC .nil) en_8 (con_smallA (a := a) h1 h2 h4 h5)) ?_
      | refine hL rfl rfl (ev_tmp rfl) (fun hg => z_call0 (eC .nil) en_8 (con_smallA (a := a) h1 h2 h4 h5)) ?_
    first
      | refine gL rfl rfl (ev_tmp rfl) (fun hg => z_not) ?_
      | refine hL rfl rfl (ev_tmp rfl) (fun hg => z_not) ?_
    refine aL z_or ?_
    refine aL z_move ?_
    first
      | refine gL rfl rfl (ev_tmp rfl) (fun hg => z_move) ?_
      | refine hL rfl rfl (ev_tmp rfl) (fun hg => z_move) ?_
    first
      | refine gL rfl rfl (ev_tmp rfl) (fun hg => z_lenB Tryd.underlying27) ?_
      | refine gL rfl rfl (ev_tmp rfl) (fun hg => z_len Tryd.underlying27) ?_
      | refine gL rfl rfl (ev_tmp rfl) (fun hg => z_lenV Tryd.underlying27) ?_
      | refine hL rfl rfl (ev_tmp rfl) (fun hg => z_lenB Tryd.underlying27) ?_
      | refine hL rfl rfl (ev_tmp rfl) (fun hg => z_len Tryd.underlying27) ?_
      | refine hL rfl rfl (ev_tmp rfl) (fun hg => z_lenV Tryd.underlying27) ?_
    first
      | refine gL rfl rfl (ev_tmp rfl) (fun hg => z_gtr) ?_
      | refine hL rfl rfl (ev_tmp rfl) (fun hg => z_gtr) ?_
    refine aL z_or ?_
    refine awl_nil (hK5 _ _ ?_)
    clear hK5 K5
    refine aC (fun r2 c2 => ?_) (fun r2 c2 => ?_)
    · refine aw_region fun K6 hK6 => ?_
      refine aL z_assign ?_
      refine awl_nil (hK6 _ _ ?_)
      clear hK6 K6
      refine aw_ret ?_
      refine (hret _ _ _ _ _ rfl (.tmp rfl .nil) rfl ?_ .nil rfl).1
      first
        | rfl
        | (simp [retD, putA_no (by assumption)]; done)
        | (simp [retD, sameA_self]; done)
    · refine aw_skip ?_
      refine hK4 _ _ ?_
      clear hK4
      refine aw_region fun K7 hK7 => ?_
      have hsm : a.small := smallA_small (by simp_all)
      have hb3 : behind.length ≤ 4096 := by simp_all; omega
      first
        | refine aL (z_load sz_24) ?_
        | refine aL (z_loadRef sz_24) ?_
        | refine aL (z_loadV sz_24) ?_
      refine aL (z_call0 (eC .nil) en_9 (con_Put (a := a) hsm)) ?_
      refine aL z_move ?_
      refine aL z_extract ?_
      refine aL z_extract ?_
      refine aL z_assign ?_
      refine aL z_assign ?_
      refine awl_nil (hK7 _ _ ?_)
      clear hK7 K7
      refine aw_seq fun K8 hK8 => ?_
      refine aw_region fun K9 hK9 => ?_
      refine aL z_move ?_
      refine aL z_neq ?_
      refine awl_nil (hK9 _ _ ?_)
      clear hK9 K9
      refine aC (fun r3 c3 => ?_) (fun r3 c3 => ?_)
      · refine aw_region fun K10 hK10 => ?_
        refine aL z_move ?_
        first
          | refine aL (z_lenB Tryd.underlying27) ?_
          | refine aL (z_len Tryd.underlying27) ?_
          | refine aL (z_lenV Tryd.underlying27) ?_
        refine aL z_eql ?_
        refine aL z_assign ?_
        refine awl_nil (hK10 _ _ ?_)
        clear hK10 K10
        refine aw_ret ?_
        refine (hret _ _ _ _ _ rfl (.tmp rfl .nil) rfl ?_ .nil rfl).1
        first
          | rfl
          | (simp [retD, putA_no (by assumption)]; done)
          | (simp [retD, sameA_self]; done)
      · refine aw_skip ?_
        have hp0 : putAE a = 0 := by omega
        obtain ⟨hmay, hput, hask⟩ := putA_yes hp0
        have hpos := askA_pos a
        have hpl : (putA a).length = (askA a).length + a.b.length := by rw [hput, List.length_append]
        have hab := hsm.2.2
        have hTp : takeA (putA a ++ behind) = .ok (lowA a, behind) := by rw [hput, List.append_assoc]; exact take_put hmay hab behind
        refine hK8 _ _ ?_
        clear hK8
        refine aw_cutE (α := {c : Int // 0 ≤ c}) (fun z => (([(3, .ptr 0 0), (7, .v (.sl (bs (putA a)))), (2, .v (.sl (bs behind))), (1, .v (.int .i64 z.1))], [(0, .box a.cs)]))) (fun K11 hK11 => ?_) ?_
        rotate_left
        focus
          rintro z
          dsimp only
          refine aw_region fun K12 hK12 => ?_
          refine aL z_move ?_
          refine aL z_move ?_
          refine aL z_move ?_
          first
            | refine aL (z_lenB Tryd.underlying27) ?_
            | refine aL (z_len Tryd.underlying27) ?_
            | refine aL (z_lenV Tryd.underlying27) ?_
          obtain ⟨kc, hkc⟩ : ∃ k : Nat, z.1.tmod ((putA a).length : Int) = (k : Int) := ⟨(z.1.tmod ((putA a).length : Int)).toNat, (Int.toNat_of_nonneg (Int.tmod_nonneg _ z.2)).symm⟩
          have hkl : kc < (putA a).length := by have := Int.tmod_lt_of_pos z.1 (show (0 : Int) < ((putA a).length : Int) by omega); omega
          have hTk : takeA ((putA a).take kc) = .error 12 := by rw [hput] at hkl ⊢; exact take_cut14 hmay hab hkl
          refine aL z_rem ?_
          refine aL (stepU_slice (c' := bs ((putA a).take kc)) rfl Tryd.underlying27 sz_5 (bs_one _) (ev_tmp rfl) .no (.yes (ev_tmp rfl) rfl) (by simp) (by simp; omega) (by simp)) ?_
          first
            | refine aL (z_call0 (eC .nil) en_16 (con_TakeE14 (b := (putA a).take kc) (by rw [List.length_take]; omega) hTk)) ?_
            | refine aL (z_call0 (eC .nil) en_16 (con_TakeO14 (b := putA a ++ behind) (n := (putA a).length) (by simp; omega) hTp (by simp))) ?_
          refine aL z_move ?_
          refine aL z_extract ?_
          refine aL z_extract ?_
          refine aL z_extract ?_
          refine aL (z_alloc 1 zc_24 zl_24) ?_
          refine aL (z_store sz_24) ?_
          refine aL z_assign ?_
          refine aL z_assign ?_
          refine awl_nil (hK12 _ _ ?_)
          clear hK12 K12
          refine aw_region fun K13 hK13 => ?_
          refine aL (z_row 2 .nil Tryd.underlying27 sz_5 zc_5 zl_5 (c := bs [])) ?_
          refine aL z_move ?_
          first
            | refine aL (z_app Tryd.underlying27 zi_5) ?_
            | refine aL (z_appV Tryd.underlying27 zi_5) ?_
            | refine aL (z_appN 3 Tryd.underlying27 zi_5) ?_
            | refine aL (z_appNV 3 Tryd.underlying27 zi_5) ?_
          refine aL z_move ?_
          first
            | refine aL (z_app Tryd.underlying27 zi_5) ?_
            | refine aL (z_appV Tryd.underlying27 zi_5) ?_
            | refine aL (z_appN 4 Tryd.underlying27 zi_5) ?_
            | refine aL (z_appNV 4 Tryd.underlying27 zi_5) ?_
          refine awl_weak (fr' := [(3, .ptr 0 0), (7, .v (.sl (bs (putA a)))), (10, .v (.int .i64 0)), (11, .v (.int .i64 12)), (65, .v (.sl (bs (putA a ++ behind))))]) (ah' := [(0, .box a.cs)]) (weak_all (some (2, 2, bs (putA a ++ behind))) ⟨rfl, _, _, rfl⟩ (.box rfl (.same rfl) .nil) (.cons rfl (.keep rfl) (.cons rfl (.keep rfl) (.cons rfl (.keep rfl) (.cons rfl (.keep rfl) (.cons rfl (.view rfl (cutW (by simp))) .nil)))))) ?_
          first
            | refine aL (z_call0 (eC .nil) en_16 (con_TakeE14 (b := (putA a).take kc) (by rw [List.length_take]; omega) hTk)) ?_
            | refine aL (z_call0 (eC .nil) en_16 (con_TakeO14 (b := putA a ++ behind) (n := (putA a).length) (by simp; omega) hTp (by simp))) ?_
          refine aL z_move ?_
          refine aL z_extract ?_
          refine aL z_extract ?_
          refine aL z_extract ?_
          refine aL (z_alloc 5 zc_24 zl_24) ?_
          refine aL (z_store sz_24) ?_
          refine aL z_assign ?_
          refine aL z_assign ?_
          refine awl_nil (hK13 _ _ ?_)
          clear hK13 K13
          refine aw_regionD mx_all (by kernel_rfl) fun K14 hK14 => ?_
          refine aD z_move ?_
          refine aD z_eql ?_
          refine aD z_move ?_
          first
            | refine gD rfl rfl (ev_tmp rfl) (fun hg => z_move) ?_
            | refine hD rfl rfl (ev_tmp rfl) (fun hg => z_move) ?_
          first
            | refine gD rfl rfl (ev_tmp rfl) (fun hg => z_eql) ?_
            | refine hD rfl rfl (ev_tmp rfl) (fun hg => z_eql) ?_
          refine aD z_and ?_
          refine aD z_move ?_
          first
            | refine gD rfl rfl (ev_tmp rfl) (fun hg => z_move) ?_
            | refine hD rfl rfl (ev_tmp rfl) (fun hg => z_move) ?_
          first
            | refine gD rfl rfl (ev_tmp rfl) (fun hg => z_eql) ?_
            | refine hD rfl rfl (ev_tmp rfl) (fun hg => z_eql) ?_
          refine aD z_and ?_
          refine aD z_move ?_
          first
            | refine gD rfl rfl (ev_tmp rfl) (fun hg => z_move) ?_
            | refine hD rfl rfl (ev_tmp rfl) (fun hg => z_move) ?_
          first
            | refine gD rfl rfl (ev_tmp rfl) (fun hg => z_move) ?_
            | refine hD rfl rfl (ev_tmp rfl) (fun hg => z_move) ?_
          first
            | refine gD rfl rfl (ev_tmp rfl) (fun hg => z_lenB Tryd.underlying27) ?_
            | refine gD rfl rfl (ev_tmp rfl) (fun hg => z_len Tryd.underlying27) ?_
            | refine gD rfl rfl (ev_tmp rfl) (fun hg => z_lenV Tryd.underlying27) ?_
            | refine hD rfl rfl (ev_tmp rfl) (fun hg => z_lenB Tryd.underlying27) ?_
            | refine hD rfl rfl (ev_tmp rfl) (fun hg => z_len Tryd.underlying27) ?_
            | refine hD rfl rfl (ev_tmp rfl) (fun hg => z_lenV Tryd.underlying27) ?_
          first
            | refine gD rfl rfl (ev_tmp rfl) (fun hg => z_eql) ?_
            | refine hD rfl rfl (ev_tmp rfl) (fun hg => z_eql) ?_
          refine aD z_and ?_
          refine aD z_move ?_
          first
            | refine gD rfl rfl (ev_tmp rfl) (fun hg => z_load sz_24) ?_
            | refine gD rfl rfl (ev_tmp rfl) (fun hg => z_loadRef sz_24) ?_
            | refine gD rfl rfl (ev_tmp rfl) (fun hg => z_loadV sz_24) ?_
            | refine hD rfl rfl (ev_tmp rfl) (fun hg => z_load sz_24) ?_
            | refine hD rfl rfl (ev_tmp rfl) (fun hg => z_loadRef sz_24) ?_
            | refine hD rfl rfl (ev_tmp rfl) (fun hg => z_loadV sz_24) ?_
          first
            | refine gD rfl rfl (ev_tmp rfl) (fun hg => z_load sz_24) ?_
            | refine gD rfl rfl (ev_tmp rfl) (fun hg => z_loadRef sz_24) ?_
            | refine gD rfl rfl (ev_tmp rfl) (fun hg => z_loadV sz_24) ?_
            | refine hD rfl rfl (ev_tmp rfl) (fun hg => z_load sz_24) ?_
            | refine hD rfl rfl (ev_tmp rfl) (fun hg => z_loadRef sz_24) ?_
            | refine hD rfl rfl (ev_tmp rfl) (fun hg => z_loadV sz_24) ?_
          first
            | refine gD rfl rfl (ev_tmp rfl) (fun hg => z_call0 (eC .nil) en_17 (con_Low (a := a) hsm)) ?_
            | refine hD rfl rfl (ev_tmp rfl) (fun hg => z_call0 (eC .nil) en_17 (con_Low (a := a) hsm)) ?_
          first
            | refine gD rfl rfl (ev_tmp rfl) (fun hg => z_call0 (eC (eC .nil)) en_13 (con_rSameA (a := lowA a) (b := lowA a) (by rw [lowA_len]; exact h4) (by rw [lowA_len]; exact h4))) ?_
            | refine hD rfl rfl (ev_tmp rfl) (fun hg => z_call0 (eC (eC .nil)) en_13 (con_rSameA (a := lowA a) (b := lowA a) (by rw [lowA_len]; exact h4) (by rw [lowA_len]; exact h4))) ?_
          refine aD z_and ?_
          refine aD z_assign ?_
          refine awd_nil (by kernel_rfl) (hK14 _ _ ?_)
          clear hK14 K14
          refine aw_ret ?_
          refine (hret _ _ _ _ _ rfl (.tmp rfl .nil) rfl ?_ .nil rfl).1
          first
            | rfl
            | (simp [retD, putA_no (by assumption)]; done)
            | (simp [retD, sameA_self]; done)
        refine aw_region fun K15 hK15 => ?_
        refine aL z_move ?_
        refine aL z_lss ?_
        refine awl_nil (hK15 _ _ ?_)
        clear hK15 K15
        refine aC (fun r4 c4 => ?_) (fun r4 c4 => ?_)
        · refine aw_region_last ?_
          refine aL z_assign ?_
          refine awl_nil ?_
          refine hK11 _ _ ⟨max at0 0, by omega⟩ ?_
          dsimp only
          exact wK
        · refine aw_skip ?_
          refine hK11 _ _ ⟨max at0 0, by omega⟩ ?_
          dsimp only
          exact wK
end Go.Proofs.YtnjbfiejgiaibaaDoor

/- Chapter 14: requests one behind the other: plain. No program, no condition. -/
namespace Go.Proofs.YtnjbfiejgiaibaaDoor
set_option linter.all false
open Go Go.RowKit
set_option maxRecDepth 10000
/-- A request that may go, with its bytes. -/
def goB (a : Ak) : List UInt8 := askA a ++ a.b
def goesA (l : List Ak) : Prop := ∀ a ∈ l, mayM a = true ∧ a.b.length ≤ 1000000 ∧ a.fs.length ≤ 4398046511104
theorem goB_ne (a : Ak) (c : List UInt8) : ¬ goB a ++ c = [] := fun e => by
  have h := congrArg List.length e
  have := askA_pos a
  unfold goB at h
  rw [List.length_append, List.length_append] at h
  simp only [List.length_nil] at h; omega
theorem all_flat : ∀ (l : List Ak) (acc : List Ak) (r : List UInt8), goesA l → allS acc (l.flatMap goB ++ r) = allS (acc ++ l.map lowA) r
  | [], acc, r, _ => by simp
  | a :: l, acc, r, h => by
    obtain ⟨h1, h2, -⟩ := h a (by simp)
    have e : (a :: l).flatMap goB ++ r = goB a ++ (l.flatMap goB ++ r) := by simp
    rw [e]
    have ht : takeA (goB a ++ (l.flatMap goB ++ r)) = .ok (lowA a, l.flatMap goB ++ r) := by
      unfold goB; rw [List.append_assoc]; exact take_put h1 h2 _
    rw [all_on (goB_ne a _) ht, all_flat l _ r (fun b hb => h b (List.mem_cons_of_mem _ hb))]
    simp
theorem all_goes {l : List Ak} (h : goesA l) : allS [] (l.flatMap goB) = .ok (l.map lowA) := by
  have := all_flat l [] [] h
  rw [List.append_nil, all_end] at this
  rw [this]; rfl
theorem askA_two (a : Ak) : 4 ≤ (askA a).length := by
  have := congrArg List.length (askA_lines a [])
  simp at this; omega
theorem all_short {l : List Ak} (h : goesA l) {n : Nat} (hn : n + 1 = (l.flatMap goB).length) : allS [] ((l.flatMap goB).take n) = .error 12 := by
  rcases List.eq_nil_or_concat l with rfl | ⟨k, a, rfl⟩
  · simp at hn
  · have hl : (k ++ [a]).flatMap goB = k.flatMap goB ++ goB a := by simp
    simp only [List.concat_eq_append] at *
    rw [hl] at hn ⊢
    obtain ⟨h1, h2, -⟩ := h a (by simp)
    have hlen : 4 ≤ (goB a).length := by have := askA_two a; unfold goB; rw [List.length_append]; omega
    rw [List.length_append] at hn
    rw [List.take_append, List.take_of_length_le (by omega), all_flat k [] _ (fun b hb => h b (by simp [hb]))]
    have ht : takeA ((goB a).take (n - (k.flatMap goB).length)) = .error 12 := take_cut14 h1 h2 (by show _ < (goB a).length; omega)
    refine all_err (fun e => ?_) ht
    have := congrArg List.length e
    rw [List.length_take] at this
    simp only [List.length_nil] at this; omega
theorem goes_snoc {l : List Ak} {a : Ak} (h : goesA l) (h1 : mayM a = true) (h2 : a.b.length ≤ 1000000) (h3 : a.fs.length ≤ 4398046511104) : goesA (l ++ [a]) := fun b hb => by
  rcases List.mem_append.1 hb with hb | hb
  · exact h b hb
  · rw [List.mem_singleton] at hb; subst hb; exact ⟨h1, h2, h3⟩
theorem goes_low {l : List Ak} (h : goesA l) : ∀ a ∈ l.map lowA, a.fs.length ≤ 4398046511104 := fun a ha => by
  obtain ⟨b, hb, rfl⟩ := List.mem_map.1 ha
  rw [lowA_len]; exact (h b hb).2.2
end Go.Proofs.YtnjbfiejgiaibaaDoor
