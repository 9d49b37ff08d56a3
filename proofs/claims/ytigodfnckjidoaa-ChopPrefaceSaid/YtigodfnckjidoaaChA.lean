/- Layer 7: a feed: made, what is left, is it over. No condition. -/
import Derived.Test.YtigodfnckjidoaaChM
import Derived.Test.YtigodfnckjidoaaAy
namespace Go.Proofs.Ytigodfnckjidoaa
set_option linter.all false
open Go Go.RowKit
set_option maxRecDepth 10000
set_option maxHeartbeats 4000000
/-- A feed's cells. -/
abbrev fdC (m p : Int) (v n : Nat) (ov : Bool) : List D := [.v (.int .i64 m), .v (.int .i64 p), .view 1 v 0 n, .v (.bool ov)]
abbrev rw1 (v : Nat) (l : List UInt8) : Ob := .row v 1 5 (bs l)
abbrev Fd7.ah (f : Fd7) (v : Nat) : AH := [(0, .box (fdC f.most (f.pre : Int) v f.left.length f.over)), (1, rw1 v f.left)]
section
variable {X : Cx}
/-- The row's version, told anew. -/
theorem weak_upV {m p : Int} {v n : Nat} {ov : Bool} {l : List UInt8} {fr : Fm} (v' : Nat) (hf : Fm.rever 1 v v' fr = fr) : Weak X fr [(0, .box (fdC m p v n ov)), (1, rw1 v l)] fr [(0, .box (fdC m p v' n ov)), (1, rw1 v' l)] := by
  have h := weak_rever (X := X) (fr := fr) (ah := [(0, .box (fdC m p v n ov)), (1, rw1 v l)]) 1 (v := v) v' rfl
  rw [hf] at h
  have e : AH.rever 1 v v' [(0, .box (fdC m p v n ov)), (1, rw1 v l)] = [(0, .box (fdC m p v' n ov)), (1, rw1 v' l)] := by simp [AH.rever, Ob.rever, D.revers, D.rever]
  rwa [e] at h
end
theorem con_New {m q : Int} {p : Bool} (hq : q = if p = true then 0 else 24) : Con Try.prog 10 [.v (.int .i64 m), .v (.bool p)] [] 0 (.ret (.ptr 0 0)) [(0, .box (fdC (max m 0) q 0 0 false)), (1, rw1 0 [])] := by
  refine con_of Try.func10 rfl (by show _ ≤ 15; simp) fun X Q hP hnt hnp hret hpan => ?_
  obtain ⟨P0, nt0, w0, K0, S0, np0, pin0, df0⟩ := X
  simp only at hP hnt hnp
  subst hP hnp
  obtain rfl : nt0 = 15 := hnt
  refine aw_region fun K1 hK1 => ?_
  refine aL z_assign ?_
  refine awl_nil (hK1 _ _ ?_)
  clear hK1 K1
  refine aw_region fun K2 hK2 => ?_
  refine aL z_move ?_
  refine aL z_max ?_
  refine aL (z_build (pC (pC .nil)) pl_54 zc_54 zl_54) ?_
  refine aL (z_box 0) ?_
  refine aL z_assign ?_
  refine awl_nil (hK2 _ _ ?_)
  clear hK2 K2
  refine aw_seq fun K3 hK3 => ?_
  refine aw_region fun K4 hK4 => ?_
  refine aL z_move ?_
  refine awl_nil (hK4 _ _ ?_)
  clear hK4 K4
  refine aC (fun r1 c1 => ?_) (fun r1 c1 => ?_)
  · refine aw_region_last ?_
    refine aL z_move ?_
    refine aL z_nilCheck ?_
    first
      | refine aL (z_fieldAddr fo_54_1) ?_
      | refine aL (z_fieldRef fo_54_1) ?_
      | refine aL (z_fieldV fo_54_1) ?_
    refine aL (z_store sz_3) ?_
    refine awl_nil ?_
    refine hK3 _ _ ?_
    clear hK3
    refine aw_region fun K5 hK5 => ?_
    refine aL z_move ?_
    refine aL z_assign ?_
    refine awl_nil (hK5 _ _ ?_)
    clear hK5 K5
    simp [c1] at hq
    subst hq
    refine aw_weak (weak_nilB 0 2 1 1 5 rfl rfl rfl (by decide) (by exact Nat.zero_le _) rfl) ?_
    refine aw_ret ?_
    refine (hret _ _ _ _ _ rfl (.tmp rfl .nil) rfl ?_ (.box rfl rfl (.row rfl .nil)) rfl).1
    rfl
  · refine aw_skip ?_
    refine hK3 _ _ ?_
    clear hK3
    refine aw_region fun K6 hK6 => ?_
    refine aL z_move ?_
    refine aL z_assign ?_
    refine awl_nil (hK6 _ _ ?_)
    clear hK6 K6
    simp [c1] at hq
    subst hq
    refine aw_weak (weak_nilB 0 2 1 1 5 rfl rfl rfl (by decide) (by exact Nat.zero_le _) rfl) ?_
    refine aw_ret ?_
    refine (hret _ _ _ _ _ rfl (.tmp rfl .nil) rfl ?_ (.box rfl rfl (.row rfl .nil)) rfl).1
    rfl
def Fd7.leftM (f : Fd7) : Int := if f.over = true then 0 else if f.pre < 24 then (f.pre : Int) else (f.left.length : Int)
theorem left_over {f : Fd7} (h : (false || f.over) = true) : f.leftM = 0 := if_pos (by simpa using h)
theorem left_pre {f : Fd7} (h : (false || f.over) = false) (h2 : (f.pre : Int) < 24) : f.leftM = (f.pre : Int) := by
  unfold Fd7.leftM; rw [if_neg (by simpa using h), if_pos (by omega)]
theorem left_all {f : Fd7} (h : (false || f.over) = false) (h2 : 24 ≤ (f.pre : Int)) : f.leftM = (f.left.length : Int) := by
  unfold Fd7.leftM; rw [if_neg (by simpa using h), if_neg (by omega)]
theorem con_Left {f : Fd7} (v : Nat) (hl : f.left.length ≤ 1099511627776) : Con Try.prog 14 [.ptr 0 0] (f.ah v) 2 (.ret (.v (.int .i64 f.leftM))) (f.ah (v + 1)) := by
  refine con_of Try.func14 rfl (by show _ ≤ 25; simp) fun X Q hP hnt hnp hret hpan => ?_
  obtain ⟨P0, nt0, w0, K0, S0, np0, pin0, df0⟩ := X
  simp only at hP hnt hnp
  subst hP hnp
  obtain rfl : nt0 = 25 := hnt
  refine aw_region fun K1 hK1 => ?_
  refine aL z_assign ?_
  refine awl_nil (hK1 _ _ ?_)
  clear hK1 K1
  refine aw_seq fun K2 hK2 => ?_
  refine aw_region fun K3 hK3 => ?_
  refine aL z_move ?_
  first
    | refine aL (z_eqlP Try.underlying27) ?_
    | refine aL (z_eqlPN Try.underlying27) ?_
  refine aL z_move ?_
  first
    | refine gL rfl rfl (ev_tmp rfl) (fun hg => z_move) ?_
    | refine hL rfl rfl (ev_tmp rfl) (fun hg => z_move) ?_
  first
    | refine gL rfl rfl (ev_tmp rfl) (fun hg => z_nilCheck) ?_
    | refine hL rfl rfl (ev_tmp rfl) (fun hg => z_nilCheck) ?_
  first
    | refine gL rfl rfl (ev_tmp rfl) (fun hg => z_fieldAddr fo_54_3) ?_
    | refine gL rfl rfl (ev_tmp rfl) (fun hg => z_fieldRef fo_54_3) ?_
    | refine gL rfl rfl (ev_tmp rfl) (fun hg => z_fieldV fo_54_3) ?_
    | refine hL rfl rfl (ev_tmp rfl) (fun hg => z_fieldAddr fo_54_3) ?_
    | refine hL rfl rfl (ev_tmp rfl) (fun hg => z_fieldRef fo_54_3) ?_
    | refine hL rfl rfl (ev_tmp rfl) (fun hg => z_fieldV fo_54_3) ?_
  first
    | refine gL rfl rfl (ev_tmp rfl) (fun hg => z_load sz_4) ?_
    | refine gL rfl rfl (ev_tmp rfl) (fun hg => z_loadRef sz_4) ?_
    | refine gL rfl rfl (ev_tmp rfl) (fun hg => z_loadV sz_4) ?_
    | refine hL rfl rfl (ev_tmp rfl) (fun hg => z_load sz_4) ?_
    | refine hL rfl rfl (ev_tmp rfl) (fun hg => z_loadRef sz_4) ?_
    | refine hL rfl rfl (ev_tmp rfl) (fun hg => z_loadV sz_4) ?_
  refine aL z_or ?_
  refine awl_nil (hK3 _ _ ?_)
  clear hK3 K3
  refine aC (fun r1 c1 => ?_) (fun r1 c1 => ?_)
  · refine aw_region fun K4 hK4 => ?_
    refine aL z_assign ?_
    refine awl_nil (hK4 _ _ ?_)
    clear hK4 K4
    first
      | (have he := left_over r1
         refine aw_weak (fr' := [(2, .v (.int .i64 0))]) (ah' := f.ah v) wK (aw_weak (weak_upV (v + 1) rfl) ?_))
      | (have he := left_pre r1 c2
         refine aw_weak (fr' := [(2, .v (.int .i64 (f.pre : Int)))]) (ah' := f.ah v) wK (aw_weak (weak_upV (v + 1) rfl) ?_))
      | (have he := left_all r1 c2
         refine aw_weak (fr' := [(2, .v (.int .i64 (f.left.length : Int)))]) (ah' := f.ah v) wK (aw_weak (weak_upV (v + 1) rfl) ?_))
    refine aw_ret ?_
    refine (hret _ _ _ _ _ rfl (.tmp rfl .nil) rfl ?_ (.box rfl rfl (.row rfl .nil)) rfl).1
    rw [he]; rfl
  · refine aw_skip ?_
    refine hK2 _ _ ?_
    clear hK2
    refine aw_seq fun K5 hK5 => ?_
    refine aw_region fun K6 hK6 => ?_
    refine aL z_move ?_
    refine aL z_nilCheck ?_
    first
      | refine aL (z_fieldAddr fo_54_1) ?_
      | refine aL (z_fieldRef fo_54_1) ?_
      | refine aL (z_fieldV fo_54_1) ?_
    first
      | refine aL (z_load sz_3) ?_
      | refine aL (z_loadRef sz_3) ?_
      | refine aL (z_loadV sz_3) ?_
    refine aL z_lss ?_
    refine awl_nil (hK6 _ _ ?_)
    clear hK6 K6
    refine aC (fun r2 c2 => ?_) (fun r2 c2 => ?_)
    · refine aw_region fun K7 hK7 => ?_
      refine aL z_move ?_
      refine aL z_nilCheck ?_
      first
        | refine aL (z_fieldAddr fo_54_1) ?_
        | refine aL (z_fieldRef fo_54_1) ?_
        | refine aL (z_fieldV fo_54_1) ?_
      first
        | refine aL (z_load sz_3) ?_
        | refine aL (z_loadRef sz_3) ?_
        | refine aL (z_loadV sz_3) ?_
      refine aL z_assign ?_
      refine awl_nil (hK7 _ _ ?_)
      clear hK7 K7
      first
        | (have he := left_over r1
           refine aw_weak (fr' := [(2, .v (.int .i64 0))]) (ah' := f.ah v) wK (aw_weak (weak_upV (v + 1) rfl) ?_))
        | (have he := left_pre r1 c2
           refine aw_weak (fr' := [(2, .v (.int .i64 (f.pre : Int)))]) (ah' := f.ah v) wK (aw_weak (weak_upV (v + 1) rfl) ?_))
        | (have he := left_all r1 c2
           refine aw_weak (fr' := [(2, .v (.int .i64 (f.left.length : Int)))]) (ah' := f.ah v) wK (aw_weak (weak_upV (v + 1) rfl) ?_))
      refine aw_ret ?_
      refine (hret _ _ _ _ _ rfl (.tmp rfl .nil) rfl ?_ (.box rfl rfl (.row rfl .nil)) rfl).1
      rw [he]; rfl
    · refine aw_skip ?_
      refine hK5 _ _ ?_
      clear hK5
      refine aw_region fun K8 hK8 => ?_
      refine aL z_move ?_
      refine aL z_nilCheck ?_
      first
        | refine aL (z_fieldAddr fo_54_2) ?_
        | refine aL (z_fieldRef fo_54_2) ?_
        | refine aL (z_fieldV fo_54_2) ?_
      first
        | refine aL (z_load sz_24) ?_
        | refine aL (z_loadRef sz_24) ?_
        | refine aL (z_loadV sz_24) ?_
      first
        | refine aL (z_lenB Try.underlying24) ?_
        | refine aL (z_len Try.underlying24) ?_
        | refine aL (z_lenV Try.underlying24) ?_
      refine aL z_assign ?_
      refine awl_nil (hK8 _ _ ?_)
      clear hK8 K8
      first
        | (have he := left_over r1
           refine aw_weak (fr' := [(2, .v (.int .i64 0))]) (ah' := f.ah v) wK (aw_weak (weak_upV (v + 1) rfl) ?_))
        | (have he := left_pre r1 c2
           refine aw_weak (fr' := [(2, .v (.int .i64 (f.pre : Int)))]) (ah' := f.ah v) wK (aw_weak (weak_upV (v + 1) rfl) ?_))
        | (have he := left_all r1 c2
           refine aw_weak (fr' := [(2, .v (.int .i64 (f.left.length : Int)))]) (ah' := f.ah v) wK (aw_weak (weak_upV (v + 1) rfl) ?_))
      refine aw_ret ?_
      refine (hret _ _ _ _ _ rfl (.tmp rfl .nil) rfl ?_ (.box rfl rfl (.row rfl .nil)) rfl).1
      rw [he]; rfl
theorem con_LeftN : Con Try.prog 14 [.v (.lit (.pointer none))] [] 0 (.ret (.v (.int .i64 0))) [] := by
  refine con_of Try.func14 rfl (by show _ ≤ 25; simp) fun X Q hP hnt hnp hret hpan => ?_
  obtain ⟨P0, nt0, w0, K0, S0, np0, pin0, df0⟩ := X
  simp only at hP hnt hnp
  subst hP hnp
  obtain rfl : nt0 = 25 := hnt
  refine aw_region fun K1 hK1 => ?_
  refine aL z_assign ?_
  refine awl_nil (hK1 _ _ ?_)
  clear hK1 K1
  refine aw_seq fun K2 hK2 => ?_
  refine aw_region fun K3 hK3 => ?_
  refine aL z_move ?_
  first
    | refine aL (z_eqlP Try.underlying27) ?_
    | refine aL (z_eqlPN Try.underlying27) ?_
  refine aL z_move ?_
  first
    | refine gL rfl rfl (ev_tmp rfl) (fun hg => z_move) ?_
    | refine hL rfl rfl (ev_tmp rfl) (fun hg => z_move) ?_
  first
    | refine gL rfl rfl (ev_tmp rfl) (fun hg => (show StepU _ _ _ _ .any [] [] from absurd ‹(true == false) = true› (by decide))) ?_
    | refine hL rfl rfl (ev_tmp rfl) (fun hg => (show StepU _ _ _ _ .any [] [] from absurd ‹(true == false) = true› (by decide))) ?_
  first
    | refine gL rfl rfl (ev_tmp rfl) (fun hg => (show StepU _ _ _ _ .any [] [] from absurd ‹(true == false) = true› (by decide))) ?_
    | refine hL rfl rfl (ev_tmp rfl) (fun hg => (show StepU _ _ _ _ .any [] [] from absurd ‹(true == false) = true› (by decide))) ?_
  first
    | refine gL rfl rfl (ev_tmp rfl) (fun hg => (show StepU _ _ _ _ (.v (.bool false)) [] [] from absurd ‹(true == false) = true› (by decide))) ?_
    | refine hL rfl rfl (ev_tmp rfl) (fun hg => (show StepU _ _ _ _ (.v (.bool false)) [] [] from absurd ‹(true == false) = true› (by decide))) ?_
  refine aL z_or ?_
  refine awl_nil (hK3 _ _ ?_)
  clear hK3 K3
  refine aC (fun r1 c1 => ?_) (fun r1 c1 => ?_)
  · refine aw_region fun K4 hK4 => ?_
    refine aL z_assign ?_
    refine awl_nil (hK4 _ _ ?_)
    clear hK4 K4
    refine aw_ret ?_
    refine (hret _ _ _ _ _ rfl (.tmp rfl .nil) rfl ?_ .nil rfl).1
    rfl
  · exact absurd c1 (by decide)
theorem con_Over {f : Fd7} (v : Nat) : Con Try.prog 15 [.ptr 0 0] (f.ah v) 2 (.ret (.v (.bool f.over))) (f.ah (v + 1)) := by
  refine con_of Try.func15 rfl (by show _ ≤ 11; simp) fun X Q hP hnt hnp hret hpan => ?_
  obtain ⟨P0, nt0, w0, K0, S0, np0, pin0, df0⟩ := X
  simp only at hP hnt hnp
  subst hP hnp
  obtain rfl : nt0 = 11 := hnt
  refine aw_region fun K1 hK1 => ?_
  refine aL z_assign ?_
  refine awl_nil (hK1 _ _ ?_)
  clear hK1 K1
  refine aw_region fun K2 hK2 => ?_
  refine aL z_move ?_
  first
    | refine aL (z_eqlP Try.underlying27) ?_
    | refine aL (z_eqlPN Try.underlying27) ?_
  refine aL z_move ?_
  first
    | refine gL rfl rfl (ev_tmp rfl) (fun hg => z_move) ?_
    | refine hL rfl rfl (ev_tmp rfl) (fun hg => z_move) ?_
  first
    | refine gL rfl rfl (ev_tmp rfl) (fun hg => z_nilCheck) ?_
    | refine hL rfl rfl (ev_tmp rfl) (fun hg => z_nilCheck) ?_
  first
    | refine gL rfl rfl (ev_tmp rfl) (fun hg => z_fieldAddr fo_54_3) ?_
    | refine gL rfl rfl (ev_tmp rfl) (fun hg => z_fieldRef fo_54_3) ?_
    | refine gL rfl rfl (ev_tmp rfl) (fun hg => z_fieldV fo_54_3) ?_
    | refine hL rfl rfl (ev_tmp rfl) (fun hg => z_fieldAddr fo_54_3) ?_
    | refine hL rfl rfl (ev_tmp rfl) (fun hg => z_fieldRef fo_54_3) ?_
    | refine hL rfl rfl (ev_tmp rfl) (fun hg => z_fieldV fo_54_3) ?_
  first
    | refine gL rfl rfl (ev_tmp rfl) (fun hg => z_load sz_4) ?_
    | refine gL rfl rfl (ev_tmp rfl) (fun hg => z_loadRef sz_4) ?_
    | refine gL rfl rfl (ev_tmp rfl) (fun hg => z_loadV sz_4) ?_
    | refine hL rfl rfl (ev_tmp rfl) (fun hg => z_load sz_4) ?_
    | refine hL rfl rfl (ev_tmp rfl) (fun hg => z_loadRef sz_4) ?_
    | refine hL rfl rfl (ev_tmp rfl) (fun hg => z_loadV sz_4) ?_
  refine aL z_or ?_
  refine aL z_assign ?_
  refine awl_nil (hK2 _ _ ?_)
  clear hK2 K2
  refine aw_weak (fr' := [(2, .v (.bool f.over))]) (ah' := f.ah v) wK (aw_weak (weak_upV (v + 1) rfl) ?_)
  refine aw_ret ?_
  refine (hret _ _ _ _ _ rfl (.tmp rfl .nil) rfl ?_ (.box rfl rfl (.row rfl .nil)) rfl).1
  rfl
theorem con_OverN : Con Try.prog 15 [.v (.lit (.pointer none))] [] 0 (.ret (.v (.bool true))) [] := by
  refine con_of Try.func15 rfl (by show _ ≤ 11; simp) fun X Q hP hnt hnp hret hpan => ?_
  obtain ⟨P0, nt0, w0, K0, S0, np0, pin0, df0⟩ := X
  simp only at hP hnt hnp
  subst hP hnp
  obtain rfl : nt0 = 11 := hnt
  refine aw_region fun K1 hK1 => ?_
  refine aL z_assign ?_
  refine awl_nil (hK1 _ _ ?_)
  clear hK1 K1
  refine aw_region fun K2 hK2 => ?_
  refine aL z_move ?_
  first
    | refine aL (z_eqlP Try.underlying27) ?_
    | refine aL (z_eqlPN Try.underlying27) ?_
  refine aL z_move ?_
  first
    | refine gL rfl rfl (ev_tmp rfl) (fun hg => z_move) ?_
    | refine hL rfl rfl (ev_tmp rfl) (fun hg => z_move) ?_
  first
    | refine gL rfl rfl (ev_tmp rfl) (fun hg => (show StepU _ _ _ _ .any [] [] from absurd ‹(true == false) = true› (by decide))) ?_
    | refine hL rfl rfl (ev_tmp rfl) (fun hg => (show StepU _ _ _ _ .any [] [] from absurd ‹(true == false) = true› (by decide))) ?_
  first
    | refine gL rfl rfl (ev_tmp rfl) (fun hg => (show StepU _ _ _ _ .any [] [] from absurd ‹(true == false) = true› (by decide))) ?_
    | refine hL rfl rfl (ev_tmp rfl) (fun hg => (show StepU _ _ _ _ .any [] [] from absurd ‹(true == false) = true› (by decide))) ?_
  first
    | refine gL rfl rfl (ev_tmp rfl) (fun hg => (show StepU _ _ _ _ (.v (.bool false)) [] [] from absurd ‹(true == false) = true› (by decide))) ?_
    | refine hL rfl rfl (ev_tmp rfl) (fun hg => (show StepU _ _ _ _ (.v (.bool false)) [] [] from absurd ‹(true == false) = true› (by decide))) ?_
  refine aL z_or ?_
  refine aL z_assign ?_
  refine awl_nil (hK2 _ _ ?_)
  clear hK2 K2
  refine aw_ret ?_
  refine (hret _ _ _ _ _ rfl (.tmp rfl .nil) rfl ?_ .nil rfl).1
  rfl
end Go.Proofs.Ytigodfnckjidoaa
/- Layer 7: the preface; the items' function. No condition. -/
namespace Go.Proofs.Ytigodfnckjidoaa
set_option linter.all false
open Go Go.RowKit
set_option maxRecDepth 10000
set_option maxHeartbeats 4000000
/-- A feed's cells while its items are told. -/
abbrev fd2 (m p : Int) (l : List UInt8) (ov : Bool) : List D := [.v (.int .i64 m), .v (.int .i64 p), .v (.sl (bs l)), .v (.bool ov)]
theorem con_items {m p : Int} {l : List UInt8} {ov : Bool} : Con Try.prog 20 [.ptr 0 0] [(0, .box (fd2 m p l ov)), (1, rw1 4 [])] 2 (.ret (.fn (.func 29) [] [.ptr 2 0])) [(0, .box (fd2 m p l ov)), (1, rw1 5 []), (2, .box [.ptr 0 0])] := by
  refine con_of Try.func20 rfl (by show _ ≤ 4; simp) fun X Q hP hnt hnp hret hpan => ?_
  obtain ⟨P0, nt0, w0, K0, S0, np0, pin0, df0⟩ := X
  simp only at hP hnt hnp
  subst hP hnp
  obtain rfl : nt0 = 4 := hnt
  refine aw_region fun K1 hK1 => ?_
  refine aL (z_box 2) ?_
  refine aL z_assign ?_
  refine awl_nil (hK1 _ _ ?_)
  clear hK1 K1
  refine aw_region fun K2 hK2 => ?_
  refine aL (z_makeFn .nil (eC .nil)) ?_
  refine aL z_assign ?_
  refine awl_nil (hK2 _ _ ?_)
  clear hK2 K2
  refine aw_weak (fr' := [(2, .fn (.func 29) [] [.ptr 2 0])]) (ah' := [(0, .box (fd2 m p l ov)), (1, rw1 5 []), (2, .box [.ptr 0 0])]) (Weak.trans (weak_rever 1 5 rfl) wK) ?_
  refine aw_ret ?_
  refine (hret _ _ _ _ _ rfl (.tmp rfl .nil) rfl ?_ (.box rfl rfl (.row rfl (.box rfl rfl .nil))) rfl).1
  rfl
theorem greet_end {q k : Nat} {bb : List UInt8} {o : Option (List UInt8)} (h : greetM q bb = (k, o)) (hc : bb = [] ∨ 24 ≤ q) : q = k ∧ some bb = o := by
  cases bb with
  | nil => exact ⟨congrArg Prod.fst h, congrArg Prod.snd h⟩
  | cons a r =>
    have h24 : ¬ q < 24 := by
      rcases hc with h | h
      · cases h
      · omega
    unfold greetM at h
    rw [if_neg h24] at h
    exact ⟨congrArg Prod.fst h, congrArg Prod.snd h⟩
theorem greet_bad {q k : Nat} {a : UInt8} {r : List UInt8} {o : Option (List UInt8)} (h : greetM q (a :: r) = (k, o)) (hq : q < 24) (hne : ¬ preL[q]? = some a) : q = k ∧ none = o := by
  unfold greetM at h
  rw [if_pos hq, if_neg hne] at h
  exact ⟨congrArg Prod.fst h, congrArg Prod.snd h⟩
theorem greet_on {q k : Nat} {a : UInt8} {r : List UInt8} {o : Option (List UInt8)} (h : greetM q (a :: r) = (k, o)) (hq : q < 24) (he : preL[q]? = some a) : greetM (q + 1) r = (k, o) := by
  unfold greetM at h
  rwa [if_pos hq, if_pos he] at h
/-- What greet answers. -/
def gOut (o : Option (List UInt8)) : Out := match o with | none => .ret (.tup [NIL, .v (.bool false)]) | some r => .ret (.tup [.v (.sl (bs r)), .v (.bool true)])
theorem con_greet {m : Int} {p v n : Nat} {l b : List UInt8} (hp : p ≤ 24) (hb : b.length ≤ 1099511627776) {k : Nat} {o : Option (List UInt8)} (hg : greetM p b = (k, o)) : Con Try.prog 19 [.ptr 0 0, .v (.sl (bs b))] [(0, .box (fdC m (p : Int) v n false)), (1, rw1 v l)] 2 (gOut o) [(0, .box (fdC m (k : Int) (v + 1) n false)), (1, rw1 (v + 1) l)] := by
  refine con_of Try.func19 rfl (by show _ ≤ 35; simp) fun X Q hP hnt hnp hret hpan => ?_
  obtain ⟨P0, nt0, w0, K0, S0, np0, pin0, df0⟩ := X
  simp only at hP hnt hnp
  subst hP hnp
  obtain rfl : nt0 = 35 := hnt
  refine aw_region fun K1 hK1 => ?_
  refine aL z_assign ?_
  refine aL z_assign ?_
  refine awl_nil (hK1 _ _ ?_)
  clear hK1 K1
  refine aw_seq fun K2 hK2 => ?_
  refine aw_block ?_
  refine aw_loop (α := {x : Nat × List UInt8 // greetM x.1 x.2 = (k, o) ∧ x.1 ≤ 24 ∧ x.2.length ≤ 1099511627776}) (fun x => ([(0, .ptr 0 0), (1, .v (.sl (bs x.1.2)))], [(0, .box (fdC m (x.1.1 : Int) v n false)), (1, rw1 v l)])) (fun x => x.1.2.length) ⟨(p, b), hg, hp, hb⟩ ?_ ?_
  · dsimp only
    exact wK
  · rintro ⟨⟨q, bb⟩, hq, hk, hl⟩ K3 hK3
    dsimp only
    refine aw_seq fun K4 hK4 => ?_
    refine aw_region fun K5 hK5 => ?_
    refine aL z_move ?_
    refine aL z_nilCheck ?_
    first
      | refine aL (z_fieldAddr fo_54_1) ?_
      | refine aL (z_fieldRef fo_54_1) ?_
      | refine aL (z_fieldV fo_54_1) ?_
    first
      | refine aL (z_load sz_3) ?_
      | refine aL (z_loadRef sz_3) ?_
      | refine aL (z_loadV sz_3) ?_
    refine aL z_lss ?_
    refine aL z_move ?_
    first
      | refine gL rfl rfl (ev_tmp rfl) (fun hg => z_move) ?_
      | refine hL rfl rfl (ev_tmp rfl) (fun hg => z_move) ?_
    first
      | refine gL rfl rfl (ev_tmp rfl) (fun hg => z_lenB Try.underlying24) ?_
      | refine gL rfl rfl (ev_tmp rfl) (fun hg => z_len Try.underlying24) ?_
      | refine gL rfl rfl (ev_tmp rfl) (fun hg => z_lenV Try.underlying24) ?_
      | refine hL rfl rfl (ev_tmp rfl) (fun hg => z_lenB Try.underlying24) ?_
      | refine hL rfl rfl (ev_tmp rfl) (fun hg => z_len Try.underlying24) ?_
      | refine hL rfl rfl (ev_tmp rfl) (fun hg => z_lenV Try.underlying24) ?_
    first
      | refine gL rfl rfl (ev_tmp rfl) (fun hg => z_gtr) ?_
      | refine hL rfl rfl (ev_tmp rfl) (fun hg => z_gtr) ?_
    refine aL z_and ?_
    refine awl_nil (hK5 _ _ ?_)
    clear hK5 K5
    refine aC (fun r1 c1 => ?_) (fun r1 c1 => ?_)
    · refine aw_skip ?_
      refine hK4 _ _ ?_
      clear hK4
      refine aw_block ?_
      refine aw_seq fun K6 hK6 => ?_
      refine aw_regionD mx_all (by kernel_rfl) fun K7 hK7 => ?_
      obtain ⟨a, r, rfl⟩ : ∃ a r, bb = a :: r := by
        cases bb with
        | nil => simp at c1
        | cons a r => exact ⟨a, r, rfl⟩
      have hq24 : q < 24 := by have := c1.1; omega
      have hi : (bs (a :: r))[0]? = some [.int .u8 (a.toNat : Int)] := rfl
      obtain ⟨z, hz⟩ : ∃ z, preL[q]? = some z := ⟨preL[q]'(by exact hq24), List.getElem?_eq_getElem _⟩
      refine aD z_move ?_
      first
        | refine aD (z_indexAddr Try.underlying24 sz_5) ?_
        | refine aD (z_indexAddrV Try.underlying24 sz_5) ?_
      first
        | refine aD (z_load sz_5) ?_
        | refine aD (z_loadRef sz_5) ?_
        | refine aD (z_loadV sz_5) ?_
      refine aD z_move ?_
      refine aD z_nilCheck ?_
      first
        | refine aD (z_fieldAddr fo_54_1) ?_
        | refine aD (z_fieldRef fo_54_1) ?_
        | refine aD (z_fieldV fo_54_1) ?_
      first
        | refine aD (z_load sz_3) ?_
        | refine aD (z_loadRef sz_3) ?_
        | refine aD (z_loadV sz_3) ?_
      refine aD (z_indexS Try.underlying9) ?_
      refine aD z_neq ?_
      refine awd_nil (by kernel_rfl) (hK7 _ _ ?_)
      clear hK7 K7
      refine aC (fun r2 c2 => ?_) (fun r2 c2 => ?_)
      · refine aw_region fun K8 hK8 => ?_
        refine aL z_assign ?_
        refine aL z_assign ?_
        refine awl_nil (hK8 _ _ ?_)
        clear hK8 K8
        first
          | (have hh := hq24
             have hc : ¬ preL[q]? = some a := fun he => c2 (by rw [hz] at he; injection he with he; rw [he])
             have h2 : q = k ∧ none = o := greet_bad hq hq24 hc
             obtain ⟨e1, e2⟩ := h2
             subst e1; subst e2
             refine aw_weak (fr' := [(4, NIL), (5, .v (.bool false))]) (ah' := [(0, .box (fdC m (q : Int) v n false)), (1, rw1 v l)]) wK (aw_weak (weak_upV (v + 1) rfl) ?_))
          | (have hc : bb = [] ∨ 24 ≤ q := (by
               rcases c1 with h | h
               · right; omega
               · left; exact List.eq_nil_of_length_eq_zero (by omega))
             have h2 : q = k ∧ some bb = o := greet_end hq hc
             obtain ⟨e1, e2⟩ := h2
             subst e1; subst e2
             refine aw_weak (fr' := [(4, .v (.sl (bs bb))), (5, .v (.bool true))]) (ah' := [(0, .box (fdC m (q : Int) v n false)), (1, rw1 v l)]) wK (aw_weak (weak_upV (v + 1) rfl) ?_))
        refine aw_ret ?_
        refine (hret _ _ _ _ _ rfl (.tmp rfl (.tmp rfl .nil)) rfl ?_ (.box rfl rfl (.row rfl .nil)) rfl).1
        rfl
      · refine aw_skip ?_
        refine hK6 _ _ ?_
        clear hK6
        refine aw_region fun K9 hK9 => ?_
        refine aL z_move ?_
        refine aL z_nilCheck ?_
        first
          | refine aL (z_fieldAddr fo_54_1) ?_
          | refine aL (z_fieldRef fo_54_1) ?_
          | refine aL (z_fieldV fo_54_1) ?_
        first
          | refine aL (z_load sz_3) ?_
          | refine aL (z_loadRef sz_3) ?_
          | refine aL (z_loadV sz_3) ?_
        refine aL z_add ?_
        refine aL z_nilCheck ?_
        first
          | refine aL (z_fieldAddr fo_54_1) ?_
          | refine aL (z_fieldRef fo_54_1) ?_
          | refine aL (z_fieldV fo_54_1) ?_
        refine aL (z_store sz_3) ?_
        refine awl_nil (hK9 _ _ ?_)
        clear hK9 K9
        refine aw_region_last ?_
        refine aL z_move ?_
        refine aL (z_slice Try.underlying24 sz_5) ?_
        refine aL z_assign ?_
        refine awl_nil ?_
        have e : z = a := UInt8.toNat_inj.1 (by omega)
        subst e
        have hl2 : r.length ≤ 1099511627776 := by simp at hl; omega
        refine hK3 _ _ ⟨(q + 1, r), greet_on hq hq24 hz, by omega, hl2⟩ (by simp) ?_
        exact wK
    · refine aw_exit ?_
      refine hK2 _ _ ?_
      clear hK2
      refine aw_region fun K10 hK10 => ?_
      refine aL z_move ?_
      refine aL z_assign ?_
      refine aL z_assign ?_
      refine awl_nil (hK10 _ _ ?_)
      clear hK10 K10
      first
        | (have hh := hq24
           have hc : ¬ preL[q]? = some a := fun he => c2 (by rw [hz] at he; injection he with he; rw [he])
           have h2 : q = k ∧ none = o := greet_bad hq hq24 hc
           obtain ⟨e1, e2⟩ := h2
           subst e1; subst e2
           refine aw_weak (fr' := [(4, NIL), (5, .v (.bool false))]) (ah' := [(0, .box (fdC m (q : Int) v n false)), (1, rw1 v l)]) wK (aw_weak (weak_upV (v + 1) rfl) ?_))
        | (have hc : bb = [] ∨ 24 ≤ q := (by
             rcases c1 with h | h
             · right; omega
             · left; exact List.eq_nil_of_length_eq_zero (by omega))
           have h2 : q = k ∧ some bb = o := greet_end hq hc
           obtain ⟨e1, e2⟩ := h2
           subst e1; subst e2
           refine aw_weak (fr' := [(4, .v (.sl (bs bb))), (5, .v (.bool true))]) (ah' := [(0, .box (fdC m (q : Int) v n false)), (1, rw1 v l)]) wK (aw_weak (weak_upV (v + 1) rfl) ?_))
      refine aw_ret ?_
      refine (hret _ _ _ _ _ rfl (.tmp rfl (.tmp rfl .nil)) rfl ?_ (.box rfl rfl (.row rfl .nil)) rfl).1
      rfl
end Go.Proofs.Ytigodfnckjidoaa
