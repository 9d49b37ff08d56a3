/- Layer 7: what is left, is it over: of a feed that is lent; the law's awake. No condition. -/
import Derived.Test.YtigodfnckjidoaaChI
import Derived.Test.YtigodfnckjidoaaBa
namespace Go.Proofs.Ytigodfnckjidoaa
set_option linter.all false
open Go Go.RowKit
set_option maxRecDepth 10000
set_option maxHeartbeats 4000000
abbrev Fd7.vs (f : Fd7) : List V := [.int .i64 f.most, .int .i64 (f.pre : Int), .sl (bs f.left), .bool f.over]
theorem con_LeftR {f : Fd7} : Con Try.prog 14 [.ref f.vs] [] 0 (.ret (.v (.int .i64 f.leftM))) [] := by
  have hbl := bs_length f.left
  refine con_of Try.func14 rfl (by show _ ≤ 25; simp) fun X Q hP hnt hnp hret hpan => ?_
  obtain ⟨P0, nt0, w0, K0, S0, np0, pin0, df0⟩ := X
  simp only at hP hnt hnp
  subst hP hnp
  obtain rfl : nt0 = 25 := hnt
  refine aw_region fun K1 hK1 => ?_
  refine aL z_assign ?_
  refine awl_nil (hK1 _ _ ?_)
  clear hK1 K1
  refine aw_seq fun K2 hK2 => ?_
  refine aw_region fun K3 hK3 => ?_
  refine aL z_move ?_
  refine aL (z_eqlPR Try.underlying27) ?_
  refine aL z_move ?_
  first
    | refine gL rfl rfl (ev_tmp rfl) (fun hg => z_move) ?_
    | refine hL rfl rfl (ev_tmp rfl) (fun hg => z_move) ?_
  first
    | refine gL rfl rfl (ev_tmp rfl) (fun hg => z_nilCheckR) ?_
    | refine hL rfl rfl (ev_tmp rfl) (fun hg => z_nilCheckR) ?_
  first
    | refine gL rfl rfl (ev_tmp rfl) (fun hg => z_fieldAddr fo_54_3) ?_
    | refine gL rfl rfl (ev_tmp rfl) (fun hg => z_fieldRef fo_54_3) ?_
    | refine gL rfl rfl (ev_tmp rfl) (fun hg => z_fieldV fo_54_3) ?_
    | refine hL rfl rfl (ev_tmp rfl) (fun hg => z_fieldAddr fo_54_3) ?_
    | refine hL rfl rfl (ev_tmp rfl) (fun hg => z_fieldRef fo_54_3) ?_
    | refine hL rfl rfl (ev_tmp rfl) (fun hg => z_fieldV fo_54_3) ?_
  first
    | refine gL rfl rfl (ev_tmp rfl) (fun hg => z_load sz_4) ?_
    | refine gL rfl rfl (ev_tmp rfl) (fun hg => z_loadRef sz_4) ?_
    | refine gL rfl rfl (ev_tmp rfl) (fun hg => z_loadV sz_4) ?_
    | refine hL rfl rfl (ev_tmp rfl) (fun hg => z_load sz_4) ?_
    | refine hL rfl rfl (ev_tmp rfl) (fun hg => z_loadRef sz_4) ?_
    | refine hL rfl rfl (ev_tmp rfl) (fun hg => z_loadV sz_4) ?_
  refine aL z_or ?_
  refine awl_nil (hK3 _ _ ?_)
  clear hK3 K3
  refine aC (fun r1 c1 => ?_) (fun r1 c1 => ?_)
  · refine aw_region fun K4 hK4 => ?_
    refine aL z_assign ?_
    refine awl_nil (hK4 _ _ ?_)
    clear hK4 K4
    refine aw_ret ?_
    refine (hret _ _ _ _ _ rfl (.tmp rfl .nil) rfl ?_ .nil rfl).1
    first
      | (rw [left_over r1]; rfl)
      | (rw [left_pre r1 c2]; rfl)
      | (rw [left_all r1 c2, ← hbl]; rfl)
  · refine aw_skip ?_
    refine hK2 _ _ ?_
    clear hK2
    refine aw_seq fun K5 hK5 => ?_
    refine aw_region fun K6 hK6 => ?_
    refine aL z_move ?_
    refine aL z_nilCheckR ?_
    first
      | refine aL (z_fieldAddr fo_54_1) ?_
      | refine aL (z_fieldRef fo_54_1) ?_
      | refine aL (z_fieldV fo_54_1) ?_
    first
      | refine aL (z_load sz_3) ?_
      | refine aL (z_loadRef sz_3) ?_
      | refine aL (z_loadV sz_3) ?_
    refine aL z_lss ?_
    refine awl_nil (hK6 _ _ ?_)
    clear hK6 K6
    refine aC (fun r2 c2 => ?_) (fun r2 c2 => ?_)
    · refine aw_region fun K7 hK7 => ?_
      refine aL z_move ?_
      refine aL z_nilCheckR ?_
      first
        | refine aL (z_fieldAddr fo_54_1) ?_
        | refine aL (z_fieldRef fo_54_1) ?_
        | refine aL (z_fieldV fo_54_1) ?_
      first
        | refine aL (z_load sz_3) ?_
        | refine aL (z_loadRef sz_3) ?_
        | refine aL (z_loadV sz_3) ?_
      refine aL z_assign ?_
      refine awl_nil (hK7 _ _ ?_)
      clear hK7 K7
      refine aw_ret ?_
      refine (hret _ _ _ _ _ rfl (.tmp rfl .nil) rfl ?_ .nil rfl).1
      first
        | (rw [left_over r1]; rfl)
        | (rw [left_pre r1 c2]; rfl)
        | (rw [left_all r1 c2, ← hbl]; rfl)
    · refine aw_skip ?_
      refine hK5 _ _ ?_
      clear hK5
      refine aw_region fun K8 hK8 => ?_
      refine aL z_move ?_
      refine aL z_nilCheckR ?_
      first
        | refine aL (z_fieldAddr fo_54_2) ?_
        | refine aL (z_fieldRef fo_54_2) ?_
        | refine aL (z_fieldV fo_54_2) ?_
      first
        | refine aL (z_load sz_24) ?_
        | refine aL (z_loadRef sz_24) ?_
        | refine aL (z_loadV sz_24) ?_
      first
        | refine aL (z_lenB Try.underlying24) ?_
        | refine aL (z_len Try.underlying24) ?_
        | refine aL (z_lenV Try.underlying24) ?_
      refine aL z_assign ?_
      refine awl_nil (hK8 _ _ ?_)
      clear hK8 K8
      refine aw_ret ?_
      refine (hret _ _ _ _ _ rfl (.tmp rfl .nil) rfl ?_ .nil rfl).1
      first
        | (rw [left_over r1]; rfl)
        | (rw [left_pre r1 c2]; rfl)
        | (rw [left_all r1 c2, ← hbl]; rfl)
theorem con_OverR {f : Fd7} : Con Try.prog 15 [.ref f.vs] [] 0 (.ret (.v (.bool f.over))) [] := by
  refine con_of Try.func15 rfl (by show _ ≤ 11; simp) fun X Q hP hnt hnp hret hpan => ?_
  obtain ⟨P0, nt0, w0, K0, S0, np0, pin0, df0⟩ := X
  simp only at hP hnt hnp
  subst hP hnp
  obtain rfl : nt0 = 11 := hnt
  refine aw_region fun K1 hK1 => ?_
  refine aL z_assign ?_
  refine awl_nil (hK1 _ _ ?_)
  clear hK1 K1
  refine aw_region fun K2 hK2 => ?_
  refine aL z_move ?_
  refine aL (z_eqlPR Try.underlying27) ?_
  refine aL z_move ?_
  first
    | refine gL rfl rfl (ev_tmp rfl) (fun hg => z_move) ?_
    | refine hL rfl rfl (ev_tmp rfl) (fun hg => z_move) ?_
  first
    | refine gL rfl rfl (ev_tmp rfl) (fun hg => z_nilCheckR) ?_
    | refine hL rfl rfl (ev_tmp rfl) (fun hg => z_nilCheckR) ?_
  first
    | refine gL rfl rfl (ev_tmp rfl) (fun hg => z_fieldAddr fo_54_3) ?_
    | refine gL rfl rfl (ev_tmp rfl) (fun hg => z_fieldRef fo_54_3) ?_
    | refine gL rfl rfl (ev_tmp rfl) (fun hg => z_fieldV fo_54_3) ?_
    | refine hL rfl rfl (ev_tmp rfl) (fun hg => z_fieldAddr fo_54_3) ?_
    | refine hL rfl rfl (ev_tmp rfl) (fun hg => z_fieldRef fo_54_3) ?_
    | refine hL rfl rfl (ev_tmp rfl) (fun hg => z_fieldV fo_54_3) ?_
  first
    | refine gL rfl rfl (ev_tmp rfl) (fun hg => z_load sz_4) ?_
    | refine gL rfl rfl (ev_tmp rfl) (fun hg => z_loadRef sz_4) ?_
    | refine gL rfl rfl (ev_tmp rfl) (fun hg => z_loadV sz_4) ?_
    | refine hL rfl rfl (ev_tmp rfl) (fun hg => z_load sz_4) ?_
    | refine hL rfl rfl (ev_tmp rfl) (fun hg => z_loadRef sz_4) ?_
    | refine hL rfl rfl (ev_tmp rfl) (fun hg => z_loadV sz_4) ?_
  refine aL z_or ?_
  refine aL z_assign ?_
  refine awl_nil (hK2 _ _ ?_)
  clear hK2 K2
  refine aw_ret ?_
  refine (hret _ _ _ _ _ rfl (.tmp rfl .nil) rfl ?_ .nil rfl).1
  rfl
end Go.Proofs.Ytigodfnckjidoaa
/- Layer 7: a feed that is new; the law's awake. No condition. -/
namespace Go.Proofs.Ytigodfnckjidoaa
set_option linter.all false
open Go Go.RowKit
set_option maxRecDepth 10000
set_option maxHeartbeats 4000000
def Fd7.new (m : Int) (p : Bool) : Fd7 := ⟨max m 0, if p = true then 0 else 24, [], false⟩
theorem con_NewF {m : Int} {p : Bool} {f : Fd7} (hf : Fd7.new m p = f) : Con Try.prog 10 [.v (.int .i64 m), .v (.bool p)] [] 0 (.ret (.ptr 0 0)) (f.ah 0) := by
  subst hf
  have h := con_New (m := m) (p := p) (q := ((if p = true then 0 else 24 : Nat) : Int)) (by cases p <;> rfl)
  exact h
theorem con_TakeE {f f' : Fd7} {b : List UInt8} {its : List Itm} (he : f.take b = (its, f')) (v : Nat) (hp : f.pre ≤ 24) (hb : f.left.length + b.length ≤ 1000000000) : Con Try.prog 11 [.ptr 0 0, .v (.sl (bs b))] (f.ah v) 2 (.ret (.v (.sl (itV its)))) (f'.ah (v + 1)) := by
  have h := con_Take (f := f) (b := b) v hp hb
  rw [he] at h; exact h
abbrev wI : Itm := ⟨{ Fr.nil with ty := 4, fl := 1 }, Flt.no⟩
theorem awake_1 : Fd7.take ⟨16384, 24, [], false⟩ [0, 0, 0, 4] = ([], ⟨16384, 24, [0, 0, 0, 4], false⟩) := rfl
theorem awake_2 : Fd7.take ⟨16384, 24, [0, 0, 0, 4], false⟩ [1, 0, 0, 0, 0] = ([wI], ⟨16384, 24, [], false⟩) := rfl
/-- What a feed's lending wants to know. -/
theorem lentF {f : Fd7} {v : Nat} : Lent 1 v (bs f.left) (fdC f.most (f.pre : Int) v f.left.length f.over) (f.vs.map .v) :=
  .same rfl (.same rfl (.view (by have := cut_all (bs f.left); rwa [bs_length] at this) (.same rfl .nil)))
theorem con_awake : Con Try.prog 8 [] [] 0 (.ret (.v (.bool true))) [] := by
  have hi : (itV [wI])[0]? = some wI.vs := rfl
  refine con_of Try.func8 rfl (by show _ ≤ 46; simp) fun X Q hP hnt hnp hret hpan => ?_
  obtain ⟨P0, nt0, w0, K0, S0, np0, pin0, df0⟩ := X
  simp only at hP hnt hnp
  subst hP hnp
  obtain rfl : nt0 = 46 := hnt
  refine aw_region fun K1 hK1 => ?_
  refine aL z_assign ?_
  refine awl_nil (hK1 _ _ ?_)
  clear hK1 K1
  refine aw_region fun K2 hK2 => ?_
  refine aL (z_callG [0, 1] (eC (eC .nil)) en_10 (con_NewF (f := ⟨16384, 24, [], false⟩) rfl) .nil) ?_
  refine aL z_assign ?_
  refine awl_nil (hK2 _ _ ?_)
  clear hK2 K2
  refine aw_seq fun K3 hK3 => ?_
  refine aw_region fun K4 hK4 => ?_
  refine aL z_move ?_
  first
    | refine aL (z_eqlP Try.underlying27) ?_
    | refine aL (z_eqlPN Try.underlying27) ?_
  refine awl_nil (hK4 _ _ ?_)
  clear hK4 K4
  refine aC (fun r1 c1 => ?_) (fun r1 c1 => ?_)
  · exact absurd c1 (by decide)
  · refine aw_skip ?_
    refine hK3 _ _ ?_
    clear hK3
    refine aw_region fun K5 hK5 => ?_
    refine aL z_move ?_
    refine aL (z_lits (pC (pC (pC (pC .nil)))) Try.underlying24 sz_5 zc_5 zl_5 (c := bs [0, 0, 0, 4])) ?_
    refine aL (z_callG [0, 1] (eC (eC .nil)) en_11 (con_TakeE awake_1 0 (by decide) (by decide)) (pA (pA .nil))) ?_
    refine aL z_assign ?_
    refine awl_nil (hK5 _ _ ?_)
    clear hK5 K5
    refine aw_region fun K6 hK6 => ?_
    refine aL z_move ?_
    refine aL (z_callF 0 1 en_14 con_LeftR (lentF (f := ⟨16384, 24, [0, 0, 0, 4], false⟩))) ?_
    refine aL z_assign ?_
    refine awl_nil (hK6 _ _ ?_)
    clear hK6 K6
    refine aw_region fun K7 hK7 => ?_
    refine aL z_move ?_
    refine aL (z_lits (pC (pC (pC (pC (pC .nil))))) Try.underlying24 sz_5 zc_5 zl_5 (c := bs [1, 0, 0, 0, 0])) ?_
    refine aL (z_callG [0, 1] (eC (eC .nil)) en_11 (con_TakeE awake_2 1 (by decide) (by decide)) (pA (pA .nil))) ?_
    refine aL z_assign ?_
    refine awl_nil (hK7 _ _ ?_)
    clear hK7 K7
    refine aw_region fun K8 hK8 => ?_
    refine aL z_move ?_
    first
      | refine aL (z_lenB Try.underlying29) ?_
      | refine aL (z_len Try.underlying29) ?_
      | refine aL (z_lenV Try.underlying29) ?_
    refine aL z_eql ?_
    refine aL z_move ?_
    first
      | refine gL rfl rfl (ev_tmp rfl) (fun hg => z_move) ?_
      | refine hL rfl rfl (ev_tmp rfl) (fun hg => z_move) ?_
    first
      | refine gL rfl rfl (ev_tmp rfl) (fun hg => z_eql) ?_
      | refine hL rfl rfl (ev_tmp rfl) (fun hg => z_eql) ?_
    refine aL z_and ?_
    refine aL z_move ?_
    first
      | refine gL rfl rfl (ev_tmp rfl) (fun hg => z_move) ?_
      | refine hL rfl rfl (ev_tmp rfl) (fun hg => z_move) ?_
    first
      | refine gL rfl rfl (ev_tmp rfl) (fun hg => z_lenB Try.underlying29) ?_
      | refine gL rfl rfl (ev_tmp rfl) (fun hg => z_len Try.underlying29) ?_
      | refine gL rfl rfl (ev_tmp rfl) (fun hg => z_lenV Try.underlying29) ?_
      | refine hL rfl rfl (ev_tmp rfl) (fun hg => z_lenB Try.underlying29) ?_
      | refine hL rfl rfl (ev_tmp rfl) (fun hg => z_len Try.underlying29) ?_
      | refine hL rfl rfl (ev_tmp rfl) (fun hg => z_lenV Try.underlying29) ?_
    first
      | refine gL rfl rfl (ev_tmp rfl) (fun hg => z_eql) ?_
      | refine hL rfl rfl (ev_tmp rfl) (fun hg => z_eql) ?_
    refine aL z_and ?_
    refine aL z_move ?_
    first
      | refine gL rfl rfl (ev_tmp rfl) (fun hg => z_move) ?_
      | refine hL rfl rfl (ev_tmp rfl) (fun hg => z_move) ?_
    first
      | refine gL rfl rfl (ev_tmp rfl) (fun hg => z_indexAddr Try.underlying29 sz_42) ?_
      | refine gL rfl rfl (ev_tmp rfl) (fun hg => z_indexAddrV Try.underlying29 sz_42) ?_
      | refine hL rfl rfl (ev_tmp rfl) (fun hg => z_indexAddr Try.underlying29 sz_42) ?_
      | refine hL rfl rfl (ev_tmp rfl) (fun hg => z_indexAddrV Try.underlying29 sz_42) ?_
    first
      | refine gL rfl rfl (ev_tmp rfl) (fun hg => z_fieldAddr fo_42_0) ?_
      | refine gL rfl rfl (ev_tmp rfl) (fun hg => z_fieldRef fo_42_0) ?_
      | refine gL rfl rfl (ev_tmp rfl) (fun hg => z_fieldV fo_42_0) ?_
      | refine hL rfl rfl (ev_tmp rfl) (fun hg => z_fieldAddr fo_42_0) ?_
      | refine hL rfl rfl (ev_tmp rfl) (fun hg => z_fieldRef fo_42_0) ?_
      | refine hL rfl rfl (ev_tmp rfl) (fun hg => z_fieldV fo_42_0) ?_
    first
      | refine gL rfl rfl (ev_tmp rfl) (fun hg => z_fieldAddr fo_40_0) ?_
      | refine gL rfl rfl (ev_tmp rfl) (fun hg => z_fieldRef fo_40_0) ?_
      | refine gL rfl rfl (ev_tmp rfl) (fun hg => z_fieldV fo_40_0) ?_
      | refine hL rfl rfl (ev_tmp rfl) (fun hg => z_fieldAddr fo_40_0) ?_
      | refine hL rfl rfl (ev_tmp rfl) (fun hg => z_fieldRef fo_40_0) ?_
      | refine hL rfl rfl (ev_tmp rfl) (fun hg => z_fieldV fo_40_0) ?_
    first
      | refine gL rfl rfl (ev_tmp rfl) (fun hg => z_load sz_3) ?_
      | refine gL rfl rfl (ev_tmp rfl) (fun hg => z_loadRef sz_3) ?_
      | refine gL rfl rfl (ev_tmp rfl) (fun hg => z_loadV sz_3) ?_
      | refine hL rfl rfl (ev_tmp rfl) (fun hg => z_load sz_3) ?_
      | refine hL rfl rfl (ev_tmp rfl) (fun hg => z_loadRef sz_3) ?_
      | refine hL rfl rfl (ev_tmp rfl) (fun hg => z_loadV sz_3) ?_
    first
      | refine gL rfl rfl (ev_tmp rfl) (fun hg => z_eql) ?_
      | refine hL rfl rfl (ev_tmp rfl) (fun hg => z_eql) ?_
    refine aL z_and ?_
    refine aL z_move ?_
    first
      | refine gL rfl rfl (ev_tmp rfl) (fun hg => z_move) ?_
      | refine hL rfl rfl (ev_tmp rfl) (fun hg => z_move) ?_
    first
      | refine gL rfl rfl (ev_tmp rfl) (fun hg => z_callF 0 1 en_14 con_LeftR (lentF (f := ⟨16384, 24, [], false⟩))) ?_
      | refine hL rfl rfl (ev_tmp rfl) (fun hg => z_callF 0 1 en_14 con_LeftR (lentF (f := ⟨16384, 24, [], false⟩))) ?_
    first
      | refine gL rfl rfl (ev_tmp rfl) (fun hg => z_eql) ?_
      | refine hL rfl rfl (ev_tmp rfl) (fun hg => z_eql) ?_
    refine aL z_and ?_
    refine aL z_move ?_
    first
      | refine gL rfl rfl (ev_tmp rfl) (fun hg => z_move) ?_
      | refine hL rfl rfl (ev_tmp rfl) (fun hg => z_move) ?_
    first
      | refine gL rfl rfl (ev_tmp rfl) (fun hg => z_callF 0 1 en_15 con_OverR (lentF (f := ⟨16384, 24, [], false⟩))) ?_
      | refine hL rfl rfl (ev_tmp rfl) (fun hg => z_callF 0 1 en_15 con_OverR (lentF (f := ⟨16384, 24, [], false⟩))) ?_
    first
      | refine gL rfl rfl (ev_tmp rfl) (fun hg => z_not) ?_
      | refine hL rfl rfl (ev_tmp rfl) (fun hg => z_not) ?_
    refine aL z_and ?_
    refine aL z_assign ?_
    refine awl_nil (hK8 _ _ ?_)
    clear hK8 K8
    refine aw_ret ?_
    refine (hret _ _ _ _ _ rfl (.tmp rfl .nil) rfl ?_ .nil rfl).1
    rfl
end Go.Proofs.Ytigodfnckjidoaa
/- Layer 7: all pieces together. No condition. -/
namespace Go.Proofs.Ytigodfnckjidoaa
set_option linter.all false
open Go Go.RowKit
set_option maxRecDepth 10000
set_option maxHeartbeats 4000000
def psV (l : List (List UInt8)) : List (List V) := l.map fun p => [V.sl (bs p)]
@[simp] theorem psV_len (l : List (List UInt8)) : (psV l).length = l.length := by simp [psV]
theorem psV_get {l : List (List UInt8)} {i : Nat} (h : i < l.length) : (psV l)[i]? = some [V.sl (bs l[i])] := by simp [psV, h]
def joinGo : List UInt8 → Nat → List (List UInt8) → Option (List UInt8)
  | all, _, [] => some all
  | all, i, p :: r => if p.length ≤ 65536 ∧ all.length ≤ 65536 ∧ i ≤ 4096 then joinGo (all ++ p) (i + 1) r else none
def joinM (l : List (List UInt8)) : Option (List UInt8) := joinGo [] 0 l
theorem join_drop {l : List (List UInt8)} {i : Nat} (h : i < l.length) (all : List UInt8) : joinGo all i (l.drop i) = if l[i].length ≤ 65536 ∧ all.length ≤ 65536 ∧ i ≤ 4096 then joinGo (all ++ l[i]) (i + 1) (l.drop (i + 1)) else none := by
  rw [List.drop_eq_getElem_cons h]; rfl
theorem con_joined {ps : List (List UInt8)} {R : Option (List UInt8)} (hR : joinM ps = R) (hl : ps.length ≤ 9223372036854775807) : Con Try.prog 9 [.v (.sl (psV ps))] [] 0 (gOut R) [] := by
  have hz := psV_len ps
  refine con_of Try.func9 rfl (by show _ ≤ 34; simp) fun X Q hP hnt hnp hret hpan => ?_
  obtain ⟨P0, nt0, w0, K0, S0, np0, pin0, df0⟩ := X
  simp only at hP hnt hnp
  subst hP hnp
  obtain rfl : nt0 = 34 := hnt
  refine aw_region fun K1 hK1 => ?_
  refine aL z_assign ?_
  refine aL z_assign ?_
  refine awl_nil (hK1 _ _ ?_)
  clear hK1 K1
  refine aw_region fun K2 hK2 => ?_
  refine aL z_assign ?_
  refine awl_nil (hK2 _ _ ?_)
  clear hK2 K2
  refine aw_seq fun K3 hK3 => ?_
  refine aw_region fun K4 hK4 => ?_
  refine aL z_assign ?_
  refine awl_nil (hK4 _ _ ?_)
  clear hK4 K4
  refine aw_weak (weak_nil (t := 4) 5 1 5 (by decide) (Nat.zero_le _) rfl rfl) ?_
  refine aw_block ?_
  refine aw_loop (α := {x : Nat × List UInt8 // joinGo x.2 x.1 (ps.drop x.1) = R ∧ x.1 ≤ ps.length}) (fun x => ([(0, .v (.sl (psV ps))), (4, .view 5 0 0 x.1.2.length), (5, .v (.int .i64 (x.1.1 : Int)))], [(5, .row 0 1 5 (bs x.1.2))])) (fun x => ps.length - x.1.1) ⟨(0, []), hR, Nat.zero_le _⟩ ?_ ?_
  · dsimp only
    exact wK
  · rintro ⟨⟨i, all⟩, hq, hil⟩ K5 hK5
    dsimp only
    dsimp only at hq hil
    refine aw_seq fun K6 hK6 => ?_
    refine aw_region fun K7 hK7 => ?_
    refine aL z_move ?_
    refine aL z_move ?_
    first
      | refine aL (z_lenB Try.underlying22) ?_
      | refine aL (z_len Try.underlying22) ?_
      | refine aL (z_lenV Try.underlying22) ?_
    refine aL z_lss ?_
    refine awl_nil (hK7 _ _ ?_)
    clear hK7 K7
    refine aC (fun r1 c1 => ?_) (fun r1 c1 => ?_)
    · refine aw_skip ?_
      refine hK6 _ _ ?_
      clear hK6
      refine aw_seq fun K8 hK8 => ?_
      refine aw_block ?_
      refine aw_seq fun K9 hK9 => ?_
      refine aw_region fun K10 hK10 => ?_
      have hlt : i < ps.length := by omega
      have hi : (psV ps)[i]? = some [V.sl (bs ps[i])] := psV_get hlt
      refine aL z_move ?_
      refine aL z_move ?_
      first
        | refine aL (z_indexAddr Try.underlying22 sz_24) ?_
        | refine aL (z_indexAddrV Try.underlying22 sz_24) ?_
      first
        | refine aL (z_load sz_24) ?_
        | refine aL (z_loadRef sz_24) ?_
        | refine aL (z_loadV sz_24) ?_
      first
        | refine aL (z_lenB Try.underlying24) ?_
        | refine aL (z_len Try.underlying24) ?_
        | refine aL (z_lenV Try.underlying24) ?_
      refine aL z_gtr ?_
      refine aL z_move ?_
      first
        | refine gL rfl rfl (ev_tmp rfl) (fun hg => z_move) ?_
        | refine hL rfl rfl (ev_tmp rfl) (fun hg => z_move) ?_
      first
        | refine gL rfl rfl (ev_tmp rfl) (fun hg => z_lenB Try.underlying24) ?_
        | refine gL rfl rfl (ev_tmp rfl) (fun hg => z_len Try.underlying24) ?_
        | refine gL rfl rfl (ev_tmp rfl) (fun hg => z_lenV Try.underlying24) ?_
        | refine hL rfl rfl (ev_tmp rfl) (fun hg => z_lenB Try.underlying24) ?_
        | refine hL rfl rfl (ev_tmp rfl) (fun hg => z_len Try.underlying24) ?_
        | refine hL rfl rfl (ev_tmp rfl) (fun hg => z_lenV Try.underlying24) ?_
      first
        | refine gL rfl rfl (ev_tmp rfl) (fun hg => z_gtr) ?_
        | refine hL rfl rfl (ev_tmp rfl) (fun hg => z_gtr) ?_
      refine aL z_or ?_
      refine aL z_move ?_
      first
        | refine gL rfl rfl (ev_tmp rfl) (fun hg => z_move) ?_
        | refine hL rfl rfl (ev_tmp rfl) (fun hg => z_move) ?_
      first
        | refine gL rfl rfl (ev_tmp rfl) (fun hg => z_gtr) ?_
        | refine hL rfl rfl (ev_tmp rfl) (fun hg => z_gtr) ?_
      refine aL z_or ?_
      refine awl_nil (hK10 _ _ ?_)
      clear hK10 K10
      refine aC (fun r2 c2 => ?_) (fun r2 c2 => ?_)
      · refine aw_region fun K11 hK11 => ?_
        refine aL z_assign ?_
        refine aL z_assign ?_
        refine awl_nil (hK11 _ _ ?_)
        clear hK11 K11
        first
          | (have hh := hlt
             rw [join_drop hlt, if_neg (by omega)] at hq
             subst hq)
          | (rw [List.drop_of_length_le (by omega)] at hq
             have hq2 : some all = R := hq
             subst hq2
             have hcut : cut 0 (0 + all.length) (bs all) = bs all := (by have := cut_all (bs all); rwa [bs_length] at this)
             refine aw_weak (fr' := [(2, .view 5 0 0 all.length), (3, .v (.bool true))]) (ah' := [(5, .row 0 1 5 (bs all))]) wK (aw_weak (weak_settle (fr' := [(2, .v (.sl (bs all))), (3, .v (.bool true))]) (ah' := []) 5 rfl .nil rfl (.view rfl hcut (.keep rfl rfl .nil))) ?_))
        refine aw_ret ?_
        refine (hret _ _ _ _ _ rfl (.tmp rfl (.tmp rfl .nil)) rfl ?_ .nil rfl).1
        rfl
      · refine aw_skip ?_
        refine hK9 _ _ ?_
        clear hK9
        refine aw_region_last ?_
        refine aL z_move ?_
        refine aL z_move ?_
        refine aL z_move ?_
        first
          | refine aL (z_indexAddr Try.underlying22 sz_24) ?_
          | refine aL (z_indexAddrV Try.underlying22 sz_24) ?_
        first
          | refine aL (z_load sz_24) ?_
          | refine aL (z_loadRef sz_24) ?_
          | refine aL (z_loadV sz_24) ?_
        refine aL (z_app Try.underlying24 zi_5 (c' := bs (all ++ ps[i])) (hc := by rw [List.take_of_length_le (by simp)]; simp) (hb := by simp; omega)) ?_
        refine aL z_assign ?_
        refine awl_nil ?_
        refine hK8 _ _ ?_
        clear hK8
        refine aw_region_last ?_
        refine aL z_move ?_
        refine aL z_add ?_
        refine aL z_assign ?_
        refine awl_nil ?_
        rw [join_drop hlt, if_pos (by omega)] at hq
        refine hK5 _ _ ⟨(i + 1, all ++ ps[i]), hq, by dsimp only; omega⟩ (by dsimp only; omega) ?_
        exact Weak.trans (weak_rever 5 0 rfl) wK
    · refine aw_exit ?_
      refine hK3 _ _ ?_
      clear hK3
      refine aw_region fun K12 hK12 => ?_
      refine aL z_move ?_
      refine aL z_assign ?_
      refine aL z_assign ?_
      refine awl_nil (hK12 _ _ ?_)
      clear hK12 K12
      first
        | (have hh := hlt
           rw [join_drop hlt, if_neg (by omega)] at hq
           subst hq)
        | (rw [List.drop_of_length_le (by omega)] at hq
           have hq2 : some all = R := hq
           subst hq2
           have hcut : cut 0 (0 + all.length) (bs all) = bs all := (by have := cut_all (bs all); rwa [bs_length] at this)
           refine aw_weak (fr' := [(2, .view 5 0 0 all.length), (3, .v (.bool true))]) (ah' := [(5, .row 0 1 5 (bs all))]) wK (aw_weak (weak_settle (fr' := [(2, .v (.sl (bs all))), (3, .v (.bool true))]) (ah' := []) 5 rfl .nil rfl (.view rfl hcut (.keep rfl rfl .nil))) ?_))
      refine aw_ret ?_
      refine (hret _ _ _ _ _ rfl (.tmp rfl (.tmp rfl .nil)) rfl ?_ .nil rfl).1
      rfl
end Go.Proofs.Ytigodfnckjidoaa
