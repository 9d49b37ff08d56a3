/- Layer 6: the document's Put; the law FramePuts, walked. No condition. -/
import Derived.Test.YtlfkgbcclinnbaaFrPa
import Derived.Test.YtlfkgbcclinnbaaFrY
namespace Go.Proofs.Ytlfkgbcclinnbaa
set_option linter.all false
open Go Go.RowKit
set_option maxRecDepth 10000
set_option maxHeartbeats 4000000
theorem con_refPayL {f : Fr} (hm : mayB f = true) (hd : f.data.length ≤ 1000000) (hn : f.sets.length ≤ 1000000) : Con Try.prog 22 [.agg f.cs] [] 0 (.ret (.v (.sl (bs (payL f))))) [] := by
  rw [← pay_ref f hm]
  refine con_refPayload ?_ hd hn
  unfold mayB at hm
  rw [Bool.and_eq_true] at hm
  exact hm.1
theorem bs_byte2 {a b : Int} (a0 : 0 ≤ a) (a1 : a ≤ 255) (b0 : 0 ≤ b) (b1 : b ≤ 255) : ([[.int .u8 a], [.int .u8 b]] : List (List V)) = bs [UInt8.ofNat a.toNat, UInt8.ofNat b.toNat] := by
  show ([[.int .u8 a]] : List (List V)) ++ [[.int .u8 b]] = bs ([UInt8.ofNat a.toNat] ++ [UInt8.ofNat b.toNat])
  rw [← bs_append, ← bs_byte a0 a1, ← bs_byte b0 b1]
theorem cut_is {c : List (List V)} {n : Nat} (h : n = c.length) : cut 0 (0 + n) c = c := by subst h; exact cut_all c
theorem may_ranges {f : Fr} (hm : mayB f = true) : rangesB f = true := by
  unfold mayB at hm
  rw [Bool.and_eq_true] at hm
  exact hm.1
theorem con_refPutF {f : Fr} (hd : f.data.length ≤ 1000000) (hn : f.sets.length ≤ 1000000) : Con Try.prog 12 [.agg f.cs] [] 0 (.ret (.tup [.v (.sl (bs (putF f))), .v (.int .i64 (putE f))])) [] := by
  have h1 : mayB f = false → putE f = 1 := fun h => by unfold putE; rw [h]; rfl
  have h2 : mayB f = true → 16777215 < ((payL f).length : Int) → putE f = 2 := fun h k => by unfold putE; rw [h, if_pos rfl, if_pos (by omega)]
  have h0 : mayB f = true → ((payL f).length : Int) ≤ 16777215 → putE f = 0 := fun h k => by unfold putE; rw [h, if_pos rfl, if_neg (by omega)]
  have hr : mayB f = true → 0 ≤ f.ty ∧ f.ty ≤ 255 ∧ 0 ≤ f.fl ∧ f.fl ≤ 255 ∧ 0 ≤ f.st ∧ f.st ≤ 2147483647 := fun h => by
    obtain ⟨a, b, -, -, c, -⟩ := mapply (may_ranges h)
    exact ⟨a.1, a.2, b.1, b.2, c.1, c.2⟩
  have hpl : (putL (payL f).length 3).length = 3 := putB_length _ _
  refine con_of Try.func12 rfl (by show _ ≤ 35; simp) fun X Q hP hnt hnp hret hpan => ?_
  obtain ⟨P0, nt0, w0, K0, S0, np0, pin0⟩ := X
  simp only at hP hnt hnp
  subst hP hnp
  obtain rfl : nt0 = 35 := hnt
  refine aw_region fun K1 hK1 => ?_
  refine aL (z_box 0) ?_
  refine aL z_assign ?_
  refine aL z_assign ?_
  refine awl_nil (hK1 _ _ ?_)
  clear hK1 K1
  refine aw_seq fun K2 hK2 => ?_
  refine aw_region fun K3 hK3 => ?_
  refine aL (z_load sz_24) ?_
  refine aL (z_call0 (eC .nil) en_21 (con_May hd hn)) ?_
  refine aL z_not ?_
  refine awl_nil (hK3 _ _ ?_)
  clear hK3 K3
  refine aC (fun r1 c1 => ?_) (fun r1 c1 => ?_)
  · refine aw_region fun K4 hK4 => ?_
    refine aL z_assign ?_
    refine aL z_assign ?_
    refine awl_nil (hK4 _ _ ?_)
    clear hK4 K4
    (have he := h1 (by assumption); have hp := putF_bad (f := f) (by rw [he]; decide); refine aw_weak (weak_all (fr' := [(2, .v (.sl (bs (putF f)))), (3, .v (.int .i64 (putE f)))]) (ah' := []) none trivial .nil (.cons rfl (.eq' .nil (by rw [hp]; rfl)) (.cons rfl (.eq (d_int he.symm) (.keep rfl)) .nil))) ?_)
    refine aw_ret ?_
    refine (hret _ _ _ _ _ rfl (.tmp rfl (.tmp rfl .nil)) rfl ?_ .nil rfl).1
    rfl
  · refine aw_skip ?_
    refine hK2 _ _ ?_
    clear hK2
    refine aw_region fun K5 hK5 => ?_
    refine aL (z_load sz_24) ?_
    refine aL (z_call0 (eC .nil) en_22 (con_refPayL (by assumption) hd hn)) ?_
    refine aL z_assign ?_
    refine awl_nil (hK5 _ _ ?_)
    clear hK5 K5
    refine aw_seq fun K6 hK6 => ?_
    refine aw_region fun K7 hK7 => ?_
    refine aL z_move ?_
    refine aL (z_lenB Try.underlying27) ?_
    refine aL z_gtr ?_
    refine awl_nil (hK7 _ _ ?_)
    clear hK7 K7
    refine aC (fun r2 c2 => ?_) (fun r2 c2 => ?_)
    · refine aw_region fun K8 hK8 => ?_
      refine aL z_assign ?_
      refine aL z_assign ?_
      refine awl_nil (hK8 _ _ ?_)
      clear hK8 K8
      (have he := h2 (by assumption) (by omega); have hp := putF_bad (f := f) (by rw [he]; decide); refine aw_weak (weak_all (fr' := [(2, .v (.sl (bs (putF f)))), (3, .v (.int .i64 (putE f)))]) (ah' := []) none trivial .nil (.cons rfl (.eq' .nil (by rw [hp]; rfl)) (.cons rfl (.eq (d_int he.symm) (.keep rfl)) .nil))) ?_)
      refine aw_ret ?_
      refine (hret _ _ _ _ _ rfl (.tmp rfl (.tmp rfl .nil)) rfl ?_ .nil rfl).1
      rfl
    · refine aw_skip ?_
      refine hK6 _ _ ?_
      clear hK6
      refine aw_region fun K9 hK9 => ?_
      refine aL z_move ?_
      refine aL (z_lenB Try.underlying27) ?_
      refine aL (z_conv Try.underlying44 ⟨_, Try.underlying3⟩) ?_
      refine aL (z_call1 1 (eC (eC .nil)) en_23 (con_refPut (n := (payL f).length) (by omega))) ?_
      refine aL z_assign ?_
      refine awl_nil (hK9 _ _ ?_)
      clear hK9 K9
      refine aw_region fun K10 hK10 => ?_
      obtain ⟨t0, t1, f0, f1, s0, s1⟩ := hr (by assumption)
      refine aL z_move ?_
      refine aL (z_fieldAddr fo_24_0) ?_
      refine aL (z_load sz_3) ?_
      refine aL (z_conv Try.underlying5 ⟨_, Try.underlying3⟩) ?_
      refine aL (z_fieldAddr fo_24_1) ?_
      refine aL (z_load sz_3) ?_
      refine aL (z_conv Try.underlying5 ⟨_, Try.underlying3⟩) ?_
      refine aL (z_lits (pC (pC .nil)) Try.underlying27 sz_5 zc_5 zl_5 (c := [[_], [_]])) ?_
      refine aL (z_app Try.underlying27 zi_5) ?_
      refine aL z_assign ?_
      refine awl_nil (hK10 _ _ ?_)
      clear hK10 K10
      refine aw_weak (fr' := [(1, .ptr 0 0), (4, .v (.sl (bs (payL f)))), (5, .view 1 0 0 (bs (putB 3 (payL f).length ++ [UInt8.ofNat f.ty.toNat, UInt8.ofNat f.fl.toNat])).length)]) (ah' := [(0, .box f.cs), (1, .row 0 1 5 (bs (putB 3 (payL f).length ++ [UInt8.ofNat f.ty.toNat, UInt8.ofNat f.fl.toNat])))]) (wRow 5 1 (bs (putB 3 (payL f).length ++ [UInt8.ofNat f.ty.toNat, UInt8.ofNat f.fl.toNat])) (hc := by rw [bs_byte2 t0 t1 f0 f1]; exact row_app (l := putB 3 (payL f).length) rfl)) ?_
      refine aw_region fun K11 hK11 => ?_
      refine aL z_move ?_
      refine aL (z_fieldAddr fo_24_2) ?_
      refine aL (z_load sz_3) ?_
      refine aL (z_call0 (eC .nil) en_24 (con_rfour (by omega) (by omega))) ?_
      refine aL (z_app Try.underlying27 zi_5) ?_
      refine aL z_assign ?_
      refine awl_nil (hK11 _ _ ?_)
      clear hK11 K11
      refine aw_region fun K12 hK12 => ?_
      refine aL z_move ?_
      refine aL z_move ?_
      refine aL (z_app Try.underlying27 zi_5) ?_
      refine aL z_assign ?_
      refine aL z_assign ?_
      refine awl_nil (hK12 _ _ ?_)
      clear hK12 K12
      (have he := h0 (by assumption) (by omega); have hp := (put_ok (f := f) he).2.2; refine aw_weak (weak_all (fr' := [(2, .v (.sl (bs (putF f)))), (3, .v (.int .i64 (putE f)))]) (ah' := []) (some (1, 2, bs (putF f))) ⟨rfl, _, _, by rw [hp]; rfl⟩ .nil (.cons rfl (.view rfl (by rw [hp, show headL f (payL f).length ++ payL f = putB 3 (payL f).length ++ [UInt8.ofNat f.ty.toNat, UInt8.ofNat f.fl.toNat] ++ putB 4 f.st.toNat ++ payL f from rfl]; exact cut_is (by simp; try omega))) (.cons rfl (.eq (d_int he.symm) (.keep rfl)) .nil))) ?_)
      refine aw_ret ?_
      refine (hret _ _ _ _ _ rfl (.tmp rfl (.tmp rfl .nil)) rfl ?_ .nil rfl).1
      rfl
theorem con_FramePuts {f : Fr} : Con Try.prog 3 [.agg f.cs] [] 0 (.ret (.v (.bool true))) [] := by
  refine con_of Try.func3 rfl (by show _ ≤ 30; simp) fun X Q hP hnt hnp hret hpan => ?_
  obtain ⟨P0, nt0, w0, K0, S0, np0, pin0⟩ := X
  simp only at hP hnt hnp
  subst hP hnp
  obtain rfl : nt0 = 30 := hnt
  refine aw_region fun K1 hK1 => ?_
  refine aL (z_box 0) ?_
  refine aL z_assign ?_
  refine awl_nil (hK1 _ _ ?_)
  clear hK1 K1
  refine aw_seq fun K2 hK2 => ?_
  refine aw_region fun K3 hK3 => ?_
  refine aL (z_call0 .nil en_9 (con_awake)) ?_
  refine aL z_not ?_
  refine awl_nil (hK3 _ _ ?_)
  clear hK3 K3
  refine aC (fun r1 c1 => ?_) (fun r1 c1 => ?_)
  · refine aw_region fun K4 hK4 => ?_
    refine aL z_assign ?_
    refine awl_nil (hK4 _ _ ?_)
    clear hK4 K4
    refine aw_ret ?_
    refine (hret _ _ _ _ _ rfl (.tmp rfl .nil) rfl ?_ .nil rfl).1
    first
      | rfl
      | (exfalso; simp at *; done)
      | (simp [retD]; done)
  · refine aw_skip ?_
    refine hK2 _ _ ?_
    clear hK2
    refine aw_seq fun K5 hK5 => ?_
    refine aw_region fun K6 hK6 => ?_
    refine aL (z_load sz_24) ?_
    refine aL (z_call0 (eC .nil) en_10 (con_small)) ?_
    refine aL z_not ?_
    refine awl_nil (hK6 _ _ ?_)
    clear hK6 K6
    refine aC (fun r2 c2 => ?_) (fun r2 c2 => ?_)
    · refine aw_region fun K7 hK7 => ?_
      refine aL z_assign ?_
      refine awl_nil (hK7 _ _ ?_)
      clear hK7 K7
      refine aw_ret ?_
      refine (hret _ _ _ _ _ rfl (.tmp rfl .nil) rfl ?_ .nil rfl).1
      first
        | rfl
        | (exfalso; simp at *; done)
        | (simp [retD]; done)
    · refine aw_skip ?_
      refine hK5 _ _ ?_
      clear hK5
      refine aw_region fun K8 hK8 => ?_
      refine aL (z_load sz_24) ?_
      refine aL (z_call0 (eC .nil) en_11 (con_putS (f := f) (by simp [smallB] at *; omega) (by simp [smallB] at *; omega))) ?_
      refine aL z_move ?_
      refine aL z_extract ?_
      refine aL z_extract ?_
      refine aL z_assign ?_
      refine aL z_assign ?_
      refine awl_nil (hK8 _ _ ?_)
      clear hK8 K8
      refine aw_region fun K9 hK9 => ?_
      refine aL (z_load sz_24) ?_
      refine aL (z_call0 (eC .nil) en_12 (con_refPutF (f := f) (by simp [smallB] at *; omega) (by simp [smallB] at *; omega))) ?_
      refine aL z_move ?_
      refine aL z_extract ?_
      refine aL z_extract ?_
      refine aL z_assign ?_
      refine aL z_assign ?_
      refine awl_nil (hK9 _ _ ?_)
      clear hK9 K9
      refine aw_region fun K10 hK10 => ?_
      refine aL z_move ?_
      refine aL z_move ?_
      refine aL z_eql ?_
      refine aL z_move ?_
      refine gL rfl rfl (ev_tmp rfl) (fun hg => z_move) ?_
      refine gL rfl rfl (ev_tmp rfl) (fun hg => z_move) ?_
      refine gL rfl rfl (ev_tmp rfl) (fun hg => z_call0 (eC (eC .nil)) en_13 (con_bytesEq)) ?_
      refine aL z_and ?_
      refine aL z_assign ?_
      refine awl_nil (hK10 _ _ ?_)
      clear hK10 K10
      refine aw_ret ?_
      refine (hret _ _ _ _ _ rfl (.tmp rfl .nil) rfl ?_ .nil rfl).1
      first
        | rfl
        | (exfalso; simp at *; done)
        | (simp [retD]; done)
end Go.Proofs.Ytlfkgbcclinnbaa
