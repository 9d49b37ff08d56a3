/- Layer 6: what the laws ask ahead: small, awake; what is written, cut at its head. No condition. -/
import Derived.Test.YtlfkgbcclinnbaaFrX
import Derived.Test.YtlfkgbcclinnbaaFrB
namespace Go.Proofs.Ytlfkgbcclinnbaa
set_option linter.all false
open Go Go.RowKit
set_option maxRecDepth 10000
set_option maxHeartbeats 4000000
/-- Put, what it wrote settled. -/
theorem con_putS {f : Fr} (hd : f.data.length ≤ 1000000) (hn : f.sets.length ≤ 1000000) : Con Try.prog 11 [.agg f.cs] [] 0 (.ret (.tup [.v (.sl (bs (putF f))), .v (.int .i64 (putE f))])) [] :=
  con_weak (con_putFrame hd hn) fun X _ => weak_all (some (0, 0, bs (putF f))) ⟨rfl, _, _, rfl⟩ .nil (.cons rfl (.tup (.cons (.view rfl (by simp)) (.cons (.keep rfl) .nil))) .nil)
theorem con_putN {f : Fr} (hs : f.sets = []) (hd : f.data.length ≤ 1000000) : Con Try.prog 11 [.agg (f.csX NIL)] [] 0 (.ret (.tup [.v (.sl (bs (putF f))), .v (.int .i64 (putE f))])) [] :=
  con_args (con_putS hd (by simp [hs])) fun G w us h => by
    obtain ⟨u, rfl, h1⟩ := ds1 h
    exact .cons (csX_nil hs h1) .nil
def smallB (f : Fr) : Bool := decide (f.data.length ≤ 65536) && decide (f.sets.length ≤ 1000)
theorem con_small {f : Fr} : Con Try.prog 10 [.agg f.cs] [] 0 (.ret (.v (.bool (smallB f)))) [] := by
  have hz : (setV f.sets).length = f.sets.length := by simp [setV]
  refine con_of Try.func10 rfl (by show _ ≤ 13; simp) fun X Q hP hnt hnp hret hpan => ?_
  obtain ⟨P0, nt0, w0, K0, S0, np0, pin0⟩ := X
  simp only at hP hnt hnp
  subst hP hnp
  obtain rfl : nt0 = 13 := hnt
  refine aw_region fun K1 hK1 => ?_
  refine aL (z_box 0) ?_
  refine aL z_assign ?_
  refine awl_nil (hK1 _ _ ?_)
  clear hK1 K1
  refine aw_region fun K2 hK2 => ?_
  refine aL (z_fieldAddr fo_24_3) ?_
  refine aL (z_load sz_9) ?_
  refine aL (z_lenS Try.underlying9) ?_
  refine aL z_leq ?_
  refine aL z_move ?_
  refine gL rfl rfl (ev_tmp rfl) (fun hg => z_fieldAddr fo_24_5) ?_
  refine gL rfl rfl (ev_tmp rfl) (fun hg => z_load sz_22) ?_
  refine gL rfl rfl (ev_tmp rfl) (fun hg => z_len Try.underlying22) ?_
  refine gL rfl rfl (ev_tmp rfl) (fun hg => z_leq) ?_
  refine aL z_and ?_
  refine aL z_assign ?_
  refine awl_nil (hK2 _ _ ?_)
  clear hK2 K2
  refine aw_ret ?_
  refine (hret _ _ _ _ _ rfl (.tmp rfl .nil) rfl ?_ .nil rfl).1
  have e1 : decide ((f.data.length : Int) ≤ 65536) = decide (f.data.length ≤ 65536) := decide_eq_decide.2 (by omega)
  have e2 : decide ((f.sets.length : Int) ≤ 1000) = decide (f.sets.length ≤ 1000) := decide_eq_decide.2 (by omega)
  simp [smallB, retD, e1, e2]
/-- A frame that is written. -/
theorem put_ok {f : Fr} (h : putE f = 0) : mayB f = true ∧ (payL f).length ≤ 16777215 ∧ putF f = headL f (payL f).length ++ payL f := by
  have h2 : putF f = headL f (payL f).length ++ payL f := by unfold putF; rw [if_pos h]
  unfold putE at h
  split at h
  · rename_i hm
    split at h
    · cases h
    · exact ⟨hm, by omega, h2⟩
  · cases h
theorem putF_bad {f : Fr} (h : ¬ putE f = 0) : putF f = [] := by unfold putF; rw [if_neg h]
theorem head_len (f : Fr) (n : Nat) : (headL f n).length = 9 := by simp [headL, putB_length]
theorem put_len {f : Fr} (h : putE f = 0) : (putF f).length = 9 + (payL f).length := by
  rw [(put_ok h).2.2]; simp [head_len]
theorem put_head {f : Fr} (h : putE f = 0) (r : List UInt8) : beN (((putF f) ++ r).take 3) = (payL f).length ∧ beN (((putF f).take 9).take 3) = (payL f).length := by
  obtain ⟨_, h2, h3⟩ := put_ok h
  have e : ∀ r, ((headL f (payL f).length ++ r)).take 3 = putB 3 (payL f).length := fun r => by
    unfold headL
    rw [List.append_assoc, List.append_assoc]
    exact List.take_left' (putB_length _ _)
  have e2 : beN (putB 3 (payL f).length) = (payL f).length := by
    rw [putB_val]
    exact Nat.mod_eq_of_lt (by omega)
  constructor
  · rw [h3, List.append_assoc, e, e2]
  · rw [h3, List.take_left' (head_len _ _)]
    have := e []
    rw [List.append_nil] at this
    rw [this, e2]
theorem take_same {b : List UInt8} {m m' : Int} (h : 9 ≤ (b.length : Int)) (h1 : (beN (b.take 3) : Int) ≤ m) (h2 : (beN (b.take 3) : Int) ≤ m') : takeF b m = takeF b m' := by
  by_cases h3 : 9 + (beN (b.take 3) : Int) ≤ (b.length : Int)
  · rw [takeF_0 h1 h3, takeF_0 h2 h3]
  · rw [takeF_3 h h1 (by omega), takeF_3 h h2 (by omega)]
def fAwake : Fr := { Fr.nil with ty := 8, st := 1, inc := 5 }
theorem con_SameN {f g : Fr} (hl : f.sets.length ≤ 100000000) (hs : g.sets = []) : Con Try.prog 16 [.agg f.cs, .agg (g.csX NIL)] [] 0 (.ret (.v (.bool (sameB f g)))) [] :=
  con_args (con_Same hl) fun G w us h => by
    obtain ⟨u, v, rfl, h1, h2⟩ := ds2 h
    exact .cons h1 (.cons (csX_nil hs h2) .nil)
theorem con_awake : Con Try.prog 9 [] [] 0 (.ret (.v (.bool true))) [] := by
  have hp : putE fAwake = 0 := by decide
  have hl : (putF fAwake).length = 13 := by decide
  have hz : (bs (putF fAwake)).length = 13 := by rw [bs_length]; exact hl
  have hi : (bs (putF fAwake))[12]? = some [V.int .u8 5] := bs_get (b := 5) (by decide)
  have ht : takeF [0, 0, 0, 4, 1, 0, 0, 0, 0] 16384 = ⟨{ Fr.nil with ty := 4, fl := 1 }, 9, Flt.no⟩ := by rfl
  refine con_of Try.func9 rfl (by show _ ≤ 49; simp) fun X Q hP hnt hnp hret hpan => ?_
  obtain ⟨P0, nt0, w0, K0, S0, np0, pin0⟩ := X
  simp only at hP hnt hnp
  subst hP hnp
  obtain rfl : nt0 = 49 := hnt
  refine aw_region fun K1 hK1 => ?_
  refine aL z_assign ?_
  refine awl_nil (hK1 _ _ ?_)
  clear hK1 K1
  refine aw_region fun K2 hK2 => ?_
  refine aL (z_build (pC (pC (pC .nil))) pl_24 zc_24 zl_24) ?_
  refine aL (z_call0 (eC .nil) en_11 (con_putN (f := fAwake) rfl (by decide))) ?_
  refine aL z_move ?_
  refine aL z_extract ?_
  refine aL z_extract ?_
  refine aL z_assign ?_
  refine aL z_assign ?_
  refine awl_nil (hK2 _ _ ?_)
  clear hK2 K2
  refine aw_region fun K3 hK3 => ?_
  refine aL (z_lits (pC (pC (pC (pC (pC (pC (pC (pC (pC .nil))))))))) Try.underlying27 sz_5 zc_5 zl_5 (c := bs [0, 0, 0, 4, 1, 0, 0, 0, 0])) ?_
  refine aL (z_call0 (eC (eC .nil)) en_14 (con_frTake (b := [0, 0, 0, 4, 1, 0, 0, 0, 0]) (most := 16384) (by decide))) ?_
  refine aL z_move ?_
  refine aL z_extract ?_
  refine aL z_extract ?_
  refine aL z_extract ?_
  refine aL (z_alloc 0 zc_24 zl_24) ?_
  refine aL (z_alloc 1 zc_33 zl_33) ?_
  refine aL (z_store sz_24) ?_
  refine aL z_assign ?_
  refine aL (z_store sz_33) ?_
  refine awl_nil (hK3 _ _ ?_)
  clear hK3 K3
  refine aw_region fun K4 hK4 => ?_
  refine aL z_move ?_
  refine aL z_eql ?_
  refine aL z_move ?_
  refine gL rfl rfl (ev_tmp rfl) (fun hg => z_move) ?_
  refine gL rfl rfl (ev_tmp rfl) (fun hg => z_lenB Try.underlying27) ?_
  refine gL rfl rfl (ev_tmp rfl) (fun hg => z_eql) ?_
  refine aL z_and ?_
  refine aL z_move ?_
  refine gL rfl rfl (ev_tmp rfl) (fun hg => z_move) ?_
  refine gL rfl rfl (ev_tmp rfl) (fun hg => z_indexAddr Try.underlying27 sz_5) ?_
  refine gL rfl rfl (ev_tmp rfl) (fun hg => z_loadRef sz_5) ?_
  refine gL rfl rfl (ev_tmp rfl) (fun hg => z_eql) ?_
  refine aL z_and ?_
  refine aL z_move ?_
  refine gL rfl rfl (ev_tmp rfl) (fun hg => z_fieldAddr fo_24_0) ?_
  refine gL rfl rfl (ev_tmp rfl) (fun hg => z_load sz_3) ?_
  refine gL rfl rfl (ev_tmp rfl) (fun hg => z_eql) ?_
  refine aL z_and ?_
  refine aL z_move ?_
  refine gL rfl rfl (ev_tmp rfl) (fun hg => z_fieldAddr fo_24_1) ?_
  refine gL rfl rfl (ev_tmp rfl) (fun hg => z_load sz_3) ?_
  refine gL rfl rfl (ev_tmp rfl) (fun hg => z_eql) ?_
  refine aL z_and ?_
  refine aL z_move ?_
  refine gL rfl rfl (ev_tmp rfl) (fun hg => z_move) ?_
  refine gL rfl rfl (ev_tmp rfl) (fun hg => z_eql) ?_
  refine aL z_and ?_
  refine aL z_move ?_
  refine gL rfl rfl (ev_tmp rfl) (fun hg => z_fieldAddr fo_33_0) ?_
  refine gL rfl rfl (ev_tmp rfl) (fun hg => z_load sz_4) ?_
  refine gL rfl rfl (ev_tmp rfl) (fun hg => z_not) ?_
  refine aL z_and ?_
  refine aL z_assign ?_
  refine awl_nil (hK4 _ _ ?_)
  clear hK4 K4
  refine aw_ret ?_
  refine (hret _ _ _ _ _ rfl (.tmp rfl .nil) rfl ?_ .nil rfl).1
  simp [retD, hp, hl, ht, Flt.no]
end Go.Proofs.Ytlfkgbcclinnbaa
