/- The law FrameTakes, walked. No condition. -/
import Derived.Test.YtlfkgbcclinnbaaFrRe
import Derived.Test.YtlfkgbcclinnbaaFrY
namespace Go.Proofs.Ytlfkgbcclinnbaa
set_option linter.all false
open Go Go.RowKit
set_option maxRecDepth 10000
set_option maxHeartbeats 4000000
theorem take_sets (b : List UInt8) (m : Int) : (takeF b m).f.sets.length ≤ b.length := by
  have hn : Fr.nil.sets.length ≤ b.length := Nat.zero_le _
  by_cases h1 : (b.length : Int) < 9
  · rw [takeF_1 h1]; exact hn
  by_cases h2 : m < (beN (b.take 3) : Int)
  · rw [takeF_2 (by omega) h2]; exact hn
  by_cases h3 : (b.length : Int) < 9 + (beN (b.take 3) : Int)
  · rw [takeF_3 (by omega) (by omega) h3]; exact hn
  rw [takeF_0 (by omega) (by omega)]
  split
  · exact hn
  · split
    · split <;> exact hn
    · have h := openL_sets (f := f0B b) (p := pB b) rfl
      have hp : (pB b).length ≤ b.length := by unfold pB; simp; omega
      unfold openL at h
      cases ho : openM (f0B b) (pB b) with
      | none => exact hn
      | some g =>
        rw [ho] at h
        simp only [Option.getD_some] at h
        simp only
        split
        · split <;> exact hn
        · split
          · exact hn
          · exact Nat.le_trans h hp
theorem con_FrameTakes {b : List UInt8} {most : Int} (hb : b.length ≤ 140737488351232) : Con Try.prog 4 [.v (.sl (bs b)), .v (.int .i64 most)] [] 0 (.ret (.v (.bool true))) [] := by
  have hts := take_sets b most
  refine con_of Try.func4 rfl (by show _ ≤ 52; simp) fun X Q hP hnt hnp hret hpan => ?_
  obtain ⟨P0, nt0, w0, K0, S0, np0, pin0⟩ := X
  simp only at hP hnt hnp
  subst hP hnp
  obtain rfl : nt0 = 52 := hnt
  refine aw_region fun K1 hK1 => ?_
  refine aL z_assign ?_
  refine awl_nil (hK1 _ _ ?_)
  clear hK1 K1
  refine aw_seq fun K2 hK2 => ?_
  refine aw_region fun K3 hK3 => ?_
  refine aL (z_call0 .nil en_9 (con_awake)) ?_
  refine aL z_not ?_
  refine awl_nil (hK3 _ _ ?_)
  clear hK3 K3
  refine aC (fun r1 c1 => ?_) (fun r1 c1 => ?_)
  · refine aw_region fun K4 hK4 => ?_
    refine aL z_assign ?_
    refine awl_nil (hK4 _ _ ?_)
    clear hK4 K4
    refine aw_ret ?_
    refine (hret _ _ _ _ _ rfl (.tmp rfl .nil) rfl ?_ .nil rfl).1
    first
      | rfl
      | (exfalso; simp at r1; done)
      | (simp [retD, sameB, eqXs, eqX]; done)
  · refine aw_skip ?_
    refine hK2 _ _ ?_
    clear hK2
    refine aw_seq fun K5 hK5 => ?_
    refine aw_region fun K6 hK6 => ?_
    refine aL z_move ?_
    refine aL (z_lenB Try.underlying27) ?_
    refine aL z_gtr ?_
    refine awl_nil (hK6 _ _ ?_)
    clear hK6 K6
    refine aC (fun r2 c2 => ?_) (fun r2 c2 => ?_)
    · refine aw_region fun K7 hK7 => ?_
      refine aL z_assign ?_
      refine awl_nil (hK7 _ _ ?_)
      clear hK7 K7
      refine aw_ret ?_
      refine (hret _ _ _ _ _ rfl (.tmp rfl .nil) rfl ?_ .nil rfl).1
      first
        | rfl
        | (exfalso; simp at r1; done)
        | (simp [retD, sameB, eqXs, eqX]; done)
    · refine aw_skip ?_
      refine hK5 _ _ ?_
      clear hK5
      refine aw_region fun K8 hK8 => ?_
      refine aL (z_row 0 .nil Try.underlying27 sz_5 zc_5 zl_5 (c := [])) ?_
      refine aL z_move ?_
      refine aL (z_app Try.underlying27 zi_5) ?_
      refine aL z_assign ?_
      refine awl_nil (hK8 _ _ ?_)
      clear hK8 K8
      refine aw_weak (weak_all (fr' := [(0, .v (.sl (bs b))), (1, .v (.int .i64 most)), (5, .v (.sl (bs b)))]) (ah' := []) (some (0, 1, bs b)) ⟨rfl, _, _, rfl⟩ .nil (.cons rfl (.keep rfl) (.cons rfl (.keep rfl) (.cons rfl (.view rfl (by simp)) .nil)))) ?_
      refine aw_region fun K9 hK9 => ?_
      refine aL z_move ?_
      refine aL z_move ?_
      refine aL (z_call0 (eC (eC .nil)) en_14 (con_frTake (b := b) (most := most) (by omega))) ?_
      refine aL z_move ?_
      refine aL z_extract ?_
      refine aL z_extract ?_
      refine aL z_extract ?_
      refine aL (z_alloc 2 zc_24 zl_24) ?_
      refine aL (z_alloc 3 zc_33 zl_33) ?_
      refine aL (z_store sz_24) ?_
      refine aL z_assign ?_
      refine aL (z_store sz_33) ?_
      refine awl_nil (hK9 _ _ ?_)
      clear hK9 K9
      refine aw_region fun K10 hK10 => ?_
      refine aL z_move ?_
      refine aL z_move ?_
      refine aL (z_call0 (eC (eC .nil)) en_15 (con_refTakeF (b := b) (most := most) (by omega))) ?_
      refine aL z_move ?_
      refine aL z_extract ?_
      refine aL z_extract ?_
      refine aL z_extract ?_
      refine aL (z_alloc 4 zc_24 zl_24) ?_
      refine aL (z_alloc 5 zc_33 zl_33) ?_
      refine aL (z_store sz_24) ?_
      refine aL z_assign ?_
      refine aL (z_store sz_33) ?_
      refine awl_nil (hK10 _ _ ?_)
      clear hK10 K10
      refine aw_region fun K11 hK11 => ?_
      refine aL (z_load sz_24) ?_
      refine aL (z_load sz_24) ?_
      refine aL (z_call0 (eC (eC .nil)) en_16 (con_Same (f := (takeF b most).f) (g := (takeF b most).f) (by omega))) ?_
      refine aL z_move ?_
      refine gL rfl rfl (ev_tmp rfl) (fun hg => z_move) ?_
      refine gL rfl rfl (ev_tmp rfl) (fun hg => z_move) ?_
      refine gL rfl rfl (ev_tmp rfl) (fun hg => z_eql) ?_
      refine aL z_and ?_
      refine aL z_move ?_
      refine gL rfl rfl (ev_tmp rfl) (fun hg => z_load sz_33) ?_
      refine gL rfl rfl (ev_tmp rfl) (fun hg => z_load sz_33) ?_
      refine gL rfl rfl (ev_tmp rfl) (fun hg => z_eqlA sk_33) ?_
      refine aL z_and ?_
      refine aL z_move ?_
      refine gL rfl rfl (ev_tmp rfl) (fun hg => z_move) ?_
      refine gL rfl rfl (ev_tmp rfl) (fun hg => z_move) ?_
      refine gL rfl rfl (ev_tmp rfl) (fun hg => z_call0 (eC (eC .nil)) en_13 (con_bytesEq)) ?_
      refine aL z_and ?_
      refine aL z_assign ?_
      refine awl_nil (hK11 _ _ ?_)
      clear hK11 K11
      refine aw_ret ?_
      refine (hret _ _ _ _ _ rfl (.tmp rfl .nil) rfl ?_ .nil rfl).1
      first
        | rfl
        | (exfalso; simp at r1; done)
        | (simp [retD, sameB, eqXs, eqX]; done)
end Go.Proofs.Ytlfkgbcclinnbaa
