/- Chapter 15: two ends, or one that isn't sure, are never heard. No condition but on lengths. -/
import Derived.Test.YthflfnehdlpmdaaDoorRpW
namespace Go.Proofs.YthflfnehdlpmdaaDoor
set_option linter.all false
open Go Go.RowKit
set_option maxRecDepth 100000
set_option maxHeartbeats 4000000
abbrev okL : List UInt8 := [72, 84, 84, 80, 47, 49, 46, 49, 32, 50, 48, 48, 32, 79, 75]
abbrev clN : List UInt8 := [67, 111, 110, 116, 101, 110, 116, 45, 76, 101, 110, 103, 116, 104]
abbrev teN : List UInt8 := [84, 114, 97, 110, 115, 102, 101, 114, 45, 69, 110, 99, 111, 100, 105, 110, 103]
abbrev clL : List UInt8 := [99, 111, 110, 116, 101, 110, 116, 45, 108, 101, 110, 103, 116, 104]
def stOK : Ps := ⟨false, .heads, [], 200, false, [], 0, 0, false, false⟩
theorem first_ok : onLine (ps0 false) hs0 okL = .ok (stOK, hs0) := by kernel_rfl
theorem run_ok (r : List UInt8) : runB (ps0 false) hs0 (okL ++ 13 :: 10 :: r) = runB stOK hs0 r := by
  rw [run_line rfl rfl rfl (by decide) (by decide), first_ok]
theorem smug_bad (l c : List UInt8) : badB ⟨false, .heads, [], 200, false, [⟨clL, l, false⟩, ⟨kTE, c, false⟩], 2, 0, false, false⟩ = true := by
  have h1 : hvM [⟨clL, l, false⟩, ⟨kTE, c, false⟩] kTE = [c] := rfl
  have h2 : lenM [⟨clL, l, false⟩, ⟨kTE, c, false⟩] = if ¬ numE 10 l = 0 ∨ false = true ∧ ¬ numV 10 l = 0 then (0, false, 102) else (numV 10 l, true, 0) := rfl
  unfold badB
  rw [h1, h2]
  by_cases h : numE 10 l = 0
  · rw [if_neg (by simp [h])]; simp
  · rw [if_pos (.inl h)]; simp
theorem smug_run {l c b : List UInt8} (hl : valueM l = true) (hc : valueM c = true) (h1 : l.length ≤ 1000) (h2 : c.length ≤ 1000) :
    runB (ps0 false) hs0 ([72, 84, 84, 80, 47, 49, 46, 49, 32, 50, 48, 48, 32, 79, 75, 13, 10, 67, 111, 110, 116, 101, 110, 116, 45, 76, 101, 110, 103, 116, 104, 58, 32] ++ l ++ [13, 10, 84, 114, 97, 110, 115, 102, 101, 114, 45, 69, 110, 99, 111, 100, 105, 110, 103, 58, 32] ++ c ++ [13, 10, 13, 10] ++ b) = .error 151 := by
  have e : [72, 84, 84, 80, 47, 49, 46, 49, 32, 50, 48, 48, 32, 79, 75, 13, 10, 67, 111, 110, 116, 101, 110, 116, 45, 76, 101, 110, 103, 116, 104, 58, 32] ++ l ++ [13, 10, 84, 114, 97, 110, 115, 102, 101, 114, 45, 69, 110, 99, 111, 100, 105, 110, 103, 58, 32] ++ c ++ [13, 10, 13, 10] ++ b = okL ++ 13 :: 10 :: (clN ++ 58 :: 32 :: l ++ 13 :: 10 :: (teN ++ 58 :: 32 :: c ++ 13 :: 10 :: (13 :: 10 :: b))) := by simp
  rw [e, run_ok, run_field rfl rfl rfl (by decide) (by decide) (by decide) hl (by decide) (by simp; omega), run_field rfl rfl rfl (by decide) (by decide) (by decide) hc (show (0 + 1 : Int) < 100 by decide) (by simp; omega), run_empty rfl rfl rfl]
  have hb : bodyM ⟨false, .heads, [], 200, false, [⟨clL, l, false⟩, ⟨kTE, c, false⟩], 2, 0, false, false⟩ hs0 = .error 151 := by
    unfold bodyM
    rw [if_neg (show ¬ (200 : Int) = 101 by decide), if_neg (show ¬ (200 : Int) < 200 by decide), if_pos (smug_bad l c)]
  exact (show (match bodyM ⟨false, .heads, [], 200, false, [⟨clL, l, false⟩, ⟨kTE, c, false⟩], 2, 0, false, false⟩ hs0 with
    | .error e => Except.error e
    | .ok (s', h') => runB s' h' b) = .error 151 by rw [hb])
theorem con_ReplySmuggles {l c b : List UInt8} (hl : l.length ≤ maxLen) (hc : c.length ≤ maxLen) (hb : b.length ≤ maxLen) : Con Tryd.prog 3 [.v (.str l), .v (.str c), .v (.str b)] [] 0 (.ret (.v (.bool true))) [] := by
  refine con_of Tryd.func3 rfl (by show _ ≤ 70; simp) fun X Q hP hnt hnp hret hpan => ?_
  obtain ⟨P0, nt0, w0, K0, S0, np0, pin0, df0⟩ := X
  simp only at hP hnt hnp
  subst hP hnp
  obtain rfl : nt0 = 70 := hnt
  refine aw_region fun K1 hK1 => ?_
  refine aL z_assign ?_
  refine awl_nil (hK1 _ _ ?_)
  clear hK1 K1
  refine aw_seq fun K2 hK2 => ?_
  refine aw_region fun K3 hK3 => ?_
  refine aL (z_call0 .nil en_7 (con_awake)) ?_
  refine aL z_not ?_
  refine awl_nil (hK3 _ _ ?_)
  clear hK3 K3
  refine aC (fun r1 c1 => ?_) (fun r1 c1 => ?_)
  · cases r1
  · refine aw_skip ?_
    refine hK2 _ _ ?_
    clear hK2
    refine aw_seq fun K4 hK4 => ?_
    refine aw_region fun K5 hK5 => ?_
    refine aL z_move ?_
    refine aL (z_lenS Tryd.underlying9) ?_
    refine aL z_gtr ?_
    refine aL z_move ?_
    refine gL rfl rfl (ev_tmp rfl) (fun hg => z_move) ?_
    refine gL rfl rfl (ev_tmp rfl) (fun hg => z_lenS Tryd.underlying9) ?_
    refine gL rfl rfl (ev_tmp rfl) (fun hg => z_gtr) ?_
    refine aL z_or ?_
    refine aL z_move ?_
    refine gL rfl rfl (ev_tmp rfl) (fun hg => z_move) ?_
    refine gL rfl rfl (ev_tmp rfl) (fun hg => z_lenS Tryd.underlying9) ?_
    refine gL rfl rfl (ev_tmp rfl) (fun hg => z_gtr) ?_
    refine aL z_or ?_
    refine aL z_move ?_
    refine gL rfl rfl (ev_tmp rfl) (fun hg => z_move) ?_
    refine gL rfl rfl (ev_tmp rfl) (fun hg => z_call0 (eC .nil) en_8 (con_rValue (l := l) hl)) ?_
    refine gL rfl rfl (ev_tmp rfl) (fun hg => z_not) ?_
    refine aL z_or ?_
    refine aL z_move ?_
    refine gL rfl rfl (ev_tmp rfl) (fun hg => z_move) ?_
    refine gL rfl rfl (ev_tmp rfl) (fun hg => z_call0 (eC .nil) en_8 (con_rValue (l := c) hc)) ?_
    refine gL rfl rfl (ev_tmp rfl) (fun hg => z_not) ?_
    refine aL z_or ?_
    refine awl_nil (hK5 _ _ ?_)
    clear hK5 K5
    refine aC (fun r2 c2 => ?_) (fun r2 c2 => ?_)
    · refine aw_region fun K6 hK6 => ?_
      refine aL z_assign ?_
      refine awl_nil (hK6 _ _ ?_)
      clear hK6 K6
      refine aw_ret ?_
      refine (hret _ _ _ _ _ rfl (.tmp rfl .nil) rfl ?_ .nil rfl).1
      rfl
    · refine aw_skip ?_
      refine hK4 _ _ ?_
      clear hK4
      refine aw_region fun K7 hK7 => ?_
      obtain ⟨⟨⟨⟨b1, b2⟩, b3⟩, b4⟩, b5⟩ := c2
      refine aL z_move ?_
      refine aL z_addS ?_
      refine aL z_addS ?_
      refine aL z_move ?_
      refine aL z_addS ?_
      refine aL z_addS ?_
      refine aL z_move ?_
      refine aL z_addS ?_
      refine aL z_assign ?_
      refine awl_nil (hK7 _ _ ?_)
      clear hK7 K7
      refine aw_region fun K8 hK8 => ?_
      refine aL (z_callG [0, 1, 2] (eC .nil) en_9 con_New .nil) ?_
      refine aL z_assign ?_
      refine awl_nil (hK8 _ _ ?_)
      clear hK8 K8
      refine aw_region fun K9 hK9 => ?_
      refine aL z_move ?_
      refine aL z_move ?_
      refine aL (z_convB Tryd.underlying9 Tryd.underlying32 Tryd.underlying5) ?_
      have hT := con_Take (ps0_ok false) rfl (by simp; omega) (smug_run (b := b) b4 b5 (by omega) (by omega))
      refine aL (z_callG [0, 1, 2] (eC (eC .nil)) en_10 hT (pA (pA (pA .nil)))) ?_
      refine aL z_move ?_
      refine aL z_extract ?_
      refine aL z_extract ?_
      refine aL z_extract ?_
      refine aL (z_alloc 5 zc_28 zl_28) ?_
      refine aL (z_store sz_28) ?_
      refine aL z_assign ?_
      refine aL z_assign ?_
      refine awl_nil (hK9 _ _ ?_)
      clear hK9 K9
      refine aw_region fun K10 hK10 => ?_
      refine aL z_move ?_
      refine aL z_eql ?_
      refine aL z_move ?_
      refine yL rfl rfl (ev_tmp rfl) (by rfl) (z_move) ?_
      refine yL rfl rfl (ev_tmp rfl) (by rfl) (z_eql) ?_
      refine aL z_and ?_
      refine aL z_move ?_
      refine yL rfl rfl (ev_tmp rfl) (by rfl) (z_load sz_28) ?_
      refine yL rfl rfl (ev_tmp rfl) (by rfl) (z_build .nil pl_28 zc_28 zl_28) ?_
      refine yL rfl rfl (ev_tmp rfl) (by rfl) (z_call0 (eC (eC .nil)) en_11 (con_sameN (a := hs0) (by simp))) ?_
      refine aL z_and ?_
      refine aL z_move ?_
      refine yL rfl rfl (ev_tmp rfl) (by rfl) (z_move) ?_
      refine awl_weak (weak_rever 1 0 rfl) (awl_weak (weak_rever 2 0 rfl) ?_)
      refine yL rfl rfl (ev_tmp rfl) (by rfl) (z_callG [0, 1, 2] (eC .nil) en_12 con_KeepsND (pA (pA (pA .nil)))) ?_
      refine yL rfl rfl (ev_tmp rfl) (by rfl) (z_not) ?_
      refine aL z_and ?_
      refine aL z_assign ?_
      refine awl_nil (hK10 _ _ ?_)
      clear hK10 K10
      refine aw_ret ?_
      refine (hret _ _ _ _ _ rfl (.tmp rfl .nil) rfl ?_ .nil rfl).1
      rfl
end Go.Proofs.YthflfnehdlpmdaaDoor
