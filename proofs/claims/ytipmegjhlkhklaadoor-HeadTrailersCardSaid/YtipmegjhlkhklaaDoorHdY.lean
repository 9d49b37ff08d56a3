/- Layer 10: the laws HeadTrailers, HeadAnswers, HeadReads, walked. No condition. -/
import Derived.Test.YtipmegjhlkhklaaDoorHdO
namespace Go.Proofs.YtipmegjhlkhklaaDoor
set_option linter.all false
open Go Go.RowKit
set_option maxRecDepth 10000
set_option maxHeartbeats 4000000
theorem con_HeadTrailers {l : List Fd} (h : InL l) : Con Tryd.prog 6 [.v (.sl (fdV l))] [] 0 (.ret (.v (.bool true))) [] := by
  have hsm := in_small h
  refine con_of Tryd.func6 rfl (by show _ ≤ 13; simp) fun X Q hP hnt hnp hret hpan => ?_
  obtain ⟨P0, nt0, w0, K0, S0, np0, pin0⟩ := X
  simp only at hP hnt hnp
  subst hP hnp
  obtain rfl : nt0 = 13 := hnt
  refine aw_region fun K1 hK1 => ?_
  refine aL z_assign ?_
  refine awl_nil (hK1 _ _ ?_)
  clear hK1 K1
  refine aw_seq fun K2 hK2 => ?_
  refine aw_region fun K3 hK3 => ?_
  refine aL (z_call0 .nil en_9 (con_awake)) ?_
  refine aL z_not ?_
  refine awl_nil (hK3 _ _ ?_)
  clear hK3 K3
  refine aC (fun r1 c1 => ?_) (fun r1 c1 => ?_)
  · cases r1
  · refine aw_skip ?_
    refine hK2 _ _ ?_
    clear hK2
    refine aw_seq fun K4 hK4 => ?_
    refine aw_region fun K5 hK5 => ?_
    refine aL z_move ?_
    refine aL (z_call0 (eC .nil) en_10 (con_Bytes h.1 h.2)) ?_
    refine aL z_gtr ?_
    refine awl_nil (hK5 _ _ ?_)
    clear hK5 K5
    refine aC (fun r2 c2 => ?_) (fun r2 c2 => ?_)
    · clear r2
      refine aw_region fun K6 hK6 => ?_
      refine aL z_assign ?_
      refine awl_nil (hK6 _ _ ?_)
      clear hK6 K6
      refine aw_ret ?_
      refine (hret _ _ _ _ _ rfl (.tmp rfl .nil) rfl ?_ .nil rfl).1
      first
        | rfl
        | (simp [retD]; done)
    · clear r2
      refine aw_skip ?_
      refine hK4 _ _ ?_
      clear hK4
      refine aw_region fun K7 hK7 => ?_
      have hsz := hsm (Int.not_lt.2 c2)
      refine aL z_move ?_
      refine aL (z_call0 (eC .nil) en_18 (con_Trailer (Nat.le_trans hsz (by decide)))) ?_
      refine aL z_move ?_
      refine aL (z_call0 (eC .nil) en_19 (con_rTrailer (Nat.le_trans hsz (by decide)))) ?_
      refine aL z_eql ?_
      refine aL z_assign ?_
      refine awl_nil (hK7 _ _ ?_)
      clear hK7 K7
      refine aw_ret ?_
      refine (hret _ _ _ _ _ rfl (.tmp rfl .nil) rfl ?_ .nil rfl).1
      first
        | rfl
        | (simp [retD]; done)
end Go.Proofs.YtipmegjhlkhklaaDoor
