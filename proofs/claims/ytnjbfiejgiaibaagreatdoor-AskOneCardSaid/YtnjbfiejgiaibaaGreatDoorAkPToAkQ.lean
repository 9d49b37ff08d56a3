/- Layer 14: the document's Put; the sizes that are played. No condition. -/
import Derived.Test.YtnjbfiejgiaibaaGreatDoorAkB
import Derived.Test.YtnjbfiejgiaibaaGreatDoorBeToSkA
import Derived.Test.YtnjbfiejgiaibaaGreatDoorOct
import Derived.Test.YtnjbfiejgiaibaaGreatDoorOctC2ToTab
namespace Go.Proofs.YtnjbfiejgiaibaaGreatDoor
set_option linter.all false
open Go Go.RowKit
set_option maxRecDepth 10000
set_option maxHeartbeats 4000000
attribute [local simp] askH_s lineF_s clL_s
end Go.Proofs.YtnjbfiejgiaibaaGreatDoor

/- Layer 14: the law's awake. No condition. -/
namespace Go.Proofs.YtnjbfiejgiaibaaGreatDoor
set_option linter.all false
open Go Go.RowKit
set_option maxRecDepth 10000
set_option maxHeartbeats 4000000
theorem con_argsA {P : Program} {f : FuncId} {args args' : List D} {pre post : AH} {np : Nat} {out : Out} (h : Con P f args pre np out post) (hc : ∀ (G : Gh) (w : World) (us : List Value), RepDs G w (look pre) args' us → RepDs G w (look pre) args us) : Con P f args' pre np out post := fun K G w us h1 h2 h3 => h K G w us h1 h2 (hc G w us h3)
theorem csA_nil {G : Gh} {w : World} {m : Mem} {a : Ak} {u : Value} (hs : a.fs = []) (h : RepD G w m (.agg (a.csX NIL)) u) : RepD G w m (.agg a.cs) u := by
  cases h with
  | agg _ us hl h1 h =>
    refine .agg _ us hl h1 fun i d u hd hu => ?_
    match i, hd with
    | 0, hd => exact h 0 d u hd hu
    | 1, hd => exact h 1 d u hd hu
    | 2, hd =>
      injection hd with hd; subst hd
      rw [hs]
      have h2 := h 2 NIL u rfl hu
      rw [rep_lit h2]
      exact .v _ _ (.nil none 0 (by simp [maxLen]))
    | 3, hd => exact h 3 d u hd hu
    | i + 4, hd => simp at hd
theorem con_PutN {a : Ak} (hs : a.fs = []) (ha : a.small) : Con Tryz.prog 15 [.agg (a.csX NIL)] [] 0 (.ret (.tup [.v (.sl (bs (putA a))), .v (.int .i64 (putAE a))])) [] :=
  con_argsA (con_Put ha) fun G w us h => by
    match us, h.1 with
    | [u], _ => exact .cons (csA_nil hs (h.2 0 _ u rfl rfl)) .nil
abbrev w1A : Ak := ⟨[80, 79, 83, 84], [47], [], [104, 105]⟩
abbrev w2A : Ak := ⟨[71, 69, 84], [47], [⟨[97], [98, 13, 10, 99, 58, 32, 100], false⟩], []⟩
def w1B : List UInt8 := [80, 79, 83, 84, 32, 47, 32, 72, 84, 84, 80, 47, 49, 46, 49, 13, 10, 99, 111, 110, 116, 101, 110, 116, 45, 108, 101, 110, 103, 116, 104, 58, 32, 50, 13, 10, 13, 10, 104, 105]
theorem w1_put : putAE w1A = 0 ∧ putA w1A = w1B := by
  have e1 : mayM w1A = true := by decide
  have e2 : askA w1A = w1B.take 38 := by decide
  have e3 : putAE w1A = 0 := by unfold putAE; rw [if_pos e1, e2]; rfl
  refine ⟨e3, ?_⟩
  unfold putA; rw [if_pos e3, e2]; rfl
theorem w2_put : putAE w2A = 10 := by
  have e1 : mayM w2A = false := by decide
  unfold putAE; rw [e1]; rfl
theorem con_awake14 : Con Tryz.prog 5 [] [] 0 (.ret (.v (.bool true))) [] := by
  have h1 := con_PutN (a := w1A) rfl ⟨by decide, by decide, by decide⟩
  have h2 := con_Put (a := w2A) ⟨by decide, by decide, by decide⟩
  rw [w1_put.1, w1_put.2] at h1
  rw [w2_put] at h2
  generalize putA w2A = z at h2
  refine con_of Tryz.func5 rfl (by show _ ≤ 28; simp) fun X Q hP hnt hnp hret hpan => ?_
  obtain ⟨P0, nt0, w0, K0, S0, np0, pin0, df0⟩ := X
  simp only at hP hnt hnp
  subst hP hnp
  obtain rfl : nt0 = 28 := hnt
  refine aw_region fun K1 hK1 => ?_
  refine aL z_assign ?_
  refine awl_nil (hK1 _ _ ?_)
  clear hK1 K1
  refine aw_region fun K2 hK2 => ?_
  refine aL (z_build (pC (pC (pC .nil))) pl_26 zc_26 zl_26) ?_
  first
    | refine aL (z_call0 (eC .nil) en_15 (h1)) ?_
    | refine aL (z_call0 (eC .nil) en_15 (h2)) ?_
  refine aL z_move ?_
  refine aL z_extract ?_
  refine aL z_extract ?_
  refine aL z_assign ?_
  refine aL z_assign ?_
  refine awl_nil (hK2 _ _ ?_)
  clear hK2 K2
  refine aw_region fun K3 hK3 => ?_
  refine aL (z_build (pC (pC .nil)) pl_46 zc_46 zl_46) ?_
  refine aL (z_lits (pC .nil) Tryz.underlying24 sz_46 zc_46 zl_46 (c := fdV w2A.fs) (hcn := ⟨rfl, fdV_one _⟩)) ?_
  refine aL (z_build (pC (pC (pC .nil))) pl_26 zc_26 zl_26) ?_
  first
    | refine aL (z_call0 (eC .nil) en_15 (h1)) ?_
    | refine aL (z_call0 (eC .nil) en_15 (h2)) ?_
  refine aL z_move ?_
  refine aL z_extract ?_
  refine aL z_extract ?_
  refine aL z_assign ?_
  refine aL z_assign ?_
  refine awl_nil (hK3 _ _ ?_)
  clear hK3 K3
  refine aw_region fun K4 hK4 => ?_
  refine aL z_move ?_
  refine aL z_eql ?_
  refine aL z_move ?_
  first
    | refine gL rfl rfl (ev_tmp rfl) (fun hg => z_move) ?_
    | refine hL rfl rfl (ev_tmp rfl) (fun hg => z_move) ?_
  first
    | refine gL rfl rfl (ev_tmp rfl) (fun hg => z_convS Tryz.underlying22 Tryz.underlying5 Tryz.underlying9) ?_
    | refine gL rfl rfl (ev_tmp rfl) (fun hg => z_convSV Tryz.underlying22 Tryz.underlying5 Tryz.underlying9) ?_
    | refine hL rfl rfl (ev_tmp rfl) (fun hg => z_convS Tryz.underlying22 Tryz.underlying5 Tryz.underlying9) ?_
    | refine hL rfl rfl (ev_tmp rfl) (fun hg => z_convSV Tryz.underlying22 Tryz.underlying5 Tryz.underlying9) ?_
  first
    | refine gL rfl rfl (ev_tmp rfl) (fun hg => z_eqlS) ?_
    | refine hL rfl rfl (ev_tmp rfl) (fun hg => z_eqlS) ?_
  refine aL z_and ?_
  refine aL z_move ?_
  first
    | refine gL rfl rfl (ev_tmp rfl) (fun hg => z_move) ?_
    | refine hL rfl rfl (ev_tmp rfl) (fun hg => z_move) ?_
  first
    | refine gL rfl rfl (ev_tmp rfl) (fun hg => z_eql) ?_
    | refine hL rfl rfl (ev_tmp rfl) (fun hg => z_eql) ?_
  refine aL z_and ?_
  refine aL z_assign ?_
  refine awl_nil (hK4 _ _ ?_)
  clear hK4 K4
  refine aw_ret ?_
  refine (hret _ _ _ _ _ rfl (.tmp rfl .nil) rfl ?_ .nil rfl).1
  rfl
end Go.Proofs.YtnjbfiejgiaibaaGreatDoor

/- Layer 1: contracts of Put, Take and their references. No condition. -/
namespace Go.Proofs.YtnjbfiejgiaibaaGreatDoor
set_option linter.all false
open Go Go.RowKit

end Go.Proofs.YtnjbfiejgiaibaaGreatDoor

/- Layer 14: AskPuts, walked. No condition. -/
namespace Go.Proofs.YtnjbfiejgiaibaaGreatDoor
set_option linter.all false
open Go Go.RowKit
set_option maxRecDepth 10000
set_option maxHeartbeats 4000000
end Go.Proofs.YtnjbfiejgiaibaaGreatDoor
