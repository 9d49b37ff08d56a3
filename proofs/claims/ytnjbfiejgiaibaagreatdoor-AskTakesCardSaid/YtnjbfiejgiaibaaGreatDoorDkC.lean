/- Chapter 14: the document's first line and names, walked. No condition but on lengths. -/
import Derived.Test.YtnjbfiejgiaibaaGreatDoorDkAToDkB
namespace Go.Proofs.YtnjbfiejgiaibaaGreatDoor
set_option linter.all false
open Go Go.RowKit
set_option maxRecDepth 10000
set_option maxHeartbeats 4000000
/-- What first hands back. -/
def fstD (s : List UInt8) : D := match firstM s with
  | some (m, t) => .tup [.agg [.v (.str m), .v (.str t), NIL, .v (.str [])], .v (.bool true)]
  | none => .tup [.agg akZ, .v (.bool false)]
theorem fst_none {s : List UInt8} (h : firstM s = none) : fstD s = .tup [.agg akZ, .v (.bool false)] := by unfold fstD; rw [h]
theorem fst_some {s m t : List UInt8} (h : firstM s = some (m, t)) : fstD s = .tup [.agg [.v (.str m), .v (.str t), NIL, .v (.str [])], .v (.bool true)] := by unfold fstD; rw [h]
theorem is32 {z : UInt8} (h : (z.toNat : Int) = 32) : z = 32 := u8eq (c := 32) h
section
variable {s : List UInt8} {n k : Nat} (hc : (s.take n).contains 32 = false) (hn : n < s.length → ((s.getD n 0).toNat : Int) = 32) (hnk : n + 1 ≤ k) (hd : ((s.drop (n + 1)).take (k - (n + 1))).contains 32 = false)
theorem fst_far (hnl : n ≤ s.length) (hc : (s.take n).contains 32 = false) (hn : n < s.length → ((s.getD n 0).toNat : Int) = 32) (hd : ((s.drop (n + 1)).take (k - (n + 1))).contains 32 = false) (h : s.length ≤ k) : firstM s = none := by
  by_cases hl : n < s.length
  · have e1 := cut_at' hl hc (is32 (by rw [← getD_el hl]; exact hn hl))
    rw [List.take_of_length_le (by rw [List.length_drop]; omega)] at hd
    unfold firstM
    rw [e1]
    simp only [cut_non 32 _ hd]
  · rw [List.take_of_length_le (by omega)] at hc
    unfold firstM
    rw [cut_non 32 _ hc]
theorem fst_near (hc : (s.take n).contains 32 = false) (hn : n < s.length → ((s.getD n 0).toNat : Int) = 32) (hnk : n + 1 ≤ k) (hd : ((s.drop (n + 1)).take (k - (n + 1))).contains 32 = false) (hk : k < s.length → ((s.getD k 0).toNat : Int) = 32) (h : k < s.length) :
    firstM s = if tokenM (s.take n) = true ∧ targM ((s.drop (n + 1)).take (k - (n + 1))) = true ∧ s.drop (k + 1) = h11 then some (s.take n, (s.drop (n + 1)).take (k - (n + 1))) else none := by
  have hl : n < s.length := by omega
  have e1 := cut_at' hl hc (is32 (by rw [← getD_el hl]; exact hn hl))
  have hj : k - (n + 1) < (s.drop (n + 1)).length := by rw [List.length_drop]; omega
  have e2 := cut_at' hj hd (is32 (by rw [List.getElem_drop]; have := hk h; rw [getD_el h] at this; simpa [show n + 1 + (k - (n + 1)) = k from by omega] using this))
  unfold firstM
  rw [e1]
  simp only [e2, List.drop_drop, show n + 1 + (k - (n + 1) + 1) = k + 1 from by omega]
end
theorem con_rfirst {s : List UInt8} (hs : s.length ≤ 1000000000) : Con Tryz.prog 24 [.v (.str s)] [] 0 (.ret (fstD s)) [] := by
  refine con_of Tryz.func24 rfl (by show _ ≤ 69; simp) fun X Q hP hnt hnp hret hpan => ?_
  obtain ⟨P0, nt0, w0, K0, S0, np0, pin0, df0⟩ := X
  simp only at hP hnt hnp
  subst hP hnp
  obtain rfl : nt0 = 69 := hnt
  refine aw_region fun K1 hK1 => ?_
  refine aL (z_alloc 0 zc_26 zl_26) ?_
  refine aL z_assign ?_
  refine awl_nil (hK1 _ _ ?_)
  clear hK1 K1
  refine aw_region fun K2 hK2 => ?_
  refine aL z_assign ?_
  refine awl_nil (hK2 _ _ ?_)
  clear hK2 K2
  refine aw_seq fun K3 hK3 => ?_
  refine aw_block ?_
  refine aw_loop (α := {n : Nat // n ≤ s.length ∧ (s.take n).contains 32 = false}) (fun x => ([(0, .v (.str s)), (2, .ptr 0 0), (4, .v (.int .i64 (x.1 : Int)))], [(0, .box akZ)])) (fun x => s.length - x.1) ⟨0, Nat.zero_le _, rfl⟩ ?_ ?_
  · dsimp only
    exact wK
  · rintro ⟨n, hn, hc⟩ K4 hK4
    dsimp only
    have hi : n < s.length → s[n]? = some (s.getD n 0) := getD_some
    refine aw_seq fun K5 hK5 => ?_
    refine aw_region fun K6 hK6 => ?_
    refine aL z_move ?_
    refine aL z_move ?_
    refine aL (z_lenS Tryz.underlying9) ?_
    refine aL z_lss ?_
    refine aL z_move ?_
    first
      | refine gL rfl rfl (ev_tmp rfl) (fun hg => z_move) ?_
      | refine hL rfl rfl (ev_tmp rfl) (fun hg => z_move) ?_
    first
      | refine gL rfl rfl (ev_tmp rfl) (fun hg => z_move) ?_
      | refine hL rfl rfl (ev_tmp rfl) (fun hg => z_move) ?_
    first
      | refine gL rfl rfl (ev_tmp rfl) (fun hg => z_indexS Tryz.underlying9 (hb := hi (by simpa using hg))) ?_
      | refine hL rfl rfl (ev_tmp rfl) (fun hg => z_indexS Tryz.underlying9 (hb := hi (by simpa using hg))) ?_
    first
      | refine gL rfl rfl (ev_tmp rfl) (fun hg => z_neq) ?_
      | refine hL rfl rfl (ev_tmp rfl) (fun hg => z_neq) ?_
    refine aL z_and ?_
    refine awl_nil (hK6 _ _ ?_)
    clear hK6 K6
    refine aC (fun r1 c1 => ?_) (fun r1 c1 => ?_)
    · refine aw_skip ?_
      refine hK5 _ _ ?_
      clear hK5
      refine aw_block ?_
      refine aw_region_last ?_
      refine aL z_move ?_
      refine aL z_add ?_
      refine aL z_assign ?_
      refine awl_nil ?_
      refine hK4 _ _ ⟨n + 1, by omega, con_step (by omega) hc (fun e => by rw [getD_el (by omega), e] at c1; exact c1.2 rfl)⟩ (by dsimp only; omega) ?_
      exact wK
    · refine aw_exit ?_
      refine hK3 _ _ ?_
      clear hK3
      refine aw_region fun K7 hK7 => ?_
      refine aL z_move ?_
      refine aL z_add ?_
      refine aL z_assign ?_
      refine awl_nil (hK7 _ _ ?_)
      clear hK7 K7
      refine aw_seq fun K8 hK8 => ?_
      refine aw_block ?_
      refine aw_loop (α := {k : Nat // n + 1 ≤ k ∧ k ≤ s.length + 1 ∧ ((s.drop (n + 1)).take (k - (n + 1))).contains 32 = false}) (fun y => ([(0, .v (.str s)), (2, .ptr 0 0), (4, .v (.int .i64 (n : Int))), (5, .v (.int .i64 (y.1 : Int)))], [(0, .box akZ)])) (fun y => s.length + 1 - y.1) ⟨n + 1, Nat.le_refl _, by omega, by rw [Nat.sub_self, List.take_zero]; rfl⟩ ?_ ?_
      · dsimp only
        exact wK
      · rintro ⟨k, hnk, hk, hd⟩ K9 hK9
        dsimp only
        have hi : k < s.length → s[k]? = some (s.getD k 0) := getD_some
        refine aw_seq fun K10 hK10 => ?_
        refine aw_region fun K11 hK11 => ?_
        refine aL z_move ?_
        refine aL z_move ?_
        refine aL (z_lenS Tryz.underlying9) ?_
        refine aL z_lss ?_
        refine aL z_move ?_
        first
          | refine gL rfl rfl (ev_tmp rfl) (fun hg => z_move) ?_
          | refine hL rfl rfl (ev_tmp rfl) (fun hg => z_move) ?_
        first
          | refine gL rfl rfl (ev_tmp rfl) (fun hg => z_move) ?_
          | refine hL rfl rfl (ev_tmp rfl) (fun hg => z_move) ?_
        first
          | refine gL rfl rfl (ev_tmp rfl) (fun hg => z_indexS Tryz.underlying9 (hb := hi (by simpa using hg))) ?_
          | refine hL rfl rfl (ev_tmp rfl) (fun hg => z_indexS Tryz.underlying9 (hb := hi (by simpa using hg))) ?_
        first
          | refine gL rfl rfl (ev_tmp rfl) (fun hg => z_neq) ?_
          | refine hL rfl rfl (ev_tmp rfl) (fun hg => z_neq) ?_
        refine aL z_and ?_
        refine awl_nil (hK11 _ _ ?_)
        clear hK11 K11
        refine aC (fun r2 c2 => ?_) (fun r2 c2 => ?_)
        · refine aw_skip ?_
          refine hK10 _ _ ?_
          clear hK10
          refine aw_block ?_
          refine aw_region_last ?_
          refine aL z_move ?_
          refine aL z_add ?_
          refine aL z_assign ?_
          refine awl_nil ?_
          have hd2 : ((s.drop (n + 1)).take (k + 1 - (n + 1))).contains 32 = false := by
            have e : k + 1 - (n + 1) = (k - (n + 1)) + 1 := by omega
            rw [e]
            refine con_step (by rw [List.length_drop]; omega) hd (fun e => ?_)
            rw [List.getElem_drop] at e
            have hkl : k < s.length := by omega
            have e5 : s[k] = 32 := by simpa [show n + 1 + (k - (n + 1)) = k from by omega] using e
            have e6 := c2.2
            rw [getD_el hkl, e5] at e6
            exact e6 rfl
          refine hK9 _ _ ⟨k + 1, by omega, by omega, hd2⟩ (by dsimp only; omega) ?_
          exact wK
        · refine aw_exit ?_
          refine hK8 _ _ ?_
          clear hK8
          refine aw_seq fun K12 hK12 => ?_
          refine aw_region fun K13 hK13 => ?_
          refine aL z_move ?_
          refine aL z_move ?_
          refine aL (z_lenS Tryz.underlying9) ?_
          refine aL z_geq ?_
          refine aL z_move ?_
          first
            | refine gL rfl rfl (ev_tmp rfl) (fun hg => z_move) ?_
            | refine hL rfl rfl (ev_tmp rfl) (fun hg => z_move) ?_
          first
            | refine gL rfl rfl (ev_tmp rfl) (fun hg => z_move) ?_
            | refine hL rfl rfl (ev_tmp rfl) (fun hg => z_move) ?_
          first
            | refine gL rfl rfl (ev_tmp rfl) (fun hg => z_add) ?_
            | refine hL rfl rfl (ev_tmp rfl) (fun hg => z_add) ?_
          first
            | refine gL rfl rfl (ev_tmp rfl) (fun hg => z_sliceS Tryz.underlying9 (i := some (k + 1)) (j := none) (hlo := .yes (ev_cond (ev_tmp rfl) (by assumption)) rfl) (h1 := by have h9 : k < s.length := (by simpa using hg); show k + 1 ≤ s.length; omega) (l' := s.drop (k + 1)) (hc := by simp)) ?_
            | refine hL rfl rfl (ev_tmp rfl) (fun hg => z_sliceS Tryz.underlying9 (i := some (k + 1)) (j := none) (hlo := .yes (ev_cond (ev_tmp rfl) (by assumption)) rfl) (h1 := by have h9 : k < s.length := (by simpa using hg); show k + 1 ≤ s.length; omega) (l' := s.drop (k + 1)) (hc := by simp)) ?_
          first
            | refine gL rfl rfl (ev_tmp rfl) (fun hg => z_neqS) ?_
            | refine hL rfl rfl (ev_tmp rfl) (fun hg => z_neqS) ?_
          refine aL z_or ?_
          refine aL z_move ?_
          first
            | refine gL rfl rfl (ev_tmp rfl) (fun hg => z_move) ?_
            | refine hL rfl rfl (ev_tmp rfl) (fun hg => z_move) ?_
          first
            | refine gL rfl rfl (ev_tmp rfl) (fun hg => z_move) ?_
            | refine hL rfl rfl (ev_tmp rfl) (fun hg => z_move) ?_
          first
            | refine gL rfl rfl (ev_tmp rfl) (fun hg => z_sliceS Tryz.underlying9 (i := none) (j := some n) (hhi := .yes (ev_cond (ev_tmp rfl) (by assumption)) rfl) (l' := s.take n) (hc := by simp)) ?_
            | refine hL rfl rfl (ev_tmp rfl) (fun hg => z_sliceS Tryz.underlying9 (i := none) (j := some n) (hhi := .yes (ev_cond (ev_tmp rfl) (by assumption)) rfl) (l' := s.take n) (hc := by simp)) ?_
          first
            | refine gL rfl rfl (ev_tmp rfl) (fun hg => z_call0 (eC .nil) en_33 (con_rToken (l := s.take n) (by rw [List.length_take]; unfold maxLen; omega))) ?_
            | refine hL rfl rfl (ev_tmp rfl) (fun hg => z_call0 (eC .nil) en_33 (con_rToken (l := s.take n) (by rw [List.length_take]; unfold maxLen; omega))) ?_
          first
            | refine gL rfl rfl (ev_tmp rfl) (fun hg => z_not) ?_
            | refine hL rfl rfl (ev_tmp rfl) (fun hg => z_not) ?_
          refine aL z_or ?_
          refine aL z_move ?_
          first
            | refine gL rfl rfl (ev_tmp rfl) (fun hg => z_move) ?_
            | refine hL rfl rfl (ev_tmp rfl) (fun hg => z_move) ?_
          first
            | refine gL rfl rfl (ev_tmp rfl) (fun hg => z_move) ?_
            | refine hL rfl rfl (ev_tmp rfl) (fun hg => z_move) ?_
          first
            | refine gL rfl rfl (ev_tmp rfl) (fun hg => z_add) ?_
            | refine hL rfl rfl (ev_tmp rfl) (fun hg => z_add) ?_
          first
            | refine gL rfl rfl (ev_tmp rfl) (fun hg => z_move) ?_
            | refine hL rfl rfl (ev_tmp rfl) (fun hg => z_move) ?_
          first
            | refine gL rfl rfl (ev_tmp rfl) (fun hg => z_sliceS Tryz.underlying9 (i := some (n + 1)) (j := some k) (hlo := .yes (ev_cond (ev_tmp rfl) (by assumption)) rfl) (hhi := .yes (ev_cond (ev_tmp rfl) (by assumption)) rfl) (h2 := by have h9 := hg; simp at h9; show k ≤ s.length; omega) (l' := (s.drop (n + 1)).take (k - (n + 1))) (hc := rfl)) ?_
            | refine hL rfl rfl (ev_tmp rfl) (fun hg => z_sliceS Tryz.underlying9 (i := some (n + 1)) (j := some k) (hlo := .yes (ev_cond (ev_tmp rfl) (by assumption)) rfl) (hhi := .yes (ev_cond (ev_tmp rfl) (by assumption)) rfl) (h2 := by have h9 := hg; simp at h9; show k ≤ s.length; omega) (l' := (s.drop (n + 1)).take (k - (n + 1))) (hc := rfl)) ?_
          first
            | refine gL rfl rfl (ev_tmp rfl) (fun hg => z_call0 (eC .nil) en_60 (con_rTarget (s := (s.drop (n + 1)).take (k - (n + 1))) (by rw [List.length_take, List.length_drop]; omega))) ?_
            | refine hL rfl rfl (ev_tmp rfl) (fun hg => z_call0 (eC .nil) en_60 (con_rTarget (s := (s.drop (n + 1)).take (k - (n + 1))) (by rw [List.length_take, List.length_drop]; omega))) ?_
          first
            | refine gL rfl rfl (ev_tmp rfl) (fun hg => z_not) ?_
            | refine hL rfl rfl (ev_tmp rfl) (fun hg => z_not) ?_
          refine aL z_or ?_
          refine awl_nil (hK13 _ _ ?_)
          clear hK13 K13
          refine aC (fun r3 c3 => ?_) (fun r3 c3 => ?_)
          · refine aw_region fun K14 hK14 => ?_
            refine aL (z_build .nil pl_26 zc_26 zl_26) ?_
            refine aL (z_store sz_26) ?_
            refine aL z_assign ?_
            refine awl_nil (hK14 _ _ ?_)
            clear hK14 K14
            refine aw_ret ?_
            refine (hret _ _ _ _ _ rfl (rCe sz_26 (.tmp rfl .nil)) rfl ?_ .nil rfl).1
            have h32 : n < s.length → ((s.getD n 0).toNat : Int) = 32 := fun h => by rcases c1 with h1 | h1; omega; omega
            have k32 : k < s.length → ((s.getD k 0).toNat : Int) = 32 := fun h => by rcases c2 with h1 | h1; omega; omega
            first
              | (have hz : firstM s = none := (by
                   by_cases hkl : s.length ≤ k
                   · exact fst_far hn hc h32 hd hkl
                   · rw [fst_near hc h32 hnk hd k32 (by omega), if_neg]
                     rintro ⟨q1, q2, q3⟩
                     rw [q1, q2, q3] at c3
                     rcases c3 with ((h | h) | h) | h
                     · omega
                     · exact h rfl
                     · cases h
                     · cases h)
                 rw [fst_none hz]; rfl)
              | (rw [fst_some (by rw [fst_near hc h32 hnk hd k32 (by have := c3.1.1.1; omega), if_pos ⟨c3.1.2, c3.2, c3.1.1.2⟩])]; rfl)
          · refine aw_skip ?_
            refine hK12 _ _ ?_
            clear hK12
            refine aw_regionD mx_all (by kernel_rfl) fun K15 hK15 => ?_
            refine aD z_move ?_
            refine aD z_move ?_
            refine aD (z_sliceS Tryz.underlying9 (i := none) (j := some n) (l' := s.take n) (hc := by simp)) ?_
            refine aD z_move ?_
            refine aD z_move ?_
            refine aD z_add ?_
            refine aD z_move ?_
            refine aD (z_sliceS Tryz.underlying9 (i := some (n + 1)) (j := some k) (l' := (s.drop (n + 1)).take (k - (n + 1))) (hc := rfl)) ?_
            refine aD (z_build (pC (pC .nil)) pl_26 zc_26 zl_26) ?_
            refine aD (z_store sz_26) ?_
            refine aD z_assign ?_
            refine awd_nil (by kernel_rfl) (hK15 _ _ ?_)
            clear hK15 K15
            refine aw_ret ?_
            refine (hret _ _ _ _ _ rfl (rCe sz_26 (.tmp rfl .nil)) rfl ?_ .nil rfl).1
            have h32 : n < s.length → ((s.getD n 0).toNat : Int) = 32 := fun h => by rcases c1 with h1 | h1; omega; omega
            have k32 : k < s.length → ((s.getD k 0).toNat : Int) = 32 := fun h => by rcases c2 with h1 | h1; omega; omega
            first
              | (have hz : firstM s = none := (by
                   by_cases hkl : s.length ≤ k
                   · exact fst_far hn hc h32 hd hkl
                   · rw [fst_near hc h32 hnk hd k32 (by omega), if_neg]
                     rintro ⟨q1, q2, q3⟩
                     rw [q1, q2, q3] at c3
                     rcases c3 with ((h | h) | h) | h
                     · omega
                     · exact h rfl
                     · cases h
                     · cases h)
                 rw [fst_none hz]; rfl)
              | (rw [fst_some (by rw [fst_near hc h32 hnk hd k32 (by have := c3.1.1.1; omega), if_pos ⟨c3.1.2, c3.2, c3.1.1.2⟩])]; rfl)
end Go.Proofs.YtnjbfiejgiaibaaGreatDoor
