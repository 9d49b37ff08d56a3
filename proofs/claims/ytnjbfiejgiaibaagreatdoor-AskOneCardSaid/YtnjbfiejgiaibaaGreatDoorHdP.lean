/- Layer 10: names, paths, authorities: the program's functions and the document's. No condition. -/
import Derived.Test.YtnjbfiejgiaibaaGreatDoorHdMToHdC
namespace Go.Proofs.YtnjbfiejgiaibaaGreatDoor
set_option linter.all false
open Go Go.RowKit
set_option maxRecDepth 10000
set_option maxHeartbeats 4000000
theorem u8_is (a b : UInt8) : ((a.toNat : Int) = (b.toNat : Int)) ↔ a = b := by rw [Int.ofNat_inj, UInt8.toNat_inj]
theorem beq58 (a : UInt8) : ((a.toNat : Int) == 58) = (a == 58) := by
  rw [Bool.eq_iff_iff, beq_iff_eq, beq_iff_eq]; exact u8_is a 58
theorem con_rPseudo {n : List UInt8} : Con Tryz.prog 37 [.v (.str n)] [] 0 (.ret (.v (.bool (pseudoM n)))) [] := by
  cases n with
  | nil =>
    refine con_of Tryz.func37 rfl (by show _ ≤ 11; simp) fun X Q hP hnt hnp hret hpan => ?_
    obtain ⟨P0, nt0, w0, K0, S0, np0, pin0, df0⟩ := X
    simp only at hP hnt hnp
    subst hP hnp
    obtain rfl : nt0 = 11 := hnt
    refine aw_region fun K1 hK1 => ?_
    refine aL z_assign ?_
    refine awl_nil (hK1 _ _ ?_)
    clear hK1 K1
    refine aw_region fun K2 hK2 => ?_
    refine aL z_move ?_
    refine aL (z_lenS Tryz.underlying9) ?_
    refine aL z_gtr ?_
    refine aL z_move ?_
    first
      | refine gL rfl rfl (ev_tmp rfl) (fun hg => z_move) ?_
      | refine hL rfl rfl (ev_tmp rfl) (fun hg => z_move) ?_
    first
      | refine gL rfl rfl (ev_tmp rfl) (fun hg => (absurd hg (by simp) : StepU _ _ _ _ (.v (.int .u8 0)) [] [])) ?_
      | refine hL rfl rfl (ev_tmp rfl) (fun hg => (absurd hg (by simp) : StepU _ _ _ _ (.v (.int .u8 0)) [] [])) ?_
    first
      | refine gL rfl rfl (ev_tmp rfl) (fun hg => z_eql) ?_
      | refine hL rfl rfl (ev_tmp rfl) (fun hg => z_eql) ?_
    refine aL z_and ?_
    refine aL z_assign ?_
    refine awl_nil (hK2 _ _ ?_)
    clear hK2 K2
    refine aw_ret ?_
    refine (hret _ _ _ _ _ rfl (.tmp rfl .nil) rfl ?_ .nil rfl).1
    rfl
  | cons a n =>
    have ha : (a :: n)[0]? = some a := rfl
    refine con_of Tryz.func37 rfl (by show _ ≤ 11; simp) fun X Q hP hnt hnp hret hpan => ?_
    obtain ⟨P0, nt0, w0, K0, S0, np0, pin0, df0⟩ := X
    simp only at hP hnt hnp
    subst hP hnp
    obtain rfl : nt0 = 11 := hnt
    refine aw_region fun K1 hK1 => ?_
    refine aL z_assign ?_
    refine awl_nil (hK1 _ _ ?_)
    clear hK1 K1
    refine aw_region fun K2 hK2 => ?_
    refine aL z_move ?_
    refine aL (z_lenS Tryz.underlying9) ?_
    refine aL z_gtr ?_
    refine aL z_move ?_
    first
      | refine gL rfl rfl (ev_tmp rfl) (fun hg => z_move) ?_
      | refine hL rfl rfl (ev_tmp rfl) (fun hg => z_move) ?_
    first
      | refine gL rfl rfl (ev_tmp rfl) (fun hg => z_indexS Tryz.underlying9 (hb := ha)) ?_
      | refine hL rfl rfl (ev_tmp rfl) (fun hg => z_indexS Tryz.underlying9 (hb := ha)) ?_
    first
      | refine gL rfl rfl (ev_tmp rfl) (fun hg => z_eql) ?_
      | refine hL rfl rfl (ev_tmp rfl) (fun hg => z_eql) ?_
    refine aL z_and ?_
    refine aL z_assign ?_
    refine awl_nil (hK2 _ _ ?_)
    clear hK2 K2
    refine aw_ret ?_
    refine (hret _ _ _ _ _ rfl (.tmp rfl .nil) rfl ?_ .nil rfl).1
    simp [pseudoM, retD, beq58]
theorem con_rPlain {f : Fd} (hs : f.n.length + f.v.length ≤ 1099511627776) : Con Tryz.prog 64 [.agg f.cs] [] 0 (.ret (.v (.bool (plainM f)))) [] := by
  refine con_of Tryz.func64 rfl (by show _ ≤ 46; simp) fun X Q hP hnt hnp hret hpan => ?_
  obtain ⟨P0, nt0, w0, K0, S0, np0, pin0, df0⟩ := X
  simp only at hP hnt hnp
  subst hP hnp
  obtain rfl : nt0 = 46 := hnt
  refine aw_region fun K1 hK1 => ?_
  refine aL (z_box 0) ?_
  refine aL z_assign ?_
  refine awl_nil (hK1 _ _ ?_)
  clear hK1 K1
  refine aw_region fun K2 hK2 => ?_
  first
    | refine aL (z_fieldAddr fo_46_0) ?_
    | refine aL (z_fieldRef fo_46_0) ?_
    | refine aL (z_fieldV fo_46_0) ?_
  first
    | refine aL (z_load sz_9) ?_
    | refine aL (z_loadRef sz_9) ?_
    | refine aL (z_loadV sz_9) ?_
  refine aL z_assign ?_
  refine awl_nil (hK2 _ _ ?_)
  clear hK2 K2
  refine aw_seq fun K3 hK3 => ?_
  refine aw_region fun K4 hK4 => ?_
  refine aL z_move ?_
  refine aL (z_call0 (eC .nil) en_33 (con_rToken (by unfold maxLen; omega))) ?_
  refine aL z_not ?_
  refine aL z_move ?_
  first
    | refine gL rfl rfl (ev_tmp rfl) (fun hg => z_move) ?_
    | refine hL rfl rfl (ev_tmp rfl) (fun hg => z_move) ?_
  first
    | refine gL rfl rfl (ev_tmp rfl) (fun hg => z_call0 (eC .nil) en_36 (con_rLower (by omega))) ?_
    | refine hL rfl rfl (ev_tmp rfl) (fun hg => z_call0 (eC .nil) en_36 (con_rLower (by omega))) ?_
  first
    | refine gL rfl rfl (ev_tmp rfl) (fun hg => z_move) ?_
    | refine hL rfl rfl (ev_tmp rfl) (fun hg => z_move) ?_
  first
    | refine gL rfl rfl (ev_tmp rfl) (fun hg => z_neqS) ?_
    | refine hL rfl rfl (ev_tmp rfl) (fun hg => z_neqS) ?_
  refine aL z_or ?_
  refine aL z_move ?_
  first
    | refine gL rfl rfl (ev_tmp rfl) (fun hg => z_fieldAddr fo_46_1) ?_
    | refine gL rfl rfl (ev_tmp rfl) (fun hg => z_fieldRef fo_46_1) ?_
    | refine gL rfl rfl (ev_tmp rfl) (fun hg => z_fieldV fo_46_1) ?_
    | refine hL rfl rfl (ev_tmp rfl) (fun hg => z_fieldAddr fo_46_1) ?_
    | refine hL rfl rfl (ev_tmp rfl) (fun hg => z_fieldRef fo_46_1) ?_
    | refine hL rfl rfl (ev_tmp rfl) (fun hg => z_fieldV fo_46_1) ?_
  first
    | refine gL rfl rfl (ev_tmp rfl) (fun hg => z_load sz_9) ?_
    | refine gL rfl rfl (ev_tmp rfl) (fun hg => z_loadRef sz_9) ?_
    | refine gL rfl rfl (ev_tmp rfl) (fun hg => z_loadV sz_9) ?_
    | refine hL rfl rfl (ev_tmp rfl) (fun hg => z_load sz_9) ?_
    | refine hL rfl rfl (ev_tmp rfl) (fun hg => z_loadRef sz_9) ?_
    | refine hL rfl rfl (ev_tmp rfl) (fun hg => z_loadV sz_9) ?_
  first
    | refine gL rfl rfl (ev_tmp rfl) (fun hg => z_call0 (eC .nil) en_13 (con_rValue (by unfold maxLen; omega))) ?_
    | refine hL rfl rfl (ev_tmp rfl) (fun hg => z_call0 (eC .nil) en_13 (con_rValue (by unfold maxLen; omega))) ?_
  first
    | refine gL rfl rfl (ev_tmp rfl) (fun hg => z_not) ?_
    | refine hL rfl rfl (ev_tmp rfl) (fun hg => z_not) ?_
  refine aL z_or ?_
  refine awl_nil (hK4 _ _ ?_)
  clear hK4 K4
  refine aC (fun r1 c1 => ?_) (fun r1 c1 => ?_)
  · refine aw_region fun K5 hK5 => ?_
    refine aL z_assign ?_
    refine awl_nil (hK5 _ _ ?_)
    clear hK5 K5
    refine aw_ret ?_
    refine (hret _ _ _ _ _ rfl (.tmp rfl .nil) rfl ?_ .nil rfl).1
    first
      | (simp_all [plainM, ofConnM, retD]; done)
      | (rcases c2 with (((h | h) | h) | h) | h <;> (simp [plainM, ofConnM, retD, h]; done))
      | (rcases c1 with (h | h) | h <;> (simp [plainM, ofConnM, retD, h]; done))
  · refine aw_skip ?_
    refine hK3 _ _ ?_
    clear hK3
    refine aw_seq fun K6 hK6 => ?_
    refine aw_region fun K7 hK7 => ?_
    refine aL z_move ?_
    refine aL z_eqlS ?_
    refine aL z_move ?_
    first
      | refine gL rfl rfl (ev_tmp rfl) (fun hg => z_move) ?_
      | refine hL rfl rfl (ev_tmp rfl) (fun hg => z_move) ?_
    first
      | refine gL rfl rfl (ev_tmp rfl) (fun hg => z_eqlS) ?_
      | refine hL rfl rfl (ev_tmp rfl) (fun hg => z_eqlS) ?_
    refine aL z_or ?_
    refine aL z_move ?_
    first
      | refine gL rfl rfl (ev_tmp rfl) (fun hg => z_move) ?_
      | refine hL rfl rfl (ev_tmp rfl) (fun hg => z_move) ?_
    first
      | refine gL rfl rfl (ev_tmp rfl) (fun hg => z_eqlS) ?_
      | refine hL rfl rfl (ev_tmp rfl) (fun hg => z_eqlS) ?_
    refine aL z_or ?_
    refine aL z_move ?_
    first
      | refine gL rfl rfl (ev_tmp rfl) (fun hg => z_move) ?_
      | refine hL rfl rfl (ev_tmp rfl) (fun hg => z_move) ?_
    first
      | refine gL rfl rfl (ev_tmp rfl) (fun hg => z_eqlS) ?_
      | refine hL rfl rfl (ev_tmp rfl) (fun hg => z_eqlS) ?_
    refine aL z_or ?_
    refine aL z_move ?_
    first
      | refine gL rfl rfl (ev_tmp rfl) (fun hg => z_move) ?_
      | refine hL rfl rfl (ev_tmp rfl) (fun hg => z_move) ?_
    first
      | refine gL rfl rfl (ev_tmp rfl) (fun hg => z_eqlS) ?_
      | refine hL rfl rfl (ev_tmp rfl) (fun hg => z_eqlS) ?_
    refine aL z_or ?_
    refine awl_nil (hK7 _ _ ?_)
    clear hK7 K7
    refine aC (fun r2 c2 => ?_) (fun r2 c2 => ?_)
    · refine aw_region fun K8 hK8 => ?_
      refine aL z_assign ?_
      refine awl_nil (hK8 _ _ ?_)
      clear hK8 K8
      refine aw_ret ?_
      refine (hret _ _ _ _ _ rfl (.tmp rfl .nil) rfl ?_ .nil rfl).1
      first
        | (simp_all [plainM, ofConnM, retD]; done)
        | (rcases c2 with (((h | h) | h) | h) | h <;> (simp [plainM, ofConnM, retD, h]; done))
        | (rcases c1 with (h | h) | h <;> (simp [plainM, ofConnM, retD, h]; done))
    · refine aw_skip ?_
      refine hK6 _ _ ?_
      clear hK6
      refine aw_region fun K9 hK9 => ?_
      refine aL z_move ?_
      refine aL z_neqS ?_
      refine aL z_move ?_
      first
        | refine gL rfl rfl (ev_tmp rfl) (fun hg => z_fieldAddr fo_46_1) ?_
        | refine gL rfl rfl (ev_tmp rfl) (fun hg => z_fieldRef fo_46_1) ?_
        | refine gL rfl rfl (ev_tmp rfl) (fun hg => z_fieldV fo_46_1) ?_
        | refine hL rfl rfl (ev_tmp rfl) (fun hg => z_fieldAddr fo_46_1) ?_
        | refine hL rfl rfl (ev_tmp rfl) (fun hg => z_fieldRef fo_46_1) ?_
        | refine hL rfl rfl (ev_tmp rfl) (fun hg => z_fieldV fo_46_1) ?_
      first
        | refine gL rfl rfl (ev_tmp rfl) (fun hg => z_load sz_9) ?_
        | refine gL rfl rfl (ev_tmp rfl) (fun hg => z_loadRef sz_9) ?_
        | refine gL rfl rfl (ev_tmp rfl) (fun hg => z_loadV sz_9) ?_
        | refine hL rfl rfl (ev_tmp rfl) (fun hg => z_load sz_9) ?_
        | refine hL rfl rfl (ev_tmp rfl) (fun hg => z_loadRef sz_9) ?_
        | refine hL rfl rfl (ev_tmp rfl) (fun hg => z_loadV sz_9) ?_
      first
        | refine gL rfl rfl (ev_tmp rfl) (fun hg => z_eqlS) ?_
        | refine hL rfl rfl (ev_tmp rfl) (fun hg => z_eqlS) ?_
      refine aL z_or ?_
      refine aL z_assign ?_
      refine awl_nil (hK9 _ _ ?_)
      clear hK9 K9
      refine aw_ret ?_
      refine (hret _ _ _ _ _ rfl (.tmp rfl .nil) rfl ?_ .nil rfl).1
      first
        | (simp_all [plainM, ofConnM, retD]; done)
        | (rcases c2 with (((h | h) | h) | h) | h <;> (simp [plainM, ofConnM, retD, h]; done))
        | (rcases c1 with (h | h) | h <;> (simp [plainM, ofConnM, retD, h]; done))
theorem all_of {p : UInt8 → Bool} {l : List UInt8} (h : ∀ i (hi : i < l.length), p l[i] = true) : l.all p = true := by
  rw [List.all_eq_true]; intro x hx; obtain ⟨i, hi, rfl⟩ := List.getElem_of_mem hx; exact h i hi
theorem all_no {p : UInt8 → Bool} {l : List UInt8} {i : Nat} (h : i < l.length) (hc : p l[i] = false) : l.all p = false := by
  rw [List.all_eq_false]; exact ⟨l[i], List.getElem_mem h, by simp [hc]⟩
theorem allq_snoc {p : UInt8 → Bool} {l : List UInt8} {i : Nat} (h : ∀ j (hj : j < l.length), j < i → p l[j] = true) (hi : i < l.length) (hp : p l[i] = true) : ∀ j (hj : j < l.length), j < i + 1 → p l[j] = true := fun j hj hji => by
  by_cases e : j = i
  · subst e; exact hp
  · exact h j hj (by omega)
theorem pathC_is (c : UInt8) : pathC c = true ↔ (33 ≤ (c.toNat : Int) ∧ (c.toNat : Int) ≤ 126 ∧ ¬ (c.toNat : Int) = 35) := by
  unfold pathC; rw [decide_eq_true_iff]; omega
theorem path_cons {a : UInt8} {l k : List UInt8} (hk : ¬ a :: l = [42] ∨ ¬ k = [79, 80, 84, 73, 79, 78, 83]) : pathM (a :: l) k = (decide (a = 47) && (a :: l).all pathC) := by
  unfold pathM
  split
  · rename_i e
    have h2 : ¬ k = [79, 80, 84, 73, 79, 78, 83] := hk.resolve_left fun h => h e
    injection e with e1 e2
    subst e1 e2
    rw [beq_false_of_ne h2]; decide
  · have e : ((a :: l).head? == some 47) = decide (a = 47) := by rw [Bool.eq_iff_iff]; simp
    rw [e, Bool.and_comm]
theorem u8_n (a : UInt8) (n : Nat) (hn : n < 256) : ((a.toNat : Int) = (n : Int)) ↔ a = UInt8.ofNat n := by
  rw [← UInt8.toNat_inj, UInt8.toNat_ofNat_of_lt' hn]; omega
theorem con_rPath {l k : List UInt8} (hl : l.length ≤ 1099511627776) : Con Tryz.prog 34 [.v (.str l), .v (.str k)] [] 0 (.ret (.v (.bool (pathM l k)))) [] := by
  cases l with
  | nil =>
    refine con_of Tryz.func34 rfl (by show _ ≤ 42; simp) fun X Q hP hnt hnp hret hpan => ?_
    obtain ⟨P0, nt0, w0, K0, S0, np0, pin0, df0⟩ := X
    simp only at hP hnt hnp
    subst hP hnp
    obtain rfl : nt0 = 42 := hnt
    refine aw_region fun K1 hK1 => ?_
    refine aL z_assign ?_
    refine awl_nil (hK1 _ _ ?_)
    clear hK1 K1
    refine aw_seq fun K2 hK2 => ?_
    refine aw_region fun K3 hK3 => ?_
    refine aL z_move ?_
    refine aL z_eqlS ?_
    refine aL z_move ?_
    first
      | refine gL rfl rfl (ev_tmp rfl) (fun hg => z_move) ?_
      | refine hL rfl rfl (ev_tmp rfl) (fun hg => z_move) ?_
    first
      | refine gL rfl rfl (ev_tmp rfl) (fun hg => z_eqlS) ?_
      | refine hL rfl rfl (ev_tmp rfl) (fun hg => z_eqlS) ?_
    refine aL z_and ?_
    refine awl_nil (hK3 _ _ ?_)
    clear hK3 K3
    refine aC (fun r1 c1 => ?_) (fun r1 c1 => ?_)
    · refine aw_region fun K4 hK4 => ?_
      refine aL z_assign ?_
      refine awl_nil (hK4 _ _ ?_)
      clear hK4 K4
      refine aw_ret ?_
      refine (hret _ _ _ _ _ rfl (.tmp rfl .nil) rfl ?_ .nil rfl).1
      first
        | (simp at *; done)
        | (simp [pathM, retD]; done)
    · refine aw_skip ?_
      refine hK2 _ _ ?_
      clear hK2
      refine aw_seq fun K5 hK5 => ?_
      refine aw_region fun K6 hK6 => ?_
      refine aL z_move ?_
      refine aL (z_lenS Tryz.underlying9) ?_
      refine aL z_eql ?_
      refine aL z_move ?_
      first
        | refine gL rfl rfl (ev_tmp rfl) (fun hg => z_move) ?_
        | refine hL rfl rfl (ev_tmp rfl) (fun hg => z_move) ?_
      first
        | refine gL rfl rfl (ev_tmp rfl) (fun hg => (absurd hg (by simp) : StepU _ _ _ _ (.v (.int .u8 0)) [] [])) ?_
        | refine hL rfl rfl (ev_tmp rfl) (fun hg => (absurd hg (by simp) : StepU _ _ _ _ (.v (.int .u8 0)) [] [])) ?_
      first
        | refine gL rfl rfl (ev_tmp rfl) (fun hg => z_neq) ?_
        | refine hL rfl rfl (ev_tmp rfl) (fun hg => z_neq) ?_
      refine aL z_or ?_
      refine awl_nil (hK6 _ _ ?_)
      clear hK6 K6
      refine aC (fun r2 c2 => ?_) (fun r2 c2 => ?_)
      · refine aw_region fun K7 hK7 => ?_
        refine aL z_assign ?_
        refine awl_nil (hK7 _ _ ?_)
        clear hK7 K7
        refine aw_ret ?_
        refine (hret _ _ _ _ _ rfl (.tmp rfl .nil) rfl ?_ .nil rfl).1
        first
          | (simp at *; done)
          | (simp [pathM, retD]; done)
      · simp at r2
  | cons a l =>
    have h0 : (a :: l)[0]? = some a := rfl
    have hsl : (a :: l).length ≤ 1099511627776 := hl
    have e47 : ((a.toNat : Int) = 47) ↔ a = 47 := u8_n a 47 (by decide)
    have hP : ¬ a :: l = [42] ∨ ¬ k = [79, 80, 84, 73, 79, 78, 83] → pathM (a :: l) k = (decide (a = 47) && (a :: l).all pathC) := path_cons
    have hn : ¬ (a :: l).length = 0 := by simp
    generalize hL : a :: l = L at h0 hsl hl hP hn ⊢
    refine con_of Tryz.func34 rfl (by show _ ≤ 42; simp) fun X Q hP hnt hnp hret hpan => ?_
    obtain ⟨P0, nt0, w0, K0, S0, np0, pin0, df0⟩ := X
    simp only at hP hnt hnp
    subst hP hnp
    obtain rfl : nt0 = 42 := hnt
    refine aw_region fun K1 hK1 => ?_
    refine aL z_assign ?_
    refine awl_nil (hK1 _ _ ?_)
    clear hK1 K1
    refine aw_seq fun K2 hK2 => ?_
    refine aw_region fun K3 hK3 => ?_
    refine aL z_move ?_
    refine aL z_eqlS ?_
    refine aL z_move ?_
    first
      | refine gL rfl rfl (ev_tmp rfl) (fun hg => z_move) ?_
      | refine hL rfl rfl (ev_tmp rfl) (fun hg => z_move) ?_
    first
      | refine gL rfl rfl (ev_tmp rfl) (fun hg => z_eqlS) ?_
      | refine hL rfl rfl (ev_tmp rfl) (fun hg => z_eqlS) ?_
    refine aL z_and ?_
    refine awl_nil (hK3 _ _ ?_)
    clear hK3 K3
    refine aC (fun r1 c1 => ?_) (fun r1 c1 => ?_)
    · refine aw_region fun K4 hK4 => ?_
      refine aL z_assign ?_
      refine awl_nil (hK4 _ _ ?_)
      clear hK4 K4
      refine aw_ret ?_
      refine (hret _ _ _ _ _ rfl (.tmp rfl .nil) rfl ?_ .nil rfl).1
      first
        | (simp [pathM, retD, *]; done)
        | (rw [hP c1, show decide (a = 47) = false from decide_eq_false (fun h => by have := e47.2 h; omega)]; rfl)
        | (have hp : pathC L[q] = false := (by rw [← Bool.not_eq_true, pathC_is]; omega); rw [hP c1, all_no hlt hp, Bool.and_false]; rfl)
        | (rw [hP c1, all_of (fun i hi => ha i hi (by omega)), show decide (a = 47) = true from decide_eq_true (e47.1 (by omega))]; rfl)
    · refine aw_skip ?_
      refine hK2 _ _ ?_
      clear hK2
      refine aw_seq fun K5 hK5 => ?_
      refine aw_region fun K6 hK6 => ?_
      refine aL z_move ?_
      refine aL (z_lenS Tryz.underlying9) ?_
      refine aL z_eql ?_
      refine aL z_move ?_
      first
        | refine gL rfl rfl (ev_tmp rfl) (fun hg => z_move) ?_
        | refine hL rfl rfl (ev_tmp rfl) (fun hg => z_move) ?_
      first
        | refine gL rfl rfl (ev_tmp rfl) (fun hg => z_indexS Tryz.underlying9 (hb := h0)) ?_
        | refine hL rfl rfl (ev_tmp rfl) (fun hg => z_indexS Tryz.underlying9 (hb := h0)) ?_
      first
        | refine gL rfl rfl (ev_tmp rfl) (fun hg => z_neq) ?_
        | refine hL rfl rfl (ev_tmp rfl) (fun hg => z_neq) ?_
      refine aL z_or ?_
      refine awl_nil (hK6 _ _ ?_)
      clear hK6 K6
      refine aC (fun r2 c2 => ?_) (fun r2 c2 => ?_)
      · refine aw_region fun K7 hK7 => ?_
        refine aL z_assign ?_
        refine awl_nil (hK7 _ _ ?_)
        clear hK7 K7
        refine aw_ret ?_
        refine (hret _ _ _ _ _ rfl (.tmp rfl .nil) rfl ?_ .nil rfl).1
        first
          | (simp [pathM, retD, *]; done)
          | (rw [hP c1, show decide (a = 47) = false from decide_eq_false (fun h => by have := e47.2 h; omega)]; rfl)
          | (have hp : pathC L[q] = false := (by rw [← Bool.not_eq_true, pathC_is]; omega); rw [hP c1, all_no hlt hp, Bool.and_false]; rfl)
          | (rw [hP c1, all_of (fun i hi => ha i hi (by omega)), show decide (a = 47) = true from decide_eq_true (e47.1 (by omega))]; rfl)
      · refine aw_skip ?_
        refine hK5 _ _ ?_
        clear hK5
        refine aw_seq fun K8 hK8 => ?_
        refine aw_region fun K9 hK9 => ?_
        refine aL z_assign ?_
        refine awl_nil (hK9 _ _ ?_)
        clear hK9 K9
        refine aw_block ?_
        refine aw_loop (α := {x : Nat // x ≤ L.length ∧ ∀ j (hj : j < L.length), j < x → pathC L[j] = true}) (fun x => ([(0, .v (.str L)), (5, .v (.int .i64 (x.1 : Int)))], [])) (fun x => L.length - x.1) ⟨0, by omega, fun j _ hj => by omega⟩ ?_ ?_
        · dsimp only
          exact wK
        · rintro ⟨q, hq, ha⟩ K10 hK10
          dsimp only
          refine aw_seq fun K11 hK11 => ?_
          refine aw_region fun K12 hK12 => ?_
          refine aL z_move ?_
          refine aL z_move ?_
          refine aL (z_lenS Tryz.underlying9) ?_
          refine aL z_lss ?_
          refine awl_nil (hK12 _ _ ?_)
          clear hK12 K12
          refine aC (fun r3 c3 => ?_) (fun r3 c3 => ?_)
          · refine aw_skip ?_
            refine hK11 _ _ ?_
            clear hK11
            refine aw_seq fun K13 hK13 => ?_
            refine aw_block ?_
            refine aw_region fun K14 hK14 => ?_
            have hlt : q < L.length := by omega
            have hi : L[q]? = some L[q] := List.getElem?_eq_getElem hlt
            refine aL z_move ?_
            refine aL z_move ?_
            refine aL (z_indexS Tryz.underlying9 (hb := hi)) ?_
            refine aL z_lss ?_
            refine aL z_move ?_
            first
              | refine gL rfl rfl (ev_tmp rfl) (fun hg => z_move) ?_
              | refine hL rfl rfl (ev_tmp rfl) (fun hg => z_move) ?_
            first
              | refine gL rfl rfl (ev_tmp rfl) (fun hg => z_move) ?_
              | refine hL rfl rfl (ev_tmp rfl) (fun hg => z_move) ?_
            first
              | refine gL rfl rfl (ev_tmp rfl) (fun hg => z_indexS Tryz.underlying9 (hb := hi)) ?_
              | refine hL rfl rfl (ev_tmp rfl) (fun hg => z_indexS Tryz.underlying9 (hb := hi)) ?_
            first
              | refine gL rfl rfl (ev_tmp rfl) (fun hg => z_gtr) ?_
              | refine hL rfl rfl (ev_tmp rfl) (fun hg => z_gtr) ?_
            refine aL z_or ?_
            refine aL z_move ?_
            first
              | refine gL rfl rfl (ev_tmp rfl) (fun hg => z_move) ?_
              | refine hL rfl rfl (ev_tmp rfl) (fun hg => z_move) ?_
            first
              | refine gL rfl rfl (ev_tmp rfl) (fun hg => z_move) ?_
              | refine hL rfl rfl (ev_tmp rfl) (fun hg => z_move) ?_
            first
              | refine gL rfl rfl (ev_tmp rfl) (fun hg => z_indexS Tryz.underlying9 (hb := hi)) ?_
              | refine hL rfl rfl (ev_tmp rfl) (fun hg => z_indexS Tryz.underlying9 (hb := hi)) ?_
            first
              | refine gL rfl rfl (ev_tmp rfl) (fun hg => z_eql) ?_
              | refine hL rfl rfl (ev_tmp rfl) (fun hg => z_eql) ?_
            refine aL z_or ?_
            refine awl_nil (hK14 _ _ ?_)
            clear hK14 K14
            refine aC (fun r4 c4 => ?_) (fun r4 c4 => ?_)
            · refine aw_region fun K15 hK15 => ?_
              refine aL z_assign ?_
              refine awl_nil (hK15 _ _ ?_)
              clear hK15 K15
              refine aw_ret ?_
              refine (hret _ _ _ _ _ rfl (.tmp rfl .nil) rfl ?_ .nil rfl).1
              first
                | (simp [pathM, retD, *]; done)
                | (rw [hP c1, show decide (a = 47) = false from decide_eq_false (fun h => by have := e47.2 h; omega)]; rfl)
                | (have hp : pathC L[q] = false := (by rw [← Bool.not_eq_true, pathC_is]; omega); rw [hP c1, all_no hlt hp, Bool.and_false]; rfl)
                | (rw [hP c1, all_of (fun i hi => ha i hi (by omega)), show decide (a = 47) = true from decide_eq_true (e47.1 (by omega))]; rfl)
            · refine aw_skip ?_
              refine hK13 _ _ ?_
              clear hK13
              refine aw_region_last ?_
              refine aL z_move ?_
              refine aL z_add ?_
              refine aL z_assign ?_
              refine awl_nil ?_
              have hp : pathC L[q] = true := (pathC_is _).2 (by omega)
              refine hK10 _ _ ⟨q + 1, by omega, allq_snoc ha hlt hp⟩ (by dsimp only; omega) ?_
              dsimp only
              exact wK
          · refine aw_exit ?_
            refine hK8 _ _ ?_
            clear hK8
            refine aw_region fun K16 hK16 => ?_
            refine aL z_assign ?_
            refine awl_nil (hK16 _ _ ?_)
            clear hK16 K16
            refine aw_ret ?_
            refine (hret _ _ _ _ _ rfl (.tmp rfl .nil) rfl ?_ .nil rfl).1
            first
              | (simp [pathM, retD, *]; done)
              | (rw [hP c1, show decide (a = 47) = false from decide_eq_false (fun h => by have := e47.2 h; omega)]; rfl)
              | (have hp : pathC L[q] = false := (by rw [← Bool.not_eq_true, pathC_is]; omega); rw [hP c1, all_no hlt hp, Bool.and_false]; rfl)
              | (rw [hP c1, all_of (fun i hi => ha i hi (by omega)), show decide (a = 47) = true from decide_eq_true (e47.1 (by omega))]; rfl)
theorem con_rAuthority {l : List UInt8} (hl : l.length ≤ 1099511627776) : Con Tryz.prog 35 [.v (.str l)] [] 0 (.ret (.v (.bool (authM l)))) [] := by
  refine con_of Tryz.func35 rfl (by show _ ≤ 60; simp) fun X Q hP hnt hnp hret hpan => ?_
  obtain ⟨P0, nt0, w0, K0, S0, np0, pin0, df0⟩ := X
  simp only at hP hnt hnp
  subst hP hnp
  obtain rfl : nt0 = 60 := hnt
  refine aw_region fun K1 hK1 => ?_
  refine aL z_assign ?_
  refine awl_nil (hK1 _ _ ?_)
  clear hK1 K1
  refine aw_seq fun K2 hK2 => ?_
  refine aw_region fun K3 hK3 => ?_
  refine aL z_assign ?_
  refine awl_nil (hK3 _ _ ?_)
  clear hK3 K3
  refine aw_block ?_
  refine aw_loop (α := {x : Nat // x ≤ l.length ∧ ∀ j (hj : j < l.length), j < x → authC l[j] = true}) (fun x => ([(0, .v (.str l)), (3, .v (.int .i64 (x.1 : Int)))], [])) (fun x => l.length - x.1) ⟨0, by omega, fun j _ hj => by omega⟩ ?_ ?_
  · dsimp only
    exact wK
  · rintro ⟨q, hq, ha⟩ K4 hK4
    dsimp only
    refine aw_seq fun K5 hK5 => ?_
    refine aw_region fun K6 hK6 => ?_
    refine aL z_move ?_
    refine aL z_move ?_
    refine aL (z_lenS Tryz.underlying9) ?_
    refine aL z_lss ?_
    refine awl_nil (hK6 _ _ ?_)
    clear hK6 K6
    refine aC (fun r1 c1 => ?_) (fun r1 c1 => ?_)
    · refine aw_skip ?_
      refine hK5 _ _ ?_
      clear hK5
      refine aw_seq fun K7 hK7 => ?_
      refine aw_block ?_
      refine aw_region fun K8 hK8 => ?_
      have hlt : q < l.length := by omega
      have hi : l[q]? = some l[q] := List.getElem?_eq_getElem hlt
      refine aL z_move ?_
      refine aL z_move ?_
      refine aL (z_indexS Tryz.underlying9 (hb := hi)) ?_
      refine aL z_assign ?_
      refine awl_nil (hK8 _ _ ?_)
      clear hK8 K8
      refine aw_region fun K9 hK9 => ?_
      refine aL z_move ?_
      refine aL z_geq ?_
      refine aL z_move ?_
      first
        | refine gL rfl rfl (ev_tmp rfl) (fun hg => z_move) ?_
        | refine hL rfl rfl (ev_tmp rfl) (fun hg => z_move) ?_
      first
        | refine gL rfl rfl (ev_tmp rfl) (fun hg => z_leq) ?_
        | refine hL rfl rfl (ev_tmp rfl) (fun hg => z_leq) ?_
      refine aL z_and ?_
      refine aL z_move ?_
      first
        | refine gL rfl rfl (ev_tmp rfl) (fun hg => z_move) ?_
        | refine hL rfl rfl (ev_tmp rfl) (fun hg => z_move) ?_
      first
        | refine gL rfl rfl (ev_tmp rfl) (fun hg => z_geq) ?_
        | refine hL rfl rfl (ev_tmp rfl) (fun hg => z_geq) ?_
      first
        | refine gL rfl rfl (ev_tmp rfl) (fun hg => z_move) ?_
        | refine hL rfl rfl (ev_tmp rfl) (fun hg => z_move) ?_
      first
        | refine gL rfl rfl (ev_tmp rfl) (fun hg => z_move) ?_
        | refine hL rfl rfl (ev_tmp rfl) (fun hg => z_move) ?_
      first
        | refine gL rfl rfl (ev_tmp rfl) (fun hg => z_leq) ?_
        | refine hL rfl rfl (ev_tmp rfl) (fun hg => z_leq) ?_
      first
        | refine gL rfl rfl (ev_tmp rfl) (fun hg => z_and) ?_
        | refine hL rfl rfl (ev_tmp rfl) (fun hg => z_and) ?_
      refine aL z_or ?_
      refine aL z_move ?_
      first
        | refine gL rfl rfl (ev_tmp rfl) (fun hg => z_move) ?_
        | refine hL rfl rfl (ev_tmp rfl) (fun hg => z_move) ?_
      first
        | refine gL rfl rfl (ev_tmp rfl) (fun hg => z_geq) ?_
        | refine hL rfl rfl (ev_tmp rfl) (fun hg => z_geq) ?_
      first
        | refine gL rfl rfl (ev_tmp rfl) (fun hg => z_move) ?_
        | refine hL rfl rfl (ev_tmp rfl) (fun hg => z_move) ?_
      first
        | refine gL rfl rfl (ev_tmp rfl) (fun hg => z_move) ?_
        | refine hL rfl rfl (ev_tmp rfl) (fun hg => z_move) ?_
      first
        | refine gL rfl rfl (ev_tmp rfl) (fun hg => z_leq) ?_
        | refine hL rfl rfl (ev_tmp rfl) (fun hg => z_leq) ?_
      first
        | refine gL rfl rfl (ev_tmp rfl) (fun hg => z_and) ?_
        | refine hL rfl rfl (ev_tmp rfl) (fun hg => z_and) ?_
      refine aL z_or ?_
      refine aL z_move ?_
      first
        | refine gL rfl rfl (ev_tmp rfl) (fun hg => z_move) ?_
        | refine hL rfl rfl (ev_tmp rfl) (fun hg => z_move) ?_
      first
        | refine gL rfl rfl (ev_tmp rfl) (fun hg => z_eql) ?_
        | refine hL rfl rfl (ev_tmp rfl) (fun hg => z_eql) ?_
      refine aL z_or ?_
      refine aL z_move ?_
      first
        | refine gL rfl rfl (ev_tmp rfl) (fun hg => z_move) ?_
        | refine hL rfl rfl (ev_tmp rfl) (fun hg => z_move) ?_
      first
        | refine gL rfl rfl (ev_tmp rfl) (fun hg => z_eql) ?_
        | refine hL rfl rfl (ev_tmp rfl) (fun hg => z_eql) ?_
      refine aL z_or ?_
      refine aL z_move ?_
      first
        | refine gL rfl rfl (ev_tmp rfl) (fun hg => z_move) ?_
        | refine hL rfl rfl (ev_tmp rfl) (fun hg => z_move) ?_
      first
        | refine gL rfl rfl (ev_tmp rfl) (fun hg => z_eql) ?_
        | refine hL rfl rfl (ev_tmp rfl) (fun hg => z_eql) ?_
      refine aL z_or ?_
      refine aL z_move ?_
      first
        | refine gL rfl rfl (ev_tmp rfl) (fun hg => z_move) ?_
        | refine hL rfl rfl (ev_tmp rfl) (fun hg => z_move) ?_
      first
        | refine gL rfl rfl (ev_tmp rfl) (fun hg => z_eql) ?_
        | refine hL rfl rfl (ev_tmp rfl) (fun hg => z_eql) ?_
      refine aL z_or ?_
      refine aL z_move ?_
      first
        | refine gL rfl rfl (ev_tmp rfl) (fun hg => z_move) ?_
        | refine hL rfl rfl (ev_tmp rfl) (fun hg => z_move) ?_
      first
        | refine gL rfl rfl (ev_tmp rfl) (fun hg => z_eql) ?_
        | refine hL rfl rfl (ev_tmp rfl) (fun hg => z_eql) ?_
      refine aL z_or ?_
      refine aL z_not ?_
      refine awl_nil (hK9 _ _ ?_)
      clear hK9 K9
      refine aC (fun r2 c2 => ?_) (fun r2 c2 => ?_)
      · refine aw_region fun K10 hK10 => ?_
        refine aL z_assign ?_
        refine awl_nil (hK10 _ _ ?_)
        clear hK10 K10
        refine aw_ret ?_
        refine (hret _ _ _ _ _ rfl (.tmp rfl .nil) rfl ?_ .nil rfl).1
        first
          | (have hp : authC l[q] = false := (by unfold authC; rw [decide_eq_false_iff_not]; omega); have := all_no hlt hp; simp [authM, retD, *]; done)
          | (have := all_of (fun i hi => ha i hi (by omega)); cases l <;> simp [authM, retD, *]; done)
      · refine aw_skip ?_
        refine hK7 _ _ ?_
        clear hK7
        refine aw_region_last ?_
        refine aL z_move ?_
        refine aL z_add ?_
        refine aL z_assign ?_
        refine awl_nil ?_
        have hp : authC l[q] = true := (by unfold authC; rw [decide_eq_true_iff]; omega)
        refine hK4 _ _ ⟨q + 1, by omega, allq_snoc ha hlt hp⟩ (by dsimp only; omega) ?_
        dsimp only
        exact wK
    · refine aw_exit ?_
      refine hK2 _ _ ?_
      clear hK2
      refine aw_region fun K11 hK11 => ?_
      refine aL z_move ?_
      refine aL (z_lenS Tryz.underlying9) ?_
      refine aL z_gtr ?_
      refine aL z_assign ?_
      refine awl_nil (hK11 _ _ ?_)
      clear hK11 K11
      refine aw_ret ?_
      refine (hret _ _ _ _ _ rfl (.tmp rfl .nil) rfl ?_ .nil rfl).1
      first
        | (have hp : authC l[q] = false := (by unfold authC; rw [decide_eq_false_iff_not]; omega); have := all_no hlt hp; simp [authM, retD, *]; done)
        | (have := all_of (fun i hi => ha i hi (by omega)); cases l <;> simp [authM, retD, *]; done)
end Go.Proofs.YtnjbfiejgiaibaaGreatDoor
