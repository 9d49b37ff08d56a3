/- Layer 10: the document's Read, walked. No condition. -/
import Derived.Test.YtnjbfiejgiaibaaGreatDoorHdW
namespace Go.Proofs.YtnjbfiejgiaibaaGreatDoor
set_option linter.all false
open Go Go.RowKit
set_option maxRecDepth 10000
set_option maxHeartbeats 8000000
theorem headAt {s : List (List UInt8)} (h : ¬ s = []) : (stV s)[0]? = some [V.str (s.headD [])] := by
  cases s with
  | nil => exact absurd rfl h
  | cons a r => rfl
theorem lastAt {s : List (List UInt8)} (h : ¬ s = []) : (stV s)[s.length - 1]? = some [V.str (lastS s)] := by
  have hp : s.length - 1 < s.length := by cases s with | nil => exact absurd rfl h | cons a r => simp
  rw [stV_get hp]; unfold lastS; rw [List.getElem?_eq_getElem hp]; rfl
theorem idx_last {s : List (List UInt8)} (h : ¬ s = []) : (((stV s).length : Int) - 1) = ((s.length - 1 : Nat) : Int) := by
  have : 0 < s.length := List.length_pos_iff.2 h
  rw [stV_len]; omega
theorem joinC_yes' {a c : List UInt8} (h : ¬ a = [] ∧ ¬ c = []) : joinC a c = a ++ [59, 32] ++ c := if_pos h
theorem joinC_not' {a c : List UInt8} (h : a = [] ∨ c = []) : joinC a c = a ++ c := if_neg (fun hh => by rcases h with h | h; exact hh.1 h; exact hh.2 h)
abbrev NILC : List D := [.v (.str []), .v (.str []), .v (.str []), .v (.str []), .v (.lit (.slice none 0 0))]
theorem joinC_take {v : List (List UInt8)} {k : Nat} (h : k < v.length) : joinM (v.take (k + 1)) = joinC (joinM (v.take k)) v[k] := by
  rw [take_succ' h, joinM_snoc]
theorem joinM_tk (l : List Fd) (k : Nat) : (joinM ((valuesM l kC).take k)).length ≤ szM l := by
  have key : ∀ (r a : List (List UInt8)), ((a.foldl joinC []).length ≤ ((a ++ r).foldl joinC []).length) := by
    intro r
    induction r with
    | nil => intro a; rw [List.append_nil]; exact Nat.le_refl _
    | cons c r ih =>
      intro a
      have h1 := ih (a ++ [c])
      rw [List.append_assoc] at h1
      refine Nat.le_trans ?_ h1
      rw [List.foldl_append]
      show _ ≤ (joinC _ c).length
      unfold joinC; split <;> simp <;> omega
  have h := key ((valuesM l kC).drop k) ((valuesM l kC).take k)
  rw [List.take_append_drop] at h
  exact Nat.le_trans h (joinM_sz l)
theorem head_badI {l : List Fd} (h : ((((((((stV (valuesM l [58, 109, 101, 116, 104, 111, 100])).length : Int) = 0 ∨ ((stV (valuesM l [58, 115, 99, 104, 101, 109, 101])).length : Int) = 0) ∨ ((stV (valuesM l [58, 112, 97, 116, 104])).length : Int) = 0) ∨ tokenM (getM l [58, 109, 101, 116, 104, 111, 100]) = false) ∨ getM l [58, 109, 101, 116, 104, 111, 100] = [67, 79, 78, 78, 69, 67, 84]) ∨ (¬ getM l [58, 115, 99, 104, 101, 109, 101] = [104, 116, 116, 112] ∧ ¬ getM l [58, 115, 99, 104, 101, 109, 101] = [104, 116, 116, 112, 115])) ∨ pathM (getM l [58, 112, 97, 116, 104]) (getM l [58, 109, 101, 116, 104, 111, 100]) = false)) : headM l = false := by
  refine head_bad ?_
  rw [stV_len, stV_len, stV_len] at h
  exact h.imp_left fun h => h.imp_left fun h => h.imp_left fun h => h.imp_left fun h => h.imp (fun h => h.imp (fun h => by omega) (fun h => by omega)) (fun h => by omega)
theorem placeM_noI {l : List Fd} (h0 : askM names4 [] l = 0) (h : ¬ 1 < (valuesM l kH).length) (hc : ((((stV (allM l)).length : Int) = 0 ∨ authM ((allM l).headD []) = false) ∨ authM (lastS (allM l)) = false) ∨ ¬ lowM ((allM l).headD []) = lowM (lastS (allM l))) : placeM l = 100 :=
  placeM_no h0 h (hc.imp_left fun hc => hc.imp_left fun hc => hc.imp_left fun hc => by rw [stV_len] at hc; omega)
theorem many_I {l : List Fd} (h : ¬ (1 : Int) < ((stV (valuesM l [104, 111, 115, 116])).length : Int)) : ¬ 1 < (valuesM l kH).length := by rw [stV_len] at h; intro hh; exact h (by show (1 : Int) < ((valuesM l kH).length : Int); omega)
theorem many_J {l : List Fd} (h : (1 : Int) < ((stV (valuesM l [104, 111, 115, 116])).length : Int)) : 1 < (valuesM l kH).length := by rw [stV_len] at h; have h2 : (1 : Int) < ((valuesM l kH).length : Int) := h; omega
theorem con_rRead1 {l : List Fd} (hs : szM l ≤ 1099511627776) (h0 : ¬ askM names4 [] l = 0) : Con Tryz.prog 14 [.v (.sl (fdV l))] [] 0 (.ret (.tup [.agg (readR l).cs, .v (.int .i64 (readE l))])) [] := by
  have he := readE_ask h0
  have hR : readR l = Rq.nil := if_neg (by rw [he]; exact h0)
  rw [hR]
  refine con_of Tryz.func14 rfl (by show _ ≤ 216; simp) fun X Q hP hnt hnp hret hpan => ?_
  obtain ⟨P0, nt0, w0, K0, S0, np0, pin0, df0⟩ := X
  simp only at hP hnt hnp
  subst hP hnp
  obtain rfl : nt0 = 216 := hnt
  refine aw_region fun K1 hK1 => ?_
  refine aL (z_alloc 0 zc_39 zl_39) ?_
  refine aL z_assign ?_
  refine awl_nil (hK1 _ _ ?_)
  clear hK1 K1
  refine aw_region fun K2 hK2 => ?_
  refine aL (z_build .nil pl_39 zc_39 zl_39) ?_
  refine aL (z_alloc 1 zc_39 zl_39) ?_
  refine aL (z_store sz_39) ?_
  refine awl_nil (hK2 _ _ ?_)
  clear hK2 K2
  refine aw_region fun K3 hK3 => ?_
  refine aL z_move ?_
  refine aL (z_lits (pC (pC (pC (pC .nil)))) Tryz.underlying68 sz_9 zc_9 zl_9 (c := [[.str [58, 109, 101, 116, 104, 111, 100]], [.str [58, 115, 99, 104, 101, 109, 101]], [.str [58, 97, 117, 116, 104, 111, 114, 105, 116, 121]], [.str [58, 112, 97, 116, 104]]])) ?_
  refine aL (z_call0 (eC (eC .nil)) en_31 (con_rAsk (names := names4) (by decide) hs)) ?_
  refine aL z_assign ?_
  refine awl_nil (hK3 _ _ ?_)
  clear hK3 K3
  refine aw_seq fun K4 hK4 => ?_
  refine aw_region fun K5 hK5 => ?_
  refine aL z_move ?_
  refine aL z_neq ?_
  refine awl_nil (hK5 _ _ ?_)
  clear hK5 K5
  refine aC (fun r1 c1 => ?_) (fun r1 c1 => ?_)
  · refine aw_region fun K6 hK6 => ?_
    first
      | refine aL (z_load sz_39) ?_
      | refine aL (z_loadRef sz_39) ?_
      | refine aL (z_loadV sz_39) ?_
    refine aL z_move ?_
    refine aL (z_store sz_39) ?_
    refine aL z_assign ?_
    refine awl_nil (hK6 _ _ ?_)
    clear hK6 K6
    refine aw_weak (fr' := [(2, .ptr 0 0), (3, .v (.int .i64 (readE l)))]) (ah' := [(0, .box Rq.nil.cs)]) (weak_all none trivial (.box rfl (by (repeat (first | apply DWs.cons .nil | apply DWs.cons (.keep rfl))); exact .nil) .nil) (.cons rfl (.keep rfl) (.cons rfl (.eq (d_int he.symm) (.keep rfl)) .nil))) ?_
    refine aw_ret ?_
    refine (hret _ _ _ _ _ rfl (rCe sz_39 (.tmp rfl .nil)) rfl ?_ .nil rfl).1
    rfl
  · exact absurd c1 h0
theorem con_rRead0 {l : List Fd} (hs : szM l ≤ 1099511627776) (h0 : askM names4 [] l = 0) : Con Tryz.prog 14 [.v (.sl (fdV l))] [] 0 (.ret (.tup [.agg (readR l).cs, .v (.int .i64 (readE l))])) [] := by
  have hll := szM_len l
  have hfl := fdV_len l
  have hm0 := headAt (s := valuesM l [58, 109, 101, 116, 104, 111, 100])
  have hs0 := headAt (s := valuesM l [58, 115, 99, 104, 101, 109, 101])
  have hp0 := headAt (s := valuesM l [58, 112, 97, 116, 104])
  have ha0 := headAt (s := allM l)
  have ha1 := lastAt (s := allM l)
  have hgm := getM_sz l [58, 109, 101, 116, 104, 111, 100]
  have hgp := getM_sz l [58, 112, 97, 116, 104]
  have hva := valuesM_len l kA
  have hvh := valuesM_len l kH
  have hvc := valuesM_len l kC
  have hvh2 : (stV (valuesM l [104, 111, 115, 116])).length ≤ l.length := by rw [stV_len]; exact valuesM_len _ _
  have hvh3 : (valuesM l [104, 111, 115, 116]).length ≤ l.length := valuesM_len _ _
  have hsa := stV_len (allM l)
  have hsh := stV_len (valuesM l kH)
  have hsc := stV_len (valuesM l kC)
  have hal : (allM l).length = (valuesM l kA).length + (valuesM l kH).length := by show (valuesM l kA ++ valuesM l kH).length = _; rw [List.length_append]
  have hag : ∀ s ∈ allM l, s.length ≤ szM l := fun s h => by
    rcases List.mem_append.1 (show s ∈ valuesM l kA ++ valuesM l kH from h) with h | h <;> have := valuesM_sz h <;> omega
  have hah : ((allM l).headD []).length ≤ szM l := by cases hv : allM l with | nil => simp | cons a r => exact hag a (by rw [hv]; exact List.mem_cons_self)
  have hat : (lastS (allM l)).length ≤ szM l := by
    unfold lastS; cases hv : (allM l)[(allM l).length - 1]? with | none => simp | some a => exact hag a (List.mem_of_getElem? hv)
  refine con_of Tryz.func14 rfl (by show _ ≤ 216; simp) fun X Q hP hnt hnp hret hpan => ?_
  obtain ⟨P0, nt0, w0, K0, S0, np0, pin0, df0⟩ := X
  simp only at hP hnt hnp
  subst hP hnp
  obtain rfl : nt0 = 216 := hnt
  refine aw_region fun K1 hK1 => ?_
  refine aL (z_alloc 0 zc_39 zl_39) ?_
  refine aL z_assign ?_
  refine awl_nil (hK1 _ _ ?_)
  clear hK1 K1
  refine aw_region fun K2 hK2 => ?_
  refine aL (z_build .nil pl_39 zc_39 zl_39) ?_
  refine aL (z_alloc 1 zc_39 zl_39) ?_
  refine aL (z_store sz_39) ?_
  refine awl_nil (hK2 _ _ ?_)
  clear hK2 K2
  refine aw_region fun K3 hK3 => ?_
  refine aL z_move ?_
  refine aL (z_lits (pC (pC (pC (pC .nil)))) Tryz.underlying68 sz_9 zc_9 zl_9 (c := [[.str [58, 109, 101, 116, 104, 111, 100]], [.str [58, 115, 99, 104, 101, 109, 101]], [.str [58, 97, 117, 116, 104, 111, 114, 105, 116, 121]], [.str [58, 112, 97, 116, 104]]])) ?_
  refine aL (z_call0 (eC (eC .nil)) en_31 (con_rAsk (names := names4) (by decide) hs)) ?_
  refine aL z_assign ?_
  refine awl_nil (hK3 _ _ ?_)
  clear hK3 K3
  refine aw_seq fun K4 hK4 => ?_
  refine aw_region fun K5 hK5 => ?_
  refine aL z_move ?_
  refine aL z_neq ?_
  refine awl_nil (hK5 _ _ ?_)
  clear hK5 K5
  refine aC (fun r1 c1 => ?_) (fun r1 c1 => ?_)
  · exact absurd h0 c1
  · refine aw_skip ?_
    refine hK4 _ _ ?_
    clear hK4
    refine aw_region fun K6 hK6 => ?_
    refine aL z_move ?_
    refine aL (z_call0 (eC (eC .nil)) en_32 (con_ValuesQ hs)) ?_
    refine aL z_assign ?_
    refine awl_nil (hK6 _ _ ?_)
    clear hK6 K6
    refine aw_region fun K7 hK7 => ?_
    refine aL z_move ?_
    refine aL (z_call0 (eC (eC .nil)) en_32 (con_ValuesQ hs)) ?_
    refine aL z_assign ?_
    refine awl_nil (hK7 _ _ ?_)
    clear hK7 K7
    refine aw_region fun K8 hK8 => ?_
    refine aL z_move ?_
    refine aL (z_call0 (eC (eC .nil)) en_32 (con_ValuesQ hs)) ?_
    refine aL z_assign ?_
    refine awl_nil (hK8 _ _ ?_)
    clear hK8 K8
    refine aw_seq fun K9 hK9 => ?_
    refine aw_regionD mx_all (by kernel_rfl) fun K10 hK10 => ?_
    refine aD z_move ?_
    first
      | refine aD (z_lenB Tryz.underlying68) ?_
      | refine aD (z_len Tryz.underlying68) ?_
      | refine aD (z_lenV Tryz.underlying68) ?_
    refine aD z_eql ?_
    refine aD z_move ?_
    first
      | refine gD rfl rfl (ev_tmp rfl) (fun hg => z_move) ?_
      | refine hD rfl rfl (ev_tmp rfl) (fun hg => z_move) ?_
    first
      | refine gD rfl rfl (ev_tmp rfl) (fun hg => z_lenB Tryz.underlying68) ?_
      | refine gD rfl rfl (ev_tmp rfl) (fun hg => z_len Tryz.underlying68) ?_
      | refine gD rfl rfl (ev_tmp rfl) (fun hg => z_lenV Tryz.underlying68) ?_
      | refine hD rfl rfl (ev_tmp rfl) (fun hg => z_lenB Tryz.underlying68) ?_
      | refine hD rfl rfl (ev_tmp rfl) (fun hg => z_len Tryz.underlying68) ?_
      | refine hD rfl rfl (ev_tmp rfl) (fun hg => z_lenV Tryz.underlying68) ?_
    first
      | refine gD rfl rfl (ev_tmp rfl) (fun hg => z_eql) ?_
      | refine hD rfl rfl (ev_tmp rfl) (fun hg => z_eql) ?_
    refine aD z_or ?_
    refine aD z_move ?_
    first
      | refine gD rfl rfl (ev_tmp rfl) (fun hg => z_move) ?_
      | refine hD rfl rfl (ev_tmp rfl) (fun hg => z_move) ?_
    first
      | refine gD rfl rfl (ev_tmp rfl) (fun hg => z_lenB Tryz.underlying68) ?_
      | refine gD rfl rfl (ev_tmp rfl) (fun hg => z_len Tryz.underlying68) ?_
      | refine gD rfl rfl (ev_tmp rfl) (fun hg => z_lenV Tryz.underlying68) ?_
      | refine hD rfl rfl (ev_tmp rfl) (fun hg => z_lenB Tryz.underlying68) ?_
      | refine hD rfl rfl (ev_tmp rfl) (fun hg => z_len Tryz.underlying68) ?_
      | refine hD rfl rfl (ev_tmp rfl) (fun hg => z_lenV Tryz.underlying68) ?_
    first
      | refine gD rfl rfl (ev_tmp rfl) (fun hg => z_eql) ?_
      | refine hD rfl rfl (ev_tmp rfl) (fun hg => z_eql) ?_
    refine aD z_or ?_
    refine aD z_move ?_
    first
      | refine gD rfl rfl (ev_tmp rfl) (fun hg => z_move) ?_
      | refine hD rfl rfl (ev_tmp rfl) (fun hg => z_move) ?_
    first
      | refine gD rfl rfl (ev_tmp rfl) (fun hg => z_indexAddr Tryz.underlying68 sz_9 (hb := hm0 (by simp at hg; simp [hg]))) ?_
      | refine hD rfl rfl (ev_tmp rfl) (fun hg => z_indexAddr Tryz.underlying68 sz_9 (hb := hm0 (by simp at hg; simp [hg]))) ?_
    first
      | refine gD rfl rfl (ev_tmp rfl) (fun hg => z_load sz_9) ?_
      | refine gD rfl rfl (ev_tmp rfl) (fun hg => z_loadRef sz_9) ?_
      | refine gD rfl rfl (ev_tmp rfl) (fun hg => z_loadV sz_9) ?_
      | refine hD rfl rfl (ev_tmp rfl) (fun hg => z_load sz_9) ?_
      | refine hD rfl rfl (ev_tmp rfl) (fun hg => z_loadRef sz_9) ?_
      | refine hD rfl rfl (ev_tmp rfl) (fun hg => z_loadV sz_9) ?_
    first
      | refine gD rfl rfl (ev_tmp rfl) (fun hg => z_call0 (eC .nil) en_33 (con_rToken (l := getM l [58, 109, 101, 116, 104, 111, 100]) (by unfold maxLen; omega))) ?_
      | refine hD rfl rfl (ev_tmp rfl) (fun hg => z_call0 (eC .nil) en_33 (con_rToken (l := getM l [58, 109, 101, 116, 104, 111, 100]) (by unfold maxLen; omega))) ?_
    first
      | refine gD rfl rfl (ev_tmp rfl) (fun hg => z_not) ?_
      | refine hD rfl rfl (ev_tmp rfl) (fun hg => z_not) ?_
    refine aD z_or ?_
    refine aD z_move ?_
    first
      | refine gD rfl rfl (ev_tmp rfl) (fun hg => z_move) ?_
      | refine hD rfl rfl (ev_tmp rfl) (fun hg => z_move) ?_
    first
      | refine gD rfl rfl (ev_tmp rfl) (fun hg => z_indexAddr Tryz.underlying68 sz_9 (hb := hm0 (by simp at hg; simp [hg]))) ?_
      | refine hD rfl rfl (ev_tmp rfl) (fun hg => z_indexAddr Tryz.underlying68 sz_9 (hb := hm0 (by simp at hg; simp [hg]))) ?_
    first
      | refine gD rfl rfl (ev_tmp rfl) (fun hg => z_load sz_9) ?_
      | refine gD rfl rfl (ev_tmp rfl) (fun hg => z_loadRef sz_9) ?_
      | refine gD rfl rfl (ev_tmp rfl) (fun hg => z_loadV sz_9) ?_
      | refine hD rfl rfl (ev_tmp rfl) (fun hg => z_load sz_9) ?_
      | refine hD rfl rfl (ev_tmp rfl) (fun hg => z_loadRef sz_9) ?_
      | refine hD rfl rfl (ev_tmp rfl) (fun hg => z_loadV sz_9) ?_
    first
      | refine gD rfl rfl (ev_tmp rfl) (fun hg => z_eqlS) ?_
      | refine hD rfl rfl (ev_tmp rfl) (fun hg => z_eqlS) ?_
    refine aD z_or ?_
    refine aD z_move ?_
    first
      | refine gD rfl rfl (ev_tmp rfl) (fun hg => z_move) ?_
      | refine hD rfl rfl (ev_tmp rfl) (fun hg => z_move) ?_
    first
      | refine gD rfl rfl (ev_tmp rfl) (fun hg => z_indexAddr Tryz.underlying68 sz_9 (hb := hs0 (by simp at hg; simp [hg]))) ?_
      | refine hD rfl rfl (ev_tmp rfl) (fun hg => z_indexAddr Tryz.underlying68 sz_9 (hb := hs0 (by simp at hg; simp [hg]))) ?_
    first
      | refine gD rfl rfl (ev_tmp rfl) (fun hg => z_load sz_9) ?_
      | refine gD rfl rfl (ev_tmp rfl) (fun hg => z_loadRef sz_9) ?_
      | refine gD rfl rfl (ev_tmp rfl) (fun hg => z_loadV sz_9) ?_
      | refine hD rfl rfl (ev_tmp rfl) (fun hg => z_load sz_9) ?_
      | refine hD rfl rfl (ev_tmp rfl) (fun hg => z_loadRef sz_9) ?_
      | refine hD rfl rfl (ev_tmp rfl) (fun hg => z_loadV sz_9) ?_
    first
      | refine gD rfl rfl (ev_tmp rfl) (fun hg => z_neqS) ?_
      | refine hD rfl rfl (ev_tmp rfl) (fun hg => z_neqS) ?_
    first
      | refine gD rfl rfl (ev_tmp rfl) (fun hg => z_move) ?_
      | refine hD rfl rfl (ev_tmp rfl) (fun hg => z_move) ?_
    first
      | refine gD rfl rfl (ev_tmp rfl) (fun hg => z_move) ?_
      | refine hD rfl rfl (ev_tmp rfl) (fun hg => z_move) ?_
    first
      | refine gD rfl rfl (ev_tmp rfl) (fun hg => z_indexAddr Tryz.underlying68 sz_9 (hb := hs0 (by simp at hg; simp [hg]))) ?_
      | refine hD rfl rfl (ev_tmp rfl) (fun hg => z_indexAddr Tryz.underlying68 sz_9 (hb := hs0 (by simp at hg; simp [hg]))) ?_
    first
      | refine gD rfl rfl (ev_tmp rfl) (fun hg => z_load sz_9) ?_
      | refine gD rfl rfl (ev_tmp rfl) (fun hg => z_loadRef sz_9) ?_
      | refine gD rfl rfl (ev_tmp rfl) (fun hg => z_loadV sz_9) ?_
      | refine hD rfl rfl (ev_tmp rfl) (fun hg => z_load sz_9) ?_
      | refine hD rfl rfl (ev_tmp rfl) (fun hg => z_loadRef sz_9) ?_
      | refine hD rfl rfl (ev_tmp rfl) (fun hg => z_loadV sz_9) ?_
    first
      | refine gD rfl rfl (ev_tmp rfl) (fun hg => z_neqS) ?_
      | refine hD rfl rfl (ev_tmp rfl) (fun hg => z_neqS) ?_
    first
      | refine gD rfl rfl (ev_tmp rfl) (fun hg => z_and) ?_
      | refine hD rfl rfl (ev_tmp rfl) (fun hg => z_and) ?_
    refine aD z_or ?_
    refine aD z_move ?_
    first
      | refine gD rfl rfl (ev_tmp rfl) (fun hg => z_move) ?_
      | refine hD rfl rfl (ev_tmp rfl) (fun hg => z_move) ?_
    first
      | refine gD rfl rfl (ev_tmp rfl) (fun hg => z_indexAddr Tryz.underlying68 sz_9 (hb := hp0 (by simp at hg; simp [hg]))) ?_
      | refine hD rfl rfl (ev_tmp rfl) (fun hg => z_indexAddr Tryz.underlying68 sz_9 (hb := hp0 (by simp at hg; simp [hg]))) ?_
    first
      | refine gD rfl rfl (ev_tmp rfl) (fun hg => z_load sz_9) ?_
      | refine gD rfl rfl (ev_tmp rfl) (fun hg => z_loadRef sz_9) ?_
      | refine gD rfl rfl (ev_tmp rfl) (fun hg => z_loadV sz_9) ?_
      | refine hD rfl rfl (ev_tmp rfl) (fun hg => z_load sz_9) ?_
      | refine hD rfl rfl (ev_tmp rfl) (fun hg => z_loadRef sz_9) ?_
      | refine hD rfl rfl (ev_tmp rfl) (fun hg => z_loadV sz_9) ?_
    first
      | refine gD rfl rfl (ev_tmp rfl) (fun hg => z_move) ?_
      | refine hD rfl rfl (ev_tmp rfl) (fun hg => z_move) ?_
    first
      | refine gD rfl rfl (ev_tmp rfl) (fun hg => z_indexAddr Tryz.underlying68 sz_9 (hb := hm0 (by simp at hg; simp [hg]))) ?_
      | refine hD rfl rfl (ev_tmp rfl) (fun hg => z_indexAddr Tryz.underlying68 sz_9 (hb := hm0 (by simp at hg; simp [hg]))) ?_
    first
      | refine gD rfl rfl (ev_tmp rfl) (fun hg => z_load sz_9) ?_
      | refine gD rfl rfl (ev_tmp rfl) (fun hg => z_loadRef sz_9) ?_
      | refine gD rfl rfl (ev_tmp rfl) (fun hg => z_loadV sz_9) ?_
      | refine hD rfl rfl (ev_tmp rfl) (fun hg => z_load sz_9) ?_
      | refine hD rfl rfl (ev_tmp rfl) (fun hg => z_loadRef sz_9) ?_
      | refine hD rfl rfl (ev_tmp rfl) (fun hg => z_loadV sz_9) ?_
    first
      | refine gD rfl rfl (ev_tmp rfl) (fun hg => z_call0 (eC (eC .nil)) en_34 (con_rPath (l := getM l [58, 112, 97, 116, 104]) (k := getM l [58, 109, 101, 116, 104, 111, 100]) (by omega))) ?_
      | refine hD rfl rfl (ev_tmp rfl) (fun hg => z_call0 (eC (eC .nil)) en_34 (con_rPath (l := getM l [58, 112, 97, 116, 104]) (k := getM l [58, 109, 101, 116, 104, 111, 100]) (by omega))) ?_
    first
      | refine gD rfl rfl (ev_tmp rfl) (fun hg => z_not) ?_
      | refine hD rfl rfl (ev_tmp rfl) (fun hg => z_not) ?_
    refine aD z_or ?_
    refine awd_nil (by kernel_rfl) (hK10 _ _ ?_)
    clear hK10 K10
    refine aC (fun r2 c2 => ?_) (fun r2 c2 => ?_)
    · refine aw_region fun K11 hK11 => ?_
      first
        | refine aL (z_load sz_39) ?_
        | refine aL (z_loadRef sz_39) ?_
        | refine aL (z_loadV sz_39) ?_
      refine aL (z_store sz_39) ?_
      refine aL z_assign ?_
      refine awl_nil (hK11 _ _ ?_)
      clear hK11 K11
      first
        | (have he : readE l = 100 := readE_head h0 (head_badI c2); have hR : readR l = Rq.nil := if_neg (by rw [he]; first | decide | assumption); rw [hR] at hret; refine aw_weak (fr' := [(2, .ptr 0 0), (3, .v (.int .i64 (readE l)))]) (ah' := [(0, .box Rq.nil.cs)]) (weak_all none trivial (.box rfl (by (repeat (first | apply DWs.cons .nil | apply DWs.cons (.keep rfl))); exact .nil) .nil) (.cons rfl (.keep rfl) (.cons rfl (.eq (d_int he.symm) (.keep rfl)) .nil))) ?_)
        | (have he : readE l = 101 := (readE_place h0 (head_yes ⟨⟨⟨c2.1.1.1.2, c2.1.1.2⟩, c2.1.2⟩, c2.2⟩) (by rw [placeM_many (many_J c3)]; decide)).trans (placeM_many (many_J c3)); have hR : readR l = Rq.nil := if_neg (by rw [he]; first | decide | assumption); rw [hR] at hret; refine aw_weak (fr' := [(2, .ptr 0 0), (3, .v (.int .i64 (readE l)))]) (ah' := [(0, .box Rq.nil.cs)]) (weak_all none trivial (.box rfl (by (repeat (first | apply DWs.cons .nil | apply DWs.cons (.keep rfl))); exact .nil) .nil) (.cons rfl (.keep rfl) (.cons rfl (.eq (d_int he.symm) (.keep rfl)) .nil))) ?_)
        | (have he : readE l = 100 := (readE_place h0 (head_yes ⟨⟨⟨c2.1.1.1.2, c2.1.1.2⟩, c2.1.2⟩, c2.2⟩) (by rw [placeM_noI h0 (many_I (Int.not_lt.2 c3)) c4]; decide)).trans (placeM_noI h0 (many_I (Int.not_lt.2 c3)) c4); have hR : readR l = Rq.nil := if_neg (by rw [he]; first | decide | assumption); rw [hR] at hret; refine aw_weak (fr' := [(2, .ptr 0 0), (3, .v (.int .i64 (readE l)))]) (ah' := [(0, .box Rq.nil.cs)]) (weak_all none trivial (.box rfl (by (repeat (first | apply DWs.cons .nil | apply DWs.cons (.keep rfl))); exact .nil) .nil) (.cons rfl (.keep rfl) (.cons rfl (.eq (d_int he.symm) (.keep rfl)) .nil))) ?_)
        | (have hx : ¬ (lenM l).2.2 = 0 := (by assumption); have he := readE_len h0 (head_yes ⟨⟨⟨c2.1.1.1.2, c2.1.1.2⟩, c2.1.2⟩, c2.2⟩) (placeM_yes h0 (many_I (Int.not_lt.2 c3)) (fun h => c4.1.1.1 (by rw [h]; rfl)) c4.1.1.2 c4.1.2 c4.2); have hR : readR l = Rq.nil := if_neg (by rw [he]; first | decide | assumption); rw [hR] at hret; refine aw_weak (fr' := [(2, .ptr 0 0), (3, .v (.int .i64 (readE l)))]) (ah' := [(0, .box Rq.nil.cs)]) (weak_all none trivial (.box rfl (by (repeat (first | apply DWs.cons .nil | apply DWs.cons (.keep rfl))); exact .nil) .nil) (.cons rfl (.keep rfl) (.cons rfl (.eq (d_int he.symm) (.keep rfl)) .nil))) ?_)
        | (have hx : q = l.length := (by omega); subst hx; have he : readE l = 0 := (readE_len h0 hHd hPl).trans c5; have hR : readR l = ⟨getM l [58, 109, 101, 116, 104, 111, 100], getM l [58, 115, 99, 104, 101, 109, 101], lowM ((allM l).headD []), getM l [58, 112, 97, 116, 104], outM l⟩ := if_pos he; rw [hR, he] at hret; rw [outP_end]; refine aw_weak (weak_all (fr' := [(2, .ptr 0 0), (3, .v (.int .i64 0))]) (ah' := [(0, .box (Rq.cs ⟨getM l [58, 109, 101, 116, 104, 111, 100], getM l [58, 115, 99, 104, 101, 109, 101], lowM ((allM l).headD []), getM l [58, 112, 97, 116, 104], outM l⟩))]) (some (4, 0, fdV (outM l))) ⟨rfl, _, _, rfl⟩ (.box rfl (.cons (.keep rfl) (.cons (.keep rfl) (.cons (.keep rfl) (.cons (.keep rfl) (.cons (.view rfl (cutF (by simp))) .nil))))) .nil) (.cons rfl (.keep rfl) (.cons rfl (.keep rfl) .nil))) ?_)
      refine aw_ret ?_
      refine (hret _ _ _ _ _ rfl (rCe sz_39 (.tmp rfl .nil)) rfl ?_ .nil rfl).1
      rfl
    · refine aw_skip ?_
      refine hK9 _ _ ?_
      clear hK9
      refine aw_region fun K12 hK12 => ?_
      refine aL z_move ?_
      refine aL (z_call0 (eC (eC .nil)) en_32 (con_ValuesQ hs)) ?_
      refine aL z_assign ?_
      refine awl_nil (hK12 _ _ ?_)
      clear hK12 K12
      refine aw_seq fun K13 hK13 => ?_
      refine aw_region fun K14 hK14 => ?_
      refine aL z_move ?_
      first
        | refine aL (z_lenB Tryz.underlying68) ?_
        | refine aL (z_len Tryz.underlying68) ?_
        | refine aL (z_lenV Tryz.underlying68) ?_
      refine aL z_gtr ?_
      refine awl_nil (hK14 _ _ ?_)
      clear hK14 K14
      refine aC (fun r3 c3 => ?_) (fun r3 c3 => ?_)
      · refine aw_region fun K15 hK15 => ?_
        first
          | refine aL (z_load sz_39) ?_
          | refine aL (z_loadRef sz_39) ?_
          | refine aL (z_loadV sz_39) ?_
        refine aL (z_store sz_39) ?_
        refine aL z_assign ?_
        refine awl_nil (hK15 _ _ ?_)
        clear hK15 K15
        first
          | (have he : readE l = 100 := readE_head h0 (head_badI c2); have hR : readR l = Rq.nil := if_neg (by rw [he]; first | decide | assumption); rw [hR] at hret; refine aw_weak (fr' := [(2, .ptr 0 0), (3, .v (.int .i64 (readE l)))]) (ah' := [(0, .box Rq.nil.cs)]) (weak_all none trivial (.box rfl (by (repeat (first | apply DWs.cons .nil | apply DWs.cons (.keep rfl))); exact .nil) .nil) (.cons rfl (.keep rfl) (.cons rfl (.eq (d_int he.symm) (.keep rfl)) .nil))) ?_)
          | (have he : readE l = 101 := (readE_place h0 (head_yes ⟨⟨⟨c2.1.1.1.2, c2.1.1.2⟩, c2.1.2⟩, c2.2⟩) (by rw [placeM_many (many_J c3)]; decide)).trans (placeM_many (many_J c3)); have hR : readR l = Rq.nil := if_neg (by rw [he]; first | decide | assumption); rw [hR] at hret; refine aw_weak (fr' := [(2, .ptr 0 0), (3, .v (.int .i64 (readE l)))]) (ah' := [(0, .box Rq.nil.cs)]) (weak_all none trivial (.box rfl (by (repeat (first | apply DWs.cons .nil | apply DWs.cons (.keep rfl))); exact .nil) .nil) (.cons rfl (.keep rfl) (.cons rfl (.eq (d_int he.symm) (.keep rfl)) .nil))) ?_)
          | (have he : readE l = 100 := (readE_place h0 (head_yes ⟨⟨⟨c2.1.1.1.2, c2.1.1.2⟩, c2.1.2⟩, c2.2⟩) (by rw [placeM_noI h0 (many_I (Int.not_lt.2 c3)) c4]; decide)).trans (placeM_noI h0 (many_I (Int.not_lt.2 c3)) c4); have hR : readR l = Rq.nil := if_neg (by rw [he]; first | decide | assumption); rw [hR] at hret; refine aw_weak (fr' := [(2, .ptr 0 0), (3, .v (.int .i64 (readE l)))]) (ah' := [(0, .box Rq.nil.cs)]) (weak_all none trivial (.box rfl (by (repeat (first | apply DWs.cons .nil | apply DWs.cons (.keep rfl))); exact .nil) .nil) (.cons rfl (.keep rfl) (.cons rfl (.eq (d_int he.symm) (.keep rfl)) .nil))) ?_)
          | (have hx : ¬ (lenM l).2.2 = 0 := (by assumption); have he := readE_len h0 (head_yes ⟨⟨⟨c2.1.1.1.2, c2.1.1.2⟩, c2.1.2⟩, c2.2⟩) (placeM_yes h0 (many_I (Int.not_lt.2 c3)) (fun h => c4.1.1.1 (by rw [h]; rfl)) c4.1.1.2 c4.1.2 c4.2); have hR : readR l = Rq.nil := if_neg (by rw [he]; first | decide | assumption); rw [hR] at hret; refine aw_weak (fr' := [(2, .ptr 0 0), (3, .v (.int .i64 (readE l)))]) (ah' := [(0, .box Rq.nil.cs)]) (weak_all none trivial (.box rfl (by (repeat (first | apply DWs.cons .nil | apply DWs.cons (.keep rfl))); exact .nil) .nil) (.cons rfl (.keep rfl) (.cons rfl (.eq (d_int he.symm) (.keep rfl)) .nil))) ?_)
          | (have hx : q = l.length := (by omega); subst hx; have he : readE l = 0 := (readE_len h0 hHd hPl).trans c5; have hR : readR l = ⟨getM l [58, 109, 101, 116, 104, 111, 100], getM l [58, 115, 99, 104, 101, 109, 101], lowM ((allM l).headD []), getM l [58, 112, 97, 116, 104], outM l⟩ := if_pos he; rw [hR, he] at hret; rw [outP_end]; refine aw_weak (weak_all (fr' := [(2, .ptr 0 0), (3, .v (.int .i64 0))]) (ah' := [(0, .box (Rq.cs ⟨getM l [58, 109, 101, 116, 104, 111, 100], getM l [58, 115, 99, 104, 101, 109, 101], lowM ((allM l).headD []), getM l [58, 112, 97, 116, 104], outM l⟩))]) (some (4, 0, fdV (outM l))) ⟨rfl, _, _, rfl⟩ (.box rfl (.cons (.keep rfl) (.cons (.keep rfl) (.cons (.keep rfl) (.cons (.keep rfl) (.cons (.view rfl (cutF (by simp))) .nil))))) .nil) (.cons rfl (.keep rfl) (.cons rfl (.keep rfl) .nil))) ?_)
        refine aw_ret ?_
        refine (hret _ _ _ _ _ rfl (rCe sz_39 (.tmp rfl .nil)) rfl ?_ .nil rfl).1
        rfl
      · refine aw_skip ?_
        refine hK13 _ _ ?_
        clear hK13
        refine aw_region fun K16 hK16 => ?_
        refine aL z_move ?_
        refine aL (z_call1 2 (eC (eC .nil)) en_32 (con_ValuesR (k := kA) hs)) ?_
        refine aL z_move ?_
        first
          | refine aL (z_app Tryz.underlying68 zi_9 (hs := by first | exact bs_one _ | exact stV_one _ | exact fdV_one _ | (simp; done))) ?_
          | refine aL (z_appV Tryz.underlying68 zi_9) ?_
          | refine aL (z_appN 2 Tryz.underlying68 zi_9 (hs := by first | exact bs_one _ | exact stV_one _ | exact fdV_one _ | (simp; done))) ?_
          | refine aL (z_appNV 2 Tryz.underlying68 zi_9) ?_
        refine aL z_assign ?_
        refine awl_nil (hK16 _ _ ?_)
        clear hK16 K16
        refine aw_weak (weak_all (fr' := [(0, .v (.sl (fdV l))), (2, .ptr 0 0), (4, .ptr 1 0), (6, .v (.sl (stV (valuesM l [58, 109, 101, 116, 104, 111, 100])))), (7, .v (.sl (stV (valuesM l [58, 115, 99, 104, 101, 109, 101])))), (8, .v (.sl (stV (valuesM l [58, 112, 97, 116, 104])))), (10, .v (.sl (stV (allM l))))]) (ah' := [(0, .box NILC), (1, .box NILC)]) (some (2, 1, (stV (valuesM l kA)).take (valuesM l kA).length ++ stV (valuesM l kH))) ⟨rfl, _, _, rfl⟩ (.box rfl (.same rfl) (.box rfl (.same rfl) .nil)) (.cons rfl (.keep rfl) (.cons rfl (.keep rfl) (.cons rfl (.keep rfl) (.cons rfl (.keep rfl) (.cons rfl (.keep rfl) (.cons rfl (.keep rfl) (.cons rfl (.view rfl ((cutF (by simp; rfl)).trans (stV_join rfl))) .nil)))))))) ?_
        refine aw_seq fun K17 hK17 => ?_
        refine aw_regionD mx_all (by kernel_rfl) fun K18 hK18 => ?_
        refine aD z_move ?_
        first
          | refine aD (z_lenB Tryz.underlying68) ?_
          | refine aD (z_len Tryz.underlying68) ?_
          | refine aD (z_lenV Tryz.underlying68) ?_
        refine aD z_eql ?_
        refine aD z_move ?_
        first
          | refine gD rfl rfl (ev_tmp rfl) (fun hg => z_move) ?_
          | refine hD rfl rfl (ev_tmp rfl) (fun hg => z_move) ?_
        first
          | refine gD rfl rfl (ev_tmp rfl) (fun hg => z_indexAddr Tryz.underlying68 sz_9 (hb := ha0 (by simp at hg; simp [hg]))) ?_
          | refine hD rfl rfl (ev_tmp rfl) (fun hg => z_indexAddr Tryz.underlying68 sz_9 (hb := ha0 (by simp at hg; simp [hg]))) ?_
        first
          | refine gD rfl rfl (ev_tmp rfl) (fun hg => z_load sz_9) ?_
          | refine gD rfl rfl (ev_tmp rfl) (fun hg => z_loadRef sz_9) ?_
          | refine gD rfl rfl (ev_tmp rfl) (fun hg => z_loadV sz_9) ?_
          | refine hD rfl rfl (ev_tmp rfl) (fun hg => z_load sz_9) ?_
          | refine hD rfl rfl (ev_tmp rfl) (fun hg => z_loadRef sz_9) ?_
          | refine hD rfl rfl (ev_tmp rfl) (fun hg => z_loadV sz_9) ?_
        first
          | refine gD rfl rfl (ev_tmp rfl) (fun hg => z_call0 (eC .nil) en_35 (con_rAuthority (by omega))) ?_
          | refine hD rfl rfl (ev_tmp rfl) (fun hg => z_call0 (eC .nil) en_35 (con_rAuthority (by omega))) ?_
        first
          | refine gD rfl rfl (ev_tmp rfl) (fun hg => z_not) ?_
          | refine hD rfl rfl (ev_tmp rfl) (fun hg => z_not) ?_
        refine aD z_or ?_
        refine aD z_move ?_
        first
          | refine gD rfl rfl (ev_tmp rfl) (fun hg => z_move) ?_
          | refine hD rfl rfl (ev_tmp rfl) (fun hg => z_move) ?_
        first
          | refine gD rfl rfl (ev_tmp rfl) (fun hg => z_move) ?_
          | refine hD rfl rfl (ev_tmp rfl) (fun hg => z_move) ?_
        first
          | refine gD rfl rfl (ev_tmp rfl) (fun hg => z_lenB Tryz.underlying68) ?_
          | refine gD rfl rfl (ev_tmp rfl) (fun hg => z_len Tryz.underlying68) ?_
          | refine gD rfl rfl (ev_tmp rfl) (fun hg => z_lenV Tryz.underlying68) ?_
          | refine hD rfl rfl (ev_tmp rfl) (fun hg => z_lenB Tryz.underlying68) ?_
          | refine hD rfl rfl (ev_tmp rfl) (fun hg => z_len Tryz.underlying68) ?_
          | refine hD rfl rfl (ev_tmp rfl) (fun hg => z_lenV Tryz.underlying68) ?_
        first
          | refine gD rfl rfl (ev_tmp rfl) (fun hg => z_sub) ?_
          | refine hD rfl rfl (ev_tmp rfl) (fun hg => z_sub) ?_
        first
          | refine gD rfl rfl (ev_tmp rfl) (fun hg => z_indexAddr Tryz.underlying68 sz_9 (hb := ha1 (by simp at hg; simp [hg])) (hp := idx_last (by simp at hg; simp [hg]))) ?_
          | refine hD rfl rfl (ev_tmp rfl) (fun hg => z_indexAddr Tryz.underlying68 sz_9 (hb := ha1 (by simp at hg; simp [hg])) (hp := idx_last (by simp at hg; simp [hg]))) ?_
        first
          | refine gD rfl rfl (ev_tmp rfl) (fun hg => z_load sz_9) ?_
          | refine gD rfl rfl (ev_tmp rfl) (fun hg => z_loadRef sz_9) ?_
          | refine gD rfl rfl (ev_tmp rfl) (fun hg => z_loadV sz_9) ?_
          | refine hD rfl rfl (ev_tmp rfl) (fun hg => z_load sz_9) ?_
          | refine hD rfl rfl (ev_tmp rfl) (fun hg => z_loadRef sz_9) ?_
          | refine hD rfl rfl (ev_tmp rfl) (fun hg => z_loadV sz_9) ?_
        first
          | refine gD rfl rfl (ev_tmp rfl) (fun hg => z_call0 (eC .nil) en_35 (con_rAuthority (by omega))) ?_
          | refine hD rfl rfl (ev_tmp rfl) (fun hg => z_call0 (eC .nil) en_35 (con_rAuthority (by omega))) ?_
        first
          | refine gD rfl rfl (ev_tmp rfl) (fun hg => z_not) ?_
          | refine hD rfl rfl (ev_tmp rfl) (fun hg => z_not) ?_
        refine aD z_or ?_
        refine aD z_move ?_
        first
          | refine gD rfl rfl (ev_tmp rfl) (fun hg => z_move) ?_
          | refine hD rfl rfl (ev_tmp rfl) (fun hg => z_move) ?_
        first
          | refine gD rfl rfl (ev_tmp rfl) (fun hg => z_indexAddr Tryz.underlying68 sz_9 (hb := ha0 (by simp at hg; simp [hg]))) ?_
          | refine hD rfl rfl (ev_tmp rfl) (fun hg => z_indexAddr Tryz.underlying68 sz_9 (hb := ha0 (by simp at hg; simp [hg]))) ?_
        first
          | refine gD rfl rfl (ev_tmp rfl) (fun hg => z_load sz_9) ?_
          | refine gD rfl rfl (ev_tmp rfl) (fun hg => z_loadRef sz_9) ?_
          | refine gD rfl rfl (ev_tmp rfl) (fun hg => z_loadV sz_9) ?_
          | refine hD rfl rfl (ev_tmp rfl) (fun hg => z_load sz_9) ?_
          | refine hD rfl rfl (ev_tmp rfl) (fun hg => z_loadRef sz_9) ?_
          | refine hD rfl rfl (ev_tmp rfl) (fun hg => z_loadV sz_9) ?_
        first
          | refine gD rfl rfl (ev_tmp rfl) (fun hg => z_call0 (eC .nil) en_36 (con_rLower (by omega))) ?_
          | refine hD rfl rfl (ev_tmp rfl) (fun hg => z_call0 (eC .nil) en_36 (con_rLower (by omega))) ?_
        first
          | refine gD rfl rfl (ev_tmp rfl) (fun hg => z_move) ?_
          | refine hD rfl rfl (ev_tmp rfl) (fun hg => z_move) ?_
        first
          | refine gD rfl rfl (ev_tmp rfl) (fun hg => z_move) ?_
          | refine hD rfl rfl (ev_tmp rfl) (fun hg => z_move) ?_
        first
          | refine gD rfl rfl (ev_tmp rfl) (fun hg => z_lenB Tryz.underlying68) ?_
          | refine gD rfl rfl (ev_tmp rfl) (fun hg => z_len Tryz.underlying68) ?_
          | refine gD rfl rfl (ev_tmp rfl) (fun hg => z_lenV Tryz.underlying68) ?_
          | refine hD rfl rfl (ev_tmp rfl) (fun hg => z_lenB Tryz.underlying68) ?_
          | refine hD rfl rfl (ev_tmp rfl) (fun hg => z_len Tryz.underlying68) ?_
          | refine hD rfl rfl (ev_tmp rfl) (fun hg => z_lenV Tryz.underlying68) ?_
        first
          | refine gD rfl rfl (ev_tmp rfl) (fun hg => z_sub) ?_
          | refine hD rfl rfl (ev_tmp rfl) (fun hg => z_sub) ?_
        first
          | refine gD rfl rfl (ev_tmp rfl) (fun hg => z_indexAddr Tryz.underlying68 sz_9 (hb := ha1 (by simp at hg; simp [hg])) (hp := idx_last (by simp at hg; simp [hg]))) ?_
          | refine hD rfl rfl (ev_tmp rfl) (fun hg => z_indexAddr Tryz.underlying68 sz_9 (hb := ha1 (by simp at hg; simp [hg])) (hp := idx_last (by simp at hg; simp [hg]))) ?_
        first
          | refine gD rfl rfl (ev_tmp rfl) (fun hg => z_load sz_9) ?_
          | refine gD rfl rfl (ev_tmp rfl) (fun hg => z_loadRef sz_9) ?_
          | refine gD rfl rfl (ev_tmp rfl) (fun hg => z_loadV sz_9) ?_
          | refine hD rfl rfl (ev_tmp rfl) (fun hg => z_load sz_9) ?_
          | refine hD rfl rfl (ev_tmp rfl) (fun hg => z_loadRef sz_9) ?_
          | refine hD rfl rfl (ev_tmp rfl) (fun hg => z_loadV sz_9) ?_
        first
          | refine gD rfl rfl (ev_tmp rfl) (fun hg => z_call0 (eC .nil) en_36 (con_rLower (by omega))) ?_
          | refine hD rfl rfl (ev_tmp rfl) (fun hg => z_call0 (eC .nil) en_36 (con_rLower (by omega))) ?_
        first
          | refine gD rfl rfl (ev_tmp rfl) (fun hg => z_neqS) ?_
          | refine hD rfl rfl (ev_tmp rfl) (fun hg => z_neqS) ?_
        refine aD z_or ?_
        refine awd_nil (by kernel_rfl) (hK18 _ _ ?_)
        clear hK18 K18
        refine aC (fun r4 c4 => ?_) (fun r4 c4 => ?_)
        · refine aw_region fun K19 hK19 => ?_
          first
            | refine aL (z_load sz_39) ?_
            | refine aL (z_loadRef sz_39) ?_
            | refine aL (z_loadV sz_39) ?_
          refine aL (z_store sz_39) ?_
          refine aL z_assign ?_
          refine awl_nil (hK19 _ _ ?_)
          clear hK19 K19
          first
            | (have he : readE l = 100 := readE_head h0 (head_badI c2); have hR : readR l = Rq.nil := if_neg (by rw [he]; first | decide | assumption); rw [hR] at hret; refine aw_weak (fr' := [(2, .ptr 0 0), (3, .v (.int .i64 (readE l)))]) (ah' := [(0, .box Rq.nil.cs)]) (weak_all none trivial (.box rfl (by (repeat (first | apply DWs.cons .nil | apply DWs.cons (.keep rfl))); exact .nil) .nil) (.cons rfl (.keep rfl) (.cons rfl (.eq (d_int he.symm) (.keep rfl)) .nil))) ?_)
            | (have he : readE l = 101 := (readE_place h0 (head_yes ⟨⟨⟨c2.1.1.1.2, c2.1.1.2⟩, c2.1.2⟩, c2.2⟩) (by rw [placeM_many (many_J c3)]; decide)).trans (placeM_many (many_J c3)); have hR : readR l = Rq.nil := if_neg (by rw [he]; first | decide | assumption); rw [hR] at hret; refine aw_weak (fr' := [(2, .ptr 0 0), (3, .v (.int .i64 (readE l)))]) (ah' := [(0, .box Rq.nil.cs)]) (weak_all none trivial (.box rfl (by (repeat (first | apply DWs.cons .nil | apply DWs.cons (.keep rfl))); exact .nil) .nil) (.cons rfl (.keep rfl) (.cons rfl (.eq (d_int he.symm) (.keep rfl)) .nil))) ?_)
            | (have he : readE l = 100 := (readE_place h0 (head_yes ⟨⟨⟨c2.1.1.1.2, c2.1.1.2⟩, c2.1.2⟩, c2.2⟩) (by rw [placeM_noI h0 (many_I (Int.not_lt.2 c3)) c4]; decide)).trans (placeM_noI h0 (many_I (Int.not_lt.2 c3)) c4); have hR : readR l = Rq.nil := if_neg (by rw [he]; first | decide | assumption); rw [hR] at hret; refine aw_weak (fr' := [(2, .ptr 0 0), (3, .v (.int .i64 (readE l)))]) (ah' := [(0, .box Rq.nil.cs)]) (weak_all none trivial (.box rfl (by (repeat (first | apply DWs.cons .nil | apply DWs.cons (.keep rfl))); exact .nil) .nil) (.cons rfl (.keep rfl) (.cons rfl (.eq (d_int he.symm) (.keep rfl)) .nil))) ?_)
            | (have hx : ¬ (lenM l).2.2 = 0 := (by assumption); have he := readE_len h0 (head_yes ⟨⟨⟨c2.1.1.1.2, c2.1.1.2⟩, c2.1.2⟩, c2.2⟩) (placeM_yes h0 (many_I (Int.not_lt.2 c3)) (fun h => c4.1.1.1 (by rw [h]; rfl)) c4.1.1.2 c4.1.2 c4.2); have hR : readR l = Rq.nil := if_neg (by rw [he]; first | decide | assumption); rw [hR] at hret; refine aw_weak (fr' := [(2, .ptr 0 0), (3, .v (.int .i64 (readE l)))]) (ah' := [(0, .box Rq.nil.cs)]) (weak_all none trivial (.box rfl (by (repeat (first | apply DWs.cons .nil | apply DWs.cons (.keep rfl))); exact .nil) .nil) (.cons rfl (.keep rfl) (.cons rfl (.eq (d_int he.symm) (.keep rfl)) .nil))) ?_)
            | (have hx : q = l.length := (by omega); subst hx; have he : readE l = 0 := (readE_len h0 hHd hPl).trans c5; have hR : readR l = ⟨getM l [58, 109, 101, 116, 104, 111, 100], getM l [58, 115, 99, 104, 101, 109, 101], lowM ((allM l).headD []), getM l [58, 112, 97, 116, 104], outM l⟩ := if_pos he; rw [hR, he] at hret; rw [outP_end]; refine aw_weak (weak_all (fr' := [(2, .ptr 0 0), (3, .v (.int .i64 0))]) (ah' := [(0, .box (Rq.cs ⟨getM l [58, 109, 101, 116, 104, 111, 100], getM l [58, 115, 99, 104, 101, 109, 101], lowM ((allM l).headD []), getM l [58, 112, 97, 116, 104], outM l⟩))]) (some (4, 0, fdV (outM l))) ⟨rfl, _, _, rfl⟩ (.box rfl (.cons (.keep rfl) (.cons (.keep rfl) (.cons (.keep rfl) (.cons (.keep rfl) (.cons (.view rfl (cutF (by simp))) .nil))))) .nil) (.cons rfl (.keep rfl) (.cons rfl (.keep rfl) .nil))) ?_)
          refine aw_ret ?_
          refine (hret _ _ _ _ _ rfl (rCe sz_39 (.tmp rfl .nil)) rfl ?_ .nil rfl).1
          rfl
        · refine aw_skip ?_
          refine hK17 _ _ ?_
          clear hK17
          refine aw_region fun K20 hK20 => ?_
          refine aL z_move ?_
          refine aL (z_call0 (eC .nil) en_26 (con_rLength hs)) ?_
          refine aL z_move ?_
          refine aL z_extract ?_
          refine aL z_extract ?_
          refine aL z_extract ?_
          refine aL z_assign ?_
          refine awl_nil (hK20 _ _ ?_)
          clear hK20 K20
          refine aw_seq fun K21 hK21 => ?_
          refine aw_region fun K22 hK22 => ?_
          refine aL z_move ?_
          refine aL z_neq ?_
          refine awl_nil (hK22 _ _ ?_)
          clear hK22 K22
          refine aC (fun r5 c5 => ?_) (fun r5 c5 => ?_)
          · refine aw_region fun K23 hK23 => ?_
            first
              | refine aL (z_load sz_39) ?_
              | refine aL (z_loadRef sz_39) ?_
              | refine aL (z_loadV sz_39) ?_
            refine aL z_move ?_
            refine aL (z_store sz_39) ?_
            refine aL z_assign ?_
            refine awl_nil (hK23 _ _ ?_)
            clear hK23 K23
            first
              | (have he : readE l = 100 := readE_head h0 (head_badI c2); have hR : readR l = Rq.nil := if_neg (by rw [he]; first | decide | assumption); rw [hR] at hret; refine aw_weak (fr' := [(2, .ptr 0 0), (3, .v (.int .i64 (readE l)))]) (ah' := [(0, .box Rq.nil.cs)]) (weak_all none trivial (.box rfl (by (repeat (first | apply DWs.cons .nil | apply DWs.cons (.keep rfl))); exact .nil) .nil) (.cons rfl (.keep rfl) (.cons rfl (.eq (d_int he.symm) (.keep rfl)) .nil))) ?_)
              | (have he : readE l = 101 := (readE_place h0 (head_yes ⟨⟨⟨c2.1.1.1.2, c2.1.1.2⟩, c2.1.2⟩, c2.2⟩) (by rw [placeM_many (many_J c3)]; decide)).trans (placeM_many (many_J c3)); have hR : readR l = Rq.nil := if_neg (by rw [he]; first | decide | assumption); rw [hR] at hret; refine aw_weak (fr' := [(2, .ptr 0 0), (3, .v (.int .i64 (readE l)))]) (ah' := [(0, .box Rq.nil.cs)]) (weak_all none trivial (.box rfl (by (repeat (first | apply DWs.cons .nil | apply DWs.cons (.keep rfl))); exact .nil) .nil) (.cons rfl (.keep rfl) (.cons rfl (.eq (d_int he.symm) (.keep rfl)) .nil))) ?_)
              | (have he : readE l = 100 := (readE_place h0 (head_yes ⟨⟨⟨c2.1.1.1.2, c2.1.1.2⟩, c2.1.2⟩, c2.2⟩) (by rw [placeM_noI h0 (many_I (Int.not_lt.2 c3)) c4]; decide)).trans (placeM_noI h0 (many_I (Int.not_lt.2 c3)) c4); have hR : readR l = Rq.nil := if_neg (by rw [he]; first | decide | assumption); rw [hR] at hret; refine aw_weak (fr' := [(2, .ptr 0 0), (3, .v (.int .i64 (readE l)))]) (ah' := [(0, .box Rq.nil.cs)]) (weak_all none trivial (.box rfl (by (repeat (first | apply DWs.cons .nil | apply DWs.cons (.keep rfl))); exact .nil) .nil) (.cons rfl (.keep rfl) (.cons rfl (.eq (d_int he.symm) (.keep rfl)) .nil))) ?_)
              | (have hx : ¬ (lenM l).2.2 = 0 := (by assumption); have he := readE_len h0 (head_yes ⟨⟨⟨c2.1.1.1.2, c2.1.1.2⟩, c2.1.2⟩, c2.2⟩) (placeM_yes h0 (many_I (Int.not_lt.2 c3)) (fun h => c4.1.1.1 (by rw [h]; rfl)) c4.1.1.2 c4.1.2 c4.2); have hR : readR l = Rq.nil := if_neg (by rw [he]; first | decide | assumption); rw [hR] at hret; refine aw_weak (fr' := [(2, .ptr 0 0), (3, .v (.int .i64 (readE l)))]) (ah' := [(0, .box Rq.nil.cs)]) (weak_all none trivial (.box rfl (by (repeat (first | apply DWs.cons .nil | apply DWs.cons (.keep rfl))); exact .nil) .nil) (.cons rfl (.keep rfl) (.cons rfl (.eq (d_int he.symm) (.keep rfl)) .nil))) ?_)
              | (have hx : q = l.length := (by omega); subst hx; have he : readE l = 0 := (readE_len h0 hHd hPl).trans c5; have hR : readR l = ⟨getM l [58, 109, 101, 116, 104, 111, 100], getM l [58, 115, 99, 104, 101, 109, 101], lowM ((allM l).headD []), getM l [58, 112, 97, 116, 104], outM l⟩ := if_pos he; rw [hR, he] at hret; rw [outP_end]; refine aw_weak (weak_all (fr' := [(2, .ptr 0 0), (3, .v (.int .i64 0))]) (ah' := [(0, .box (Rq.cs ⟨getM l [58, 109, 101, 116, 104, 111, 100], getM l [58, 115, 99, 104, 101, 109, 101], lowM ((allM l).headD []), getM l [58, 112, 97, 116, 104], outM l⟩))]) (some (4, 0, fdV (outM l))) ⟨rfl, _, _, rfl⟩ (.box rfl (.cons (.keep rfl) (.cons (.keep rfl) (.cons (.keep rfl) (.cons (.keep rfl) (.cons (.view rfl (cutF (by simp))) .nil))))) .nil) (.cons rfl (.keep rfl) (.cons rfl (.keep rfl) .nil))) ?_)
            refine aw_ret ?_
            refine (hret _ _ _ _ _ rfl (rCe sz_39 (.tmp rfl .nil)) rfl ?_ .nil rfl).1
            rfl
          · refine aw_skip ?_
            refine hK21 _ _ ?_
            clear hK21
            refine aw_regionD mx_all (by kernel_rfl) fun K24 hK24 => ?_
            have hvm : ¬ valuesM l [58, 109, 101, 116, 104, 111, 100] = [] := fun h => c2.1.1.1.1.1.1 (by rw [h]; rfl)
            have hvs : ¬ valuesM l [58, 115, 99, 104, 101, 109, 101] = [] := fun h => c2.1.1.1.1.1.2 (by rw [h]; rfl)
            have hvp : ¬ valuesM l [58, 112, 97, 116, 104] = [] := fun h => c2.1.1.1.1.2 (by rw [h]; rfl)
            have hvA : ¬ allM l = [] := fun h => c4.1.1.1 (by rw [h]; rfl)
            have hHd : headM l = true := head_yes ⟨⟨⟨c2.1.1.1.2, c2.1.1.2⟩, c2.1.2⟩, c2.2⟩
            have hPl : placeM l = 0 := placeM_yes h0 (many_I (Int.not_lt.2 c3)) hvA c4.1.1.2 c4.1.2 c4.2
            have hi1 := hm0 hvm
            have hi2 := hs0 hvs
            have hi3 := hp0 hvp
            have hi4 := ha0 hvA
            refine aD z_move ?_
            first
              | refine aD (z_indexAddr Tryz.underlying68 sz_9) ?_
              | refine aD (z_indexAddrV Tryz.underlying68 sz_9) ?_
            first
              | refine aD (z_load sz_9) ?_
              | refine aD (z_loadRef sz_9) ?_
              | refine aD (z_loadV sz_9) ?_
            refine aD z_move ?_
            first
              | refine aD (z_indexAddr Tryz.underlying68 sz_9) ?_
              | refine aD (z_indexAddrV Tryz.underlying68 sz_9) ?_
            first
              | refine aD (z_load sz_9) ?_
              | refine aD (z_loadRef sz_9) ?_
              | refine aD (z_loadV sz_9) ?_
            refine aD z_move ?_
            first
              | refine aD (z_indexAddr Tryz.underlying68 sz_9) ?_
              | refine aD (z_indexAddrV Tryz.underlying68 sz_9) ?_
            first
              | refine aD (z_load sz_9) ?_
              | refine aD (z_loadRef sz_9) ?_
              | refine aD (z_loadV sz_9) ?_
            refine aD (z_call0 (eC .nil) en_36 (con_rLower (by omega))) ?_
            refine aD z_move ?_
            first
              | refine aD (z_indexAddr Tryz.underlying68 sz_9) ?_
              | refine aD (z_indexAddrV Tryz.underlying68 sz_9) ?_
            first
              | refine aD (z_load sz_9) ?_
              | refine aD (z_loadRef sz_9) ?_
              | refine aD (z_loadV sz_9) ?_
            refine aD (z_build (pC (pC (pC (pC .nil)))) pl_39 zc_39 zl_39) ?_
            refine aD (z_alloc 3 zc_39 zl_39) ?_
            refine aD (z_store sz_39) ?_
            refine awd_nil (by kernel_rfl) (hK24 _ _ ?_)
            clear hK24 K24
            refine aw_region fun K25 hK25 => ?_
            refine aL z_move ?_
            refine aL (z_call0 (eC (eC .nil)) en_32 (con_ValuesQ hs)) ?_
            refine aL z_assign ?_
            refine awl_nil (hK25 _ _ ?_)
            clear hK25 K25
            refine aw_region fun K26 hK26 => ?_
            refine aL z_assign ?_
            refine awl_nil (hK26 _ _ ?_)
            clear hK26 K26
            refine aw_seq fun K27 hK27 => ?_
            refine aw_region fun K28 hK28 => ?_
            refine aL z_assign ?_
            refine awl_nil (hK28 _ _ ?_)
            clear hK28 K28
            refine aw_block ?_
            refine aw_loop (α := {x : Nat // x ≤ l.length}) (fun x => ([(0, .v (.sl (fdV l))), (2, .ptr 0 0), (11, .ptr 3 0), (12, .v (.sl (stV (valuesM l kC)))), (13, .v (.bool (hasC (l.take x.1)))), (14, .v (.int .i64 (x.1 : Int)))], [(0, .box NILC), (3, .box [.v (.str (getM l [58, 109, 101, 116, 104, 111, 100])), .v (.str (getM l [58, 115, 99, 104, 101, 109, 101])), .v (.str (lowM ((allM l).headD []))), .v (.str (getM l [58, 112, 97, 116, 104])), .view 4 0 0 (outP l x.1).length]), (4, .row 0 3 46 (fdV (outP l x.1)))])) (fun x => l.length - x.1) ⟨0, by omega⟩ ?_ ?_
            · dsimp only
              refine Weak.trans (weak_nilB 3 4 4 3 46 rfl rfl rfl (by decide) (Nat.le_of_ble_eq_true rfl) rfl) ?_
              exact wK
            · rintro ⟨q, hq⟩ K29 hK29
              dsimp only
              refine aw_seq fun K30 hK30 => ?_
              refine aw_region fun K31 hK31 => ?_
              refine aL z_move ?_
              refine aL z_move ?_
              first
                | refine aL (z_lenB Tryz.underlying24) ?_
                | refine aL (z_len Tryz.underlying24) ?_
                | refine aL (z_lenV Tryz.underlying24) ?_
              refine aL z_lss ?_
              refine awl_nil (hK31 _ _ ?_)
              clear hK31 K31
              refine aC (fun r6 c6 => ?_) (fun r6 c6 => ?_)
              · refine aw_skip ?_
                refine hK30 _ _ ?_
                clear hK30
                refine aw_seq fun K32 hK32 => ?_
                refine aw_block ?_
                refine aw_region fun K33 hK33 => ?_
                have hlt : q < l.length := by omega
                have hi := fdV_get hlt
                have hsz := szM_at hlt
                have hol := outP_le l q
                refine aL z_move ?_
                refine aL z_move ?_
                first
                  | refine aL (z_indexAddr Tryz.underlying24 sz_46) ?_
                  | refine aL (z_indexAddrV Tryz.underlying24 sz_46) ?_
                first
                  | refine aL (z_load sz_46) ?_
                  | refine aL (z_loadRef sz_46) ?_
                  | refine aL (z_loadV sz_46) ?_
                refine aL (z_alloc 5 zc_46 zl_46) ?_
                refine aL (z_store sz_46) ?_
                refine awl_nil (hK33 _ _ ?_)
                clear hK33 K33
                refine aw_seq fun K34 hK34 => ?_
                refine aw_region fun K35 hK35 => ?_
                first
                  | refine aL (z_fieldAddr fo_46_0) ?_
                  | refine aL (z_fieldRef fo_46_0) ?_
                  | refine aL (z_fieldV fo_46_0) ?_
                first
                  | refine aL (z_load sz_9) ?_
                  | refine aL (z_loadRef sz_9) ?_
                  | refine aL (z_loadV sz_9) ?_
                refine aL (z_call0 (eC .nil) en_37 (con_rPseudo)) ?_
                refine aL z_move ?_
                first
                  | refine gL rfl rfl (ev_tmp rfl) (fun hg => z_fieldAddr fo_46_0) ?_
                  | refine gL rfl rfl (ev_tmp rfl) (fun hg => z_fieldRef fo_46_0) ?_
                  | refine gL rfl rfl (ev_tmp rfl) (fun hg => z_fieldV fo_46_0) ?_
                  | refine hL rfl rfl (ev_tmp rfl) (fun hg => z_fieldAddr fo_46_0) ?_
                  | refine hL rfl rfl (ev_tmp rfl) (fun hg => z_fieldRef fo_46_0) ?_
                  | refine hL rfl rfl (ev_tmp rfl) (fun hg => z_fieldV fo_46_0) ?_
                first
                  | refine gL rfl rfl (ev_tmp rfl) (fun hg => z_load sz_9) ?_
                  | refine gL rfl rfl (ev_tmp rfl) (fun hg => z_loadRef sz_9) ?_
                  | refine gL rfl rfl (ev_tmp rfl) (fun hg => z_loadV sz_9) ?_
                  | refine hL rfl rfl (ev_tmp rfl) (fun hg => z_load sz_9) ?_
                  | refine hL rfl rfl (ev_tmp rfl) (fun hg => z_loadRef sz_9) ?_
                  | refine hL rfl rfl (ev_tmp rfl) (fun hg => z_loadV sz_9) ?_
                first
                  | refine gL rfl rfl (ev_tmp rfl) (fun hg => z_eqlS) ?_
                  | refine hL rfl rfl (ev_tmp rfl) (fun hg => z_eqlS) ?_
                refine aL z_or ?_
                refine aL z_move ?_
                first
                  | refine gL rfl rfl (ev_tmp rfl) (fun hg => z_fieldAddr fo_46_0) ?_
                  | refine gL rfl rfl (ev_tmp rfl) (fun hg => z_fieldRef fo_46_0) ?_
                  | refine gL rfl rfl (ev_tmp rfl) (fun hg => z_fieldV fo_46_0) ?_
                  | refine hL rfl rfl (ev_tmp rfl) (fun hg => z_fieldAddr fo_46_0) ?_
                  | refine hL rfl rfl (ev_tmp rfl) (fun hg => z_fieldRef fo_46_0) ?_
                  | refine hL rfl rfl (ev_tmp rfl) (fun hg => z_fieldV fo_46_0) ?_
                first
                  | refine gL rfl rfl (ev_tmp rfl) (fun hg => z_load sz_9) ?_
                  | refine gL rfl rfl (ev_tmp rfl) (fun hg => z_loadRef sz_9) ?_
                  | refine gL rfl rfl (ev_tmp rfl) (fun hg => z_loadV sz_9) ?_
                  | refine hL rfl rfl (ev_tmp rfl) (fun hg => z_load sz_9) ?_
                  | refine hL rfl rfl (ev_tmp rfl) (fun hg => z_loadRef sz_9) ?_
                  | refine hL rfl rfl (ev_tmp rfl) (fun hg => z_loadV sz_9) ?_
                first
                  | refine gL rfl rfl (ev_tmp rfl) (fun hg => z_eqlS) ?_
                  | refine hL rfl rfl (ev_tmp rfl) (fun hg => z_eqlS) ?_
                first
                  | refine gL rfl rfl (ev_tmp rfl) (fun hg => z_move) ?_
                  | refine hL rfl rfl (ev_tmp rfl) (fun hg => z_move) ?_
                first
                  | refine gL rfl rfl (ev_tmp rfl) (fun hg => z_move) ?_
                  | refine hL rfl rfl (ev_tmp rfl) (fun hg => z_move) ?_
                first
                  | refine gL rfl rfl (ev_tmp rfl) (fun hg => z_and) ?_
                  | refine hL rfl rfl (ev_tmp rfl) (fun hg => z_and) ?_
                refine aL z_or ?_
                refine awl_nil (hK35 _ _ ?_)
                clear hK35 K35
                refine aC (fun r7 c7 => ?_) (fun r7 c7 => ?_)
                · refine aw_exit ?_
                  refine hK32 _ _ ?_
                  clear hK32
                  refine aw_region_last ?_
                  refine aL z_move ?_
                  refine aL z_add ?_
                  refine aL z_assign ?_
                  refine awl_nil ?_
                  first
                    | (obtain ⟨e1, e2⟩ := outP_skip hlt (by assumption); refine hK29 _ _ ⟨q + 1, by omega⟩ (by dsimp only; omega) ?_; dsimp only; rw [e1, e2]; exact wK)
                    | (have hcc : ¬ l[q].n = kC := (by assumption); obtain ⟨e1, e2⟩ := outP_plain hlt c7.1.1 c7.1.2 hcc; refine hK29 _ _ ⟨q + 1, by omega⟩ (by dsimp only; omega) ?_; dsimp only; rw [e1, e2]; exact Weak.trans (weak_rever 4 0 rfl) (wK (ha := .box rfl (.same rfl) (.box rfl (.eq (by rw [List.length_append]; rfl) (.same rfl)) (.row rfl (fdV_snoc (f := l[q]) rfl) .nil)))))
                    | (have hkk : k = (valuesM l kC).length := (by omega); subst hkk; have hcc : l[q].n = kC := (by assumption); obtain ⟨e1, e2⟩ := outP_first hlt hcc (c7.2.resolve_left fun h => h hcc); refine hK29 _ _ ⟨q + 1, by omega⟩ (by dsimp only; omega) ?_; dsimp only; rw [e1, e2]; rw [List.take_length]; exact Weak.trans (weak_rever 4 0 rfl) (wK (ha := .box rfl (.same rfl) (.box rfl (.eq (by rw [List.length_append]; rfl) (.same rfl)) (.row rfl (fdV_snoc (f := ⟨l[q].n, joinM (valuesM l kC), l[q].s⟩) rfl) .nil)))))
                · refine aw_skip ?_
                  refine hK34 _ _ ?_
                  clear hK34
                  refine aw_seq fun K36 hK36 => ?_
                  refine aw_region fun K37 hK37 => ?_
                  first
                    | refine aL (z_fieldAddr fo_46_0) ?_
                    | refine aL (z_fieldRef fo_46_0) ?_
                    | refine aL (z_fieldV fo_46_0) ?_
                  first
                    | refine aL (z_load sz_9) ?_
                    | refine aL (z_loadRef sz_9) ?_
                    | refine aL (z_loadV sz_9) ?_
                  refine aL z_eqlS ?_
                  refine awl_nil (hK37 _ _ ?_)
                  clear hK37 K37
                  refine aC (fun r8 c8 => ?_) (fun r8 c8 => ?_)
                  · refine aw_region fun K38 hK38 => ?_
                    refine aL z_assign ?_
                    refine awl_nil (hK38 _ _ ?_)
                    clear hK38 K38
                    refine aw_region fun K39 hK39 => ?_
                    first
                      | refine aL (z_fieldAddr fo_46_1) ?_
                      | refine aL (z_fieldRef fo_46_1) ?_
                      | refine aL (z_fieldV fo_46_1) ?_
                    refine aL (z_store sz_9) ?_
                    refine awl_nil (hK39 _ _ ?_)
                    clear hK39 K39
                    refine aw_region fun K40 hK40 => ?_
                    refine aL z_assign ?_
                    refine awl_nil (hK40 _ _ ?_)
                    clear hK40 K40
                    refine aw_block ?_
                    refine aw_loop (α := {x : Nat // x ≤ (valuesM l kC).length}) (fun x => ([(0, .v (.sl (fdV l))), (2, .ptr 0 0), (11, .ptr 3 0), (12, .v (.sl (stV (valuesM l kC)))), (13, .v (.bool true)), (14, .v (.int .i64 (q : Int))), (15, .ptr 5 0), (16, .v (.int .i64 (x.1 : Int)))], [(0, .box NILC), (3, .box [.v (.str (getM l [58, 109, 101, 116, 104, 111, 100])), .v (.str (getM l [58, 115, 99, 104, 101, 109, 101])), .v (.str (lowM ((allM l).headD []))), .v (.str (getM l [58, 112, 97, 116, 104])), .view 4 0 0 (outP l q).length]), (4, .row 0 3 46 (fdV (outP l q))), (5, .box [.v (.str l[q].n), .v (.str (joinM ((valuesM l kC).take x.1))), .v (.bool l[q].s)])])) (fun x => (valuesM l kC).length - x.1) ⟨0, by omega⟩ ?_ ?_
                    · dsimp only
                      exact wK
                    · rintro ⟨k, hk⟩ K41 hK41
                      dsimp only
                      refine aw_seq fun K42 hK42 => ?_
                      refine aw_region fun K43 hK43 => ?_
                      refine aL z_move ?_
                      refine aL z_move ?_
                      first
                        | refine aL (z_lenB Tryz.underlying68) ?_
                        | refine aL (z_len Tryz.underlying68) ?_
                        | refine aL (z_lenV Tryz.underlying68) ?_
                      refine aL z_lss ?_
                      refine awl_nil (hK43 _ _ ?_)
                      clear hK43 K43
                      refine aC (fun r9 c9 => ?_) (fun r9 c9 => ?_)
                      · refine aw_skip ?_
                        refine hK42 _ _ ?_
                        clear hK42
                        refine aw_seq fun K44 hK44 => ?_
                        refine aw_block ?_
                        refine aw_seq fun K45 hK45 => ?_
                        refine aw_region fun K46 hK46 => ?_
                        have hlt2 : k < (valuesM l kC).length := by omega
                        have hi7 := stV_get hlt2
                        have hjk := joinM_tk l k
                        have hvk := valuesM_sz (List.getElem_mem hlt2)
                        first
                          | refine aL (z_fieldAddr fo_46_1) ?_
                          | refine aL (z_fieldRef fo_46_1) ?_
                          | refine aL (z_fieldV fo_46_1) ?_
                        first
                          | refine aL (z_load sz_9) ?_
                          | refine aL (z_loadRef sz_9) ?_
                          | refine aL (z_loadV sz_9) ?_
                        refine aL z_neqS ?_
                        refine aL z_move ?_
                        first
                          | refine gL rfl rfl (ev_tmp rfl) (fun hg => z_move) ?_
                          | refine hL rfl rfl (ev_tmp rfl) (fun hg => z_move) ?_
                        first
                          | refine gL rfl rfl (ev_tmp rfl) (fun hg => z_move) ?_
                          | refine hL rfl rfl (ev_tmp rfl) (fun hg => z_move) ?_
                        first
                          | refine gL rfl rfl (ev_tmp rfl) (fun hg => z_indexAddr Tryz.underlying68 sz_9) ?_
                          | refine gL rfl rfl (ev_tmp rfl) (fun hg => z_indexAddrV Tryz.underlying68 sz_9) ?_
                          | refine hL rfl rfl (ev_tmp rfl) (fun hg => z_indexAddr Tryz.underlying68 sz_9) ?_
                          | refine hL rfl rfl (ev_tmp rfl) (fun hg => z_indexAddrV Tryz.underlying68 sz_9) ?_
                        first
                          | refine gL rfl rfl (ev_tmp rfl) (fun hg => z_load sz_9) ?_
                          | refine gL rfl rfl (ev_tmp rfl) (fun hg => z_loadRef sz_9) ?_
                          | refine gL rfl rfl (ev_tmp rfl) (fun hg => z_loadV sz_9) ?_
                          | refine hL rfl rfl (ev_tmp rfl) (fun hg => z_load sz_9) ?_
                          | refine hL rfl rfl (ev_tmp rfl) (fun hg => z_loadRef sz_9) ?_
                          | refine hL rfl rfl (ev_tmp rfl) (fun hg => z_loadV sz_9) ?_
                        first
                          | refine gL rfl rfl (ev_tmp rfl) (fun hg => z_neqS) ?_
                          | refine hL rfl rfl (ev_tmp rfl) (fun hg => z_neqS) ?_
                        refine aL z_and ?_
                        refine awl_nil (hK46 _ _ ?_)
                        clear hK46 K46
                        refine aC (fun r10 c10 => ?_) (fun r10 c10 => ?_)
                        · refine aw_region_last ?_
                          first
                            | refine aL (z_fieldAddr fo_46_1) ?_
                            | refine aL (z_fieldRef fo_46_1) ?_
                            | refine aL (z_fieldV fo_46_1) ?_
                          first
                            | refine aL (z_load sz_9) ?_
                            | refine aL (z_loadRef sz_9) ?_
                            | refine aL (z_loadV sz_9) ?_
                          refine aL z_addS ?_
                          first
                            | refine aL (z_fieldAddr fo_46_1) ?_
                            | refine aL (z_fieldRef fo_46_1) ?_
                            | refine aL (z_fieldV fo_46_1) ?_
                          refine aL (z_store sz_9) ?_
                          refine awl_nil ?_
                          refine hK45 _ _ ?_
                          clear hK45
                          refine aw_regionD_last mx_all (by kernel_rfl) ?_
                          first
                            | refine aD (z_fieldAddr fo_46_1) ?_
                            | refine aD (z_fieldRef fo_46_1) ?_
                            | refine aD (z_fieldV fo_46_1) ?_
                          first
                            | refine aD (z_load sz_9) ?_
                            | refine aD (z_loadRef sz_9) ?_
                            | refine aD (z_loadV sz_9) ?_
                          refine aD z_move ?_
                          refine aD z_move ?_
                          first
                            | refine aD (z_indexAddr Tryz.underlying68 sz_9) ?_
                            | refine aD (z_indexAddrV Tryz.underlying68 sz_9) ?_
                          first
                            | refine aD (z_load sz_9) ?_
                            | refine aD (z_loadRef sz_9) ?_
                            | refine aD (z_loadV sz_9) ?_
                          refine aD z_addS ?_
                          first
                            | refine aD (z_fieldAddr fo_46_1) ?_
                            | refine aD (z_fieldRef fo_46_1) ?_
                            | refine aD (z_fieldV fo_46_1) ?_
                          refine aD (z_store sz_9) ?_
                          refine awd_nil (by kernel_rfl) ?_
                          refine hK44 _ _ ?_
                          clear hK44
                          refine aw_region_last ?_
                          refine aL z_move ?_
                          refine aL z_add ?_
                          refine aL z_assign ?_
                          refine awl_nil ?_
                          refine hK41 _ _ ⟨k + 1, by omega⟩ (by dsimp only; omega) ?_
                          dsimp only
                          rw [joinC_take hlt2]
                          first
                            | (rw [joinC_yes' (a := joinM ((valuesM l kC).take k)) (by assumption)]; exact wK)
                            | (rw [joinC_not' (a := joinM ((valuesM l kC).take k)) (by assumption)]; exact wK)
                        · refine aw_skip ?_
                          refine hK45 _ _ ?_
                          clear hK45
                          refine aw_regionD_last mx_all (by kernel_rfl) ?_
                          first
                            | refine aD (z_fieldAddr fo_46_1) ?_
                            | refine aD (z_fieldRef fo_46_1) ?_
                            | refine aD (z_fieldV fo_46_1) ?_
                          first
                            | refine aD (z_load sz_9) ?_
                            | refine aD (z_loadRef sz_9) ?_
                            | refine aD (z_loadV sz_9) ?_
                          refine aD z_move ?_
                          refine aD z_move ?_
                          first
                            | refine aD (z_indexAddr Tryz.underlying68 sz_9) ?_
                            | refine aD (z_indexAddrV Tryz.underlying68 sz_9) ?_
                          first
                            | refine aD (z_load sz_9) ?_
                            | refine aD (z_loadRef sz_9) ?_
                            | refine aD (z_loadV sz_9) ?_
                          refine aD z_addS ?_
                          first
                            | refine aD (z_fieldAddr fo_46_1) ?_
                            | refine aD (z_fieldRef fo_46_1) ?_
                            | refine aD (z_fieldV fo_46_1) ?_
                          refine aD (z_store sz_9) ?_
                          refine awd_nil (by kernel_rfl) ?_
                          refine hK44 _ _ ?_
                          clear hK44
                          refine aw_region_last ?_
                          refine aL z_move ?_
                          refine aL z_add ?_
                          refine aL z_assign ?_
                          refine awl_nil ?_
                          refine hK41 _ _ ⟨k + 1, by omega⟩ (by dsimp only; omega) ?_
                          dsimp only
                          rw [joinC_take hlt2]
                          first
                            | (rw [joinC_yes' (a := joinM ((valuesM l kC).take k)) (by assumption)]; exact wK)
                            | (rw [joinC_not' (a := joinM ((valuesM l kC).take k)) (by assumption)]; exact wK)
                      · refine aw_exit ?_
                        refine hK36 _ _ ?_
                        clear hK36
                        refine aw_region_last ?_
                        first
                          | refine aL (z_fieldAddr fo_39_4) ?_
                          | refine aL (z_fieldRef fo_39_4) ?_
                          | refine aL (z_fieldV fo_39_4) ?_
                        first
                          | refine aL (z_load sz_24) ?_
                          | refine aL (z_loadRef sz_24) ?_
                          | refine aL (z_loadV sz_24) ?_
                        first
                          | refine aL (z_load sz_46) ?_
                          | refine aL (z_loadRef sz_46) ?_
                          | refine aL (z_loadV sz_46) ?_
                        refine aL (z_lits (pC .nil) Tryz.underlying24 sz_46 zc_46 zl_46 (c := [[_, _, _]])) ?_
                        first
                          | refine aL (z_app Tryz.underlying24 zi_46 (hs := by first | exact bs_one _ | exact stV_one _ | exact fdV_one _ | (simp; done))) ?_
                          | refine aL (z_appV Tryz.underlying24 zi_46) ?_
                          | refine aL (z_appN 6 Tryz.underlying24 zi_46 (hs := by first | exact bs_one _ | exact stV_one _ | exact fdV_one _ | (simp; done))) ?_
                          | refine aL (z_appNV 6 Tryz.underlying24 zi_46) ?_
                        first
                          | refine aL (z_fieldAddr fo_39_4) ?_
                          | refine aL (z_fieldRef fo_39_4) ?_
                          | refine aL (z_fieldV fo_39_4) ?_
                        refine aL (z_store sz_24) ?_
                        refine awl_nil ?_
                        refine hK32 _ _ ?_
                        clear hK32
                        refine aw_region_last ?_
                        refine aL z_move ?_
                        refine aL z_add ?_
                        refine aL z_assign ?_
                        refine awl_nil ?_
                        first
                          | (obtain ⟨e1, e2⟩ := outP_skip hlt (by assumption); refine hK29 _ _ ⟨q + 1, by omega⟩ (by dsimp only; omega) ?_; dsimp only; rw [e1, e2]; exact wK)
                          | (have hcc : ¬ l[q].n = kC := (by assumption); obtain ⟨e1, e2⟩ := outP_plain hlt c7.1.1 c7.1.2 hcc; refine hK29 _ _ ⟨q + 1, by omega⟩ (by dsimp only; omega) ?_; dsimp only; rw [e1, e2]; exact Weak.trans (weak_rever 4 0 rfl) (wK (ha := .box rfl (.same rfl) (.box rfl (.eq (by rw [List.length_append]; rfl) (.same rfl)) (.row rfl (fdV_snoc (f := l[q]) rfl) .nil)))))
                          | (have hkk : k = (valuesM l kC).length := (by omega); subst hkk; have hcc : l[q].n = kC := (by assumption); obtain ⟨e1, e2⟩ := outP_first hlt hcc (c7.2.resolve_left fun h => h hcc); refine hK29 _ _ ⟨q + 1, by omega⟩ (by dsimp only; omega) ?_; dsimp only; rw [e1, e2]; rw [List.take_length]; exact Weak.trans (weak_rever 4 0 rfl) (wK (ha := .box rfl (.same rfl) (.box rfl (.eq (by rw [List.length_append]; rfl) (.same rfl)) (.row rfl (fdV_snoc (f := ⟨l[q].n, joinM (valuesM l kC), l[q].s⟩) rfl) .nil)))))
                  · refine aw_skip ?_
                    refine hK36 _ _ ?_
                    clear hK36
                    refine aw_region_last ?_
                    first
                      | refine aL (z_fieldAddr fo_39_4) ?_
                      | refine aL (z_fieldRef fo_39_4) ?_
                      | refine aL (z_fieldV fo_39_4) ?_
                    first
                      | refine aL (z_load sz_24) ?_
                      | refine aL (z_loadRef sz_24) ?_
                      | refine aL (z_loadV sz_24) ?_
                    first
                      | refine aL (z_load sz_46) ?_
                      | refine aL (z_loadRef sz_46) ?_
                      | refine aL (z_loadV sz_46) ?_
                    refine aL (z_lits (pC .nil) Tryz.underlying24 sz_46 zc_46 zl_46 (c := [[_, _, _]])) ?_
                    first
                      | refine aL (z_app Tryz.underlying24 zi_46 (hs := by first | exact bs_one _ | exact stV_one _ | exact fdV_one _ | (simp; done))) ?_
                      | refine aL (z_appV Tryz.underlying24 zi_46) ?_
                      | refine aL (z_appN 6 Tryz.underlying24 zi_46 (hs := by first | exact bs_one _ | exact stV_one _ | exact fdV_one _ | (simp; done))) ?_
                      | refine aL (z_appNV 6 Tryz.underlying24 zi_46) ?_
                    first
                      | refine aL (z_fieldAddr fo_39_4) ?_
                      | refine aL (z_fieldRef fo_39_4) ?_
                      | refine aL (z_fieldV fo_39_4) ?_
                    refine aL (z_store sz_24) ?_
                    refine awl_nil ?_
                    refine hK32 _ _ ?_
                    clear hK32
                    refine aw_region_last ?_
                    refine aL z_move ?_
                    refine aL z_add ?_
                    refine aL z_assign ?_
                    refine awl_nil ?_
                    first
                      | (obtain ⟨e1, e2⟩ := outP_skip hlt (by assumption); refine hK29 _ _ ⟨q + 1, by omega⟩ (by dsimp only; omega) ?_; dsimp only; rw [e1, e2]; exact wK)
                      | (have hcc : ¬ l[q].n = kC := (by assumption); obtain ⟨e1, e2⟩ := outP_plain hlt c7.1.1 c7.1.2 hcc; refine hK29 _ _ ⟨q + 1, by omega⟩ (by dsimp only; omega) ?_; dsimp only; rw [e1, e2]; exact Weak.trans (weak_rever 4 0 rfl) (wK (ha := .box rfl (.same rfl) (.box rfl (.eq (by rw [List.length_append]; rfl) (.same rfl)) (.row rfl (fdV_snoc (f := l[q]) rfl) .nil)))))
                      | (have hkk : k = (valuesM l kC).length := (by omega); subst hkk; have hcc : l[q].n = kC := (by assumption); obtain ⟨e1, e2⟩ := outP_first hlt hcc (c7.2.resolve_left fun h => h hcc); refine hK29 _ _ ⟨q + 1, by omega⟩ (by dsimp only; omega) ?_; dsimp only; rw [e1, e2]; rw [List.take_length]; exact Weak.trans (weak_rever 4 0 rfl) (wK (ha := .box rfl (.same rfl) (.box rfl (.eq (by rw [List.length_append]; rfl) (.same rfl)) (.row rfl (fdV_snoc (f := ⟨l[q].n, joinM (valuesM l kC), l[q].s⟩) rfl) .nil)))))
              · refine aw_exit ?_
                refine hK27 _ _ ?_
                clear hK27
                refine aw_region fun K47 hK47 => ?_
                first
                  | refine aL (z_load sz_39) ?_
                  | refine aL (z_loadRef sz_39) ?_
                  | refine aL (z_loadV sz_39) ?_
                refine aL (z_store sz_39) ?_
                refine aL z_assign ?_
                refine awl_nil (hK47 _ _ ?_)
                clear hK47 K47
                first
                  | (have he : readE l = 100 := readE_head h0 (head_badI c2); have hR : readR l = Rq.nil := if_neg (by rw [he]; first | decide | assumption); rw [hR] at hret; refine aw_weak (fr' := [(2, .ptr 0 0), (3, .v (.int .i64 (readE l)))]) (ah' := [(0, .box Rq.nil.cs)]) (weak_all none trivial (.box rfl (by (repeat (first | apply DWs.cons .nil | apply DWs.cons (.keep rfl))); exact .nil) .nil) (.cons rfl (.keep rfl) (.cons rfl (.eq (d_int he.symm) (.keep rfl)) .nil))) ?_)
                  | (have he : readE l = 101 := (readE_place h0 (head_yes ⟨⟨⟨c2.1.1.1.2, c2.1.1.2⟩, c2.1.2⟩, c2.2⟩) (by rw [placeM_many (many_J c3)]; decide)).trans (placeM_many (many_J c3)); have hR : readR l = Rq.nil := if_neg (by rw [he]; first | decide | assumption); rw [hR] at hret; refine aw_weak (fr' := [(2, .ptr 0 0), (3, .v (.int .i64 (readE l)))]) (ah' := [(0, .box Rq.nil.cs)]) (weak_all none trivial (.box rfl (by (repeat (first | apply DWs.cons .nil | apply DWs.cons (.keep rfl))); exact .nil) .nil) (.cons rfl (.keep rfl) (.cons rfl (.eq (d_int he.symm) (.keep rfl)) .nil))) ?_)
                  | (have he : readE l = 100 := (readE_place h0 (head_yes ⟨⟨⟨c2.1.1.1.2, c2.1.1.2⟩, c2.1.2⟩, c2.2⟩) (by rw [placeM_noI h0 (many_I (Int.not_lt.2 c3)) c4]; decide)).trans (placeM_noI h0 (many_I (Int.not_lt.2 c3)) c4); have hR : readR l = Rq.nil := if_neg (by rw [he]; first | decide | assumption); rw [hR] at hret; refine aw_weak (fr' := [(2, .ptr 0 0), (3, .v (.int .i64 (readE l)))]) (ah' := [(0, .box Rq.nil.cs)]) (weak_all none trivial (.box rfl (by (repeat (first | apply DWs.cons .nil | apply DWs.cons (.keep rfl))); exact .nil) .nil) (.cons rfl (.keep rfl) (.cons rfl (.eq (d_int he.symm) (.keep rfl)) .nil))) ?_)
                  | (have hx : ¬ (lenM l).2.2 = 0 := (by assumption); have he := readE_len h0 (head_yes ⟨⟨⟨c2.1.1.1.2, c2.1.1.2⟩, c2.1.2⟩, c2.2⟩) (placeM_yes h0 (many_I (Int.not_lt.2 c3)) (fun h => c4.1.1.1 (by rw [h]; rfl)) c4.1.1.2 c4.1.2 c4.2); have hR : readR l = Rq.nil := if_neg (by rw [he]; first | decide | assumption); rw [hR] at hret; refine aw_weak (fr' := [(2, .ptr 0 0), (3, .v (.int .i64 (readE l)))]) (ah' := [(0, .box Rq.nil.cs)]) (weak_all none trivial (.box rfl (by (repeat (first | apply DWs.cons .nil | apply DWs.cons (.keep rfl))); exact .nil) .nil) (.cons rfl (.keep rfl) (.cons rfl (.eq (d_int he.symm) (.keep rfl)) .nil))) ?_)
                  | (have hx : q = l.length := (by omega); subst hx; have he : readE l = 0 := (readE_len h0 hHd hPl).trans c5; have hR : readR l = ⟨getM l [58, 109, 101, 116, 104, 111, 100], getM l [58, 115, 99, 104, 101, 109, 101], lowM ((allM l).headD []), getM l [58, 112, 97, 116, 104], outM l⟩ := if_pos he; rw [hR, he] at hret; rw [outP_end]; refine aw_weak (weak_all (fr' := [(2, .ptr 0 0), (3, .v (.int .i64 0))]) (ah' := [(0, .box (Rq.cs ⟨getM l [58, 109, 101, 116, 104, 111, 100], getM l [58, 115, 99, 104, 101, 109, 101], lowM ((allM l).headD []), getM l [58, 112, 97, 116, 104], outM l⟩))]) (some (4, 0, fdV (outM l))) ⟨rfl, _, _, rfl⟩ (.box rfl (.cons (.keep rfl) (.cons (.keep rfl) (.cons (.keep rfl) (.cons (.keep rfl) (.cons (.view rfl (cutF (by simp))) .nil))))) .nil) (.cons rfl (.keep rfl) (.cons rfl (.keep rfl) .nil))) ?_)
                refine aw_ret ?_
                refine (hret _ _ _ _ _ rfl (rCe sz_39 (.tmp rfl .nil)) rfl ?_ .nil rfl).1
                rfl
end Go.Proofs.YtnjbfiejgiaibaaGreatDoor
