/- Chapter 15: answers in a row. No condition but on lengths. -/
import Derived.Test.YthflfnehdlpmdaaDoorRpR
namespace Go.Proofs.YthflfnehdlpmdaaDoor
set_option linter.all false
open Go Go.RowKit
set_option maxRecDepth 100000
set_option maxHeartbeats 4000000
def blV (l : List Bool) : List (List V) := l.map fun b => [V.bool b]
@[simp] theorem blV_len (l : List Bool) : (blV l).length = l.length := by simp [blV]
theorem bl_at (cs : List Bool) (k : Nat) : ∃ cb, cs.getD k false = cb ∧ (k < cs.length → (blV cs)[k]? = some [V.bool cb]) ∧ (cs.length ≤ k → cb = false) := by
  refine ⟨cs.getD k false, rfl, fun h => ?_, fun h => ?_⟩
  · simp [blV, List.getD_eq_getElem?_getD, h]
  · rw [List.getD_eq_getElem?_getD, List.getElem?_eq_none h]; rfl
theorem con_rDigits16 {n : Int} (hn : n ≤ 9223372036854775807) : Con Tryd.prog 13 [.v (.int .i64 n), .v (.int .i64 16)] [] 0 (.ret (.v (.str (digs 16 n)))) [] :=
  con_pure fun G w us _ hA => by
    obtain rfl := ei2 hA
    refine (refDigits_all n hn 16 (.inr rfl) w).mono fun e w' ⟨he, hw⟩ => ?_
    exact ⟨_, he, fun m => mk_str _, hw⟩
theorem digs_nat (b n : Nat) : digs b (n : Int) = digsM b n := by unfold digs; rw [if_neg (by omega), Int.toNat_natCast]
theorem row_a {bs : List (List UInt8)} {cs : List Bool} {k : Nat} {b : List UInt8} (hb : bs.getD k [] = b) (hc : cs.getD k false = true) (h0 : 0 < b.length) :
    rowT bs cs 0 (k + 1) = rowT bs cs 0 k ++ [72, 84, 84, 80, 47, 49, 46, 49, 32, 50, 48, 48, 32, 79, 75, 13, 10, 116, 114, 97, 110, 115, 102, 101, 114, 45, 101, 110, 99, 111, 100, 105, 110, 103, 58, 32, 99, 104, 117, 110, 107, 101, 100, 13, 10, 13, 10] ++ digs 16 (b.length : Int) ++ [13, 10] ++ b ++ [13, 10] ++ [48, 13, 10, 13, 10] := by
  have hne : ¬ b = [] := fun e => by subst e; simp at h0
  rw [rowT_snoc, Nat.zero_add, hb, hc, digs_nat]
  simp [ansR, hne, tcL]
theorem row_b {bs : List (List UInt8)} {cs : List Bool} {k : Nat} {b : List UInt8} (hb : bs.getD k [] = b) (hc : cs.getD k false = true) (h0 : ¬ 0 < b.length) :
    rowT bs cs 0 (k + 1) = rowT bs cs 0 k ++ [72, 84, 84, 80, 47, 49, 46, 49, 32, 50, 48, 48, 32, 79, 75, 13, 10, 116, 114, 97, 110, 115, 102, 101, 114, 45, 101, 110, 99, 111, 100, 105, 110, 103, 58, 32, 99, 104, 117, 110, 107, 101, 100, 13, 10, 13, 10] ++ [48, 13, 10, 13, 10] := by
  have hne : b = [] := List.eq_nil_of_length_eq_zero (by omega)
  rw [rowT_snoc, Nat.zero_add, hb, hc]
  simp [ansR, hne, tcL]
theorem row_c {bs : List (List UInt8)} {cs : List Bool} {k : Nat} {b : List UInt8} (hb : bs.getD k [] = b) (hc : cs.getD k false = false) :
    rowT bs cs 0 (k + 1) = rowT bs cs 0 k ++ [72, 84, 84, 80, 47, 49, 46, 49, 32, 50, 48, 48, 32, 79, 75, 13, 10, 99, 111, 110, 116, 101, 110, 116, 45, 108, 101, 110, 103, 116, 104, 58, 32] ++ digs 10 (b.length : Int) ++ [13, 10, 13, 10] ++ b := by
  rw [rowT_snoc, Nat.zero_add, hb, hc, digs_nat]
  simp [ansR, lnL]
theorem con_ReplyRow {bs : List (List UInt8)} {cs : List Bool} (hb : bs.length ≤ maxLen) (hc : cs.length ≤ maxLen) : Con Tryd.prog 4 [.v (.sl (stV bs)), .v (.sl (blV cs))] [] 0 (.ret (.v (.bool true))) [] := by
  have hbl := stV_len bs
  have hcl := blV_len cs
  unfold maxLen at hb hc
  refine con_of Tryd.func4 rfl (by show _ ≤ 123; simp) fun X Q hP hnt hnp hret hpan => ?_
  obtain ⟨P0, nt0, w0, K0, S0, np0, pin0, df0⟩ := X
  simp only at hP hnt hnp
  subst hP hnp
  obtain rfl : nt0 = 123 := hnt
  refine aw_region fun K1 hK1 => ?_
  refine aL z_assign ?_
  refine awl_nil (hK1 _ _ ?_)
  clear hK1 K1
  refine aw_seq fun K2 hK2 => ?_
  refine aw_region fun K3 hK3 => ?_
  refine aL (z_call0 .nil en_7 (con_awake)) ?_
  refine aL z_not ?_
  refine awl_nil (hK3 _ _ ?_)
  clear hK3 K3
  refine aC (fun r1 c1 => ?_) (fun r1 c1 => ?_)
  · cases r1
  · refine aw_skip ?_
    refine hK2 _ _ ?_
    clear hK2
    refine aw_region fun K4 hK4 => ?_
    refine aL z_assign ?_
    refine awl_nil (hK4 _ _ ?_)
    clear hK4 K4
    refine aw_region fun K5 hK5 => ?_
    refine aL z_assign ?_
    refine awl_nil (hK5 _ _ ?_)
    clear hK5 K5
    refine aw_seq fun K6 hK6 => ?_
    refine aw_region fun K7 hK7 => ?_
    refine aL z_assign ?_
    refine awl_nil (hK7 _ _ ?_)
    clear hK7 K7
    refine aw_block ?_
    refine aw_loop (α := {k : Nat // k ≤ 20 ∧ k ≤ bs.length ∧ ∀ j, j < k → (bs.getD j []).length ≤ 1000}) (fun x => ([(0, .v (.sl (stV bs))), (1, .v (.sl (blV cs))), (5, .v (.str (rowT bs cs 0 x.1))), (6, .v (.int .i64 (x.1 : Int))), (7, .v (.int .i64 (x.1 : Int)))], [])) (fun x => 20 - x.1) ⟨0, by omega, by omega, fun j hj => by omega⟩ ?_ ?_
    · dsimp only
      exact wK
    · rintro ⟨k, hk1, hk2, hk3⟩ K8 hK8
      dsimp only
      have hTl := rowT_len bs cs k hk3 k 0 (by omega)
      refine aw_seq fun K9 hK9 => ?_
      refine aw_region fun K10 hK10 => ?_
      refine aL z_move ?_
      refine aL z_move ?_
      refine aL (z_len Tryd.underlying35) ?_
      refine aL z_lss ?_
      refine aL z_move ?_
      refine gL rfl rfl (ev_tmp rfl) (fun hg => z_move) ?_
      refine gL rfl rfl (ev_tmp rfl) (fun hg => z_lss) ?_
      refine aL z_and ?_
      refine awl_nil (hK10 _ _ ?_)
      clear hK10 K10
      refine aC (fun r2 c2 => ?_) (fun r2 c2 => ?_)
      · refine aw_skip ?_
        refine hK9 _ _ ?_
        clear hK9
        refine aw_seq fun K11 hK11 => ?_
        refine aw_block ?_
        refine aw_seq fun K12 hK12 => ?_
        refine aw_region fun K13 hK13 => ?_
        have hlt : k < bs.length := by omega
        have hi := stV_get hlt
        have hbk : bs.getD k [] = bs[k] := by rw [List.getD_eq_getElem?_getD, List.getElem?_eq_getElem hlt]; rfl
        generalize bs[k] = b at hi hbk
        refine aL z_move ?_
        refine aL z_move ?_
        refine aL (z_indexAddr Tryd.underlying35 sz_9) ?_
        refine aL (z_loadRef sz_9) ?_
        refine aL (z_lenS Tryd.underlying9) ?_
        refine aL z_gtr ?_
        refine awl_nil (hK13 _ _ ?_)
        clear hK13 K13
        refine aC (fun r3 c3 => ?_) (fun r3 c3 => ?_)
        · refine aw_region fun K14 hK14 => ?_
          refine aL z_assign ?_
          refine awl_nil (hK14 _ _ ?_)
          clear hK14 K14
          refine aw_ret ?_
          refine (hret _ _ _ _ _ rfl (.tmp rfl .nil) rfl ?_ .nil rfl).1
          rfl
        · refine aw_skip ?_
          refine hK12 _ _ ?_
          clear hK12
          refine aw_region fun K15 hK15 => ?_
          have hble : b.length ≤ 1000 := by omega
          have hk4 : ∀ j, j < k + 1 → (bs.getD j []).length ≤ 1000 := fun j hj => by
            rcases Nat.lt_or_ge j k with h | h
            · exact hk3 j h
            · obtain rfl : j = k := (by omega)
              rw [hbk]; exact hble
          have hd16 : (digs 16 (b.length : Int)).length ≤ 4 := by rw [digs_nat]; exact digs_short 16 (by decide) 3 _ (by omega)
          have hd10 : (digs 10 (b.length : Int)).length ≤ 5 := by rw [digs_nat]; exact digs_short 10 (by decide) 4 _ (by omega)
          refine aL z_move ?_
          refine aL z_move ?_
          refine aL (z_indexAddr Tryd.underlying35 sz_9) ?_
          refine aL (z_loadRef sz_9) ?_
          refine aL (z_lenS Tryd.underlying9) ?_
          refine aL z_assign ?_
          refine awl_nil (hK15 _ _ ?_)
          clear hK15 K15
          refine aw_region fun K16 hK16 => ?_
          refine aL z_move ?_
          refine aL z_add ?_
          refine aL z_assign ?_
          refine awl_nil (hK16 _ _ ?_)
          clear hK16 K16
          refine aw_region fun K17 hK17 => ?_
          obtain ⟨cb, hce, hcb, hcf⟩ := bl_at cs k
          refine aL z_move ?_
          refine aL z_move ?_
          refine aL (z_len Tryd.underlying36) ?_
          refine aL z_lss ?_
          refine aL z_move ?_
          refine gL rfl rfl (ev_tmp rfl) (fun hg => z_move) ?_
          refine gL rfl rfl (ev_tmp rfl) (fun hg => z_move) ?_
          refine gL rfl rfl (ev_tmp rfl) (fun hg => z_indexAddr (i := k) (cs := [.bool cb]) Tryd.underlying36 sz_4 (hb := hcb (by simp at hg; omega))) ?_
          refine gL rfl rfl (ev_tmp rfl) (fun hg => z_loadRef sz_4) ?_
          refine aL z_and ?_
          refine awl_nil (hK17 _ _ ?_)
          clear hK17 K17
          refine aC (fun r4 c4 => ?_) (fun r4 c4 => ?_)
          · refine aw_region fun K18 hK18 => ?_
            obtain rfl : cb = true := by first | exact c4.2 | (simp at r4; exact r4.2)
            refine aL z_move ?_
            refine aL z_addS ?_
            refine aL z_assign ?_
            refine awl_nil (hK18 _ _ ?_)
            clear hK18 K18
            refine aw_seq fun K19 hK19 => ?_
            refine aw_region fun K20 hK20 => ?_
            refine aL z_move ?_
            refine aL z_gtr ?_
            refine awl_nil (hK20 _ _ ?_)
            clear hK20 K20
            refine aC (fun r5 c5 => ?_) (fun r5 c5 => ?_)
            · refine aw_regionD_last mx_all (by kernel_rfl) ?_
              refine aD z_move ?_
              refine aD z_move ?_
              refine aD (z_call0 (eC (eC .nil)) en_13 (con_rDigits16 (n := (b.length : Int)) (by omega))) ?_
              refine aD z_addS ?_
              refine aD z_addS ?_
              refine aD z_move ?_
              refine aD z_move ?_
              refine aD (z_indexAddr Tryd.underlying35 sz_9) ?_
              refine aD (z_loadRef sz_9) ?_
              refine aD z_addS ?_
              refine aD z_addS ?_
              refine aD z_assign ?_
              refine awd_nil (by kernel_rfl) ?_
              refine hK19 _ _ ?_
              clear hK19
              refine aw_region_last ?_
              refine aL z_move ?_
              refine aL z_addS ?_
              refine aL z_assign ?_
              refine awl_nil ?_
              refine hK11 _ _ ?_
              clear hK11
              refine aw_region_last ?_
              refine aL z_move ?_
              refine aL z_add ?_
              refine aL z_assign ?_
              refine awl_nil ?_
              refine hK8 _ _ ⟨k + 1, by omega, by omega, hk4⟩ (by dsimp only; omega) ?_
              dsimp only
              first
                | (rw [row_a hbk hce (by omega)]; exact wK)
                | (rw [row_b hbk hce (by omega)]; exact wK)
                | (rw [row_c hbk hce]; exact wK)
            · refine aw_skip ?_
              refine hK19 _ _ ?_
              clear hK19
              refine aw_region_last ?_
              refine aL z_move ?_
              refine aL z_addS ?_
              refine aL z_assign ?_
              refine awl_nil ?_
              refine hK11 _ _ ?_
              clear hK11
              refine aw_region_last ?_
              refine aL z_move ?_
              refine aL z_add ?_
              refine aL z_assign ?_
              refine awl_nil ?_
              refine hK8 _ _ ⟨k + 1, by omega, by omega, hk4⟩ (by dsimp only; omega) ?_
              dsimp only
              first
                | (rw [row_a hbk hce (by omega)]; exact wK)
                | (rw [row_b hbk hce (by omega)]; exact wK)
                | (rw [row_c hbk hce]; exact wK)
          · refine aw_regionD_last mx_all (by kernel_rfl) ?_
            obtain rfl : cb = false := by
              rcases Nat.lt_or_ge k cs.length with h | h
              · have := r4
                rw [show decide ((k : Int) < ((blV cs).length : Int)) = true from decide_eq_true (by rw [hcl]; omega)] at this
                simpa using this
              · exact hcf h
            refine aD z_move ?_
            refine aD z_addS ?_
            refine aD z_move ?_
            refine aD (z_call0 (eC (eC .nil)) en_13 (con_rDigits (n := (b.length : Int)) (by omega))) ?_
            refine aD z_addS ?_
            refine aD z_addS ?_
            refine aD z_move ?_
            refine aD z_move ?_
            refine aD (z_indexAddr Tryd.underlying35 sz_9) ?_
            refine aD (z_loadRef sz_9) ?_
            refine aD z_addS ?_
            refine aD z_assign ?_
            refine awd_nil (by kernel_rfl) ?_
            refine hK11 _ _ ?_
            clear hK11
            refine aw_region_last ?_
            refine aL z_move ?_
            refine aL z_add ?_
            refine aL z_assign ?_
            refine awl_nil ?_
            refine hK8 _ _ ⟨k + 1, by omega, by omega, hk4⟩ (by dsimp only; omega) ?_
            dsimp only
            first
              | (rw [row_a hbk hce (by omega)]; exact wK)
              | (rw [row_b hbk hce (by omega)]; exact wK)
              | (rw [row_c hbk hce]; exact wK)
      · refine aw_exit ?_
        refine hK6 _ _ ?_
        clear hK6
        refine aw_seq fun K21 hK21 => ?_
        refine aw_region fun K22 hK22 => ?_
        refine aL z_assign ?_
        refine awl_nil (hK22 _ _ ?_)
        clear hK22 K22
        refine aw_block ?_
        refine aw_loop (α := {i : Nat // i ≤ k}) (fun x => ([(0, .v (.sl (stV bs))), (5, .v (.str (rowT bs cs x.1 (k - x.1)))), (6, .v (.int .i64 (k : Int))), (9, .v (.int .i64 (x.1 : Int)))], [])) (fun x => k - x.1) ⟨0, by omega⟩ ?_ ?_
        · dsimp only
          exact wK
        · rintro ⟨i, hi⟩ K23 hK23
          dsimp only
          refine aw_seq fun K24 hK24 => ?_
          refine aw_region fun K25 hK25 => ?_
          refine aL z_move ?_
          refine aL z_move ?_
          refine aL z_lss ?_
          refine awl_nil (hK25 _ _ ?_)
          clear hK25 K25
          refine aC (fun r6 c6 => ?_) (fun r6 c6 => ?_)
          · refine aw_skip ?_
            refine hK24 _ _ ?_
            clear hK24
            refine aw_seq fun K26 hK26 => ?_
            refine aw_block ?_
            refine aw_region fun K27 hK27 => ?_
            have hi3 : i < k := (by omega)
            obtain ⟨j, hj⟩ : ∃ j, k - i = j + 1 := ⟨k - i - 1, by omega⟩
            rw [hj]
            have hlt : i < bs.length := (by omega)
            have hi2 := stV_get hlt
            have hbk : bs.getD i [] = bs[i] := by rw [List.getD_eq_getElem?_getD, List.getElem?_eq_getElem hlt]; rfl
            have hble := hk3 i hi3
            rw [hbk] at hble
            have hTr := rowT_len bs cs k hk3 j (i + 1) (by omega)
            rw [rowT, hbk]
            generalize bs[i] = b at hi2 hble ⊢
            obtain ⟨cb, hce⟩ : ∃ cb, cs.getD i false = cb := ⟨_, rfl⟩
            rw [hce]
            have hal := ans_len (c := cb) hble
            obtain ⟨s2, h2, hrun, hok⟩ := row_run b (rowT bs cs (i + 1) j) cb hble
            obtain ⟨hd2, kk2, ln2, st2, old2, fs2, many2, need2, ended2, toEnd2⟩ := s2
            obtain ⟨hh2, hst2, hfs2, hdt2, hfin2⟩ := h2
            obtain ⟨o1, o2, o3, o4, o5⟩ := hok
            simp only at o1 o2 o4 o5
            subst o1 o2 o4
            have hT := con_Take (ps0_ok false) rfl (by rw [List.length_append]; omega) hrun
            have hKp := con_KeepsE (s := ⟨hd2, kk2, ln2, st2, old2, fs2, many2, need2, true, toEnd2⟩) (ov := true) rfl (by dsimp only; omega)
            rw [o3] at hKp
            refine aL (z_callG [0, 1, 2] (eC .nil) en_9 con_New .nil) ?_
            refine aL z_assign ?_
            refine awl_nil (hK27 _ _ ?_)
            clear hK27 K27
            refine aw_region fun K28 hK28 => ?_
            refine aL z_move ?_
            refine aL z_move ?_
            refine aL (z_convB Tryd.underlying9 Tryd.underlying32 Tryd.underlying5) ?_
            refine aL (z_callG [0, 1, 2] (eC (eC .nil)) en_10 hT (pA (pA (pA .nil)))) ?_
            refine aL z_move ?_
            refine aL z_extract ?_
            refine aL z_extract ?_
            refine aL z_extract ?_
            refine aL (z_alloc 5 zc_28 zl_28) ?_
            refine aL (z_store sz_28) ?_
            refine aL z_assign ?_
            refine aL z_assign ?_
            refine awl_nil (hK28 _ _ ?_)
            clear hK28 K28
            refine aw_seq fun K29 hK29 => ?_
            refine aw_weak (weak_rever 1 0 rfl) (aw_weak (weak_rever 2 0 rfl) ?_)
            refine aw_regionD mx_all (by kernel_rfl) fun K30 hK30 => ?_
            refine aD z_move ?_
            refine aD z_neq ?_
            refine aD z_move ?_
            refine yD rfl rfl (ev_tmp rfl) (by simp) (z_fieldAddr fo_28_4) ?_
            refine yD rfl rfl (ev_tmp rfl) (by simp) (z_load sz_4) ?_
            refine yD rfl rfl (ev_tmp rfl) (by simp) (z_not) ?_
            refine aD z_or ?_
            refine aD z_move ?_
            refine yD rfl rfl (ev_tmp rfl) (by simp) (z_fieldAddr fo_28_3) ?_
            refine yD rfl rfl (ev_tmp rfl) (by simp) (z_load sz_9) ?_
            refine yD rfl rfl (ev_tmp rfl) (by simp) (z_move) ?_
            refine yD rfl rfl (ev_tmp rfl) (by simp) (z_move) ?_
            refine yD rfl rfl (ev_tmp rfl) (by simp) (z_indexAddr Tryd.underlying35 sz_9) ?_
            refine yD rfl rfl (ev_tmp rfl) (by simp) (z_loadRef sz_9) ?_
            refine yD rfl rfl (ev_tmp rfl) (by simp) (z_neqS) ?_
            refine aD z_or ?_
            refine aD z_move ?_
            refine yD rfl rfl (ev_tmp rfl) (by simp) (z_move) ?_
            refine yD rfl rfl (ev_tmp rfl) (by simp) (z_callG [0, 1, 2] (eC .nil) en_12 hKp (pA (pA (pA .nil)))) ?_
            refine yD rfl rfl (ev_tmp rfl) (by simp) (z_not) ?_
            refine aD z_or ?_
            refine aD z_move ?_
            refine yD rfl rfl (ev_tmp rfl) (by simp) (z_move) ?_
            refine yD rfl rfl (ev_tmp rfl) (by simp) (z_move) ?_
            refine yD rfl rfl (ev_tmp rfl) (by simp) (z_lenS Tryd.underlying9) ?_
            refine yD rfl rfl (ev_tmp rfl) (by simp) (z_gtr) ?_
            refine aD z_or ?_
            refine awd_nil (by kernel_rfl) (hK30 _ _ ?_)
            clear hK30 K30
            refine aC (fun r7 c7 => ?_) (fun r7 c7 => ?_)
            · exfalso
              rcases c7 with (((h | h) | h) | h) | h
              · exact h rfl
              · cases h
              · exact h rfl
              · cases h
              · omega
            · refine aw_skip ?_
              refine hK29 _ _ ?_
              clear hK29
              refine aw_region_last ?_
              refine aL z_move ?_
              refine aL z_move ?_
              refine aL (z_sliceS Tryd.underlying9) ?_
              refine aL z_assign ?_
              refine awl_nil ?_
              refine hK26 _ _ ?_
              clear hK26
              refine aw_region_last ?_
              refine aL z_move ?_
              refine aL z_add ?_
              refine aL z_assign ?_
              refine awl_nil ?_
              refine hK23 _ _ ⟨i + 1, by omega⟩ (by dsimp only; omega) ?_
              dsimp only
              rw [show k - (i + 1) = j by omega]
              exact wK
          · refine aw_exit ?_
            refine hK21 _ _ ?_
            clear hK21
            refine aw_region fun K31 hK31 => ?_
            obtain rfl : i = k := (by omega)
            rw [Nat.sub_self]
            refine aL z_move ?_
            refine aL z_eqlS ?_
            refine aL z_assign ?_
            refine awl_nil (hK31 _ _ ?_)
            clear hK31 K31
            refine aw_ret ?_
            refine (hret _ _ _ _ _ rfl (.tmp rfl .nil) rfl ?_ .nil rfl).1
            rfl
end Go.Proofs.YthflfnehdlpmdaaDoor
