/- Layer 11: fields without some names, the values of a name. No condition. -/
import Derived.Test.YtnjbfiejgiaibaaGreatDoorAkA
namespace Go.Proofs.YtnjbfiejgiaibaaGreatDoor
set_option linter.all false
open Go Go.RowKit
set_option maxRecDepth 10000
set_option maxHeartbeats 4000000
theorem look_put (k k' : List UInt8) (v : List V) : ∀ m : List (List UInt8 × List V), (lookM k' (putM k v m)).isSome = (decide (k = k') || (lookM k' m).isSome)
  | [] => by
    unfold putM lookM
    by_cases h : k = k'
    · simp [h]
    · simp [h, lookM]
  | x :: r => by
    unfold putM
    by_cases h : x.1 = k
    · rw [if_pos h]
      simp only [lookM]
      by_cases h2 : k = k'
      · simp [h2]
      · rw [if_neg h2, if_neg (by rw [h]; exact h2)]; simp [h2]
    · rw [if_neg h]
      simp only [lookM]
      by_cases h2 : x.1 = k'
      · simp [h2]
      · rw [if_neg h2, if_neg h2]; exact look_put k k' v r
/-- The fields whose names are none of some. -/
def noM (l : List Fd) (ks : List (List UInt8)) : List Fd := l.filter fun f => !((ks.map lowM).contains (lowM f.n))
theorem noM_app (a b : List Fd) (ks : List (List UInt8)) : noM (a ++ b) ks = noM a ks ++ noM b ks := by simp [noM]
theorem noM_le (l : List Fd) (ks : List (List UInt8)) : (noM l ks).length ≤ l.length := List.length_filter_le _ _
theorem noM_yes {l : List Fd} {ks : List (List UInt8)} {q : Nat} (h : q < l.length) (hc : (ks.map lowM).contains (lowM l[q].n) = false) : noM (l.take (q + 1)) ks = noM (l.take q) ks ++ [l[q]] := by
  rw [take_succ' h, noM_app]; congr 1; unfold noM; rw [List.filter_cons, if_pos (by rw [hc]; rfl)]; rfl
theorem noM_no {l : List Fd} {ks : List (List UInt8)} {q : Nat} (h : q < l.length) (hc : (ks.map lowM).contains (lowM l[q].n) = true) : noM (l.take (q + 1)) ks = noM (l.take q) ks := by
  rw [take_succ' h, noM_app]
  have : noM [l[q]] ks = [] := by unfold noM; rw [List.filter_cons, if_neg (by rw [hc]; decide)]; rfl
  rw [this, List.append_nil]
abbrev Mp := List (List UInt8 × List V)
def goneI (names : List (List UInt8)) (q : Nat) (m : Mp) : Prop := ∀ k, (lookM k m).isSome = ((names.take q).map lowM).contains k
theorem gone_put {names : List (List UInt8)} {q : Nat} {m : Mp} (hq : q < names.length) (h : goneI names q m) (v : List V) : goneI names (q + 1) (putM (lowM names[q]) v m) := fun k => by
  rw [look_put, h k, List.take_add_one, List.getElem?_eq_getElem hq, List.map_append, Bool.eq_iff_iff, Bool.or_eq_true, decide_eq_true_iff, List.contains_iff_mem, List.contains_iff_mem, List.mem_append]
  constructor
  · rintro (h | h)
    · right; simp [h]
    · left; exact h
  · rintro (h | h)
    · right; exact h
    · left
      have h' : k = lowM names[q] := by simpa using h
      exact h'.symm
theorem cutW {c : List (List V)} {n : Nat} (h : n = c.length) : cut 0 (0 + n) c = c := by subst h; exact cut_all c
theorem con_stays {m : Mp} {f : Fd} (hn : f.n.length ≤ 140737488351232) : Con Tryz.prog 59 [.agg f.cs, .ptr 0 0] [(0, .box [.mref 1]), (1, .mp false m)] 2 (.ret (.v (.bool (!(lookM (lowM f.n) m).isSome)))) [(0, .box [.mref 1]), (1, .mp false m)] := by
  refine con_of Tryz.func59 rfl (by show _ ≤ 16; simp) fun X Q hP hnt hnp hret hpan => ?_
  obtain ⟨P0, nt0, w0, K0, S0, np0, pin0, df0⟩ := X
  simp only at hP hnt hnp
  subst hP hnp
  obtain rfl : nt0 = 16 := hnt
  refine aw_region fun K1 hK1 => ?_
  refine aL (z_box 2) ?_
  refine aL z_assign ?_
  refine awl_nil (hK1 _ _ ?_)
  clear hK1 K1
  refine aw_regionD mx_all (by kernel_rfl) fun K2 hK2 => ?_
  first
    | refine aD (z_load sz_96) ?_
    | refine aD (z_loadRef sz_96) ?_
    | refine aD (z_loadV sz_96) ?_
  first
    | refine aD (z_fieldAddr fo_46_0) ?_
    | refine aD (z_fieldRef fo_46_0) ?_
    | refine aD (z_fieldV fo_46_0) ?_
  first
    | refine aD (z_load sz_9) ?_
    | refine aD (z_loadRef sz_9) ?_
    | refine aD (z_loadV sz_9) ?_
  refine aD (z_call0 (eC .nil) en_56 (con_Lower (l := f.n) hn)) ?_
  refine aD (z_lookup Tryz.underlying96 Tryz.underlying9 zv_3 (.one zl_3) (zs := [(.int .i64 0)])) ?_
  refine aD z_move ?_
  refine aD z_extract ?_
  refine aD z_extract ?_
  refine aD z_assign ?_
  refine aD z_assign ?_
  refine awd_nil (by kernel_rfl) (hK2 _ _ ?_)
  clear hK2 K2
  refine aw_region fun K3 hK3 => ?_
  refine aL z_move ?_
  refine aL z_not ?_
  refine aL z_assign ?_
  refine awl_nil (hK3 _ _ ?_)
  clear hK3 K3
  refine aw_ret ?_
  refine (hret _ _ _ _ _ rfl (.tmp rfl .nil) rfl ?_ (.box rfl rfl (.mp rfl .nil)) rfl).1
  rfl
theorem con_Without {l : List Fd} {names : List (List UInt8)} (hl : l.length ≤ 1099511627776) (hf : ∀ f ∈ l, f.n.length ≤ 140737488351232) (hn : names.length ≤ 1099511627776) (hk : ∀ k ∈ names, k.length ≤ 140737488351232) :
    Con Tryz.prog 22 [.v (.sl (fdV l)), .v (.sl (stV names))] [] 0 (.ret (.v (.sl (fdV (noM l names))))) [] := by
  have hfl := fdV_len l
  have hsl := stV_len names
  refine con_of Tryz.func22 rfl (by show _ ≤ 41; simp) fun X Q hP hnt hnp hret hpan => ?_
  obtain ⟨P0, nt0, w0, K0, S0, np0, pin0, df0⟩ := X
  simp only at hP hnt hnp
  subst hP hnp
  obtain rfl : nt0 = 41 := hnt
  refine aw_region fun K1 hK1 => ?_
  refine aL z_assign ?_
  refine awl_nil (hK1 _ _ ?_)
  clear hK1 K1
  refine aw_region fun K2 hK2 => ?_
  refine aL (z_makeMap 0 false) ?_
  refine aL (z_alloc 1 zc_96 zl_96) ?_
  refine aL (z_store sz_96) ?_
  refine awl_nil (hK2 _ _ ?_)
  clear hK2 K2
  refine aw_seq fun K3 hK3 => ?_
  refine aw_region fun K4 hK4 => ?_
  refine aL z_move ?_
  first
    | refine aL (z_lenB Tryz.underlying68) ?_
    | refine aL (z_len Tryz.underlying68) ?_
    | refine aL (z_lenV Tryz.underlying68) ?_
  refine aL z_move ?_
  refine awl_nil (hK4 _ _ ?_)
  clear hK4 K4
  refine aw_block ?_
  refine aw_loop (α := {x : Nat × Mp // x.1 ≤ names.length ∧ goneI names x.1 x.2}) (fun x => ([(0, .v (.sl (fdV l))), (5, .ptr 1 0), (13, .v (.sl (stV names))), (14, .v (.int .i64 (names.length : Int))), (15, .v (.int .i64 (x.1.1 : Int)))], [(1, .box [.mref 0]), (0, .mp false x.1.2)])) (fun x => names.length - x.1.1) ⟨(0, []), Nat.zero_le _, fun k => rfl⟩ ?_ ?_
  · dsimp only
    rw [hsl]
    exact wK
  · rintro ⟨⟨q, mm⟩, hq, hg⟩ K5 hK5
    dsimp only
    dsimp only at hq hg
    refine aw_region fun K6 hK6 => ?_
    refine aL z_lss ?_
    refine awl_nil (hK6 _ _ ?_)
    clear hK6 K6
    refine aw_seq fun K7 hK7 => ?_
    refine aC (fun r1 c1 => ?_) (fun r1 c1 => ?_)
    · refine aw_skip ?_
      refine hK7 _ _ ?_
      clear hK7
      refine aw_seq fun K8 hK8 => ?_
      refine aw_block ?_
      refine aw_region fun K9 hK9 => ?_
      have hlt : q < names.length := by omega
      have hi := stV_get hlt
      refine aL z_move ?_
      first
        | refine aL (z_indexAddr Tryz.underlying68 sz_9) ?_
        | refine aL (z_indexAddrV Tryz.underlying68 sz_9) ?_
      first
        | refine aL (z_load sz_9) ?_
        | refine aL (z_loadRef sz_9) ?_
        | refine aL (z_loadV sz_9) ?_
      refine aL z_assign ?_
      refine aL z_assign ?_
      refine awl_nil (hK9 _ _ ?_)
      clear hK9 K9
      refine aw_regionD_last mx_all (by kernel_rfl) ?_
      first
        | refine aD (z_load sz_96) ?_
        | refine aD (z_loadRef sz_96) ?_
        | refine aD (z_loadV sz_96) ?_
      refine aD z_move ?_
      refine aD (z_call0 (eC .nil) en_56 (con_Lower (l := names[q]) (hk _ (List.getElem_mem hlt)))) ?_
      refine aD z_move ?_
      refine aD (z_mapUpdate Tryz.underlying96 Tryz.underlying9 (agg := false) (vs := [.int .i64 (q : Int)])) ?_
      refine awd_nil (by kernel_rfl) ?_
      refine hK8 _ _ ?_
      clear hK8
      refine aw_region_last ?_
      refine aL z_add ?_
      refine aL z_move ?_
      refine awl_nil ?_
      refine hK5 _ _ ⟨(q + 1, putM (lowM names[q]) [.int .i64 (q : Int)] mm), by dsimp only; omega, gone_put hlt hg _⟩ (by dsimp only; omega) ?_
      dsimp only
      exact wK
    · refine aw_exit ?_
      refine hK3 _ _ ?_
      clear hK3
      refine aw_region fun K10 hK10 => ?_
      refine aL (z_makeFn .nil (eC .nil)) ?_
      refine aL z_assign ?_
      refine awl_nil (hK10 _ _ ?_)
      clear hK10 K10
      refine aw_region fun K11 hK11 => ?_
      refine aL z_assign ?_
      refine awl_nil (hK11 _ _ ?_)
      clear hK11 K11
      refine aw_seq fun K12 hK12 => ?_
      refine aw_region fun K13 hK13 => ?_
      refine aL z_move ?_
      first
        | refine aL (z_lenB Tryz.underlying24) ?_
        | refine aL (z_len Tryz.underlying24) ?_
        | refine aL (z_lenV Tryz.underlying24) ?_
      refine aL z_move ?_
      refine awl_nil (hK13 _ _ ?_)
      clear hK13 K13
      refine aw_block ?_
      refine aw_loop (α := {k : Nat // k ≤ l.length}) (fun x => ([(26, .v (.sl (fdV l))), (27, .v (.int .i64 (l.length : Int))), (28, .v (.int .i64 (x.1 : Int))), (8, .fn (.func 59) [] [.ptr 1 0]), (9, .view 2 0 0 (noM (l.take x.1) names).length)], [(1, .box [.mref 0]), (0, .mp false mm), (2, .row 0 3 46 (fdV (noM (l.take x.1) names)))])) (fun x => l.length - x.1) ⟨0, Nat.zero_le _⟩ ?_ ?_
      · dsimp only
        rw [hfl]
        refine Weak.trans (weak_nil (t := 9) 2 3 46 (by decide) (Nat.zero_le _) rfl rfl) ?_
        exact wK
      · rintro ⟨k, hkk⟩ K14 hK14
        dsimp only
        have hno : (noM (l.take k) names).length ≤ l.length := Nat.le_trans (noM_le _ _) (by simp; omega)
        refine aw_region fun K15 hK15 => ?_
        refine aL z_lss ?_
        refine awl_nil (hK15 _ _ ?_)
        clear hK15 K15
        refine aw_seq fun K16 hK16 => ?_
        refine aC (fun r2 c2 => ?_) (fun r2 c2 => ?_)
        · refine aw_skip ?_
          refine hK16 _ _ ?_
          clear hK16
          refine aw_seq fun K17 hK17 => ?_
          refine aw_block ?_
          refine aw_region fun K18 hK18 => ?_
          have hlt2 : k < l.length := by omega
          have hi2 := fdV_get hlt2
          first
            | refine aL (z_indexAddr Tryz.underlying24 sz_46) ?_
            | refine aL (z_indexAddrV Tryz.underlying24 sz_46) ?_
          first
            | refine aL (z_load sz_46) ?_
            | refine aL (z_loadRef sz_46) ?_
            | refine aL (z_loadV sz_46) ?_
          refine aL (z_alloc 5 zc_46 zl_46) ?_
          refine aL (z_store sz_46) ?_
          refine awl_nil (hK18 _ _ ?_)
          clear hK18 K18
          refine aw_region fun K19 hK19 => ?_
          refine aL z_move ?_
          first
            | refine aL (z_load sz_46) ?_
            | refine aL (z_loadRef sz_46) ?_
            | refine aL (z_loadV sz_46) ?_
          refine aL (z_callR [1, 0] (eC .nil) en_59 (con_stays (m := mm) (f := l[k]) (hf _ (List.getElem_mem hlt2))) (pA (pA .nil))) ?_
          refine awl_nil (hK19 _ _ ?_)
          clear hK19 K19
          refine aC (fun r3 c3 => ?_) (fun r3 c3 => ?_)
          · refine aw_region_last ?_
            refine aL z_move ?_
            first
              | refine aL (z_load sz_46) ?_
              | refine aL (z_loadRef sz_46) ?_
              | refine aL (z_loadV sz_46) ?_
            refine aL (z_lits (pC .nil) Tryz.underlying24 sz_46 zc_46 zl_46 (c := [[_, _, _]])) ?_
            refine aL (z_app Tryz.underlying24 zi_46 (c' := fdV (noM (l.take k) names ++ [l[k]])) (hc := fdV_snoc rfl) (hb := by simp; omega)) ?_
            refine aL z_assign ?_
            refine awl_nil ?_
            refine hK17 _ _ ?_
            clear hK17
            refine aw_region_last ?_
            refine aL z_add ?_
            refine aL z_move ?_
            refine awl_nil ?_
            have hgk := hg (lowM l[k].n)
            rw [List.take_of_length_le (by omega)] at hgk
            refine hK14 _ _ ⟨k + 1, by omega⟩ (by dsimp only; omega) ?_
            dsimp only
            first
              | (have hc : (names.map lowM).contains (lowM l[k].n) = false := (by rw [← hgk]; simpa using c3)
                 rw [noM_yes hlt2 hc]
                 exact Weak.trans (weak_rever 2 0 rfl) wK)
              | (have hc : (names.map lowM).contains (lowM l[k].n) = true := (by rw [← hgk]; simpa using c3)
                 rw [noM_no hlt2 hc]
                 exact wK)
          · refine aw_skip ?_
            refine hK17 _ _ ?_
            clear hK17
            refine aw_region_last ?_
            refine aL z_add ?_
            refine aL z_move ?_
            refine awl_nil ?_
            have hgk := hg (lowM l[k].n)
            rw [List.take_of_length_le (by omega)] at hgk
            refine hK14 _ _ ⟨k + 1, by omega⟩ (by dsimp only; omega) ?_
            dsimp only
            first
              | (have hc : (names.map lowM).contains (lowM l[k].n) = false := (by rw [← hgk]; simpa using c3)
                 rw [noM_yes hlt2 hc]
                 exact Weak.trans (weak_rever 2 0 rfl) wK)
              | (have hc : (names.map lowM).contains (lowM l[k].n) = true := (by rw [← hgk]; simpa using c3)
                 rw [noM_no hlt2 hc]
                 exact wK)
        · refine aw_exit ?_
          refine hK12 _ _ ?_
          clear hK12
          refine aw_region fun K20 hK20 => ?_
          refine aL z_move ?_
          refine aL z_assign ?_
          refine awl_nil (hK20 _ _ ?_)
          clear hK20 K20
          obtain rfl : k = l.length := (by omega)
          rw [List.take_length]
          refine aw_weak (weak_all (fr' := [(4, .v (.sl (fdV (noM l names))))]) (ah' := []) (some (2, 0, fdV (noM l names))) ⟨rfl, _, _, rfl⟩ .nil (.cons rfl (.view rfl (cutW (by simp))) .nil)) ?_
          refine aw_ret ?_
          refine (hret _ _ _ _ _ rfl (.tmp rfl .nil) rfl ?_ .nil rfl).1
          rfl
/-- The values of a name, whatever its letters' cases. -/
def hvM (l : List Fd) (k : List UInt8) : List (List UInt8) := (l.filter fun f => decide (lowM f.n = lowM k)).map (·.v)
theorem hvM_app (a b : List Fd) (k : List UInt8) : hvM (a ++ b) k = hvM a k ++ hvM b k := by simp [hvM]
theorem hvM_le (l : List Fd) (k : List UInt8) : (hvM l k).length ≤ l.length := by unfold hvM; rw [List.length_map]; exact List.length_filter_le _ _
theorem hvM_yes {l : List Fd} {k : List UInt8} {q : Nat} (h : q < l.length) (hc : lowM l[q].n = lowM k) : hvM (l.take (q + 1)) k = hvM (l.take q) k ++ [l[q].v] := by
  rw [take_succ' h, hvM_app]; congr 1; unfold hvM; rw [List.filter_cons, if_pos (by simp [hc])]; rfl
theorem hvM_no {l : List Fd} {k : List UInt8} {q : Nat} (h : q < l.length) (hc : ¬ lowM l[q].n = lowM k) : hvM (l.take (q + 1)) k = hvM (l.take q) k := by
  rw [take_succ' h, hvM_app]
  have : hvM [l[q]] k = [] := by unfold hvM; rw [List.filter_cons, if_neg (by simp [hc])]; rfl
  rw [this, List.append_nil]
theorem hvM_mem {l : List Fd} {k v : List UInt8} (h : v ∈ hvM l k) : ∃ f ∈ l, f.v = v := by
  unfold hvM at h
  obtain ⟨f, hf, rfl⟩ := List.mem_map.1 h
  exact ⟨f, (List.mem_filter.1 hf).1, rfl⟩
theorem con_Values {l : List Fd} {k : List UInt8} (hl : l.length ≤ 1099511627776) (hf : ∀ f ∈ l, f.n.length ≤ 140737488351232) (hk : k.length ≤ 140737488351232) :
    Con Tryz.prog 58 [.v (.sl (fdV l)), .v (.str k)] [] 0 (.ret (.v (.sl (stV (hvM l k))))) [] := by
  have hfl := fdV_len l
  refine con_of Tryz.func58 rfl (by show _ ≤ 25; simp) fun X Q hP hnt hnp hret hpan => ?_
  obtain ⟨P0, nt0, w0, K0, S0, np0, pin0, df0⟩ := X
  simp only at hP hnt hnp
  subst hP hnp
  obtain rfl : nt0 = 25 := hnt
  refine aw_region fun K1 hK1 => ?_
  refine aL z_assign ?_
  refine awl_nil (hK1 _ _ ?_)
  clear hK1 K1
  refine aw_region fun K2 hK2 => ?_
  refine aL z_assign ?_
  refine awl_nil (hK2 _ _ ?_)
  clear hK2 K2
  refine aw_seq fun K3 hK3 => ?_
  refine aw_region fun K4 hK4 => ?_
  refine aL z_move ?_
  first
    | refine aL (z_lenB Tryz.underlying24) ?_
    | refine aL (z_len Tryz.underlying24) ?_
    | refine aL (z_lenV Tryz.underlying24) ?_
  refine aL z_move ?_
  refine awl_nil (hK4 _ _ ?_)
  clear hK4 K4
  refine aw_block ?_
  refine aw_loop (α := {q : Nat // q ≤ l.length}) (fun x => ([(1, .v (.str k)), (5, .view 2 0 0 (hvM (l.take x.1) k).length), (8, .v (.sl (fdV l))), (9, .v (.int .i64 (l.length : Int))), (10, .v (.int .i64 (x.1 : Int)))], [(2, .row 0 1 9 (stV (hvM (l.take x.1) k)))])) (fun x => l.length - x.1) ⟨0, Nat.zero_le _⟩ ?_ ?_
  · dsimp only
    rw [hfl]
    refine Weak.trans (weak_nil (t := 5) 2 1 9 (by decide) (Nat.zero_le _) rfl rfl) ?_
    exact wK
  · rintro ⟨q, hq⟩ K5 hK5
    dsimp only
    have hno : (hvM (l.take q) k).length ≤ l.length := Nat.le_trans (hvM_le _ _) (by simp; omega)
    refine aw_region fun K6 hK6 => ?_
    refine aL z_lss ?_
    refine awl_nil (hK6 _ _ ?_)
    clear hK6 K6
    refine aw_seq fun K7 hK7 => ?_
    refine aC (fun r1 c1 => ?_) (fun r1 c1 => ?_)
    · refine aw_skip ?_
      refine hK7 _ _ ?_
      clear hK7
      refine aw_seq fun K8 hK8 => ?_
      refine aw_block ?_
      refine aw_region fun K9 hK9 => ?_
      have hlt : q < l.length := by omega
      have hi := fdV_get hlt
      first
        | refine aL (z_indexAddr Tryz.underlying24 sz_46) ?_
        | refine aL (z_indexAddrV Tryz.underlying24 sz_46) ?_
      first
        | refine aL (z_load sz_46) ?_
        | refine aL (z_loadRef sz_46) ?_
        | refine aL (z_loadV sz_46) ?_
      refine aL (z_alloc 5 zc_46 zl_46) ?_
      refine aL (z_store sz_46) ?_
      refine awl_nil (hK9 _ _ ?_)
      clear hK9 K9
      refine aw_region fun K10 hK10 => ?_
      first
        | refine aL (z_fieldAddr fo_46_0) ?_
        | refine aL (z_fieldRef fo_46_0) ?_
        | refine aL (z_fieldV fo_46_0) ?_
      first
        | refine aL (z_load sz_9) ?_
        | refine aL (z_loadRef sz_9) ?_
        | refine aL (z_loadV sz_9) ?_
      refine aL z_move ?_
      refine aL (z_call0 (eC (eC .nil)) en_84 (con_SameO (l := l[q].n) (r := k) (hf _ (List.getElem_mem hlt)) hk)) ?_
      refine awl_nil (hK10 _ _ ?_)
      clear hK10 K10
      refine aC (fun r2 c2 => ?_) (fun r2 c2 => ?_)
      · refine aw_region_last ?_
        refine aL z_move ?_
        first
          | refine aL (z_fieldAddr fo_46_1) ?_
          | refine aL (z_fieldRef fo_46_1) ?_
          | refine aL (z_fieldV fo_46_1) ?_
        first
          | refine aL (z_load sz_9) ?_
          | refine aL (z_loadRef sz_9) ?_
          | refine aL (z_loadV sz_9) ?_
        refine aL (z_lits (pC .nil) Tryz.underlying68 sz_9 zc_9 zl_9 (c := [[_]])) ?_
        refine aL (z_app Tryz.underlying68 zi_9 (c' := stV (hvM (l.take q) k ++ [l[q].v])) (hc := stV_snoc rfl) (hb := by simp; omega)) ?_
        refine aL z_assign ?_
        refine awl_nil ?_
        refine hK8 _ _ ?_
        clear hK8
        refine aw_region_last ?_
        refine aL z_add ?_
        refine aL z_move ?_
        refine awl_nil ?_
        refine hK5 _ _ ⟨q + 1, by omega⟩ (by dsimp only; omega) ?_
        dsimp only
        first
          | (have hc : lowM l[q].n = lowM k := of_decide_eq_true r2
             rw [hvM_yes hlt hc]
             exact Weak.trans (weak_rever 2 0 rfl) wK)
          | (have hc : ¬ lowM l[q].n = lowM k := of_decide_eq_false r2
             rw [hvM_no hlt hc]
             exact wK)
      · refine aw_skip ?_
        refine hK8 _ _ ?_
        clear hK8
        refine aw_region_last ?_
        refine aL z_add ?_
        refine aL z_move ?_
        refine awl_nil ?_
        refine hK5 _ _ ⟨q + 1, by omega⟩ (by dsimp only; omega) ?_
        dsimp only
        first
          | (have hc : lowM l[q].n = lowM k := of_decide_eq_true r2
             rw [hvM_yes hlt hc]
             exact Weak.trans (weak_rever 2 0 rfl) wK)
          | (have hc : ¬ lowM l[q].n = lowM k := of_decide_eq_false r2
             rw [hvM_no hlt hc]
             exact wK)
    · refine aw_exit ?_
      refine hK3 _ _ ?_
      clear hK3
      refine aw_region fun K11 hK11 => ?_
      refine aL z_move ?_
      refine aL z_assign ?_
      refine awl_nil (hK11 _ _ ?_)
      clear hK11 K11
      obtain rfl : q = l.length := (by omega)
      rw [List.take_length]
      refine aw_weak (weak_all (fr' := [(4, .v (.sl (stV (hvM l k))))]) (ah' := []) (some (2, 0, stV (hvM l k))) ⟨rfl, _, _, rfl⟩ .nil (.cons rfl (.view rfl (cutW (by simp))) .nil)) ?_
      refine aw_ret ?_
      refine (hret _ _ _ _ _ rfl (.tmp rfl .nil) rfl ?_ .nil rfl).1
      rfl
end Go.Proofs.YtnjbfiejgiaibaaGreatDoor
