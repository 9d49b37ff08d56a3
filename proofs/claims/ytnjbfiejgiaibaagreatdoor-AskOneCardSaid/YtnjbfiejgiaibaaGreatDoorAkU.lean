/- Chapter 14: a request's first line, and its body. No condition but on lengths. -/
import Derived.Test.YtnjbfiejgiaibaaGreatDoorAkS
namespace Go.Proofs.YtnjbfiejgiaibaaGreatDoor
set_option linter.all false
open Go Go.RowKit
set_option maxRecDepth 10000
set_option maxHeartbeats 4000000
theorem countFrom_fuel {p : List UInt8} (hp : 1 ≤ p.length) : ∀ (f g : Nat) (s : List UInt8), s.length < f → s.length < g → Lib.countFrom p f s = Lib.countFrom p g s
  | 0, _, _, h, _ => by omega
  | _, 0, _, _, h => by omega
  | f + 1, g + 1, s, h, k => by
    rw [Lib.countFrom, Lib.countFrom]
    split
    · rfl
    · by_cases h0 : s = []
      · subst h0
        rename_i hk
        exact absurd (show (Lib.index [] p == -1) = true by
          cases p with
          | nil => simp at hp
          | cons a p => rfl) hk
      · have hl : 0 < s.length := List.length_pos_iff.2 h0
        rw [countFrom_fuel hp f g _ (by simp; omega) (by simp; omega)]
theorem split_cut (s : List UInt8) : Lib.split s [32] = match cutAt 32 s with | (m, none) => [m] | (m, some r) => m :: Lib.split r [32] := by
  obtain ⟨h1, h2⟩ := cutAt_index 32 s
  cases hq : cutAt 32 s with
  | mk m o =>
    cases o with
    | none =>
      obtain ⟨a1, a2, -⟩ := h2 m hq
      have hc : Lib.count s [32] = 0 := by unfold Lib.count; rw [Lib.countFrom, a1]; rfl
      unfold Lib.split
      rw [hc, a2]; rfl
    | some r =>
      obtain ⟨a1, a2, a3, a4, -⟩ := h1 m r hq
      have hb : ((m.length : Int) == -1) = false := by rw [beq_eq_false_iff_ne]; omega
      have hc : Lib.count s [32] = Lib.count r [32] + 1 := by
        unfold Lib.count
        rw [Lib.countFrom, a1, hb]
        simp only [Bool.false_eq_true, if_false]
        rw [show ((m.length : Nat) : Int).toNat + ([32] : List UInt8).length = m.length + 1 by simp, a3]
        rw [countFrom_fuel (by decide) s.length (r.length + 1) r (by rw [a4]; simp; omega) (by omega)]
        omega
      show Lib.splitK [32] 0 (Lib.count s [32]) s = _
      rw [hc, Lib.splitK, a1, hb]
      simp only [Bool.false_eq_true, if_false]
      rw [show ((m.length : Nat) : Int).toNat + ([32] : List UInt8).length = m.length + 1 by simp, show ((m.length : Nat) : Int).toNat + 0 = m.length by omega, a2, a3]
      rfl
theorem split_mem_len : ∀ (s : List UInt8) (x : List UInt8), x ∈ Lib.split s [32] → x.length ≤ s.length := by
  intro s
  generalize hn : s.length = n
  induction n using Nat.strongRecOn generalizing s with
  | _ n ih =>
    intro x hx
    rw [split_cut] at hx
    obtain ⟨h1, h2⟩ := cutAt_index 32 s
    cases hq : cutAt 32 s with
    | mk m o =>
      rw [hq] at hx
      cases o with
      | none =>
        obtain ⟨-, a2, -⟩ := h2 m hq
        simp at hx; subst hx; rw [a2, hn]; exact Nat.le_refl _
      | some r =>
        obtain ⟨-, -, -, a4, -⟩ := h1 m r hq
        have hl : s.length = m.length + (r.length + 1) := by rw [a4]; simp
        rcases List.mem_cons.1 hx with rfl | hx
        · omega
        · have := ih r.length (by omega) r rfl x hx
          omega
def h11 : List UInt8 := [72, 84, 84, 80, 47, 49, 46, 49]
/-- What the first line asks. -/
def firstM (s : List UInt8) : Option (List UInt8 × List UInt8) := match cutAt 32 s with
  | (m, some r) => match cutAt 32 r with
    | (t, some v) => if tokenM m = true ∧ targM t = true ∧ v = h11 then some (m, t) else none
    | (_, none) => none
  | (_, none) => none
def firstL : List (List UInt8) → Option (List UInt8 × List UInt8)
  | [m, t, v] => if tokenM m = true ∧ targM t = true ∧ v = h11 then some (m, t) else none
  | _ => none
theorem first_split (s : List UInt8) : firstM s = firstL (Lib.split s [32]) := by
  rw [split_cut]
  unfold firstM
  cases hq : cutAt 32 s with
  | mk m o =>
    cases o with
    | none => rfl
    | some r =>
      simp only
      rw [split_cut]
      cases hr : cutAt 32 r with
      | mk t o2 =>
        cases o2 with
        | none => rfl
        | some v =>
          simp only
          rw [split_cut]
          obtain ⟨h1, h2⟩ := cutAt_index 32 v
          cases hv : cutAt 32 v with
          | mk x o3 =>
            cases o3 with
            | none => obtain ⟨-, a2, -⟩ := h2 x hv; simp only; rw [a2]; rfl
            | some y =>
              obtain ⟨-, -, -, a4, -⟩ := h1 x y hv
              simp only
              have hne : v ≠ h11 := fun e => by
                have hm : (32 : UInt8) ∈ h11 := by rw [← e, a4]; simp
                exact absurd hm (by decide)
              rw [if_neg (fun h => hne h.2.2)]
              have hl := split_cut y
              cases hy : cutAt 32 y with
              | mk z o4 => rw [hy] at hl; cases o4 <;> (simp only at hl; rw [hl]; rfl)
theorem con_firstL {all : List UInt8} {k : Nat} {e : Int} (hk : k ≤ all.length) (ha : all.length ≤ 1000000000) (h : lnM (all.drop k) = .error e) :
    Con Tryz.prog 18 [.ptr 0 0] [(0, .box (rdC all k))] 1 (.pan (.v (.lit (fltV e)))) [(0, .box (rdC all k))] := by
  refine con_of Tryz.func18 rfl (by show _ ≤ 39; simp) fun X Q hP hnt hnp hret hpan => ?_
  obtain ⟨P0, nt0, w0, K0, S0, np0, pin0, df0⟩ := X
  simp only at hP hnt hnp
  subst hP hnp
  obtain rfl : nt0 = 39 := hnt
  refine aw_region fun K1 hK1 => ?_
  refine aL (z_alloc 10 zc_26 zl_26) ?_
  refine awl_nil (hK1 _ _ ?_)
  clear hK1 K1
  refine aw_region fun K2 hK2 => ?_
  refine aL z_move ?_
  refine awl_callP [0] (eC .nil) en_19 (con_lineE hk ha h) (pA .nil) ?_
  exact hpan _ _ _ rfl (.box rfl rfl .nil) rfl
theorem con_firstO {all s r m t : List UInt8} {k : Nat} (hk : k ≤ all.length) (ha : all.length ≤ 1000000000) (h : lnM (all.drop k) = .ok (s, r)) (hf : firstM s = some (m, t)) :
    Con Tryz.prog 18 [.ptr 0 0] [(0, .box (rdC all k))] 1 (.ret (.agg (Ak.csX ⟨m, t, [], []⟩ NIL))) [(0, .box (rdC all (k + (s.length + 2))))] := by
  have h5 := (ln_ok h).2.2.2.2
  rw [List.length_drop] at h5
  obtain ⟨hsp, hm, ht⟩ : Lib.split s [32] = [m, t, h11] ∧ tokenM m = true ∧ targM t = true := by
    rw [first_split] at hf
    unfold firstL at hf
    split at hf
    · rename_i m' t' v' e
      split at hf
      · rename_i hq
        injection hf with hf; injection hf with e1 e2
        subst e1 e2
        obtain ⟨q1, q2, q3⟩ := hq
        subst q3
        exact ⟨e, q1, q2⟩
      · cases hf
    · cases hf
  obtain ⟨lm, lt⟩ : m.length ≤ s.length ∧ t.length ≤ s.length := by
    have h9 : ∀ x ∈ Lib.split s [32], x.length ≤ s.length := split_mem_len s
    rw [hsp] at h9
    exact ⟨h9 m (by simp), h9 t (by simp)⟩
  have hi0 : (stV [m, t, h11])[0]? = some [V.str m] := rfl
  have hi1 : (stV [m, t, h11])[1]? = some [V.str t] := rfl
  have hi2 : (stV [m, t, h11])[2]? = some [V.str h11] := rfl
  refine con_of Tryz.func18 rfl (by show _ ≤ 39; simp) fun X Q hP hnt hnp hret hpan => ?_
  obtain ⟨P0, nt0, w0, K0, S0, np0, pin0, df0⟩ := X
  simp only at hP hnt hnp
  subst hP hnp
  obtain rfl : nt0 = 39 := hnt
  refine aw_region fun K1 hK1 => ?_
  refine aL (z_alloc 10 zc_26 zl_26) ?_
  refine awl_nil (hK1 _ _ ?_)
  clear hK1 K1
  refine aw_region fun K2 hK2 => ?_
  refine aL z_move ?_
  refine aL (z_callG [0] (eC .nil) en_19 (con_lineO hk ha h) (pA .nil)) ?_
  refine aL (z_call1 11 (eC (eC .nil)) en_46 (con_sSplit (s := s) (r := [32]) (by omega) (by decide))) ?_
  rw [hsp]
  refine aL z_assign ?_
  refine awl_nil (hK2 _ _ ?_)
  clear hK2 K2
  refine aw_seq fun K3 hK3 => ?_
  refine aw_region fun K4 hK4 => ?_
  refine aL z_move ?_
  first
    | refine aL (z_lenB Tryz.underlying68) ?_
    | refine aL (z_len Tryz.underlying68) ?_
    | refine aL (z_lenV Tryz.underlying68) ?_
  refine aL z_neq ?_
  refine aL z_move ?_
  first
    | refine gL rfl rfl (ev_tmp rfl) (fun hg => z_move) ?_
    | refine hL rfl rfl (ev_tmp rfl) (fun hg => z_move) ?_
  first
    | refine gL rfl rfl (ev_tmp rfl) (fun hg => z_indexAddrV (i := 0) Tryz.underlying68 sz_9 (hi := Nat.le_of_ble_eq_true rfl)) ?_
    | refine hL rfl rfl (ev_tmp rfl) (fun hg => z_indexAddrV (i := 0) Tryz.underlying68 sz_9 (hi := Nat.le_of_ble_eq_true rfl)) ?_
  first
    | refine gL rfl rfl (ev_tmp rfl) (fun hg => z_load sz_9) ?_
    | refine gL rfl rfl (ev_tmp rfl) (fun hg => z_loadRef sz_9) ?_
    | refine gL rfl rfl (ev_tmp rfl) (fun hg => z_loadV sz_9) ?_
    | refine hL rfl rfl (ev_tmp rfl) (fun hg => z_load sz_9) ?_
    | refine hL rfl rfl (ev_tmp rfl) (fun hg => z_loadRef sz_9) ?_
    | refine hL rfl rfl (ev_tmp rfl) (fun hg => z_loadV sz_9) ?_
  first
    | refine gL rfl rfl (ev_tmp rfl) (fun hg => z_call0 (eC .nil) en_47 (con_Token (l := m) (by unfold maxLen; omega))) ?_
    | refine hL rfl rfl (ev_tmp rfl) (fun hg => z_call0 (eC .nil) en_47 (con_Token (l := m) (by unfold maxLen; omega))) ?_
  first
    | refine gL rfl rfl (ev_tmp rfl) (fun hg => z_not) ?_
    | refine hL rfl rfl (ev_tmp rfl) (fun hg => z_not) ?_
  refine aL z_or ?_
  refine aL z_move ?_
  first
    | refine gL rfl rfl (ev_tmp rfl) (fun hg => z_move) ?_
    | refine hL rfl rfl (ev_tmp rfl) (fun hg => z_move) ?_
  first
    | refine gL rfl rfl (ev_tmp rfl) (fun hg => z_indexAddrV (i := 1) Tryz.underlying68 sz_9 (hi := Nat.le_of_ble_eq_true rfl)) ?_
    | refine hL rfl rfl (ev_tmp rfl) (fun hg => z_indexAddrV (i := 1) Tryz.underlying68 sz_9 (hi := Nat.le_of_ble_eq_true rfl)) ?_
  first
    | refine gL rfl rfl (ev_tmp rfl) (fun hg => z_load sz_9) ?_
    | refine gL rfl rfl (ev_tmp rfl) (fun hg => z_loadRef sz_9) ?_
    | refine gL rfl rfl (ev_tmp rfl) (fun hg => z_loadV sz_9) ?_
    | refine hL rfl rfl (ev_tmp rfl) (fun hg => z_load sz_9) ?_
    | refine hL rfl rfl (ev_tmp rfl) (fun hg => z_loadRef sz_9) ?_
    | refine hL rfl rfl (ev_tmp rfl) (fun hg => z_loadV sz_9) ?_
  first
    | refine gL rfl rfl (ev_tmp rfl) (fun hg => z_call0 (eC .nil) en_48 (con_target (s := t) (by omega))) ?_
    | refine hL rfl rfl (ev_tmp rfl) (fun hg => z_call0 (eC .nil) en_48 (con_target (s := t) (by omega))) ?_
  first
    | refine gL rfl rfl (ev_tmp rfl) (fun hg => z_not) ?_
    | refine hL rfl rfl (ev_tmp rfl) (fun hg => z_not) ?_
  refine aL z_or ?_
  refine aL z_move ?_
  first
    | refine gL rfl rfl (ev_tmp rfl) (fun hg => z_move) ?_
    | refine hL rfl rfl (ev_tmp rfl) (fun hg => z_move) ?_
  first
    | refine gL rfl rfl (ev_tmp rfl) (fun hg => z_indexAddrV (i := 2) Tryz.underlying68 sz_9 (hi := Nat.le_of_ble_eq_true rfl)) ?_
    | refine hL rfl rfl (ev_tmp rfl) (fun hg => z_indexAddrV (i := 2) Tryz.underlying68 sz_9 (hi := Nat.le_of_ble_eq_true rfl)) ?_
  first
    | refine gL rfl rfl (ev_tmp rfl) (fun hg => z_load sz_9) ?_
    | refine gL rfl rfl (ev_tmp rfl) (fun hg => z_loadRef sz_9) ?_
    | refine gL rfl rfl (ev_tmp rfl) (fun hg => z_loadV sz_9) ?_
    | refine hL rfl rfl (ev_tmp rfl) (fun hg => z_load sz_9) ?_
    | refine hL rfl rfl (ev_tmp rfl) (fun hg => z_loadRef sz_9) ?_
    | refine hL rfl rfl (ev_tmp rfl) (fun hg => z_loadV sz_9) ?_
  first
    | refine gL rfl rfl (ev_tmp rfl) (fun hg => z_neqS) ?_
    | refine hL rfl rfl (ev_tmp rfl) (fun hg => z_neqS) ?_
  refine aL z_or ?_
  refine awl_nil (hK4 _ _ ?_)
  clear hK4 K4
  refine aC (fun r1 c1 => ?_) (fun r1 c1 => ?_)
  · rw [hm, ht] at r1; cases r1
  · refine aw_skip ?_
    refine hK3 _ _ ?_
    clear hK3
    refine aw_regionD mx_all (by kernel_rfl) fun K5 hK5 => ?_
    refine aD z_move ?_
    refine aD (z_indexAddrV (i := 0) Tryz.underlying68 sz_9 (hi := Nat.le_of_ble_eq_true rfl)) ?_
    first
      | refine aD (z_load sz_9) ?_
      | refine aD (z_loadRef sz_9) ?_
      | refine aD (z_loadV sz_9) ?_
    refine aD z_move ?_
    refine aD (z_indexAddrV (i := 1) Tryz.underlying68 sz_9 (hi := Nat.le_of_ble_eq_true rfl)) ?_
    first
      | refine aD (z_load sz_9) ?_
      | refine aD (z_loadRef sz_9) ?_
      | refine aD (z_loadV sz_9) ?_
    refine aD (z_build (pC (pC .nil)) pl_26 zc_26 zl_26) ?_
    refine aD (z_store sz_26) ?_
    refine awd_nil (by kernel_rfl) (hK5 _ _ ?_)
    clear hK5 K5
    refine aw_ret ?_
    refine (hret _ _ _ _ _ rfl (rCe sz_26 .nil) rfl ?_ (.box rfl rfl .nil) rfl).1
    rfl
theorem con_firstE {all s r : List UInt8} {k : Nat} (hk : k ≤ all.length) (ha : all.length ≤ 1000000000) (h : lnM (all.drop k) = .ok (s, r)) (hf : firstM s = none) :
    Con Tryz.prog 18 [.ptr 0 0] [(0, .box (rdC all k))] 1 (.pan (.v (.lit (fltV 150)))) [(0, .box (rdC all (k + (s.length + 2))))] := by
  have h5 := (ln_ok h).2.2.2.2
  rw [List.length_drop] at h5
  have h9 := split_mem_len s
  rw [first_split] at hf
  obtain ⟨ps, hps⟩ : ∃ ps, Lib.split s [32] = ps := ⟨_, rfl⟩
  rw [hps] at hf h9
  by_cases h3 : ps.length = 3
  · obtain ⟨m, t, v, rfl⟩ : ∃ m t v, ps = [m, t, v] := by
      match ps, h3 with
      | [m, t, v], _ => exact ⟨m, t, v, rfl⟩
    have lm := h9 m (by simp)
    have lt := h9 t (by simp)
    have hi0 : (stV [m, t, v])[0]? = some [V.str m] := rfl
    have hi1 : (stV [m, t, v])[1]? = some [V.str t] := rfl
    have hi2 : (stV [m, t, v])[2]? = some [V.str v] := rfl
    have hB : ∀ x y z : Bool, x = tokenM m → y = targM t → z = decide (v = h11) → (!x || !y || !z) = true := fun x y z hx hy hz => by
      subst hx hy hz
      unfold firstL at hf
      cases h1 : tokenM m <;> cases h2 : targM t <;> simp_all
    refine con_of Tryz.func18 rfl (by show _ ≤ 39; simp) fun X Q hP hnt hnp hret hpan => ?_
    obtain ⟨P0, nt0, w0, K0, S0, np0, pin0, df0⟩ := X
    simp only at hP hnt hnp
    subst hP hnp
    obtain rfl : nt0 = 39 := hnt
    refine aw_region fun K1 hK1 => ?_
    refine aL (z_alloc 10 zc_26 zl_26) ?_
    refine awl_nil (hK1 _ _ ?_)
    clear hK1 K1
    refine aw_region fun K2 hK2 => ?_
    refine aL z_move ?_
    refine aL (z_callG [0] (eC .nil) en_19 (con_lineO hk ha h) (pA .nil)) ?_
    refine aL (z_call1 11 (eC (eC .nil)) en_46 (con_sSplit (s := s) (r := [32]) (by omega) (by decide))) ?_
    rw [hps]
    refine aL z_assign ?_
    refine awl_nil (hK2 _ _ ?_)
    clear hK2 K2
    refine aw_seq fun K3 hK3 => ?_
    refine aw_region fun K4 hK4 => ?_
    refine aL z_move ?_
    first
      | refine aL (z_lenB Tryz.underlying68) ?_
      | refine aL (z_len Tryz.underlying68) ?_
      | refine aL (z_lenV Tryz.underlying68) ?_
    refine aL z_neq ?_
    refine aL z_move ?_
    first
      | refine gL rfl rfl (ev_tmp rfl) (fun hg => z_move) ?_
      | refine hL rfl rfl (ev_tmp rfl) (fun hg => z_move) ?_
    first
      | refine gL rfl rfl (ev_tmp rfl) (fun hg => z_indexAddrV (i := 0) Tryz.underlying68 sz_9 (hi := Nat.le_of_ble_eq_true rfl)) ?_
      | refine hL rfl rfl (ev_tmp rfl) (fun hg => z_indexAddrV (i := 0) Tryz.underlying68 sz_9 (hi := Nat.le_of_ble_eq_true rfl)) ?_
    first
      | refine gL rfl rfl (ev_tmp rfl) (fun hg => z_load sz_9) ?_
      | refine gL rfl rfl (ev_tmp rfl) (fun hg => z_loadRef sz_9) ?_
      | refine gL rfl rfl (ev_tmp rfl) (fun hg => z_loadV sz_9) ?_
      | refine hL rfl rfl (ev_tmp rfl) (fun hg => z_load sz_9) ?_
      | refine hL rfl rfl (ev_tmp rfl) (fun hg => z_loadRef sz_9) ?_
      | refine hL rfl rfl (ev_tmp rfl) (fun hg => z_loadV sz_9) ?_
    first
      | refine gL rfl rfl (ev_tmp rfl) (fun hg => z_call0 (eC .nil) en_47 (con_Token (l := m) (by unfold maxLen; omega))) ?_
      | refine hL rfl rfl (ev_tmp rfl) (fun hg => z_call0 (eC .nil) en_47 (con_Token (l := m) (by unfold maxLen; omega))) ?_
    first
      | refine gL rfl rfl (ev_tmp rfl) (fun hg => z_not) ?_
      | refine hL rfl rfl (ev_tmp rfl) (fun hg => z_not) ?_
    refine aL z_or ?_
    refine aL z_move ?_
    first
      | refine gL rfl rfl (ev_tmp rfl) (fun hg => z_move) ?_
      | refine hL rfl rfl (ev_tmp rfl) (fun hg => z_move) ?_
    first
      | refine gL rfl rfl (ev_tmp rfl) (fun hg => z_indexAddrV (i := 1) Tryz.underlying68 sz_9 (hi := Nat.le_of_ble_eq_true rfl)) ?_
      | refine hL rfl rfl (ev_tmp rfl) (fun hg => z_indexAddrV (i := 1) Tryz.underlying68 sz_9 (hi := Nat.le_of_ble_eq_true rfl)) ?_
    first
      | refine gL rfl rfl (ev_tmp rfl) (fun hg => z_load sz_9) ?_
      | refine gL rfl rfl (ev_tmp rfl) (fun hg => z_loadRef sz_9) ?_
      | refine gL rfl rfl (ev_tmp rfl) (fun hg => z_loadV sz_9) ?_
      | refine hL rfl rfl (ev_tmp rfl) (fun hg => z_load sz_9) ?_
      | refine hL rfl rfl (ev_tmp rfl) (fun hg => z_loadRef sz_9) ?_
      | refine hL rfl rfl (ev_tmp rfl) (fun hg => z_loadV sz_9) ?_
    first
      | refine gL rfl rfl (ev_tmp rfl) (fun hg => z_call0 (eC .nil) en_48 (con_target (s := t) (by omega))) ?_
      | refine hL rfl rfl (ev_tmp rfl) (fun hg => z_call0 (eC .nil) en_48 (con_target (s := t) (by omega))) ?_
    first
      | refine gL rfl rfl (ev_tmp rfl) (fun hg => z_not) ?_
      | refine hL rfl rfl (ev_tmp rfl) (fun hg => z_not) ?_
    refine aL z_or ?_
    refine aL z_move ?_
    first
      | refine gL rfl rfl (ev_tmp rfl) (fun hg => z_move) ?_
      | refine hL rfl rfl (ev_tmp rfl) (fun hg => z_move) ?_
    first
      | refine gL rfl rfl (ev_tmp rfl) (fun hg => z_indexAddrV (i := 2) Tryz.underlying68 sz_9 (hi := Nat.le_of_ble_eq_true rfl)) ?_
      | refine hL rfl rfl (ev_tmp rfl) (fun hg => z_indexAddrV (i := 2) Tryz.underlying68 sz_9 (hi := Nat.le_of_ble_eq_true rfl)) ?_
    first
      | refine gL rfl rfl (ev_tmp rfl) (fun hg => z_load sz_9) ?_
      | refine gL rfl rfl (ev_tmp rfl) (fun hg => z_loadRef sz_9) ?_
      | refine gL rfl rfl (ev_tmp rfl) (fun hg => z_loadV sz_9) ?_
      | refine hL rfl rfl (ev_tmp rfl) (fun hg => z_load sz_9) ?_
      | refine hL rfl rfl (ev_tmp rfl) (fun hg => z_loadRef sz_9) ?_
      | refine hL rfl rfl (ev_tmp rfl) (fun hg => z_loadV sz_9) ?_
    first
      | refine gL rfl rfl (ev_tmp rfl) (fun hg => z_neqS) ?_
      | refine hL rfl rfl (ev_tmp rfl) (fun hg => z_neqS) ?_
    refine aL z_or ?_
    refine awl_nil (hK4 _ _ ?_)
    clear hK4 K4
    refine aC (fun r1 c1 => ?_) (fun r1 c1 => ?_)
    · refine aw_region_last ?_
      refine aL (z_build (pC .nil) pl_49 zc_49 zl_49) ?_
      refine aL (z_iface Tryz.underlying49) ?_
      refine awl_panic ?_
      exact hpan _ _ _ rfl (.box rfl rfl .nil) rfl
    · exfalso
      obtain ⟨⟨⟨-, q1⟩, q2⟩, q3⟩ := c1
      have hb := hB _ _ _ rfl rfl rfl
      simp [q1, q2, q3, h11] at hb
  · have hb : ((ps.length : Int) != 3) = true := by rw [bne_iff_ne]; omega
    refine con_of Tryz.func18 rfl (by show _ ≤ 39; simp) fun X Q hP hnt hnp hret hpan => ?_
    obtain ⟨P0, nt0, w0, K0, S0, np0, pin0, df0⟩ := X
    simp only at hP hnt hnp
    subst hP hnp
    obtain rfl : nt0 = 39 := hnt
    refine aw_region fun K1 hK1 => ?_
    refine aL (z_alloc 10 zc_26 zl_26) ?_
    refine awl_nil (hK1 _ _ ?_)
    clear hK1 K1
    refine aw_region fun K2 hK2 => ?_
    refine aL z_move ?_
    refine aL (z_callG [0] (eC .nil) en_19 (con_lineO hk ha h) (pA .nil)) ?_
    refine aL (z_call1 11 (eC (eC .nil)) en_46 (con_sSplit (s := s) (r := [32]) (by omega) (by decide))) ?_
    rw [hps]
    refine aL z_assign ?_
    refine awl_nil (hK2 _ _ ?_)
    clear hK2 K2
    refine aw_seq fun K3 hK3 => ?_
    refine aw_region fun K4 hK4 => ?_
    refine aL z_move ?_
    first
      | refine aL (z_lenB Tryz.underlying68) ?_
      | refine aL (z_len Tryz.underlying68) ?_
      | refine aL (z_lenV Tryz.underlying68) ?_
    refine aL z_neq ?_
    refine aL z_move ?_
    first
      | refine gL rfl rfl (ev_tmp rfl) (fun hg => (False.elim (by simp [hb] at hg) : StepU _ _ _ _ (.v (.bool false)) [] [])) ?_
      | refine hL rfl rfl (ev_tmp rfl) (fun hg => (False.elim (by simp [hb] at hg) : StepU _ _ _ _ (.v (.bool false)) [] [])) ?_
    first
      | refine gL rfl rfl (ev_tmp rfl) (fun hg => (False.elim (by simp [hb] at hg) : StepU _ _ _ _ (.v (.bool false)) [] [])) ?_
      | refine hL rfl rfl (ev_tmp rfl) (fun hg => (False.elim (by simp [hb] at hg) : StepU _ _ _ _ (.v (.bool false)) [] [])) ?_
    first
      | refine gL rfl rfl (ev_tmp rfl) (fun hg => (False.elim (by simp [hb] at hg) : StepU _ _ _ _ (.v (.bool false)) [] [])) ?_
      | refine hL rfl rfl (ev_tmp rfl) (fun hg => (False.elim (by simp [hb] at hg) : StepU _ _ _ _ (.v (.bool false)) [] [])) ?_
    first
      | refine gL rfl rfl (ev_tmp rfl) (fun hg => (False.elim (by simp [hb] at hg) : StepU _ _ _ _ (.v (.bool false)) [] [])) ?_
      | refine hL rfl rfl (ev_tmp rfl) (fun hg => (False.elim (by simp [hb] at hg) : StepU _ _ _ _ (.v (.bool false)) [] [])) ?_
    first
      | refine gL rfl rfl (ev_tmp rfl) (fun hg => (False.elim (by simp [hb] at hg) : StepU _ _ _ _ (.v (.bool false)) [] [])) ?_
      | refine hL rfl rfl (ev_tmp rfl) (fun hg => (False.elim (by simp [hb] at hg) : StepU _ _ _ _ (.v (.bool false)) [] [])) ?_
    refine aL z_or ?_
    refine aL z_move ?_
    first
      | refine gL rfl rfl (ev_tmp rfl) (fun hg => (False.elim (by simp [hb] at hg) : StepU _ _ _ _ (.v (.bool false)) [] [])) ?_
      | refine hL rfl rfl (ev_tmp rfl) (fun hg => (False.elim (by simp [hb] at hg) : StepU _ _ _ _ (.v (.bool false)) [] [])) ?_
    first
      | refine gL rfl rfl (ev_tmp rfl) (fun hg => (False.elim (by simp [hb] at hg) : StepU _ _ _ _ (.v (.bool false)) [] [])) ?_
      | refine hL rfl rfl (ev_tmp rfl) (fun hg => (False.elim (by simp [hb] at hg) : StepU _ _ _ _ (.v (.bool false)) [] [])) ?_
    first
      | refine gL rfl rfl (ev_tmp rfl) (fun hg => (False.elim (by simp [hb] at hg) : StepU _ _ _ _ (.v (.bool false)) [] [])) ?_
      | refine hL rfl rfl (ev_tmp rfl) (fun hg => (False.elim (by simp [hb] at hg) : StepU _ _ _ _ (.v (.bool false)) [] [])) ?_
    first
      | refine gL rfl rfl (ev_tmp rfl) (fun hg => (False.elim (by simp [hb] at hg) : StepU _ _ _ _ (.v (.bool false)) [] [])) ?_
      | refine hL rfl rfl (ev_tmp rfl) (fun hg => (False.elim (by simp [hb] at hg) : StepU _ _ _ _ (.v (.bool false)) [] [])) ?_
    first
      | refine gL rfl rfl (ev_tmp rfl) (fun hg => (False.elim (by simp [hb] at hg) : StepU _ _ _ _ (.v (.bool false)) [] [])) ?_
      | refine hL rfl rfl (ev_tmp rfl) (fun hg => (False.elim (by simp [hb] at hg) : StepU _ _ _ _ (.v (.bool false)) [] [])) ?_
    refine aL z_or ?_
    refine aL z_move ?_
    first
      | refine gL rfl rfl (ev_tmp rfl) (fun hg => (False.elim (by simp [hb] at hg) : StepU _ _ _ _ (.v (.bool false)) [] [])) ?_
      | refine hL rfl rfl (ev_tmp rfl) (fun hg => (False.elim (by simp [hb] at hg) : StepU _ _ _ _ (.v (.bool false)) [] [])) ?_
    first
      | refine gL rfl rfl (ev_tmp rfl) (fun hg => (False.elim (by simp [hb] at hg) : StepU _ _ _ _ (.v (.bool false)) [] [])) ?_
      | refine hL rfl rfl (ev_tmp rfl) (fun hg => (False.elim (by simp [hb] at hg) : StepU _ _ _ _ (.v (.bool false)) [] [])) ?_
    first
      | refine gL rfl rfl (ev_tmp rfl) (fun hg => (False.elim (by simp [hb] at hg) : StepU _ _ _ _ (.v (.bool false)) [] [])) ?_
      | refine hL rfl rfl (ev_tmp rfl) (fun hg => (False.elim (by simp [hb] at hg) : StepU _ _ _ _ (.v (.bool false)) [] [])) ?_
    first
      | refine gL rfl rfl (ev_tmp rfl) (fun hg => (False.elim (by simp [hb] at hg) : StepU _ _ _ _ (.v (.bool false)) [] [])) ?_
      | refine hL rfl rfl (ev_tmp rfl) (fun hg => (False.elim (by simp [hb] at hg) : StepU _ _ _ _ (.v (.bool false)) [] [])) ?_
    refine aL z_or ?_
    refine awl_nil (hK4 _ _ ?_)
    clear hK4 K4
    refine aC (fun r1 c1 => ?_) (fun r1 c1 => ?_)
    · refine aw_region_last ?_
      refine aL (z_build (pC .nil) pl_49 zc_49 zl_49) ?_
      refine aL (z_iface Tryz.underlying49) ?_
      refine awl_panic ?_
      exact hpan _ _ _ rfl (.box rfl rfl .nil) rfl
    · exfalso; simp [hb] at r1
/-- A request's body. -/
def kTE : List UInt8 := [116, 114, 97, 110, 115, 102, 101, 114, 45, 101, 110, 99, 111, 100, 105, 110, 103]
def bodyM (fs : List Fd) (rest : List UInt8) : Except Int (List UInt8) :=
  if ¬ (lenM fs).2.2 = 0 ∨ 2147483647 < (lenM fs).1 ∨ 0 < (hvM fs kTE).length then .error 151 else if (rest.length : Int) < (lenM fs).1 then .error 12 else .ok (rest.take (lenM fs).1.toNat)
theorem lenGo_nn : ∀ (l : List (List UInt8)) (n : Int) (b : Bool), 0 ≤ n → 0 ≤ (lenGo n b l).1
  | [], n, b, h => h
  | x :: r, n, b, h => by
    unfold lenGo
    split
    · exact Int.le_refl _
    · exact lenGo_nn r _ _ (numV_nn x)
theorem con_bodyO {all b : List UInt8} {fs : List Fd} {k : Nat} (hk : k ≤ all.length) (ha : all.length ≤ 1000000000) (hs : szM fs ≤ 1000000000000) (h : bodyM fs (all.drop k) = .ok b) :
    Con Tryz.prog 21 [.ptr 0 0, .v (.sl (fdV fs))] [(0, .box (rdC all k))] 1 (.ret (.v (.str b))) [(0, .box (rdC all (k + b.length)))] := by
  unfold bodyM at h
  split at h
  · cases h
  rename_i h1
  split at h
  · cases h
  rename_i h2
  injection h with h
  rw [List.length_drop] at h2
  obtain ⟨n, hn⟩ : ∃ n : Nat, (lenM fs).1 = (n : Int) := ⟨(lenM fs).1.toNat, by have := lenGo_nn (valuesM fs [99, 111, 110, 116, 101, 110, 116, 45, 108, 101, 110, 103, 116, 104]) 0 false (by decide); exact (Int.toNat_of_nonneg this).symm⟩
  obtain ⟨tl, htl⟩ : ∃ b, (lenM fs).2.1 = b := ⟨_, rfl⟩
  obtain ⟨e, he⟩ : ∃ e, (lenM fs).2.2 = e := ⟨_, rfl⟩
  have hcl := con_Length (l := fs) (by omega)
  rw [hn, htl, he] at hcl
  rw [hn, he] at h1
  rw [hn] at h h2
  have e0 : e = 0 := by omega
  subst e0
  have hbl : b.length = n := by rw [← h, List.length_take, List.length_drop]; omega
  have hall := bs_length all
  have hfn : fs.length ≤ 1099511627776 := by have := szM_len fs; omega
  have hff : ∀ f ∈ fs, f.n.length ≤ 140737488351232 := fun f hf => by have := szM_mem hf; omega
  have hcut : cut k (k + n) (bs all) = bs b := by
    rw [bs_cut, show k + n - k = n by omega, ← h]; rfl
  rw [hbl]
  refine con_of Tryz.func21 rfl (by show _ ≤ 66; simp) fun X Q hP hnt hnp hret hpan => ?_
  obtain ⟨P0, nt0, w0, K0, S0, np0, pin0, df0⟩ := X
  simp only at hP hnt hnp
  subst hP hnp
  obtain rfl : nt0 = 66 := hnt
  refine aw_region fun K1 hK1 => ?_
  refine aL z_assign ?_
  refine awl_nil (hK1 _ _ ?_)
  clear hK1 K1
  refine aw_region fun K2 hK2 => ?_
  refine aL z_move ?_
  refine aL (z_call0 (eC .nil) en_57 (hcl)) ?_
  refine aL z_move ?_
  refine aL z_extract ?_
  refine aL z_extract ?_
  refine aL z_extract ?_
  refine aL z_assign ?_
  refine aL z_assign ?_
  refine aL z_assign ?_
  refine awl_nil (hK2 _ _ ?_)
  clear hK2 K2
  refine aw_seq fun K3 hK3 => ?_
  refine aw_region fun K4 hK4 => ?_
  refine aL z_move ?_
  refine aL z_neq ?_
  refine aL z_move ?_
  first
    | refine gL rfl rfl (ev_tmp rfl) (fun hg => z_move) ?_
    | refine hL rfl rfl (ev_tmp rfl) (fun hg => z_move) ?_
  first
    | refine gL rfl rfl (ev_tmp rfl) (fun hg => z_gtr) ?_
    | refine hL rfl rfl (ev_tmp rfl) (fun hg => z_gtr) ?_
  refine aL z_or ?_
  refine aL z_move ?_
  first
    | refine gL rfl rfl (ev_tmp rfl) (fun hg => z_move) ?_
    | refine hL rfl rfl (ev_tmp rfl) (fun hg => z_move) ?_
  first
    | refine gL rfl rfl (ev_tmp rfl) (fun hg => z_call0 (eC (eC .nil)) en_58 (con_Values (k := kTE) hfn hff (by decide))) ?_
    | refine hL rfl rfl (ev_tmp rfl) (fun hg => z_call0 (eC (eC .nil)) en_58 (con_Values (k := kTE) hfn hff (by decide))) ?_
  first
    | refine gL rfl rfl (ev_tmp rfl) (fun hg => z_lenB Tryz.underlying68) ?_
    | refine gL rfl rfl (ev_tmp rfl) (fun hg => z_len Tryz.underlying68) ?_
    | refine gL rfl rfl (ev_tmp rfl) (fun hg => z_lenV Tryz.underlying68) ?_
    | refine hL rfl rfl (ev_tmp rfl) (fun hg => z_lenB Tryz.underlying68) ?_
    | refine hL rfl rfl (ev_tmp rfl) (fun hg => z_len Tryz.underlying68) ?_
    | refine hL rfl rfl (ev_tmp rfl) (fun hg => z_lenV Tryz.underlying68) ?_
  first
    | refine gL rfl rfl (ev_tmp rfl) (fun hg => z_gtr) ?_
    | refine hL rfl rfl (ev_tmp rfl) (fun hg => z_gtr) ?_
  refine aL z_or ?_
  refine awl_nil (hK4 _ _ ?_)
  clear hK4 K4
  refine aC (fun r1 c1 => ?_) (fun r1 c1 => ?_)
  · exfalso; rw [stV_len] at c1; omega
  · refine aw_skip ?_
    refine hK3 _ _ ?_
    clear hK3
    refine aw_seq fun K5 hK5 => ?_
    refine aw_regionD mx_all (by kernel_rfl) fun K6 hK6 => ?_
    refine aD z_move ?_
    refine aD z_move ?_
    refine aD z_nilCheck ?_
    first
      | refine aD (z_fieldAddr fo_53_0) ?_
      | refine aD (z_fieldRef fo_53_0) ?_
      | refine aD (z_fieldV fo_53_0) ?_
    first
      | refine aD (z_load sz_22) ?_
      | refine aD (z_loadRef sz_22) ?_
      | refine aD (z_loadV sz_22) ?_
    first
      | refine aD (z_lenB Tryz.underlying22) ?_
      | refine aD (z_len Tryz.underlying22) ?_
      | refine aD (z_lenV Tryz.underlying22) ?_
    refine aD z_move ?_
    refine aD z_nilCheck ?_
    first
      | refine aD (z_fieldAddr fo_53_1) ?_
      | refine aD (z_fieldRef fo_53_1) ?_
      | refine aD (z_fieldV fo_53_1) ?_
    first
      | refine aD (z_load sz_3) ?_
      | refine aD (z_loadRef sz_3) ?_
      | refine aD (z_loadV sz_3) ?_
    refine aD z_sub ?_
    refine aD z_gtr ?_
    refine awd_nil (by kernel_rfl) (hK6 _ _ ?_)
    clear hK6 K6
    refine aC (fun r2 c2 => ?_) (fun r2 c2 => ?_)
    · exfalso; omega
    · refine aw_skip ?_
      refine hK5 _ _ ?_
      clear hK5
      refine aw_region fun K7 hK7 => ?_
      refine aL z_move ?_
      refine aL z_nilCheck ?_
      first
        | refine aL (z_fieldAddr fo_53_1) ?_
        | refine aL (z_fieldRef fo_53_1) ?_
        | refine aL (z_fieldV fo_53_1) ?_
      first
        | refine aL (z_load sz_3) ?_
        | refine aL (z_loadRef sz_3) ?_
        | refine aL (z_loadV sz_3) ?_
      refine aL z_move ?_
      refine aL z_add ?_
      refine aL z_nilCheck ?_
      first
        | refine aL (z_fieldAddr fo_53_1) ?_
        | refine aL (z_fieldRef fo_53_1) ?_
        | refine aL (z_fieldV fo_53_1) ?_
      refine aL (z_store sz_3) ?_
      refine awl_nil (hK7 _ _ ?_)
      clear hK7 K7
      refine aw_regionD mx_all (by kernel_rfl) fun K8 hK8 => ?_
      refine aD z_move ?_
      refine aD z_nilCheck ?_
      first
        | refine aD (z_fieldAddr fo_53_0) ?_
        | refine aD (z_fieldRef fo_53_0) ?_
        | refine aD (z_fieldV fo_53_0) ?_
      first
        | refine aD (z_load sz_22) ?_
        | refine aD (z_loadRef sz_22) ?_
        | refine aD (z_loadV sz_22) ?_
      refine aD z_move ?_
      refine aD z_nilCheck ?_
      first
        | refine aD (z_fieldAddr fo_53_1) ?_
        | refine aD (z_fieldRef fo_53_1) ?_
        | refine aD (z_fieldV fo_53_1) ?_
      first
        | refine aD (z_load sz_3) ?_
        | refine aD (z_loadRef sz_3) ?_
        | refine aD (z_loadV sz_3) ?_
      refine aD z_move ?_
      refine aD z_sub ?_
      refine aD z_move ?_
      refine aD z_nilCheck ?_
      first
        | refine aD (z_fieldAddr fo_53_1) ?_
        | refine aD (z_fieldRef fo_53_1) ?_
        | refine aD (z_fieldV fo_53_1) ?_
      first
        | refine aD (z_load sz_3) ?_
        | refine aD (z_loadRef sz_3) ?_
        | refine aD (z_loadV sz_3) ?_
      refine aD (z_slice Tryz.underlying22 sz_5 (i := some k) (hlo := .yes (ev_tmp rfl) (by omega)) (j := some (k + n)) (hhi := .yes (ev_tmp rfl) (by omega)) (c' := bs b) (hc := hcut)) ?_
      first
        | refine aD (z_convS Tryz.underlying22 Tryz.underlying5 Tryz.underlying9) ?_
        | refine aD (z_convSV Tryz.underlying22 Tryz.underlying5 Tryz.underlying9) ?_
      refine aD z_assign ?_
      refine awd_nil (by kernel_rfl) (hK8 _ _ ?_)
      clear hK8 K8
      refine aw_ret ?_
      refine (hret _ _ _ _ _ rfl (.tmp rfl .nil) rfl ?_ (.box rfl rfl .nil) rfl).1
      rfl
theorem con_bodyE {all : List UInt8} {fs : List Fd} {k : Nat} {er : Int} (hk : k ≤ all.length) (ha : all.length ≤ 1000000000) (hs : szM fs ≤ 1000000000000) (h : bodyM fs (all.drop k) = .error er) :
    Con Tryz.prog 21 [.ptr 0 0, .v (.sl (fdV fs))] [(0, .box (rdC all k))] 1 (.pan (.v (.lit (fltV er)))) [(0, .box (rdC all k))] := by
  unfold bodyM at h
  rw [List.length_drop] at h
  obtain ⟨n, hn⟩ : ∃ n : Nat, (lenM fs).1 = (n : Int) := ⟨(lenM fs).1.toNat, by have := lenGo_nn (valuesM fs [99, 111, 110, 116, 101, 110, 116, 45, 108, 101, 110, 103, 116, 104]) 0 false (by decide); exact (Int.toNat_of_nonneg this).symm⟩
  obtain ⟨tl, htl⟩ : ∃ b, (lenM fs).2.1 = b := ⟨_, rfl⟩
  obtain ⟨e, he⟩ : ∃ e, (lenM fs).2.2 = e := ⟨_, rfl⟩
  have hcl := con_Length (l := fs) (by omega)
  rw [hn, htl, he] at hcl
  rw [hn, he] at h
  have hall := bs_length all
  have hfn : fs.length ≤ 1099511627776 := by have := szM_len fs; omega
  have hff : ∀ f ∈ fs, f.n.length ≤ 140737488351232 := fun f hf => by have := szM_mem hf; omega
  have hstl := stV_len (hvM fs kTE)
  refine con_of Tryz.func21 rfl (by show _ ≤ 66; simp) fun X Q hP hnt hnp hret hpan => ?_
  obtain ⟨P0, nt0, w0, K0, S0, np0, pin0, df0⟩ := X
  simp only at hP hnt hnp
  subst hP hnp
  obtain rfl : nt0 = 66 := hnt
  refine aw_region fun K1 hK1 => ?_
  refine aL z_assign ?_
  refine awl_nil (hK1 _ _ ?_)
  clear hK1 K1
  refine aw_region fun K2 hK2 => ?_
  refine aL z_move ?_
  refine aL (z_call0 (eC .nil) en_57 (hcl)) ?_
  refine aL z_move ?_
  refine aL z_extract ?_
  refine aL z_extract ?_
  refine aL z_extract ?_
  refine aL z_assign ?_
  refine aL z_assign ?_
  refine aL z_assign ?_
  refine awl_nil (hK2 _ _ ?_)
  clear hK2 K2
  refine aw_seq fun K3 hK3 => ?_
  refine aw_region fun K4 hK4 => ?_
  refine aL z_move ?_
  refine aL z_neq ?_
  refine aL z_move ?_
  first
    | refine gL rfl rfl (ev_tmp rfl) (fun hg => z_move) ?_
    | refine hL rfl rfl (ev_tmp rfl) (fun hg => z_move) ?_
  first
    | refine gL rfl rfl (ev_tmp rfl) (fun hg => z_gtr) ?_
    | refine hL rfl rfl (ev_tmp rfl) (fun hg => z_gtr) ?_
  refine aL z_or ?_
  refine aL z_move ?_
  first
    | refine gL rfl rfl (ev_tmp rfl) (fun hg => z_move) ?_
    | refine hL rfl rfl (ev_tmp rfl) (fun hg => z_move) ?_
  first
    | refine gL rfl rfl (ev_tmp rfl) (fun hg => z_call0 (eC (eC .nil)) en_58 (con_Values (k := kTE) hfn hff (by decide))) ?_
    | refine hL rfl rfl (ev_tmp rfl) (fun hg => z_call0 (eC (eC .nil)) en_58 (con_Values (k := kTE) hfn hff (by decide))) ?_
  first
    | refine gL rfl rfl (ev_tmp rfl) (fun hg => z_lenB Tryz.underlying68) ?_
    | refine gL rfl rfl (ev_tmp rfl) (fun hg => z_len Tryz.underlying68) ?_
    | refine gL rfl rfl (ev_tmp rfl) (fun hg => z_lenV Tryz.underlying68) ?_
    | refine hL rfl rfl (ev_tmp rfl) (fun hg => z_lenB Tryz.underlying68) ?_
    | refine hL rfl rfl (ev_tmp rfl) (fun hg => z_len Tryz.underlying68) ?_
    | refine hL rfl rfl (ev_tmp rfl) (fun hg => z_lenV Tryz.underlying68) ?_
  first
    | refine gL rfl rfl (ev_tmp rfl) (fun hg => z_gtr) ?_
    | refine hL rfl rfl (ev_tmp rfl) (fun hg => z_gtr) ?_
  refine aL z_or ?_
  refine awl_nil (hK4 _ _ ?_)
  clear hK4 K4
  refine aC (fun r1 c1 => ?_) (fun r1 c1 => ?_)
  · refine aw_region_last ?_
    refine aL (z_build (pC .nil) pl_49 zc_49 zl_49) ?_
    refine aL (z_iface Tryz.underlying49) ?_
    refine awl_panic ?_
    first
      | (have hh := c2
         rw [if_neg (by omega), if_pos (by omega)] at h
         injection h with h; subst h
         exact hpan _ _ _ rfl (.box rfl rfl .nil) rfl)
      | (have hh := c1
         rw [if_pos (by omega)] at h
         injection h with h; subst h
         exact hpan _ _ _ rfl (.box rfl rfl .nil) rfl)
  · refine aw_skip ?_
    refine hK3 _ _ ?_
    clear hK3
    refine aw_seq fun K5 hK5 => ?_
    refine aw_regionD mx_all (by kernel_rfl) fun K6 hK6 => ?_
    refine aD z_move ?_
    refine aD z_move ?_
    refine aD z_nilCheck ?_
    first
      | refine aD (z_fieldAddr fo_53_0) ?_
      | refine aD (z_fieldRef fo_53_0) ?_
      | refine aD (z_fieldV fo_53_0) ?_
    first
      | refine aD (z_load sz_22) ?_
      | refine aD (z_loadRef sz_22) ?_
      | refine aD (z_loadV sz_22) ?_
    first
      | refine aD (z_lenB Tryz.underlying22) ?_
      | refine aD (z_len Tryz.underlying22) ?_
      | refine aD (z_lenV Tryz.underlying22) ?_
    refine aD z_move ?_
    refine aD z_nilCheck ?_
    first
      | refine aD (z_fieldAddr fo_53_1) ?_
      | refine aD (z_fieldRef fo_53_1) ?_
      | refine aD (z_fieldV fo_53_1) ?_
    first
      | refine aD (z_load sz_3) ?_
      | refine aD (z_loadRef sz_3) ?_
      | refine aD (z_loadV sz_3) ?_
    refine aD z_sub ?_
    refine aD z_gtr ?_
    refine awd_nil (by kernel_rfl) (hK6 _ _ ?_)
    clear hK6 K6
    refine aC (fun r2 c2 => ?_) (fun r2 c2 => ?_)
    · refine aw_region_last ?_
      refine aL (z_build (pC .nil) pl_49 zc_49 zl_49) ?_
      refine aL (z_iface Tryz.underlying49) ?_
      refine awl_panic ?_
      first
        | (have hh := c2
           rw [if_neg (by omega), if_pos (by omega)] at h
           injection h with h; subst h
           exact hpan _ _ _ rfl (.box rfl rfl .nil) rfl)
        | (have hh := c1
           rw [if_pos (by omega)] at h
           injection h with h; subst h
           exact hpan _ _ _ rfl (.box rfl rfl .nil) rfl)
    · rw [if_neg (by omega), if_neg (by omega)] at h; cases h
end Go.Proofs.YtnjbfiejgiaibaaGreatDoor
