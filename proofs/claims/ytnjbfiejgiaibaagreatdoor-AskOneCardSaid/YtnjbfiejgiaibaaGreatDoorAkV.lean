/- Chapter 14: Take by its cases, All, Low. No condition but on lengths. -/
import Derived.Test.YtnjbfiejgiaibaaGreatDoorAkYToAkZ
import Derived.Test.YtnjbfiejgiaibaaGreatDoorHpCToHpG
namespace Go.Proofs.YtnjbfiejgiaibaaGreatDoor
set_option linter.all false
open Go Go.RowKit
set_option maxRecDepth 10000
set_option maxHeartbeats 4000000
theorem ln_suf {b s r : List UInt8} (h : lnM b = .ok (s, r)) : r <:+ b := by
  obtain ⟨-, -, -, h4, -⟩ := ln_ok h
  rw [← h4]; exact List.drop_suffix _ _
theorem ln_e {b : List UInt8} {e : Int} (h : lnM b = .error e) : e ≠ 0 := by
  rcases ln_err h with ⟨-, h⟩ | ⟨_, _, _, _, h⟩
  · rw [h]; split <;> decide
  · rw [h]; decide
theorem flds_suf : ∀ (n : Nat) (fs : List Fd) (s r : List UInt8), (∀ fs' r', fldsN n fs s r = .ok (fs', r') → r' <:+ r) ∧ ∀ e, fldsN n fs s r = .error e → e ≠ 0
  | 0, fs, s, r => ⟨fun _ _ h => (by cases h), fun e h => by injection h with h; rw [← h]; decide⟩
  | n + 1, fs, s, r => by
    unfold fldsN
    split
    · exact ⟨fun fs' r' h => (by injection h with h; injection h with _ h; rw [h]; exact List.suffix_refl _), fun e h => (by cases h)⟩
    · cases fieldM s with
      | none => exact ⟨fun _ _ h => (by cases h), fun e h => by injection h with h; rw [← h]; decide⟩
      | some f =>
        cases hl : lnM r with
        | error e => exact ⟨fun _ _ h => (by cases h), fun e' h => by injection h with h; rw [← h]; exact ln_e hl⟩
        | ok p =>
          obtain ⟨s', r2⟩ := p
          obtain ⟨h1, h2⟩ := flds_suf n (fs ++ [f]) s' r2
          exact ⟨fun fs' r' h => (h1 fs' r' h).trans (ln_suf hl), h2⟩
theorem body_e {fs : List Fd} {r : List UInt8} {e : Int} (h : bodyM fs r = .error e) : e ≠ 0 := by
  unfold bodyM at h
  split at h
  · injection h with h; rw [← h]; decide
  · split at h
    · injection h with h; rw [← h]; decide
    · cases h
theorem take_suf {b : List UInt8} : (∀ a r, takeA b = .ok (a, r) → r <:+ b ∧ r.length < b.length) ∧ ∀ e, takeA b = .error e → e ≠ 0 := by
  unfold takeA
  cases hl : lnM b with
  | error e => exact ⟨fun _ _ h => (by cases h), fun e' h => by injection h with h; rw [← h]; exact ln_e hl⟩
  | ok p =>
    obtain ⟨s, r0⟩ := p
    have hll := ln_len hl
    simp only
    cases firstM s with
    | none => exact ⟨fun _ _ h => (by cases h), fun e h => by injection h with h; rw [← h]; decide⟩
    | some q =>
      obtain ⟨m, t⟩ := q
      simp only
      unfold hdrM
      cases hl2 : lnM r0 with
      | error e => exact ⟨fun _ _ h => (by cases h), fun e' h => by injection h with h; rw [← h]; exact ln_e hl2⟩
      | ok p2 =>
        obtain ⟨s2, r2⟩ := p2
        simp only
        obtain ⟨h1, h2⟩ := flds_suf (r2.length + 1) [] s2 r2
        cases hf : fldsS [] s2 r2 with
        | error e => exact ⟨fun _ _ h => (by cases h), fun e' h => by injection h with h; rw [← h]; exact h2 e hf⟩
        | ok p3 =>
          obtain ⟨fs, r3⟩ := p3
          unfold tailM
          simp only
          cases hb : bodyM fs r3 with
          | error e => exact ⟨fun _ _ h => (by cases h), fun e' h => by injection h with h; rw [← h]; exact body_e hb⟩
          | ok bd =>
            refine ⟨fun a r h => ?_, fun e h => by cases h⟩
            injection h with h; injection h with _ h
            have k1 : r <:+ r0 := by
              rw [← h]
              exact (List.drop_suffix _ _).trans ((h1 fs r3 hf).trans (ln_suf hl2))
            have k2 := k1.length_le
            exact ⟨k1.trans (ln_suf hl), by omega⟩
/-- The requests that bytes are. -/
def allN : Nat → List Ak → List UInt8 → Except Int (List Ak)
  | 0, _, _ => .error 12
  | n + 1, acc, b => if b = [] then .ok acc else match takeA b with
    | .error e => .error e
    | .ok (a, r) => allN n (acc ++ [a]) r
def allS (acc : List Ak) (b : List UInt8) : Except Int (List Ak) := allN (b.length + 1) acc b
theorem allN_fuel : ∀ (n m : Nat) (acc : List Ak) (b : List UInt8), b.length < n → b.length < m → allN n acc b = allN m acc b
  | 0, _, _, _, h, _ => by omega
  | _, 0, _, _, _, h => by omega
  | n + 1, m + 1, acc, b, h, k => by
    unfold allN
    split
    · rfl
    · cases hT : takeA b with
      | error e => rfl
      | ok p =>
        obtain ⟨a, r⟩ := p
        have := (take_suf.1 a r hT).2
        exact allN_fuel n m _ _ (by omega) (by omega)
theorem all_end (acc : List Ak) : allS acc [] = .ok acc := by unfold allS allN; rw [if_pos rfl]
theorem all_err {acc : List Ak} {b : List UInt8} {e : Int} (hb : ¬ b = []) (h : takeA b = .error e) : allS acc b = .error e := by unfold allS allN; rw [if_neg hb, h]
theorem all_on {acc : List Ak} {b r : List UInt8} {a : Ak} (hb : ¬ b = []) (h : takeA b = .ok (a, r)) : allS acc b = allS (acc ++ [a]) r := by
  have := (take_suf.1 a r h).2
  show allN (b.length + 1) acc b = _
  unfold allN
  rw [if_neg hb, h]
  exact allN_fuel _ _ _ _ (by omega) (by omega)
def akV (l : List Ak) : List (List V) := l.map Ak.vs
@[simp] theorem akV_len (l : List Ak) : (akV l).length = l.length := by simp [akV]
theorem akV_snoc {l : List Ak} {a : Ak} {n : Nat} (h : n = l.length) : (akV l).take n ++ [a.vs] = akV (l ++ [a]) := by
  rw [List.take_of_length_le (by rw [akV_len]; omega)]; simp [akV]
def allD : Except Int (List Ak) → D
  | .error e => .tup [NIL, .v (.int .i64 e)]
  | .ok l => .tup [.v (.sl (akV l)), .v (.int .i64 0)]
/-- Take's answer in one shape. -/
theorem takeU (b : List UInt8) : ∃ (m t bd : List UInt8) (F : V) (n : Nat) (e : Int), takeD b.length (takeA b) = .tup [.agg [.v (.str m), .v (.str t), .v F, .v (.str bd)], .v (.int .i64 (n : Int)), .v (.int .i64 e)] ∧
    ((e ≠ 0 ∧ takeA b = .error e) ∨ (e = 0 ∧ ∃ fs r, F = .sl (fdV fs) ∧ takeA b = .ok (⟨m, t, fs, bd⟩, r) ∧ r = b.drop n ∧ n ≤ b.length ∧ 0 < n)) := by
  obtain ⟨h1, h2⟩ := take_suf (b := b)
  cases hT : takeA b with
  | error e => exact ⟨[], [], [], .lit (.slice none 0 0), 0, e, rfl, .inl ⟨h2 e hT, rfl⟩⟩
  | ok p =>
    obtain ⟨a, r⟩ := p
    obtain ⟨k1, k2⟩ := h1 a r hT
    exact ⟨a.m, a.t, a.b, .sl (fdV a.fs), b.length - r.length, 0, rfl, .inr ⟨rfl, a.fs, r, rfl, rfl, List.suffix_iff_eq_drop.1 k1, by omega, by omega⟩⟩
theorem con_All14 {b : List UInt8} (hb : b.length ≤ 1000000000) : Con Tryz.prog 9 [.v (.sl (bs b))] [] 0 (.ret (allD (allS [] b))) [] := by
  refine con_of Tryz.func9 rfl (by show _ ≤ 28; simp) fun X Q hP hnt hnp hret hpan => ?_
  obtain ⟨P0, nt0, w0, K0, S0, np0, pin0, df0⟩ := X
  simp only at hP hnt hnp
  subst hP hnp
  obtain rfl : nt0 = 28 := hnt
  refine aw_region fun K1 hK1 => ?_
  refine aL z_assign ?_
  refine aL z_assign ?_
  refine awl_nil (hK1 _ _ ?_)
  clear hK1 K1
  refine aw_region fun K2 hK2 => ?_
  refine aL z_assign ?_
  refine awl_nil (hK2 _ _ ?_)
  clear hK2 K2
  refine aw_weak (weak_nil (t := 4) 5 4 26 (by decide) (Nat.zero_le _) rfl rfl) ?_
  refine aw_seq fun K3 hK3 => ?_
  refine aw_block ?_
  refine aw_loop (α := {x : List Ak × List UInt8 // allS [] b = allS x.1 x.2 ∧ x.2.length + x.1.length ≤ b.length}) (fun x => ([(0, .v (.sl (bs x.1.2))), (4, .view 5 0 0 x.1.1.length)], [(5, .row 0 4 26 (akV x.1.1))])) (fun x => x.1.2.length) ⟨([], b), rfl, by simp⟩ ?_ ?_
  · dsimp only
    exact wK
  · rintro ⟨⟨acc, bb⟩, hx, hl⟩ K4 hK4
    dsimp only
    dsimp only at hx hl
    have hbl := bs_length bb
    refine aw_seq fun K5 hK5 => ?_
    refine aw_region fun K6 hK6 => ?_
    refine aL z_move ?_
    first
      | refine aL (z_lenB Tryz.underlying22) ?_
      | refine aL (z_len Tryz.underlying22) ?_
      | refine aL (z_lenV Tryz.underlying22) ?_
    refine aL z_gtr ?_
    refine awl_nil (hK6 _ _ ?_)
    clear hK6 K6
    refine aC (fun r1 c1 => ?_) (fun r1 c1 => ?_)
    · refine aw_skip ?_
      refine hK5 _ _ ?_
      clear hK5
      refine aw_block ?_
      refine aw_region fun K7 hK7 => ?_
      refine aL z_move ?_
      obtain ⟨m', t', bd', F, n', e', hD, hR⟩ := takeU bb
      have hcT := con_Take (b := bb) (by omega)
      rw [hD] at hcT
      have hbn : ¬ bb = [] := fun e => by subst e; simp at c1
      refine aL (z_call0 (eC .nil) en_6 hcT) ?_
      refine aL z_move ?_
      refine aL z_extract ?_
      refine aL z_extract ?_
      refine aL z_extract ?_
      refine aL (z_alloc 20 zc_26 zl_26) ?_
      refine aL (z_store sz_26) ?_
      refine aL z_assign ?_
      refine aL z_assign ?_
      refine awl_nil (hK7 _ _ ?_)
      clear hK7 K7
      refine aw_seq fun K8 hK8 => ?_
      refine aw_region fun K9 hK9 => ?_
      refine aL z_move ?_
      refine aL z_neq ?_
      refine awl_nil (hK9 _ _ ?_)
      clear hK9 K9
      refine aC (fun r2 c2 => ?_) (fun r2 c2 => ?_)
      · refine aw_region fun K10 hK10 => ?_
        refine aL z_move ?_
        refine aL z_assign ?_
        refine aL z_assign ?_
        refine awl_nil (hK10 _ _ ?_)
        clear hK10 K10
        first
          | (have hq := hx.trans (all_err hbn (show takeA bb = .error e' from (by
               rcases hR with ⟨-, h⟩ | ⟨h, -⟩
               · exact h
               · exact absurd h (by assumption))))
             refine aw_ret ?_
             refine (hret _ _ _ _ _ rfl (.tmp rfl (.tmp rfl .nil)) rfl (by rw [hq]; rfl) .nil rfl).1)
          | (have he : bb = [] := List.eq_nil_of_length_eq_zero (by omega)
             subst he
             have hq := hx.trans (all_end acc)
             refine aw_weak (weak_settle (fr' := [(2, .v (.sl (akV acc))), (3, .v (.int .i64 0))]) (ah' := []) 5 rfl .nil rfl (.view rfl (cutW (by simp)) (.keep rfl rfl .nil))) ?_
             refine aw_ret ?_
             refine (hret _ _ _ _ _ rfl (.tmp rfl (.tmp rfl .nil)) rfl (by rw [hq]; rfl) .nil rfl).1)
      · refine aw_skip ?_
        refine hK8 _ _ ?_
        clear hK8
        refine aw_region fun K11 hK11 => ?_
        obtain ⟨fs', r', rfl, hT, rfl, hn1, hn2⟩ : ∃ fs r, F = .sl (fdV fs) ∧ takeA bb = .ok (⟨m', t', fs, bd'⟩, r) ∧ r = bb.drop n' ∧ n' ≤ bb.length ∧ 0 < n' := by
          rcases hR with ⟨h, -⟩ | ⟨-, h⟩
          · exact absurd (by assumption) h
          · exact h
        refine aL z_move ?_
        first
          | refine aL (z_load sz_26) ?_
          | refine aL (z_loadRef sz_26) ?_
          | refine aL (z_loadV sz_26) ?_
        refine aL (z_lits (pC .nil) Tryz.underlying31 sz_26 zc_26 zl_26 (c := [Ak.vs ⟨m', t', fs', bd'⟩])) ?_
        refine aL (z_app Tryz.underlying31 zi_26 (c' := akV (acc ++ [⟨m', t', fs', bd'⟩])) (hc := akV_snoc rfl) (hb := by simp; omega)) ?_
        refine aL z_assign ?_
        refine awl_nil (hK11 _ _ ?_)
        clear hK11 K11
        refine aw_region_last ?_
        refine aL z_move ?_
        refine aL z_move ?_
        refine aL (z_slice Tryz.underlying22 sz_5 (i := some n') (hlo := .yes (ev_tmp rfl) rfl) (c' := bs (bb.drop n')) (hc := by rw [bs_cut, List.take_of_length_le (by simp)]; rfl)) ?_
        refine aL z_assign ?_
        refine awl_nil ?_
        refine hK4 _ _ ⟨(acc ++ [⟨m', t', fs', bd'⟩], bb.drop n'), by dsimp only; rw [hx, all_on hbn hT], by dsimp only; simp; omega⟩ (by dsimp only; simp; omega) ?_
        exact Weak.trans (weak_rever 5 0 rfl) wK
    · refine aw_exit ?_
      refine hK3 _ _ ?_
      clear hK3
      refine aw_region fun K12 hK12 => ?_
      refine aL z_move ?_
      refine aL z_assign ?_
      refine aL z_assign ?_
      refine awl_nil (hK12 _ _ ?_)
      clear hK12 K12
      first
        | (have hq := hx.trans (all_err hbn (show takeA bb = .error e' from (by
             rcases hR with ⟨-, h⟩ | ⟨h, -⟩
             · exact h
             · exact absurd h (by assumption))))
           refine aw_ret ?_
           refine (hret _ _ _ _ _ rfl (.tmp rfl (.tmp rfl .nil)) rfl (by rw [hq]; rfl) .nil rfl).1)
        | (have he : bb = [] := List.eq_nil_of_length_eq_zero (by omega)
           subst he
           have hq := hx.trans (all_end acc)
           refine aw_weak (weak_settle (fr' := [(2, .v (.sl (akV acc))), (3, .v (.int .i64 0))]) (ah' := []) 5 rfl .nil rfl (.view rfl (cutW (by simp)) (.keep rfl rfl .nil))) ?_
           refine aw_ret ?_
           refine (hret _ _ _ _ _ rfl (.tmp rfl (.tmp rfl .nil)) rfl (by rw [hq]; rfl) .nil rfl).1)
end Go.Proofs.YtnjbfiejgiaibaaGreatDoor
