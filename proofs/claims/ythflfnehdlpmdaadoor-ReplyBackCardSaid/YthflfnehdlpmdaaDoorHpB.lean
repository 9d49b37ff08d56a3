/- Layer 11: the elements of a value, of a name; Strip, Via. No condition. -/
import Derived.Test.YthflfnehdlpmdaaDoorHpA
namespace Go.Proofs.YthflfnehdlpmdaaDoor
set_option linter.all false
open Go Go.RowKit
set_option maxRecDepth 10000
set_option maxHeartbeats 4000000
theorem con_TrimO {l : List UInt8} (hl : l.length ≤ maxLen) : Con Tryd.prog 27 [.v (.str l)] [] 0 (.ret (.v (.str (trimM l)))) [] :=
  con_pure fun G w us _ hA => by
    obtain rfl := es1 hA
    refine (Trim_any (S l) w (by rw [S_size]; exact hl)).mono fun e w' ⟨he, hw⟩ => ?_
    exact ⟨_, he, fun m => by rw [S_toList]; exact mk_str _, hw⟩
/-- A value, split at its commas but those in quotes. -/
def splG : Bool → Bool → List UInt8 → List UInt8 → List (List UInt8)
  | _, _, [], cur => [cur]
  | q, t, c :: r, cur => if t = true then splG q false r (cur ++ [c]) else if q = true ∧ c = 92 then splG q true r (cur ++ [c]) else if c = 34 then splG (!q) false r (cur ++ [c]) else if c = 44 ∧ q = false then cur :: splG q false r [] else splG q false r (cur ++ [c])
def elF (ps : List (List UInt8)) : List (List UInt8) := (ps.map trimM).filter fun s => decide (s ≠ [])
theorem elF_app (a b : List (List UInt8)) : elF (a ++ b) = elF a ++ elF b := by simp [elF]
theorem elF_cons (a : List UInt8) (b : List (List UInt8)) : elF (a :: b) = elF [a] ++ elF b := elF_app [a] b
theorem elF_yes {a : List UInt8} (h : ¬ trimM a = []) : elF [a] = [trimM a] := by simp [elF, h]
theorem elF_no {a : List UInt8} (h : trimM a = []) : elF [a] = [] := by simp [elF, h]
def elM (v : List UInt8) : List (List UInt8) := elF (splG false false v [])
abbrev puPre (ver : Nat) (v : List UInt8) (fr : Int) (out : List (List UInt8)) : AH := [(0, .box [.v (.str v)]), (1, .box [.v (.int .i64 fr)]), (2, .box [.view 3 ver 0 out.length]), (3, .row ver 1 9 (stV out))]
theorem con_putE {v : List UInt8} {a b : Nat} {out : List (List UInt8)} (hv : v.length ≤ 1099511627776) (hab : a ≤ b) (hb : b ≤ v.length) (ho : out.length ≤ 1099511627776) : Con Tryd.prog 55 [.v (.int .i64 (b : Int)), .ptr 0 0, .ptr 1 0, .ptr 2 0] (puPre 0 v (a : Int) out) 4
    (.ret (.tup [])) (puPre 1 v ((b + 1 : Nat) : Int) (out ++ elF [(v.drop a).take (b - a)])) := by
  refine con_of Tryd.func55 rfl (by show _ ≤ 19; simp) fun X Q hP hnt hnp hret hpan => ?_
  obtain ⟨P0, nt0, w0, K0, S0, np0, pin0, df0⟩ := X
  simp only at hP hnt hnp
  subst hP hnp
  obtain rfl : nt0 = 19 := hnt
  refine aw_seq fun K1 hK1 => ?_
  refine aw_region fun K2 hK2 => ?_
  first
    | refine aL (z_load sz_9) ?_
    | refine aL (z_loadRef sz_9) ?_
    | refine aL (z_loadV sz_9) ?_
  first
    | refine aL (z_load sz_3) ?_
    | refine aL (z_loadRef sz_3) ?_
    | refine aL (z_loadV sz_3) ?_
  refine aL z_move ?_
  refine aL (z_sliceS Tryd.underlying9) ?_
  refine aL (z_call0 (eC .nil) en_27 (con_TrimO (l := (v.drop a).take (b - a)) (by simp [maxLen]; omega))) ?_
  refine aL z_assign ?_
  refine awl_nil (hK2 _ _ ?_)
  clear hK2 K2
  refine aw_region fun K3 hK3 => ?_
  refine aL z_move ?_
  refine aL z_neqS ?_
  refine awl_nil (hK3 _ _ ?_)
  clear hK3 K3
  refine aC (fun r1 c1 => ?_) (fun r1 c1 => ?_)
  · refine aw_region_last ?_
    first
      | refine aL (z_load sz_35) ?_
      | refine aL (z_loadRef sz_35) ?_
      | refine aL (z_loadV sz_35) ?_
    refine aL z_move ?_
    refine aL (z_lits (pC .nil) Tryd.underlying35 sz_9 zc_9 zl_9 (c := [[_]])) ?_
    refine aL (z_app Tryd.underlying35 zi_9 (c' := stV (out ++ [trimM ((v.drop a).take (b - a))])) (hc := stV_snoc rfl) (hb := by simp; omega)) ?_
    refine aL (z_store sz_35) ?_
    refine awl_nil ?_
    refine hK1 _ _ ?_
    clear hK1
    refine aw_region_last ?_
    refine aL z_move ?_
    refine aL z_add ?_
    first
      | (rw [elF_yes c1] at hret
         refine awl_weak (fr' := [(0, .v (.int .i64 (b : Int))), (2, .ptr 1 0), (18, .v (.int .i64 ((b : Int) + 1)))]) (ah' := puPre 1 v (a : Int) (out ++ [trimM ((v.drop a).take (b - a))])) wK ?_)
      | (rw [elF_no c1, List.append_nil] at hret
         refine awl_weak (fr' := [(0, .v (.int .i64 (b : Int))), (2, .ptr 1 0), (18, .v (.int .i64 ((b : Int) + 1)))]) (ah' := puPre 1 v (a : Int) out) (Weak.trans (weak_rever 3 1 rfl) wK) ?_)
    refine aL (z_store sz_3) ?_
    refine awl_nil ?_
    refine (hret _ _ _ _ _ rfl .nil rfl ?_ (.box rfl rfl (.box rfl rfl (.box rfl rfl (.row rfl .nil)))) rfl).2
    rfl
  · refine aw_skip ?_
    refine hK1 _ _ ?_
    clear hK1
    refine aw_region_last ?_
    refine aL z_move ?_
    refine aL z_add ?_
    first
      | (rw [elF_yes c1] at hret
         refine awl_weak (fr' := [(0, .v (.int .i64 (b : Int))), (2, .ptr 1 0), (18, .v (.int .i64 ((b : Int) + 1)))]) (ah' := puPre 1 v (a : Int) (out ++ [trimM ((v.drop a).take (b - a))])) wK ?_)
      | (rw [elF_no c1, List.append_nil] at hret
         refine awl_weak (fr' := [(0, .v (.int .i64 (b : Int))), (2, .ptr 1 0), (18, .v (.int .i64 ((b : Int) + 1)))]) (ah' := puPre 1 v (a : Int) out) (Weak.trans (weak_rever 3 1 rfl) wK) ?_)
    refine aL (z_store sz_3) ?_
    refine awl_nil ?_
    refine (hret _ _ _ _ _ rfl .nil rfl ?_ (.box rfl rfl (.box rfl rfl (.box rfl rfl (.row rfl .nil)))) rfl).2
    rfl
theorem cur_succ {v : List UInt8} {a i : Nat} (h1 : a ≤ i) (h2 : i < v.length) : (v.drop a).take (i - a) ++ [v[i]] = (v.drop a).take (i + 1 - a) := by
  rw [show i + 1 - a = (i - a) + 1 by omega, List.take_add_one, List.getElem?_drop, show a + (i - a) = i by omega, List.getElem?_eq_getElem h2]; rfl
def elI (v : List UInt8) (i a : Nat) (q t : Bool) (out : List (List UInt8)) : Prop := out ++ elF (splG q t (v.drop i) ((v.drop a).take (i - a))) = elM v
theorem elI_at {v : List UInt8} {i a : Nat} {q t : Bool} {out : List (List UInt8)} (h2 : i < v.length) (h : elI v i a q t out) : out ++ elF (splG q t (v[i] :: v.drop (i + 1)) ((v.drop a).take (i - a))) = elM v := by
  unfold elI at h; rwa [List.drop_eq_getElem_cons h2] at h
theorem elI_t {v : List UInt8} {i a : Nat} {q : Bool} {out : List (List UInt8)} (h1 : a ≤ i) (h2 : i < v.length) (h : elI v i a q true out) : elI v (i + 1) a q false out := by
  have := elI_at h2 h
  rw [splG, if_pos rfl, cur_succ h1 h2] at this; exact this
theorem elI_b {v : List UInt8} {i a : Nat} {q : Bool} {out : List (List UInt8)} (h1 : a ≤ i) (h2 : i < v.length) (hc : q = true ∧ v[i] = 92) (h : elI v i a q false out) : elI v (i + 1) a q true out := by
  have := elI_at h2 h
  rw [splG, if_neg (by decide), if_pos hc, cur_succ h1 h2] at this; exact this
theorem elI_q {v : List UInt8} {i a : Nat} {q : Bool} {out : List (List UInt8)} (h1 : a ≤ i) (h2 : i < v.length) (hn : ¬ (q = true ∧ v[i] = 92)) (hc : v[i] = 34) (h : elI v i a q false out) : elI v (i + 1) a (!q) false out := by
  have := elI_at h2 h
  rw [splG, if_neg (by decide), if_neg hn, if_pos hc, cur_succ h1 h2] at this; exact this
theorem elI_c {v : List UInt8} {i a : Nat} {q : Bool} {out : List (List UInt8)} (h2 : i < v.length) (hn : ¬ (q = true ∧ v[i] = 92)) (hn2 : ¬ v[i] = 34) (hc : v[i] = 44 ∧ q = false) (h : elI v i a q false out) : elI v (i + 1) (i + 1) q false (out ++ elF [(v.drop a).take (i - a)]) := by
  have := elI_at h2 h
  rw [splG, if_neg (by decide), if_neg hn, if_neg hn2, if_pos hc, elF_cons, ← List.append_assoc] at this
  unfold elI; rw [Nat.sub_self, List.take_zero]; exact this
theorem elI_o {v : List UInt8} {i a : Nat} {q : Bool} {out : List (List UInt8)} (h1 : a ≤ i) (h2 : i < v.length) (hn : ¬ (q = true ∧ v[i] = 92)) (hn2 : ¬ v[i] = 34) (hc : ¬ (v[i] = 44 ∧ q = false)) (h : elI v i a q false out) : elI v (i + 1) a q false out := by
  have := elI_at h2 h
  rw [splG, if_neg (by decide), if_neg hn, if_neg hn2, if_neg hc, cur_succ h1 h2] at this; exact this
theorem elI_end {v : List UInt8} {a : Nat} {q t : Bool} {out : List (List UInt8)} (h : elI v v.length a q t out) : out ++ elF [(v.drop a).take (v.length - a)] = elM v := by
  unfold elI at h; rw [List.drop_length, splG] at h; exact h
theorem elF_le (a : List UInt8) : (elF [a]).length ≤ 1 := by
  by_cases h : trimM a = []
  · rw [elF_no h]; simp
  · rw [elF_yes h]; simp
theorem u8eq {z c : UInt8} (h : (z.toNat : Int) = (c.toNat : Int)) : z = c := UInt8.toNat_inj.1 (by omega)
theorem u8ne {z c : UInt8} (h : ¬ (z.toNat : Int) = (c.toNat : Int)) : ¬ z = c := fun he => h (by rw [he])
theorem con_Elements {v : List UInt8} (hv : v.length ≤ 1000000000) : Con Tryd.prog 38 [.v (.str v)] [] 0 (.ret (.v (.sl (stV (elM v))))) [] := by
  refine con_of Tryd.func38 rfl (by show _ ≤ 52; simp) fun X Q hP hnt hnp hret hpan => ?_
  obtain ⟨P0, nt0, w0, K0, S0, np0, pin0, df0⟩ := X
  simp only at hP hnt hnp
  subst hP hnp
  obtain rfl : nt0 = 52 := hnt
  refine aw_region fun K1 hK1 => ?_
  refine aL (z_box 0) ?_
  refine aL z_assign ?_
  refine awl_nil (hK1 _ _ ?_)
  clear hK1 K1
  refine aw_region fun K2 hK2 => ?_
  refine aL (z_alloc 2 zc_35 zl_35) ?_
  refine awl_nil (hK2 _ _ ?_)
  clear hK2 K2
  refine aw_region fun K3 hK3 => ?_
  refine aL (z_alloc 1 zc_3 zl_3) ?_
  refine aL (z_store sz_3) ?_
  refine aL z_assign ?_
  refine aL z_assign ?_
  refine awl_nil (hK3 _ _ ?_)
  clear hK3 K3
  refine aw_region fun K4 hK4 => ?_
  refine aL (z_makeFn .nil (eC (eC (eC .nil)))) ?_
  refine aL z_assign ?_
  refine awl_nil (hK4 _ _ ?_)
  clear hK4 K4
  refine aw_seq fun K5 hK5 => ?_
  refine aw_region fun K6 hK6 => ?_
  first
    | refine aL (z_load sz_9) ?_
    | refine aL (z_loadRef sz_9) ?_
    | refine aL (z_loadV sz_9) ?_
  refine aL (z_lenS Tryd.underlying9) ?_
  refine aL z_move ?_
  refine awl_nil (hK6 _ _ ?_)
  clear hK6 K6
  refine aw_block ?_
  refine aw_loop (α := {x : Nat × Nat × Bool × Bool × List (List UInt8) // x.1 ≤ v.length ∧ x.2.1 ≤ x.1 ∧ x.2.2.2.2.length ≤ x.2.1 ∧ elI v x.1 x.2.1 x.2.2.1 x.2.2.2.1 x.2.2.2.2}) (fun x => ([(1, .ptr 0 0), (3, .ptr 2 0), (4, .ptr 1 0), (5, .v (.bool x.1.2.2.1)), (6, .v (.bool x.1.2.2.2.1)), (7, .fn (.func 55) [] [.ptr 0 0, .ptr 1 0, .ptr 2 0]), (12, .v (.int .i64 (v.length : Int))), (13, .v (.int .i64 (x.1.1 : Int)))], puPre 0 v (x.1.2.1 : Int) x.1.2.2.2.2)) (fun x => v.length - x.1.1) ⟨(0, 0, false, false, []), Nat.zero_le _, Nat.le_refl _, Nat.le_refl _, rfl⟩ ?_ ?_
  · dsimp only
    refine Weak.trans (weak_nilB 2 0 3 1 9 rfl rfl rfl (by decide) (Nat.le_of_ble_eq_true rfl) rfl) ?_
    exact wK
  · rintro ⟨⟨i, fr, q, t, out⟩, hi0, hfr, hou, hE⟩ K7 hK7
    dsimp only
    dsimp only at hi0 hfr hou hE
    refine aw_region fun K8 hK8 => ?_
    refine aL z_lss ?_
    refine awl_nil (hK8 _ _ ?_)
    clear hK8 K8
    refine aw_seq fun K9 hK9 => ?_
    refine aC (fun r1 c1 => ?_) (fun r1 c1 => ?_)
    · refine aw_skip ?_
      refine hK9 _ _ ?_
      clear hK9
      refine aw_seq fun K10 hK10 => ?_
      refine aw_block ?_
      refine aw_region fun K11 hK11 => ?_
      refine aL z_move ?_
      refine aL z_assign ?_
      refine awl_nil (hK11 _ _ ?_)
      clear hK11 K11
      refine aw_region fun K12 hK12 => ?_
      have hlt : i < v.length := by omega
      have hi : v[i]? = some v[i] := List.getElem?_eq_getElem hlt
      first
        | refine aL (z_load sz_9) ?_
        | refine aL (z_loadRef sz_9) ?_
        | refine aL (z_loadV sz_9) ?_
      refine aL z_move ?_
      refine aL (z_indexS Tryd.underlying9) ?_
      refine aL z_assign ?_
      refine awl_nil (hK12 _ _ ?_)
      clear hK12 K12
      refine aw_block ?_
      refine aw_region fun K13 hK13 => ?_
      refine aL z_move ?_
      refine aL z_assign ?_
      refine awl_nil (hK13 _ _ ?_)
      clear hK13 K13
      refine aC (fun r2 c2 => ?_) (fun r2 c2 => ?_)
      · refine aw_region_last ?_
        refine aL z_assign ?_
        refine awl_nil ?_
        refine hK10 _ _ ?_
        clear hK10
        refine aw_region_last ?_
        refine aL z_add ?_
        refine aL z_move ?_
        refine awl_nil ?_
        first
          | (have hE2 := elI_t hfr hlt (by rw [c2] at hE; exact hE)
             refine hK7 _ _ ⟨(i + 1, fr, q, false, out), by dsimp only; omega, by dsimp only; omega, hou, hE2⟩ (by dsimp only; omega) ?_
             exact wK)
          | (subst c2
             have hE2 := elI_b hfr hlt ⟨c3.1, u8eq c3.2⟩ hE
             refine hK7 _ _ ⟨(i + 1, fr, q, true, out), by dsimp only; omega, by dsimp only; omega, hou, hE2⟩ (by dsimp only; omega) ?_
             exact wK)
          | (subst c2
             have hn : ¬ (q = true ∧ v[i] = 92) := (fun h => by rcases c3 with h3 | h3; (rw [h3] at h; cases h.1); exact h3 (by rw [h.2]; rfl))
             first
               | (have hE2 := elI_q hfr hlt hn (u8eq c4) hE
                  refine hK7 _ _ ⟨(i + 1, fr, !q, false, out), by dsimp only; omega, by dsimp only; omega, hou, hE2⟩ (by dsimp only; omega) ?_
                  exact wK)
               | (have hE2 := elI_c hlt hn (u8ne c4) ⟨u8eq c5.1, c5.2⟩ hE
                  have hel := elF_le ((v.drop fr).take (i - fr))
                  refine hK7 _ _ ⟨(i + 1, i + 1, q, false, out ++ elF [(v.drop fr).take (i - fr)]), by dsimp only; omega, Nat.le_refl _, by dsimp only; rw [List.length_append]; omega, hE2⟩ (by dsimp only; omega) ?_
                  exact Weak.trans (weak_rever 3 0 rfl) wK)
               | (have hE2 := elI_o hfr hlt hn (u8ne c4) (fun h => by rcases c5 with h5 | h5; exact h5 (by rw [h.1]; rfl); (rw [h5] at h; cases h.2)) hE
                  refine hK7 _ _ ⟨(i + 1, fr, q, false, out), by dsimp only; omega, by dsimp only; omega, hou, hE2⟩ (by dsimp only; omega) ?_
                  exact wK))
      · refine aw_region fun K14 hK14 => ?_
        refine aL z_move ?_
        refine aL z_move ?_
        first
          | refine gL rfl rfl (ev_tmp rfl) (fun hg => z_move) ?_
          | refine hL rfl rfl (ev_tmp rfl) (fun hg => z_move) ?_
        first
          | refine gL rfl rfl (ev_tmp rfl) (fun hg => z_eql) ?_
          | refine hL rfl rfl (ev_tmp rfl) (fun hg => z_eql) ?_
        refine aL z_and ?_
        refine aL z_assign ?_
        refine awl_nil (hK14 _ _ ?_)
        clear hK14 K14
        refine aC (fun r3 c3 => ?_) (fun r3 c3 => ?_)
        · refine aw_region_last ?_
          refine aL z_assign ?_
          refine awl_nil ?_
          refine hK10 _ _ ?_
          clear hK10
          refine aw_region_last ?_
          refine aL z_add ?_
          refine aL z_move ?_
          refine awl_nil ?_
          first
            | (have hE2 := elI_t hfr hlt (by rw [c2] at hE; exact hE)
               refine hK7 _ _ ⟨(i + 1, fr, q, false, out), by dsimp only; omega, by dsimp only; omega, hou, hE2⟩ (by dsimp only; omega) ?_
               exact wK)
            | (subst c2
               have hE2 := elI_b hfr hlt ⟨c3.1, u8eq c3.2⟩ hE
               refine hK7 _ _ ⟨(i + 1, fr, q, true, out), by dsimp only; omega, by dsimp only; omega, hou, hE2⟩ (by dsimp only; omega) ?_
               exact wK)
            | (subst c2
               have hn : ¬ (q = true ∧ v[i] = 92) := (fun h => by rcases c3 with h3 | h3; (rw [h3] at h; cases h.1); exact h3 (by rw [h.2]; rfl))
               first
                 | (have hE2 := elI_q hfr hlt hn (u8eq c4) hE
                    refine hK7 _ _ ⟨(i + 1, fr, !q, false, out), by dsimp only; omega, by dsimp only; omega, hou, hE2⟩ (by dsimp only; omega) ?_
                    exact wK)
                 | (have hE2 := elI_c hlt hn (u8ne c4) ⟨u8eq c5.1, c5.2⟩ hE
                    have hel := elF_le ((v.drop fr).take (i - fr))
                    refine hK7 _ _ ⟨(i + 1, i + 1, q, false, out ++ elF [(v.drop fr).take (i - fr)]), by dsimp only; omega, Nat.le_refl _, by dsimp only; rw [List.length_append]; omega, hE2⟩ (by dsimp only; omega) ?_
                    exact Weak.trans (weak_rever 3 0 rfl) wK)
                 | (have hE2 := elI_o hfr hlt hn (u8ne c4) (fun h => by rcases c5 with h5 | h5; exact h5 (by rw [h.1]; rfl); (rw [h5] at h; cases h.2)) hE
                    refine hK7 _ _ ⟨(i + 1, fr, q, false, out), by dsimp only; omega, by dsimp only; omega, hou, hE2⟩ (by dsimp only; omega) ?_
                    exact wK))
        · refine aw_region fun K15 hK15 => ?_
          refine aL z_move ?_
          refine aL z_eql ?_
          refine aL z_assign ?_
          refine awl_nil (hK15 _ _ ?_)
          clear hK15 K15
          refine aC (fun r4 c4 => ?_) (fun r4 c4 => ?_)
          · refine aw_region_last ?_
            refine aL z_move ?_
            refine aL z_not ?_
            refine aL z_assign ?_
            refine awl_nil ?_
            refine hK10 _ _ ?_
            clear hK10
            refine aw_region_last ?_
            refine aL z_add ?_
            refine aL z_move ?_
            refine awl_nil ?_
            first
              | (have hE2 := elI_t hfr hlt (by rw [c2] at hE; exact hE)
                 refine hK7 _ _ ⟨(i + 1, fr, q, false, out), by dsimp only; omega, by dsimp only; omega, hou, hE2⟩ (by dsimp only; omega) ?_
                 exact wK)
              | (subst c2
                 have hE2 := elI_b hfr hlt ⟨c3.1, u8eq c3.2⟩ hE
                 refine hK7 _ _ ⟨(i + 1, fr, q, true, out), by dsimp only; omega, by dsimp only; omega, hou, hE2⟩ (by dsimp only; omega) ?_
                 exact wK)
              | (subst c2
                 have hn : ¬ (q = true ∧ v[i] = 92) := (fun h => by rcases c3 with h3 | h3; (rw [h3] at h; cases h.1); exact h3 (by rw [h.2]; rfl))
                 first
                   | (have hE2 := elI_q hfr hlt hn (u8eq c4) hE
                      refine hK7 _ _ ⟨(i + 1, fr, !q, false, out), by dsimp only; omega, by dsimp only; omega, hou, hE2⟩ (by dsimp only; omega) ?_
                      exact wK)
                   | (have hE2 := elI_c hlt hn (u8ne c4) ⟨u8eq c5.1, c5.2⟩ hE
                      have hel := elF_le ((v.drop fr).take (i - fr))
                      refine hK7 _ _ ⟨(i + 1, i + 1, q, false, out ++ elF [(v.drop fr).take (i - fr)]), by dsimp only; omega, Nat.le_refl _, by dsimp only; rw [List.length_append]; omega, hE2⟩ (by dsimp only; omega) ?_
                      exact Weak.trans (weak_rever 3 0 rfl) wK)
                   | (have hE2 := elI_o hfr hlt hn (u8ne c4) (fun h => by rcases c5 with h5 | h5; exact h5 (by rw [h.1]; rfl); (rw [h5] at h; cases h.2)) hE
                      refine hK7 _ _ ⟨(i + 1, fr, q, false, out), by dsimp only; omega, by dsimp only; omega, hou, hE2⟩ (by dsimp only; omega) ?_
                      exact wK))
          · refine aw_region fun K16 hK16 => ?_
            refine aL z_move ?_
            refine aL z_eql ?_
            refine aL z_move ?_
            first
              | refine gL rfl rfl (ev_tmp rfl) (fun hg => z_move) ?_
              | refine hL rfl rfl (ev_tmp rfl) (fun hg => z_move) ?_
            first
              | refine gL rfl rfl (ev_tmp rfl) (fun hg => z_not) ?_
              | refine hL rfl rfl (ev_tmp rfl) (fun hg => z_not) ?_
            refine aL z_and ?_
            refine aL z_assign ?_
            refine awl_nil (hK16 _ _ ?_)
            clear hK16 K16
            refine aC (fun r5 c5 => ?_) (fun r5 c5 => ?_)
            · refine aw_region_last ?_
              refine aL z_move ?_
              refine aL z_move ?_
              refine aL (z_callC [0, 1, 2, 3] (eC .nil) en_55 (con_putE (v := v) (a := fr) (b := i) (out := out) (by omega) hfr (by omega) (by omega)) (pA (pA (pA (pA .nil))))) ?_
              refine awl_nil ?_
              refine hK10 _ _ ?_
              clear hK10
              refine aw_region_last ?_
              refine aL z_add ?_
              refine aL z_move ?_
              refine awl_nil ?_
              first
                | (have hE2 := elI_t hfr hlt (by rw [c2] at hE; exact hE)
                   refine hK7 _ _ ⟨(i + 1, fr, q, false, out), by dsimp only; omega, by dsimp only; omega, hou, hE2⟩ (by dsimp only; omega) ?_
                   exact wK)
                | (subst c2
                   have hE2 := elI_b hfr hlt ⟨c3.1, u8eq c3.2⟩ hE
                   refine hK7 _ _ ⟨(i + 1, fr, q, true, out), by dsimp only; omega, by dsimp only; omega, hou, hE2⟩ (by dsimp only; omega) ?_
                   exact wK)
                | (subst c2
                   have hn : ¬ (q = true ∧ v[i] = 92) := (fun h => by rcases c3 with h3 | h3; (rw [h3] at h; cases h.1); exact h3 (by rw [h.2]; rfl))
                   first
                     | (have hE2 := elI_q hfr hlt hn (u8eq c4) hE
                        refine hK7 _ _ ⟨(i + 1, fr, !q, false, out), by dsimp only; omega, by dsimp only; omega, hou, hE2⟩ (by dsimp only; omega) ?_
                        exact wK)
                     | (have hE2 := elI_c hlt hn (u8ne c4) ⟨u8eq c5.1, c5.2⟩ hE
                        have hel := elF_le ((v.drop fr).take (i - fr))
                        refine hK7 _ _ ⟨(i + 1, i + 1, q, false, out ++ elF [(v.drop fr).take (i - fr)]), by dsimp only; omega, Nat.le_refl _, by dsimp only; rw [List.length_append]; omega, hE2⟩ (by dsimp only; omega) ?_
                        exact Weak.trans (weak_rever 3 0 rfl) wK)
                     | (have hE2 := elI_o hfr hlt hn (u8ne c4) (fun h => by rcases c5 with h5 | h5; exact h5 (by rw [h.1]; rfl); (rw [h5] at h; cases h.2)) hE
                        refine hK7 _ _ ⟨(i + 1, fr, q, false, out), by dsimp only; omega, by dsimp only; omega, hou, hE2⟩ (by dsimp only; omega) ?_
                        exact wK))
            · refine aw_skip ?_
              refine hK10 _ _ ?_
              clear hK10
              refine aw_region_last ?_
              refine aL z_add ?_
              refine aL z_move ?_
              refine awl_nil ?_
              first
                | (have hE2 := elI_t hfr hlt (by rw [c2] at hE; exact hE)
                   refine hK7 _ _ ⟨(i + 1, fr, q, false, out), by dsimp only; omega, by dsimp only; omega, hou, hE2⟩ (by dsimp only; omega) ?_
                   exact wK)
                | (subst c2
                   have hE2 := elI_b hfr hlt ⟨c3.1, u8eq c3.2⟩ hE
                   refine hK7 _ _ ⟨(i + 1, fr, q, true, out), by dsimp only; omega, by dsimp only; omega, hou, hE2⟩ (by dsimp only; omega) ?_
                   exact wK)
                | (subst c2
                   have hn : ¬ (q = true ∧ v[i] = 92) := (fun h => by rcases c3 with h3 | h3; (rw [h3] at h; cases h.1); exact h3 (by rw [h.2]; rfl))
                   first
                     | (have hE2 := elI_q hfr hlt hn (u8eq c4) hE
                        refine hK7 _ _ ⟨(i + 1, fr, !q, false, out), by dsimp only; omega, by dsimp only; omega, hou, hE2⟩ (by dsimp only; omega) ?_
                        exact wK)
                     | (have hE2 := elI_c hlt hn (u8ne c4) ⟨u8eq c5.1, c5.2⟩ hE
                        have hel := elF_le ((v.drop fr).take (i - fr))
                        refine hK7 _ _ ⟨(i + 1, i + 1, q, false, out ++ elF [(v.drop fr).take (i - fr)]), by dsimp only; omega, Nat.le_refl _, by dsimp only; rw [List.length_append]; omega, hE2⟩ (by dsimp only; omega) ?_
                        exact Weak.trans (weak_rever 3 0 rfl) wK)
                     | (have hE2 := elI_o hfr hlt hn (u8ne c4) (fun h => by rcases c5 with h5 | h5; exact h5 (by rw [h.1]; rfl); (rw [h5] at h; cases h.2)) hE
                        refine hK7 _ _ ⟨(i + 1, fr, q, false, out), by dsimp only; omega, by dsimp only; omega, hou, hE2⟩ (by dsimp only; omega) ?_
                        exact wK))
    · refine aw_exit ?_
      refine hK5 _ _ ?_
      clear hK5
      refine aw_seq fun K17 hK17 => ?_
      refine aw_region fun K18 hK18 => ?_
      first
        | refine aL (z_load sz_3) ?_
        | refine aL (z_loadRef sz_3) ?_
        | refine aL (z_loadV sz_3) ?_
      first
        | refine aL (z_load sz_9) ?_
        | refine aL (z_loadRef sz_9) ?_
        | refine aL (z_loadV sz_9) ?_
      refine aL (z_lenS Tryd.underlying9) ?_
      refine aL z_leq ?_
      refine awl_nil (hK18 _ _ ?_)
      clear hK18 K18
      refine aC (fun r6 c6 => ?_) (fun r6 c6 => ?_)
      · refine aw_region_last ?_
        refine aL z_move ?_
        first
          | refine aL (z_load sz_9) ?_
          | refine aL (z_loadRef sz_9) ?_
          | refine aL (z_loadV sz_9) ?_
        refine aL (z_lenS Tryd.underlying9) ?_
        refine aL (z_callC [0, 1, 2, 3] (eC .nil) en_55 (con_putE (v := v) (a := fr) (b := v.length) (out := out) (by omega) (by omega) (Nat.le_refl _) (by omega)) (pA (pA (pA (pA .nil))))) ?_
        refine awl_nil ?_
        refine hK17 _ _ ?_
        clear hK17
        refine aw_region fun K19 hK19 => ?_
        first
          | refine aL (z_load sz_35) ?_
          | refine aL (z_loadRef sz_35) ?_
          | refine aL (z_loadV sz_35) ?_
        refine aL z_assign ?_
        refine awl_nil (hK19 _ _ ?_)
        clear hK19 K19
        obtain rfl : i = v.length := (by omega)
        have hEE := elI_end hE
        rw [hEE]
        refine aw_weak (weak_all (fr' := [(2, .v (.sl (stV (elM v))))]) (ah' := []) (some (3, 1, stV (elM v))) ⟨rfl, _, _, rfl⟩ .nil (.cons rfl (.view rfl (cutW (by simp))) .nil)) ?_
        refine aw_ret ?_
        refine (hret _ _ _ _ _ rfl (.tmp rfl .nil) rfl ?_ .nil rfl).1
        rfl
      · omega
end Go.Proofs.YthflfnehdlpmdaaDoor
