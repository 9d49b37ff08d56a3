/- Layer 10: cookies. No condition. -/
import Derived.Test.YtipmegjhlkhklaaDoorHdH
namespace Go.Proofs.YtipmegjhlkhklaaDoor
set_option linter.all false
open Go Go.RowKit
set_option maxRecDepth 10000
set_option maxHeartbeats 4000000
def ckM (l : List Fd) : List Fd := ckGo (joinM (valuesM l kC)) false l
def ncM (l : List Fd) : List Fd := l.filter fun f => !(decide (f.n = kC))
theorem ckGo_true (J : List UInt8) : ∀ l : List Fd, ckGo J true l = ncM l
  | [] => rfl
  | f :: l => by
    unfold ncM
    by_cases h : f.n = kC
    · simp only [ckGo, if_pos h, if_true]; rw [ckGo_true J l]; simp [ncM, h]
    · simp only [ckGo, if_neg h]; rw [ckGo_true J l]; simp [ncM, h]
theorem ckM_plain {p : List Fd} {f : Fd} (h : ¬ f.n = kC) : ckM (p ++ [f]) = ckM p ++ [f] := by
  unfold ckM
  rw [valuesM_app, valuesM_one, if_neg h, List.append_nil, ckGo_app]
  simp [ckGo, h]
theorem hasC_app (a b : List Fd) : hasC (a ++ b) = (hasC a || hasC b) := by simp [hasC]
theorem hasC_one (f : Fd) : hasC [f] = decide (f.n = kC) := by simp [hasC]
theorem vals_no : ∀ {p : List Fd}, hasC p = false → valuesM p kC = []
  | [], _ => rfl
  | f :: p, h => by
    rw [show f :: p = [f] ++ p from rfl, hasC_app, hasC_one, Bool.or_eq_false_iff] at h
    rw [show f :: p = [f] ++ p from rfl, valuesM_app, valuesM_one, if_neg (by simpa using h.1), vals_no h.2]; rfl
theorem ckM_no {p : List Fd} (h : hasC p = false) : ckM p = p := ckGo_no _ _ _ h
theorem ckM_first {p : List Fd} {f : Fd} (h : f.n = kC) (hp : hasC p = false) : ckM (p ++ [f]) = p ++ [f] := by
  unfold ckM
  rw [valuesM_app, valuesM_one, if_pos h, vals_no hp, List.nil_append, joinM_one, ckGo_app, ckGo_no _ _ _ hp, hp]
  simp [ckGo, h]
  exact Fd.ext' h.symm rfl rfl
theorem ckM_split {a b : List Fd} {g : Fd} (ha : hasC a = false) (hg : g.n = kC) : ckM (a ++ g :: b) = a ++ ⟨g.n, joinM (valuesM (a ++ g :: b) kC), g.s⟩ :: ncM b := by
  unfold ckM
  rw [ckGo_app, ckGo_no _ _ _ ha, ha, Bool.or_false]
  simp only [ckGo, if_pos hg, Bool.false_eq_true, if_false, ckGo_true]
theorem ncM_one {f : Fd} (h : f.n = kC) (b : List Fd) : ncM (b ++ [f]) = ncM b := by simp [ncM, h]
theorem ckM_more {a b : List Fd} {g f : Fd} (ha : hasC a = false) (hg : g.n = kC) (hf : f.n = kC) : ckM ((a ++ g :: b) ++ [f]) = (ckM (a ++ g :: b)).set a.length ⟨g.n, joinC (joinM (valuesM (a ++ g :: b) kC)) f.v, g.s⟩ := by
  rw [show (a ++ g :: b) ++ [f] = a ++ g :: (b ++ [f]) by simp, ckM_split ha hg, ckM_split ha hg, ncM_one hf]
  rw [show a ++ g :: (b ++ [f]) = (a ++ g :: b) ++ [f] by simp, valuesM_app, valuesM_one, if_pos hf, joinM_snoc]
  rw [List.set_append_right _ _ (Nat.le_refl _), Nat.sub_self, List.set_cons_zero]
theorem ckM_at {a b : List Fd} {g : Fd} (ha : hasC a = false) (hg : g.n = kC) : (fdV (ckM (a ++ g :: b)))[a.length]? = some [V.str g.n, V.str (joinM (valuesM (a ++ g :: b) kC)), V.bool g.s] := by
  rw [ckM_split ha hg]; simp [fdV]
theorem ckGo_le (J : List UInt8) : ∀ (l : List Fd) (b : Bool), (ckGo J b l).length ≤ l.length
  | [], _ => Nat.le_refl _
  | f :: l, b => by
    simp only [ckGo]
    split
    · split
      · have := ckGo_le J l true; simp; omega
      · have := ckGo_le J l true; simp; omega
    · have := ckGo_le J l b; simp; omega
theorem ckM_le (l : List Fd) : (ckM l).length ≤ l.length := ckGo_le _ _ _
theorem joinC_le (a c : List UInt8) : (joinC a c).length ≤ a.length + c.length + 2 := by unfold joinC; split <;> simp; omega
theorem joinM_le : ∀ (l : List Fd) (a : List UInt8), ((valuesM l kC).foldl joinC a).length ≤ a.length + szM l
  | [], a => by simp [valuesM]
  | f :: l, a => by
    rw [show f :: l = [f] ++ l from rfl, valuesM_app, szM_app, valuesM_one, show szM [f] = f.n.length + f.v.length + 32 by simp [szM]]
    split
    · rw [List.singleton_append, List.foldl_cons]
      have h1 := joinM_le l (joinC a f.v)
      have h2 := joinC_le a f.v
      omega
    · rw [List.nil_append]
      have h1 := joinM_le l a
      omega
theorem joinM_sz (l : List Fd) : (joinM (valuesM l kC)).length ≤ szM l := by have := joinM_le l []; simpa [joinM] using this
theorem joinC_both {a c : List UInt8} (h : ¬ c = [] ∧ ¬ a = []) : joinC a c = a ++ 59 :: 32 :: c := by unfold joinC; rw [if_pos ⟨h.2, h.1⟩, List.append_assoc]; rfl
theorem joinC_not {a c : List UInt8} (h : c = [] ∨ a = []) : joinC a c = a ++ c := by unfold joinC; rw [if_neg (by rcases h with h | h <;> simp [h])]
theorem con_cookies {l : List Fd} (hs : szM l ≤ 1099511627776) : Con Tryd.prog 30 [.v (.sl (fdV l))] [] 0 (.ret (.view 0 0 0 (ckM l).length)) [(0, .row 0 3 34 (fdV (ckM l)))] := by
  have hll := szM_len l
  refine con_of Tryd.func30 rfl (by show _ ≤ 65; simp) fun X Q hP hnt hnp hret hpan => ?_
  obtain ⟨P0, nt0, w0, K0, S0, np0, pin0⟩ := X
  simp only at hP hnt hnp
  subst hP hnp
  obtain rfl : nt0 = 65 := hnt
  refine aw_region fun K1 hK1 => ?_
  refine aL z_assign ?_
  refine awl_nil (hK1 _ _ ?_)
  clear hK1 K1
  refine aw_region fun K2 hK2 => ?_
  refine aL z_assign ?_
  refine awl_nil (hK2 _ _ ?_)
  clear hK2 K2
  refine aw_region fun K3 hK3 => ?_
  refine aL z_assign ?_
  refine awl_nil (hK3 _ _ ?_)
  clear hK3 K3
  refine aw_seq fun K4 hK4 => ?_
  refine aw_region fun K5 hK5 => ?_
  refine aL z_move ?_
  refine aL (z_len Tryd.underlying22) ?_
  refine aL z_move ?_
  refine awl_nil (hK5 _ _ ?_)
  clear hK5 K5
  refine aw_block ?_
  refine aw_loop (α := {x : Nat × Int // x.1 ≤ l.length ∧ (x.2 = -1 ∧ hasC (l.take x.1) = false ∨ ∃ a g b, l.take x.1 = a ++ g :: b ∧ hasC a = false ∧ g.n = kC ∧ x.2 = (a.length : Int))}) (fun x => ([(7, .v (.sl (fdV l))), (8, .v (.int .i64 (l.length : Int))), (9, .v (.int .i64 (x.1.1 : Int))), (4, .v (.int .i64 x.1.2)), (3, .view 0 0 0 (ckM (l.take x.1.1)).length)], [(0, .row 0 3 34 (fdV (ckM (l.take x.1.1))))])) (fun x => l.length - x.1.1) ⟨(0, -1), by omega, .inl ⟨rfl, rfl⟩⟩ ?_ ?_
  · dsimp only
    exact Weak.trans (weak_nil (t := 3) 0 3 34 (by decide) (Nat.le_of_ble_eq_true rfl) rfl rfl) wK
  · rintro ⟨⟨q, n⟩, hq, hx⟩ K6 hK6
    dsimp only
    dsimp only at hq hx
    refine aw_region fun K7 hK7 => ?_
    refine aL z_lss ?_
    refine awl_nil (hK7 _ _ ?_)
    clear hK7 K7
    refine aw_seq fun K8 hK8 => ?_
    refine aC (fun r1 c1 => ?_) (fun r1 c1 => ?_)
    · refine aw_skip ?_
      refine hK8 _ _ ?_
      clear hK8
      refine aw_seq fun K9 hK9 => ?_
      refine aw_block ?_
      refine aw_region fun K10 hK10 => ?_
      have hlt : q < l.length := by omega
      have hi := fdV_get hlt
      have hsz := szM_at hlt
      have hv2 := Nat.le_trans (ckM_le (l.take q)) (take_le' l q)
      refine aL (z_indexAddr Tryd.underlying22 sz_34) ?_
      refine aL (z_loadRef sz_34) ?_
      refine aL (z_alloc 1 zc_34 zl_34) ?_
      refine aL (z_store sz_34) ?_
      refine awl_nil (hK10 _ _ ?_)
      clear hK10 K10
      refine aw_block ?_
      refine aw_region fun K11 hK11 => ?_
      refine aL (z_fieldAddr fo_34_0) ?_
      refine aL (z_load sz_9) ?_
      refine aL z_neqS ?_
      refine aL z_assign ?_
      refine awl_nil (hK11 _ _ ?_)
      clear hK11 K11
      refine aC (fun r2 c2 => ?_) (fun r2 c2 => ?_)
      · refine aw_region_last ?_
        refine aL z_move ?_
        refine aL (z_load sz_34) ?_
        refine aL (z_lits (pC .nil) Tryd.underlying22 sz_34 zc_34 zl_34 (c := [[_, _, _]])) ?_
        refine aL (z_app Tryd.underlying22 zi_34) ?_
        refine aL z_assign ?_
        refine awl_nil ?_
        refine hK9 _ _ ?_
        clear hK9
        refine aw_region_last ?_
        refine aL z_add ?_
        refine aL z_move ?_
        refine awl_nil ?_
        first
          | (have hc : ¬ l[q].n = kC := (by assumption); refine hK6 _ _ ⟨(q + 1, n), by dsimp only; omega, ?_⟩ (by dsimp only; omega) ?_; (dsimp only; rw [take_succ' hlt]; rcases hx with ⟨h1, h2⟩ | ⟨a, g, b, h1, h2, h3, h4⟩; exact .inl ⟨h1, by rw [hasC_app, h2, hasC_one, decide_eq_false hc]; rfl⟩; exact .inr ⟨a, g, b ++ [l[q]], by rw [h1]; simp, h2, h3, h4⟩); dsimp only; rw [take_succ' hlt, ckM_plain hc]; exact Weak.trans (weak_rever 0 0 rfl) (wK (ha := .row rfl (fdV_snoc rfl) .nil)))
          | (have hc : l[q].n = kC := (by assumption); have hno : hasC (l.take q) = false := (hx.resolve_right (fun ⟨a, g, b, _, _, _, h4⟩ => by omega)).2; refine hK6 _ _ ⟨(q + 1, ((l.take q).length : Int)), by dsimp only; omega, ?_⟩ (by dsimp only; omega) ?_; (dsimp only; rw [take_succ' hlt]; exact .inr ⟨l.take q, l[q], [], rfl, hno, hc, rfl⟩); dsimp only; rw [take_succ' hlt, ckM_first hc hno, ckM_no hno, List.length_append]; exact Weak.trans (weak_rever 0 0 rfl) (wK (ha := .row rfl (fdV_snoc rfl) .nil)))
          | (have hc : l[q].n = kC := hcc; refine hK6 _ _ ⟨(q + 1, (a.length : Int)), by dsimp only; omega, ?_⟩ (by dsimp only; omega) ?_; (dsimp only; rw [take_succ' hlt]; exact .inr ⟨a, g, b ++ [l[q]], by rw [hab]; simp, hna, hgc, rfl⟩); dsimp only; rw [take_succ' hlt, hab, ckM_more hna hgc hc, ← hab, List.length_set]; first | (rw [joinC_both (a := joinM (valuesM (l.take q) kC)) (c := l[q].v) (by assumption)]; exact wK (ha := .row rfl (by rw [← fdV_set]) .nil)) | (rw [joinC_not (a := joinM (valuesM (l.take q) kC)) (c := l[q].v) (by assumption)]; exact wK (ha := .row rfl (by rw [← fdV_set]) .nil)))
      · refine aw_region fun K12 hK12 => ?_
        refine aL z_move ?_
        refine aL z_lss ?_
        refine aL z_assign ?_
        refine awl_nil (hK12 _ _ ?_)
        clear hK12 K12
        refine aC (fun r3 c3 => ?_) (fun r3 c3 => ?_)
        · refine aw_region fun K13 hK13 => ?_
          refine aL z_move ?_
          refine aL (z_lenV Tryd.underlying22) ?_
          refine aL z_assign ?_
          refine awl_nil (hK13 _ _ ?_)
          clear hK13 K13
          refine aw_region_last ?_
          refine aL z_move ?_
          refine aL (z_load sz_34) ?_
          refine aL (z_lits (pC .nil) Tryd.underlying22 sz_34 zc_34 zl_34 (c := [[_, _, _]])) ?_
          refine aL (z_app Tryd.underlying22 zi_34) ?_
          refine aL z_assign ?_
          refine awl_nil ?_
          refine hK9 _ _ ?_
          clear hK9
          refine aw_region_last ?_
          refine aL z_add ?_
          refine aL z_move ?_
          refine awl_nil ?_
          first
            | (have hc : ¬ l[q].n = kC := (by assumption); refine hK6 _ _ ⟨(q + 1, n), by dsimp only; omega, ?_⟩ (by dsimp only; omega) ?_; (dsimp only; rw [take_succ' hlt]; rcases hx with ⟨h1, h2⟩ | ⟨a, g, b, h1, h2, h3, h4⟩; exact .inl ⟨h1, by rw [hasC_app, h2, hasC_one, decide_eq_false hc]; rfl⟩; exact .inr ⟨a, g, b ++ [l[q]], by rw [h1]; simp, h2, h3, h4⟩); dsimp only; rw [take_succ' hlt, ckM_plain hc]; exact Weak.trans (weak_rever 0 0 rfl) (wK (ha := .row rfl (fdV_snoc rfl) .nil)))
            | (have hc : l[q].n = kC := (by assumption); have hno : hasC (l.take q) = false := (hx.resolve_right (fun ⟨a, g, b, _, _, _, h4⟩ => by omega)).2; refine hK6 _ _ ⟨(q + 1, ((l.take q).length : Int)), by dsimp only; omega, ?_⟩ (by dsimp only; omega) ?_; (dsimp only; rw [take_succ' hlt]; exact .inr ⟨l.take q, l[q], [], rfl, hno, hc, rfl⟩); dsimp only; rw [take_succ' hlt, ckM_first hc hno, ckM_no hno, List.length_append]; exact Weak.trans (weak_rever 0 0 rfl) (wK (ha := .row rfl (fdV_snoc rfl) .nil)))
            | (have hc : l[q].n = kC := hcc; refine hK6 _ _ ⟨(q + 1, (a.length : Int)), by dsimp only; omega, ?_⟩ (by dsimp only; omega) ?_; (dsimp only; rw [take_succ' hlt]; exact .inr ⟨a, g, b ++ [l[q]], by rw [hab]; simp, hna, hgc, rfl⟩); dsimp only; rw [take_succ' hlt, hab, ckM_more hna hgc hc, ← hab, List.length_set]; first | (rw [joinC_both (a := joinM (valuesM (l.take q) kC)) (c := l[q].v) (by assumption)]; exact wK (ha := .row rfl (by rw [← fdV_set]) .nil)) | (rw [joinC_not (a := joinM (valuesM (l.take q) kC)) (c := l[q].v) (by assumption)]; exact wK (ha := .row rfl (by rw [← fdV_set]) .nil)))
        · refine aw_region fun K14 hK14 => ?_
          have hcc : l[q].n = kC := (by assumption)
          obtain ⟨a, g, b, hab, hna, hgc, rfl⟩ := hx.resolve_left (fun h => by omega)
          have hi2 := ckM_at (b := b) hna hgc
          rw [← hab] at hi2
          have hjs := joinM_sz (l.take q)
          have hts := szM_take l q
          have hal : a.length < (ckM (l.take q)).length := by rw [hab, ckM_split hna hgc]; simp
          refine aL (z_fieldAddr fo_34_1) ?_
          refine aL (z_load sz_9) ?_
          refine aL z_neqS ?_
          refine aL z_move ?_
          refine gL rfl rfl (ev_tmp rfl) (fun hg => z_move) ?_
          refine gL rfl rfl (ev_tmp rfl) (fun hg => z_move) ?_
          refine gL rfl rfl (ev_tmp rfl) (fun hg => z_indexAddrV Tryd.underlying22 sz_34) ?_
          refine gL rfl rfl (ev_tmp rfl) (fun hg => z_fieldV fo_34_1) ?_
          refine gL rfl rfl (ev_tmp rfl) (fun hg => z_loadV sz_9) ?_
          refine gL rfl rfl (ev_tmp rfl) (fun hg => z_neqS) ?_
          refine aL z_and ?_
          refine aL z_assign ?_
          refine awl_nil (hK14 _ _ ?_)
          clear hK14 K14
          refine aC (fun r4 c4 => ?_) (fun r4 c4 => ?_)
          · refine aw_regionD_last mx_all (by kernel_rfl) ?_
            refine aD z_move ?_
            refine aD z_move ?_
            refine aD (z_indexAddrV Tryd.underlying22 sz_34) ?_
            refine aD (z_fieldV fo_34_1) ?_
            refine aD (z_loadV sz_9) ?_
            refine aD (z_fieldAddr fo_34_1) ?_
            refine aD (z_load sz_9) ?_
            refine aD z_addS ?_
            refine aD z_addS ?_
            refine aD (z_indexAddrV Tryd.underlying22 sz_34) ?_
            refine aD (z_fieldV fo_34_1) ?_
            refine aD (z_storeV sz_9) ?_
            refine awd_nil (by kernel_rfl) ?_
            refine hK9 _ _ ?_
            clear hK9
            refine aw_region_last ?_
            refine aL z_add ?_
            refine aL z_move ?_
            refine awl_nil ?_
            first
              | (have hc : ¬ l[q].n = kC := (by assumption); refine hK6 _ _ ⟨(q + 1, n), by dsimp only; omega, ?_⟩ (by dsimp only; omega) ?_; (dsimp only; rw [take_succ' hlt]; rcases hx with ⟨h1, h2⟩ | ⟨a, g, b, h1, h2, h3, h4⟩; exact .inl ⟨h1, by rw [hasC_app, h2, hasC_one, decide_eq_false hc]; rfl⟩; exact .inr ⟨a, g, b ++ [l[q]], by rw [h1]; simp, h2, h3, h4⟩); dsimp only; rw [take_succ' hlt, ckM_plain hc]; exact Weak.trans (weak_rever 0 0 rfl) (wK (ha := .row rfl (fdV_snoc rfl) .nil)))
              | (have hc : l[q].n = kC := (by assumption); have hno : hasC (l.take q) = false := (hx.resolve_right (fun ⟨a, g, b, _, _, _, h4⟩ => by omega)).2; refine hK6 _ _ ⟨(q + 1, ((l.take q).length : Int)), by dsimp only; omega, ?_⟩ (by dsimp only; omega) ?_; (dsimp only; rw [take_succ' hlt]; exact .inr ⟨l.take q, l[q], [], rfl, hno, hc, rfl⟩); dsimp only; rw [take_succ' hlt, ckM_first hc hno, ckM_no hno, List.length_append]; exact Weak.trans (weak_rever 0 0 rfl) (wK (ha := .row rfl (fdV_snoc rfl) .nil)))
              | (have hc : l[q].n = kC := hcc; refine hK6 _ _ ⟨(q + 1, (a.length : Int)), by dsimp only; omega, ?_⟩ (by dsimp only; omega) ?_; (dsimp only; rw [take_succ' hlt]; exact .inr ⟨a, g, b ++ [l[q]], by rw [hab]; simp, hna, hgc, rfl⟩); dsimp only; rw [take_succ' hlt, hab, ckM_more hna hgc hc, ← hab, List.length_set]; first | (rw [joinC_both (a := joinM (valuesM (l.take q) kC)) (c := l[q].v) (by assumption)]; exact wK (ha := .row rfl (by rw [← fdV_set]) .nil)) | (rw [joinC_not (a := joinM (valuesM (l.take q) kC)) (c := l[q].v) (by assumption)]; exact wK (ha := .row rfl (by rw [← fdV_set]) .nil)))
          · refine aw_regionD_last mx_all (by kernel_rfl) ?_
            refine aD z_move ?_
            refine aD z_move ?_
            refine aD (z_indexAddrV Tryd.underlying22 sz_34) ?_
            refine aD (z_fieldV fo_34_1) ?_
            refine aD (z_loadV sz_9) ?_
            refine aD (z_fieldAddr fo_34_1) ?_
            refine aD (z_load sz_9) ?_
            refine aD z_addS ?_
            refine aD (z_indexAddrV Tryd.underlying22 sz_34) ?_
            refine aD (z_fieldV fo_34_1) ?_
            refine aD (z_storeV sz_9) ?_
            refine awd_nil (by kernel_rfl) ?_
            refine hK9 _ _ ?_
            clear hK9
            refine aw_region_last ?_
            refine aL z_add ?_
            refine aL z_move ?_
            refine awl_nil ?_
            first
              | (have hc : ¬ l[q].n = kC := (by assumption); refine hK6 _ _ ⟨(q + 1, n), by dsimp only; omega, ?_⟩ (by dsimp only; omega) ?_; (dsimp only; rw [take_succ' hlt]; rcases hx with ⟨h1, h2⟩ | ⟨a, g, b, h1, h2, h3, h4⟩; exact .inl ⟨h1, by rw [hasC_app, h2, hasC_one, decide_eq_false hc]; rfl⟩; exact .inr ⟨a, g, b ++ [l[q]], by rw [h1]; simp, h2, h3, h4⟩); dsimp only; rw [take_succ' hlt, ckM_plain hc]; exact Weak.trans (weak_rever 0 0 rfl) (wK (ha := .row rfl (fdV_snoc rfl) .nil)))
              | (have hc : l[q].n = kC := (by assumption); have hno : hasC (l.take q) = false := (hx.resolve_right (fun ⟨a, g, b, _, _, _, h4⟩ => by omega)).2; refine hK6 _ _ ⟨(q + 1, ((l.take q).length : Int)), by dsimp only; omega, ?_⟩ (by dsimp only; omega) ?_; (dsimp only; rw [take_succ' hlt]; exact .inr ⟨l.take q, l[q], [], rfl, hno, hc, rfl⟩); dsimp only; rw [take_succ' hlt, ckM_first hc hno, ckM_no hno, List.length_append]; exact Weak.trans (weak_rever 0 0 rfl) (wK (ha := .row rfl (fdV_snoc rfl) .nil)))
              | (have hc : l[q].n = kC := hcc; refine hK6 _ _ ⟨(q + 1, (a.length : Int)), by dsimp only; omega, ?_⟩ (by dsimp only; omega) ?_; (dsimp only; rw [take_succ' hlt]; exact .inr ⟨a, g, b ++ [l[q]], by rw [hab]; simp, hna, hgc, rfl⟩); dsimp only; rw [take_succ' hlt, hab, ckM_more hna hgc hc, ← hab, List.length_set]; first | (rw [joinC_both (a := joinM (valuesM (l.take q) kC)) (c := l[q].v) (by assumption)]; exact wK (ha := .row rfl (by rw [← fdV_set]) .nil)) | (rw [joinC_not (a := joinM (valuesM (l.take q) kC)) (c := l[q].v) (by assumption)]; exact wK (ha := .row rfl (by rw [← fdV_set]) .nil)))
    · refine aw_exit ?_
      refine hK4 _ _ ?_
      clear hK4
      refine aw_region fun K15 hK15 => ?_
      refine aL z_move ?_
      refine aL z_assign ?_
      refine awl_nil (hK15 _ _ ?_)
      clear hK15 K15
      have hx : q = l.length := (by omega)
      subst hx
      rw [List.take_length]
      refine aw_ret ?_
      refine (hret _ _ _ _ _ rfl (.tmp rfl .nil) rfl ?_ (.row rfl .nil) rfl).1
      rfl
end Go.Proofs.YtipmegjhlkhklaaDoor
