/- Layer 10: the document's ReadAnswer. No condition. -/
import Derived.Test.YtipmegjhlkhklaaDoorHdU
namespace Go.Proofs.YtipmegjhlkhklaaDoor
set_option linter.all false
open Go Go.RowKit
set_option maxRecDepth 10000
set_option maxHeartbeats 4000000
theorem ask_plain {names : List (List UInt8)} : ∀ (l p : List Fd), askM names p l = 0 → (∃ g ∈ p, pseudoM g.n = false) → ∀ f ∈ l, pseudoM f.n = false
  | [], _, _, _ => by simp
  | f :: l, p, h, ⟨g, hg, hgp⟩ => by
    rw [askM] at h
    split at h
    · rename_i ho
      have hf : pseudoM f.n = false := by
        cases hp : pseudoM f.n with
        | false => rfl
        | true =>
          rw [okF_pseudo hp] at ho
          split at ho
          · rename_i hh
            have h0 := List.length_eq_zero_iff.1 hh.1
            have : g ∈ restM p := by unfold restM; rw [List.mem_filter]; exact ⟨hg, by simp [hgp]⟩
            rw [h0] at this; cases this
          · cases ho
      intro x hx
      rcases List.mem_cons.1 hx with rfl | hx
      · exact hf
      · exact ask_plain l (p ++ [f]) h ⟨g, by simp [hg], hgp⟩ x hx
    · rename_i ho; exact absurd h ho
theorem ask_after {k : List UInt8} : ∀ (l p : List Fd), askM [k] p l = 0 → (∃ g ∈ p, g.n = k) → ∀ f ∈ l, pseudoM f.n = false
  | [], _, _, _ => by simp
  | f :: l, p, h, ⟨g, hg, hgk⟩ => by
    rw [askM] at h
    split at h
    · rename_i ho
      have hf : pseudoM f.n = false := by
        cases hp : pseudoM f.n with
        | false => rfl
        | true =>
          unfold okF at ho
          rw [if_pos hp] at ho
          split at ho
          · rename_i hh
            have hn : f.n = k := by simpa using hh.1
            have h2 := List.all_eq_true.1 hh.2 g hg
            rw [Bool.and_eq_true] at h2
            have := h2.2
            simp [hgk, hn] at this
          · cases ho
      intro x hx
      rcases List.mem_cons.1 hx with rfl | hx
      · exact hf
      · exact ask_after l (p ++ [f]) h ⟨g, by simp [hg], hgk⟩ x hx
    · rename_i ho; exact absurd h ho
theorem rest_all {l : List Fd} (h : ∀ f ∈ l, pseudoM f.n = false) : restM l = l := by
  unfold restM; rw [List.filter_eq_self]; intro f hf; rw [h f hf]; rfl
theorem drop_rest {l : List Fd} (h : askM [kS] [] l = 0) (hv : ¬ valuesM l kS = []) : l.drop 1 = restM l := by
  cases l with
  | nil => exact absurd rfl hv
  | cons f r =>
    rw [askM] at h
    split at h
    · rename_i ho
      cases hp : pseudoM f.n with
      | false =>
        have h1 := ask_plain r [f] h ⟨f, List.mem_cons_self, hp⟩
        exfalso; apply hv
        unfold valuesM
        rw [List.map_eq_nil_iff, List.filter_eq_nil_iff]
        intro g hg
        have hgp : pseudoM g.n = false := by
          rcases List.mem_cons.1 hg with rfl | hg
          · exact hp
          · exact h1 g hg
        intro hk
        have : g.n = kS := by simpa using hk
        rw [this] at hgp; cases hgp
      | true =>
        have hn : f.n = kS := by
          unfold okF at ho
          rw [if_pos hp] at ho
          split at ho
          · rename_i hh; simpa using hh.1
          · cases ho
        have h1 := ask_after r [f] h ⟨f, List.mem_cons_self, hn⟩
        show r = restM (f :: r)
        have e : restM (f :: r) = restM r := by unfold restM; rw [List.filter_cons_of_neg (by simp [hp])]
        rw [e, rest_all h1]
    · rename_i ho; exact absurd h ho
theorem digit0 (a : UInt8) (h : digitM a.toNat < 10) : digitM a.toNat = 0 ↔ a = 48 := by
  rw [← UInt8.toNat_inj]
  show digitM a.toNat = 0 ↔ a.toNat = 48
  unfold digitM at *
  split at h <;> (try split at h) <;> (try split at h) <;> simp_all <;> omega
theorem num3 {a b c : UInt8} (h : numE 10 [a, b, c] = 0) : numV 10 [a, b, c] < 100 ↔ a = 48 := by
  have hbad : badM 10 [a, b, c] = false := by
    cases hb : badM 10 [a, b, c] with
    | false => rfl
    | true => rw [(num_bad 10 _ hb).2] at h; cases h
  have hv : valM 10 [a, b, c] ≤ 1099511627776 := by
    rcases Int.lt_or_le 1099511627776 (valM 10 [a, b, c]) with hv | hv
    · rw [(num_big 10 [a, b, c] rfl hbad hv).2] at h; cases h
    · exact hv
  rw [(num_ok 10 [a, b, c] rfl hbad hv).1]
  simp only [badM, List.any_cons, List.any_nil, Bool.or_false, Bool.or_eq_false_iff, decide_eq_false_iff_not, Int.not_le] at hbad
  have ha := digitM_bd a.toNat
  have hb := digitM_bd b.toNat
  have hc := digitM_bd c.toNat
  rw [← digit0 a hbad.1]
  show ((0 * 10 + digitM a.toNat) * 10 + digitM b.toNat) * 10 + digitM c.toNat < 100 ↔ _
  omega
theorem get_cons {l : List Fd} {k : List UInt8} (h : 0 < (valuesM l k).length) : (valuesM l k)[0] = getM l k := by
  exact (head_at h).symm
theorem get_nil {l : List Fd} {k : List UInt8} (h : ¬ 0 < (valuesM l k).length) : getM l k = [] := by
  unfold getM; cases hv : valuesM l k with
  | nil => rfl
  | cons a r => rw [hv] at h; simp at h
theorem list3 {s : List UInt8} (h : s.length = 3) : ∃ a b c, s = [a, b, c] := by
  match s, h with
  | [a, b, c], _ => exact ⟨a, b, c, rfl⟩
theorem stat_no {l : List Fd} (h : (valuesM l kS).length = 0 ∨ ¬ (getM l kS).length = 3) : statM l = false := by
  unfold statM; rw [decide_eq_false_iff_not]
  rintro ⟨h1, h2, h3⟩
  rcases h with h | h
  · rw [get_nil (by omega)] at h2; simp at h2
  · exact h h2
theorem stat_48 {l : List Fd} {a : UInt8} (h3 : (getM l kS).length = 3) (ha : (getM l kS)[0]? = some a) : (a = 48 ∨ ¬ numE 10 (getM l kS) = 0) → statM l = false := by
  intro h
  unfold statM; rw [decide_eq_false_iff_not]
  rintro ⟨h1, -, h4⟩
  obtain ⟨x, y, z, he⟩ := list3 h3
  rw [he] at ha h1 h4
  rcases h with h | h
  · have := (num3 h1).2 (by simp at ha; rw [ha, h]); omega
  · rw [he] at h; exact h h1
theorem stat_yes {l : List Fd} {a : UInt8} (h3 : (getM l kS).length = 3) (ha : (getM l kS)[0]? = some a) (h48 : ¬ a = 48) (h0 : numE 10 (getM l kS) = 0) : statM l = true := by
  unfold statM; rw [decide_eq_true_iff]
  refine ⟨h0, h3, ?_⟩
  obtain ⟨x, y, z, he⟩ := list3 h3
  rw [he] at ha h0 ⊢
  rcases Int.lt_or_le (numV 10 [x, y, z]) 100 with h | h
  · have := (num3 h0).1 h; simp at ha; rw [← ha] at h48; exact absurd this h48
  · exact h
theorem con_rReadAnswer {l : List Fd} (hs : szM l ≤ 1099511627776) : Con Tryd.prog 23 [.v (.sl (fdV l))] [] 0 (.ret (.tup [.v (.int .i64 (raN l)), .v (.sl (fdV (raL l))), .v (.int .i64 (raE l))])) [] := by
  have hll := szM_len l
  have hfl := fdV_len l
  have hg := getM_sz l kS
  have hvl := stV_len (valuesM l kS)
  have hi0 : ¬ valuesM l kS = [] → (stV (valuesM l kS))[0]? = some [V.str (getM l kS)] := fun h => by
    have hp : 0 < (valuesM l kS).length := by cases hv : valuesM l kS with | nil => exact absurd hv h | cons a r => simp
    rw [stV_get hp, get_cons hp]
  have hs0 : (getM l kS).length = 3 → (getM l kS)[0]? = some ((getM l kS).getD 0 0) := fun h => by
    rw [List.getD_eq_getElem?_getD, List.getElem?_eq_getElem (by omega)]; rfl
  have hv3 : (getM l kS).length = 3 → ¬ valuesM l kS = [] := fun h hh => by unfold getM at h; rw [hh] at h; simp at h
  have hv30 : (getM l kS).length = 3 → 0 < (valuesM l kS).length := fun h => List.length_pos_iff.2 (hv3 h)
  have h48 : (((getM l kS).getD 0 0).toNat : Int) = 48 ↔ (getM l kS).getD 0 0 = 48 := u8_n ((getM l kS).getD 0 0) 48 (by decide)
  refine con_of Tryd.func23 rfl (by show _ ≤ 56; simp) fun X Q hP hnt hnp hret hpan => ?_
  obtain ⟨P0, nt0, w0, K0, S0, np0, pin0⟩ := X
  simp only at hP hnt hnp
  subst hP hnp
  obtain rfl : nt0 = 56 := hnt
  refine aw_region fun K1 hK1 => ?_
  refine aL z_assign ?_
  refine aL z_assign ?_
  refine aL z_assign ?_
  refine awl_nil (hK1 _ _ ?_)
  clear hK1 K1
  refine aw_region fun K2 hK2 => ?_
  refine aL z_move ?_
  refine aL (z_lits (pC .nil) Tryd.underlying38 sz_9 zc_9 zl_9 (c := [[.str kS]])) ?_
  refine aL (z_call0 (eC (eC .nil)) en_31 (con_rAsk (names := [kS]) (by decide) hs)) ?_
  refine aL z_assign ?_
  refine awl_nil (hK2 _ _ ?_)
  clear hK2 K2
  refine aw_seq fun K3 hK3 => ?_
  refine aw_region fun K4 hK4 => ?_
  refine aL z_move ?_
  refine aL z_neq ?_
  refine awl_nil (hK4 _ _ ?_)
  clear hK4 K4
  refine aC (fun r1 c1 => ?_) (fun r1 c1 => ?_)
  · refine aw_region fun K5 hK5 => ?_
    refine aL z_move ?_
    refine aL z_assign ?_
    refine aL z_assign ?_
    refine aL z_assign ?_
    refine awl_nil (hK5 _ _ ?_)
    clear hK5 K5
    (have hx : ¬ askM [kS] [] l = 0 := (by assumption); have he := raE_ask hx; obtain ⟨hn, hl⟩ := ra_bad (l := l) (by rw [he]; exact hx); refine aw_weak (weak_all (fr' := [(2, .v (.int .i64 (raN l))), (3, .v (.sl (fdV (raL l)))), (4, .v (.int .i64 (raE l)))]) (ah' := []) none trivial .nil (.cons rfl (.eq (d_int hn.symm) (.keep rfl)) (.cons rfl (.eq' .nil (by rw [hl]; rfl)) (.cons rfl (.eq (d_int he.symm) (.keep rfl)) .nil)))) ?_)
    refine aw_ret ?_
    refine (hret _ _ _ _ _ rfl (.tmp rfl (.tmp rfl (.tmp rfl .nil))) rfl ?_ .nil rfl).1
    rfl
  · refine aw_skip ?_
    refine hK3 _ _ ?_
    clear hK3
    refine aw_region fun K6 hK6 => ?_
    refine aL z_move ?_
    refine aL (z_call0 (eC (eC .nil)) en_17 (con_Values (k := kS) hs)) ?_
    refine aL z_assign ?_
    refine awl_nil (hK6 _ _ ?_)
    clear hK6 K6
    refine aw_seq fun K7 hK7 => ?_
    refine aw_region fun K8 hK8 => ?_
    refine aL z_move ?_
    refine aL (z_len Tryd.underlying38) ?_
    refine aL z_eql ?_
    refine aL z_move ?_
    refine gL rfl rfl (ev_tmp rfl) (fun hg => z_move) ?_
    refine gL rfl rfl (ev_tmp rfl) (fun hg => z_indexAddr Tryd.underlying38 sz_9 (hb := hi0 (by simpa using hg))) ?_
    refine gL rfl rfl (ev_tmp rfl) (fun hg => z_loadRef sz_9) ?_
    refine gL rfl rfl (ev_tmp rfl) (fun hg => z_lenS Tryd.underlying9) ?_
    refine gL rfl rfl (ev_tmp rfl) (fun hg => z_neq) ?_
    refine aL z_or ?_
    refine aL z_move ?_
    refine gL rfl rfl (ev_tmp rfl) (fun hg => z_move) ?_
    refine gL rfl rfl (ev_tmp rfl) (fun hg => z_indexAddr Tryd.underlying38 sz_9 (hb := hi0 (by simp at hg; exact hg.1))) ?_
    refine gL rfl rfl (ev_tmp rfl) (fun hg => z_loadRef sz_9) ?_
    refine gL rfl rfl (ev_tmp rfl) (fun hg => z_indexS Tryd.underlying9 (hb := hs0 (by simp at hg; omega))) ?_
    refine gL rfl rfl (ev_tmp rfl) (fun hg => z_eql) ?_
    refine aL z_or ?_
    refine awl_nil (hK8 _ _ ?_)
    clear hK8 K8
    refine aC (fun r2 c2 => ?_) (fun r2 c2 => ?_)
    · refine aw_region fun K9 hK9 => ?_
      refine aL z_assign ?_
      refine aL z_assign ?_
      refine aL z_assign ?_
      refine awl_nil (hK9 _ _ ?_)
      clear hK9 K9
      (have hz : askM [kS] [] l = 0 := (by assumption); have hst : statM l = false := (by by_cases h3 : (getM l kS).length = 3; (have := hv30 h3; exact stat_48 h3 (hs0 h3) (.inl (h48.1 (by omega)))); exact stat_no (.inr h3)); have he := raE_stat hz hst; obtain ⟨hn, hl⟩ := ra_bad (l := l) (by rw [he]; decide); refine aw_weak (weak_all (fr' := [(2, .v (.int .i64 (raN l))), (3, .v (.sl (fdV (raL l)))), (4, .v (.int .i64 (raE l)))]) (ah' := []) none trivial .nil (.cons rfl (.eq (d_int hn.symm) (.keep rfl)) (.cons rfl (.eq' .nil (by rw [hl]; rfl)) (.cons rfl (.eq (d_int he.symm) (.keep rfl)) .nil)))) ?_)
      refine aw_ret ?_
      refine (hret _ _ _ _ _ rfl (.tmp rfl (.tmp rfl (.tmp rfl .nil))) rfl ?_ .nil rfl).1
      rfl
    · refine aw_skip ?_
      refine hK7 _ _ ?_
      clear hK7
      refine aw_region fun K10 hK10 => ?_
      have h3 : (getM l kS).length = 3 := by omega
      have hvn := hv3 h3
      have hz : askM [kS] [] l = 0 := by omega
      have ha := hs0 h3
      have h49 : ¬ (getM l kS).getD 0 0 = 48 := fun h => by have := h48.2 h; omega
      refine aL z_move ?_
      refine aL (z_indexAddr Tryd.underlying38 sz_9 (hb := hi0 hvn)) ?_
      refine aL (z_loadRef sz_9) ?_
      refine aL (z_call0 (eC .nil) en_37 (con_rDecimal (l := getM l kS) (by unfold maxLen; omega))) ?_
      refine aL z_move ?_
      refine aL z_extract ?_
      refine aL z_extract ?_
      refine aL z_assign ?_
      refine aL z_assign ?_
      refine awl_nil (hK10 _ _ ?_)
      clear hK10 K10
      refine aw_seq fun K11 hK11 => ?_
      refine aw_region fun K12 hK12 => ?_
      refine aL z_move ?_
      refine aL z_neq ?_
      refine awl_nil (hK12 _ _ ?_)
      clear hK12 K12
      refine aC (fun r3 c3 => ?_) (fun r3 c3 => ?_)
      · refine aw_region fun K13 hK13 => ?_
        refine aL z_assign ?_
        refine aL z_assign ?_
        refine aL z_assign ?_
        refine awl_nil (hK13 _ _ ?_)
        clear hK13 K13
        (have hst : statM l = false := stat_48 h3 ha (.inr (by assumption)); have he := raE_stat hz hst; obtain ⟨hn, hl⟩ := ra_bad (l := l) (by rw [he]; decide); refine aw_weak (weak_all (fr' := [(2, .v (.int .i64 (raN l))), (3, .v (.sl (fdV (raL l)))), (4, .v (.int .i64 (raE l)))]) (ah' := []) none trivial .nil (.cons rfl (.eq (d_int hn.symm) (.keep rfl)) (.cons rfl (.eq' .nil (by rw [hl]; rfl)) (.cons rfl (.eq (d_int he.symm) (.keep rfl)) .nil)))) ?_)
        refine aw_ret ?_
        refine (hret _ _ _ _ _ rfl (.tmp rfl (.tmp rfl (.tmp rfl .nil))) rfl ?_ .nil rfl).1
        rfl
      · refine aw_skip ?_
        refine hK11 _ _ ?_
        clear hK11
        refine aw_region fun K14 hK14 => ?_
        refine aL z_move ?_
        refine aL (z_call0 (eC .nil) en_14 (con_rLength hs)) ?_
        refine aL z_move ?_
        refine aL z_extract ?_
        refine aL z_extract ?_
        refine aL z_extract ?_
        refine aL z_assign ?_
        refine awl_nil (hK14 _ _ ?_)
        clear hK14 K14
        refine aw_seq fun K15 hK15 => ?_
        refine aw_region fun K16 hK16 => ?_
        refine aL z_move ?_
        refine aL z_neq ?_
        refine awl_nil (hK16 _ _ ?_)
        clear hK16 K16
        refine aC (fun r4 c4 => ?_) (fun r4 c4 => ?_)
        · refine aw_region fun K17 hK17 => ?_
          refine aL z_move ?_
          refine aL z_assign ?_
          refine aL z_assign ?_
          refine aL z_assign ?_
          refine awl_nil (hK17 _ _ ?_)
          clear hK17 K17
          (have hst : statM l = true := stat_yes h3 ha h49 (by assumption); have he := raE_len hz hst; have hx : ¬ (lenM l).2.2 = 0 := (by assumption); obtain ⟨hn, hl⟩ := ra_bad (l := l) (by rw [he]; exact hx); refine aw_weak (weak_all (fr' := [(2, .v (.int .i64 (raN l))), (3, .v (.sl (fdV (raL l)))), (4, .v (.int .i64 (raE l)))]) (ah' := []) none trivial .nil (.cons rfl (.eq (d_int hn.symm) (.keep rfl)) (.cons rfl (.eq' .nil (by rw [hl]; rfl)) (.cons rfl (.eq (d_int he.symm) (.keep rfl)) .nil)))) ?_)
          refine aw_ret ?_
          refine (hret _ _ _ _ _ rfl (.tmp rfl (.tmp rfl (.tmp rfl .nil))) rfl ?_ .nil rfl).1
          rfl
        · refine aw_skip ?_
          refine hK15 _ _ ?_
          clear hK15
          refine aw_region fun K18 hK18 => ?_
          have hl1 : (some 1).getD 0 ≤ (none : Option Nat).getD (fdV l).length := by
            show 1 ≤ (fdV l).length
            have := valuesM_len l kS
            have : 0 < (valuesM l kS).length := List.length_pos_iff.2 hvn
            omega
          refine aL z_move ?_
          refine aL (z_row 0 .nil Tryd.underlying22 sz_34 zc_34 zl_34 (c := [])) ?_
          refine aL z_move ?_
          refine aL (z_slice Tryd.underlying22 sz_34 (c' := fdV (l.drop 1)) (hsz := fdV_one _) (h1 := hl1) (hc := by rw [← fdV_drop]; unfold cut; exact List.take_of_length_le (by simp))) ?_
          refine aL (z_app Tryd.underlying22 zi_34 (hs := by first | exact bs_one _ | exact fdV_one _ | (simp; done))) ?_
          refine aL z_assign ?_
          refine aL z_assign ?_
          refine aL z_assign ?_
          refine awl_nil (hK18 _ _ ?_)
          clear hK18 K18
          (have hst : statM l = true := stat_yes h3 ha h49 (by assumption); have hx : (lenM l).2.2 = 0 := (by assumption); have he := (raE_len hz hst).trans hx; obtain ⟨hn, hl⟩ := ra_ok he; refine aw_weak (weak_all (fr' := [(2, .v (.int .i64 (raN l))), (3, .v (.sl (fdV (raL l)))), (4, .v (.int .i64 (raE l)))]) (ah' := []) (some (0, 1, fdV (l.drop 1))) ⟨rfl, _, _, rfl⟩ .nil (.cons rfl (.eq (d_int hn.symm) (.keep rfl)) (.cons rfl (.view rfl (by rw [cutF (by simp), hl, drop_rest hz hvn])) (.cons rfl (.eq (d_int he.symm) (.keep rfl)) .nil)))) ?_)
          refine aw_ret ?_
          refine (hret _ _ _ _ _ rfl (.tmp rfl (.tmp rfl (.tmp rfl .nil))) rfl ?_ .nil rfl).1
          rfl
end Go.Proofs.YtipmegjhlkhklaaDoor
