/- Layer 10: plain laws of what is read again. No program, no condition. -/
import Derived.Test.YtnjbfiejgiaibaaGreatDoorHdOToHdZ
namespace Go.Proofs.YtnjbfiejgiaibaaGreatDoor
set_option linter.all false
open Go Go.RowKit
theorem ck_mem (J : List UInt8) : ∀ (x : List Fd) (b : Bool) (f : Fd), f ∈ ckGo J b x → (f ∈ x ∧ ¬ f.n = kC) ∨ ∃ g ∈ x, g.n = kC ∧ f = ⟨g.n, J, g.s⟩
  | [], _, f, h => by cases h
  | g :: x, b, f, h => by
    have up : ∀ {b : Bool}, f ∈ ckGo J b x → (f ∈ g :: x ∧ ¬ f.n = kC) ∨ ∃ g' ∈ g :: x, g'.n = kC ∧ f = ⟨g'.n, J, g'.s⟩ := fun h => by
      rcases ck_mem J x _ f h with ⟨h1, h2⟩ | ⟨g', h1, h2, h3⟩
      · exact .inl ⟨List.mem_cons_of_mem _ h1, h2⟩
      · exact .inr ⟨g', List.mem_cons_of_mem _ h1, h2, h3⟩
    simp only [ckGo] at h
    split at h
    · rename_i hc
      split at h
      · exact up h
      · rcases List.mem_cons.1 h with rfl | h
        · exact .inr ⟨g, List.mem_cons_self, hc, rfl⟩
        · exact up h
    · rename_i hc
      rcases List.mem_cons.1 h with rfl | h
      · exact .inl ⟨List.mem_cons_self, hc⟩
      · exact up h
theorem valuesM_ck {k : List UInt8} (hk : ¬ kC = k) (J : List UInt8) : ∀ (x : List Fd) (b : Bool), valuesM (ckGo J b x) k = valuesM x k
  | [], _ => rfl
  | g :: x, b => by
    have hone : g.n = kC → valuesM [g] k = [] := fun h => by rw [valuesM_one, if_neg (by rw [h]; exact hk)]
    simp only [ckGo]
    split
    · rename_i hc
      split
      · rw [valuesM_ck hk J x true, show g :: x = [g] ++ x from rfl, valuesM_app, hone hc]; rfl
      · rw [show (⟨g.n, J, g.s⟩ : Fd) :: ckGo J true x = [⟨g.n, J, g.s⟩] ++ ckGo J true x from rfl, valuesM_app, valuesM_ck hk J x true, valuesM_one, if_neg (by rw [hc]; exact hk), show g :: x = [g] ++ x from rfl, valuesM_app, hone hc]
    · rw [show g :: ckGo J b x = [g] ++ ckGo J b x from rfl, valuesM_app, valuesM_ck hk J x b, show g :: x = [g] ++ x from rfl, valuesM_app]
theorem join_value {a c : List UInt8} (ha : valueM a = true) (hc : valueM c = true) : valueM (joinC a c) = true := by
  unfold joinC
  split
  · rename_i hh
    rw [value_iff] at *
    obtain ⟨⟨a1, a2⟩, a3⟩ := ha
    obtain ⟨⟨c1, c2⟩, c3⟩ := hc
    refine ⟨⟨fun x hx => ?_, fun x hx => ?_⟩, fun x hx => ?_⟩
    · refine a1 x ?_
      cases a with
      | nil => exact absurd rfl hh.1
      | cons y a => simpa using hx
    · refine c2 x ?_
      rw [List.getLast?_append] at hx
      cases hcl : c.getLast? with
      | none => exact absurd (List.getLast?_eq_none_iff.1 hcl) hh.2
      | some y => rw [hcl] at hx; exact hx
    · rcases List.mem_append.1 hx with hx | hx
      · rcases List.mem_append.1 hx with hx | hx
        · exact a3 x hx
        · rcases List.mem_cons.1 hx with rfl | hx
          · decide
          · rw [List.mem_singleton.1 hx]; decide
      · exact c3 x hx
  · rename_i hh
    by_cases h1 : a = []
    · subst h1; exact hc
    · have h2 : c = [] := Classical.byContradiction fun h2 => hh ⟨h1, h2⟩
      subst h2; rw [List.append_nil]; exact ha
theorem joins_value : ∀ (v : List (List UInt8)) (a : List UInt8), valueM a = true → (∀ s ∈ v, valueM s = true) → valueM (v.foldl joinC a) = true
  | [], a, h, _ => h
  | s :: v, a, h, hv => joins_value v (joinC a s) (join_value h (hv s List.mem_cons_self)) fun x hx => hv x (List.mem_cons_of_mem _ hx)
theorem plain_value {f : Fd} (h : plainM f = true) : valueM f.v = true := by
  unfold plainM at h; simp only [Bool.and_eq_true] at h; exact h.1.1.2
theorem cookie_plain {v : List UInt8} {b : Bool} (h : valueM v = true) : plainM ⟨kC, v, b⟩ = true := by
  have e1 : tokenM kC = true := by decide
  have e2 : (lowM kC == kC) = true := by decide
  have e3 : ofConnM kC = false := by decide
  have e4 : (kC == [116, 101]) = false := by decide
  show (tokenM kC && (lowM kC == kC) && valueM v && !ofConnM kC && (!(kC == [116, 101]) || v == [116, 114, 97, 105, 108, 101, 114, 115])) = true
  rw [e1, e2, h, e3, e4]; rfl
theorem keep_has {f : Fd} (h : keepM f = true) : pseudoM f.n = false ∧ ¬ f.n = kH := by
  unfold keepM at h
  change (!pseudoM f.n && !(decide (f.n = kH))) = true at h
  simp only [Bool.and_eq_true, Bool.not_eq_true', decide_eq_false_iff_not] at h
  exact h
theorem out_has {l : List Fd} (h : readE l = 0) : ∀ f ∈ outM l, (pseudoM f.n = false ∧ plainM f = true) ∧ ¬ f.n = kH := by
  obtain ⟨h0, -, -, -⟩ := read_has h
  have hfine := ask_fine l [] h0
  intro f hf
  rcases ck_mem _ _ _ f hf with ⟨h1, h2⟩ | ⟨g, h1, h2, rfl⟩
  · rw [List.mem_filter] at h1
    obtain ⟨k1, k2⟩ := keep_has h1.2
    exact ⟨⟨k1, hfine f h1.1 k1⟩, k2⟩
  · refine ⟨⟨by rw [h2]; decide, ?_⟩, by rw [h2]; decide⟩
    rw [h2]
    refine cookie_plain (joins_value _ _ (by decide) fun s hs => ?_)
    obtain ⟨x, hx, hxn, rfl⟩ := valuesM_mem hs
    exact plain_value (hfine x hx (by rw [hxn]; decide))
theorem ck_again (J : List UInt8) (x : List Fd) : ckGo (joinM (valuesM (ckGo J false x) kC)) false (ckGo J false x) = ckGo J false x := by
  cases hc : hasC x with
  | false => rw [ckGo_no _ _ _ hc, ckGo_no _ _ _ hc]
  | true =>
    obtain ⟨a, g, b, rfl, ha, hg⟩ : ∃ a g b, x = a ++ g :: b ∧ hasC a = false ∧ g.n = kC := by
      clear J
      induction x with
      | nil => cases hc
      | cons y x ih =>
        by_cases hy : y.n = kC
        · exact ⟨[], y, x, rfl, rfl, hy⟩
        · have : hasC x = true := by
            rw [show y :: x = [y] ++ x from rfl, hasC_app, hasC_one, decide_eq_false hy, Bool.false_or] at hc; exact hc
          obtain ⟨a, g, b, rfl, ha, hg⟩ := ih this
          exact ⟨y :: a, g, b, rfl, by rw [show y :: a = [y] ++ a from rfl, hasC_app, hasC_one, decide_eq_false hy, ha]; rfl, hg⟩
    have e : ∀ J, ckGo J false (a ++ g :: b) = a ++ ⟨g.n, J, g.s⟩ :: ncM b := fun J => by
      rw [ckGo_app, ckGo_no _ _ _ ha, ha, Bool.or_false]
      simp only [ckGo, if_pos hg, Bool.false_eq_true, if_false, ckGo_true]
    have hnc : hasC (ncM b) = false := by
      unfold hasC ncM
      rw [List.any_eq_false]
      intro f hf
      rw [List.mem_filter] at hf
      simpa using hf.2
    have hv : valuesM (a ++ ⟨g.n, J, g.s⟩ :: ncM b) kC = [J] := by
      rw [show a ++ (⟨g.n, J, g.s⟩ : Fd) :: ncM b = a ++ ([⟨g.n, J, g.s⟩] ++ ncM b) from rfl, valuesM_app, valuesM_app, vals_no ha, vals_no hnc, valuesM_one, if_pos hg]; rfl
    rw [e J, hv, joinM_one, ckGo_app, ckGo_no _ _ _ ha, ha, Bool.or_false]
    simp only [ckGo, if_pos hg, Bool.false_eq_true, if_false, ckGo_true]
    congr 2
    unfold ncM
    rw [List.filter_filter]; simp
/-- A request's fields, written again. -/
def againM (r : Rq) : List Fd := [⟨[58, 109, 101, 116, 104, 111, 100], r.m, false⟩, ⟨[58, 115, 99, 104, 101, 109, 101], r.s, false⟩, ⟨[58, 97, 117, 116, 104, 111, 114, 105, 116, 121], r.a, false⟩, ⟨[58, 112, 97, 116, 104], r.p, false⟩] ++ r.f
theorem again_vals {r : Rq} {k : List UInt8} (hk : pseudoM k = true) (hf : ∀ f ∈ r.f, pseudoM f.n = false) : valuesM (againM r) k = valuesM [⟨[58, 109, 101, 116, 104, 111, 100], r.m, false⟩, ⟨[58, 115, 99, 104, 101, 109, 101], r.s, false⟩, ⟨[58, 97, 117, 116, 104, 111, 114, 105, 116, 121], r.a, false⟩, ⟨[58, 112, 97, 116, 104], r.p, false⟩] k := by
  unfold againM
  rw [valuesM_app]
  have : valuesM r.f k = [] := by
    unfold valuesM
    rw [List.map_eq_nil_iff, List.filter_eq_nil_iff]
    intro g hg hgk
    have hgk : g.n = k := by simpa using hgk
    have := hf g hg
    rw [hgk, hk] at this; cases this
  rw [this, List.append_nil]
theorem again_rest {r : Rq} {k : List UInt8} (hk : pseudoM k = false) : valuesM (againM r) k = valuesM r.f k := by
  unfold againM
  rw [valuesM_app]
  have h : ∀ (n v : List UInt8), pseudoM n = true → valuesM [(⟨n, v, false⟩ : Fd)] k = [] := fun n v hn => by
    rw [valuesM_one, if_neg]; intro e; rw [show n = k from e, hk] at hn; cases hn
  rw [show [(⟨[58, 109, 101, 116, 104, 111, 100], r.m, false⟩ : Fd), ⟨[58, 115, 99, 104, 101, 109, 101], r.s, false⟩, ⟨[58, 97, 117, 116, 104, 111, 114, 105, 116, 121], r.a, false⟩, ⟨[58, 112, 97, 116, 104], r.p, false⟩] = [⟨[58, 109, 101, 116, 104, 111, 100], r.m, false⟩] ++ ([⟨[58, 115, 99, 104, 101, 109, 101], r.s, false⟩] ++ ([⟨[58, 97, 117, 116, 104, 111, 114, 105, 116, 121], r.a, false⟩] ++ [⟨[58, 112, 97, 116, 104], r.p, false⟩])) from rfl,
    valuesM_app, valuesM_app, valuesM_app, h _ _ rfl, h _ _ rfl, h _ _ rfl, h _ _ rfl]; rfl
theorem ask_four (r : Rq) (hf : ∀ f ∈ r.f, pseudoM f.n = false ∧ plainM f = true) : askM names4 [] (againM r) = 0 := by
  unfold againM
  rw [ask_app]
  have h4 : askM names4 [] [⟨[58, 109, 101, 116, 104, 111, 100], r.m, false⟩, ⟨[58, 115, 99, 104, 101, 109, 101], r.s, false⟩, ⟨[58, 97, 117, 116, 104, 111, 114, 105, 116, 121], r.a, false⟩, ⟨[58, 112, 97, 116, 104], r.p, false⟩] = 0 := by
    obtain ⟨m, s, a, p, f⟩ := r
    rfl
  rw [if_pos h4]
  exact ask_plains _ _ hf
theorem again {l : List Fd} (h : readE l = 0) : readE (againM (readR l)) = 0 ∧ readR (againM (readR l)) = readR l ∧ askM [] [] (readR l).f = 0 := by
  obtain ⟨h0, h1, h2, h3⟩ := read_has h
  have hR : readR l = ⟨getM l [58, 109, 101, 116, 104, 111, 100], getM l [58, 115, 99, 104, 101, 109, 101], lowM ((allM l).headD []), getM l [58, 112, 97, 116, 104], outM l⟩ := if_pos h
  have hout := out_has h
  have hf : (readR l).f = outM l := by rw [hR]
  have hpf : ∀ f ∈ (readR l).f, pseudoM f.n = false ∧ plainM f = true := by rw [hf]; exact fun f hf => (hout f hf).1
  have hps : ∀ f ∈ (readR l).f, pseudoM f.n = false := fun f hf => (hpf f hf).1
  have hauth : ∃ a, lowM ((allM l).headD []) = a ∧ authM a = true ∧ lowM a = a := by
    refine ⟨_, rfl, ?_, lowM_low _⟩
    refine authM_low ?_
    unfold placeM at h2
    change (if 1 < (valuesM l kH).length then (101 : Int) else _) = 0 at h2
    split at h2
    · cases h2
    · split at h2
      · cases h2
      · rename_i hn
        split at h2
        · rename_i h4
          cases hv : allM l with
          | nil => exact absurd hv hn
          | cons a r =>
            rw [hv] at h4
            simp only [List.all_cons, Bool.and_eq_true] at h4
            exact h4.1.1
        · cases h2
  obtain ⟨au, ha, hau, hal⟩ := hauth
  have hra : (readR l).a = au := by rw [hR]; exact ha
  have q0 : askM names4 [] (againM (readR l)) = 0 := ask_four _ hpf
  have gm : getM (againM (readR l)) [58, 109, 101, 116, 104, 111, 100] = getM l [58, 109, 101, 116, 104, 111, 100] := by
    unfold getM; rw [again_vals (by decide) hps, hR]; rfl
  have gs : getM (againM (readR l)) [58, 115, 99, 104, 101, 109, 101] = getM l [58, 115, 99, 104, 101, 109, 101] := by
    unfold getM; rw [again_vals (by decide) hps, hR]; rfl
  have gp : getM (againM (readR l)) [58, 112, 97, 116, 104] = getM l [58, 112, 97, 116, 104] := by
    unfold getM; rw [again_vals (by decide) hps, hR]; rfl
  have q1 : headM (againM (readR l)) = true := by
    unfold headM; rw [gm, gs, gp]; exact h1
  have va : valuesM (againM (readR l)) kA = [au] := by rw [again_vals (by decide) hps, ← hra]; rfl
  have vh : valuesM (againM (readR l)) kH = [] := by
    rw [again_rest (by decide), hf]
    unfold valuesM
    rw [List.map_eq_nil_iff, List.filter_eq_nil_iff]
    intro g hg; simpa using (hout g hg).2
  have hA : allM (againM (readR l)) = [au] := by
    show valuesM (againM (readR l)) kA ++ valuesM (againM (readR l)) kH = _
    rw [va, vh]; rfl
  have q2 : placeM (againM (readR l)) = 0 := placeM_yes q0 (by rw [vh]; simp) (by rw [hA]; simp) (by rw [hA]; exact hau) (by rw [hA]; exact hau) (by rw [hA]; rfl)
  have q3 : lenM (againM (readR l)) = lenM l := by
    unfold lenM
    rw [again_rest (by decide), hf]
    unfold outM
    rw [valuesM_ck (by decide), valuesM_filter fun f hf => by unfold keepM; rw [hf]; decide]
  have q4 : readE (againM (readR l)) = 0 := by rw [readE_len q0 q1 q2, q3]; exact h3
  refine ⟨q4, ?_, ask_plains _ _ hpf⟩
  have hR2 : readR (againM (readR l)) = ⟨getM (againM (readR l)) [58, 109, 101, 116, 104, 111, 100], getM (againM (readR l)) [58, 115, 99, 104, 101, 109, 101], lowM ((allM (againM (readR l))).headD []), getM (againM (readR l)) [58, 112, 97, 116, 104], outM (againM (readR l))⟩ := if_pos q4
  rw [hR2, gm, gs, gp, hA]
  have hout2 : outM (againM (readR l)) = outM l := by
    have e1 : (againM (readR l)).filter keepM = outM l := by
      unfold againM
      rw [List.filter_append, hf]
      have e2 : (outM l).filter keepM = outM l := by
        rw [List.filter_eq_self]
        intro f hf
        unfold keepM
        change (!pseudoM f.n && !(decide (f.n = kH))) = true
        rw [(hout f hf).1.1, decide_eq_false (hout f hf).2]; rfl
      rw [e2]; rfl
    have e3 : valuesM (againM (readR l)) kC = valuesM (outM l) kC := by rw [again_rest (by decide), hf]
    show ckGo (joinM (valuesM (againM (readR l)) kC)) false ((againM (readR l)).filter keepM) = outM l
    rw [e1, e3]
    exact ck_again _ _
  rw [hout2, show lowM ([au].headD []) = au from hal, ← ha, ← hR]
end Go.Proofs.YtnjbfiejgiaibaaGreatDoor
