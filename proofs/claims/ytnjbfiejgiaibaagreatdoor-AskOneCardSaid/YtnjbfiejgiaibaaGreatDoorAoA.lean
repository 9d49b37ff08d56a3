/- Chapter 14: a request that was read goes on as one request: plain. No program, no condition. -/
import Derived.Test.YtnjbfiejgiaibaaGreatDoorHdA
import Derived.Test.YtnjbfiejgiaibaaGreatDoorAkV
namespace Go.Proofs.YtnjbfiejgiaibaaGreatDoor
set_option linter.all false
open Go Go.RowKit
set_option maxRecDepth 10000
theorem askO_ne (a : Ak) (c : List UInt8) : ¬ askA a ++ c = [] := fun e => by
  have h := congrArg List.length e
  have hp := congrArg List.length (askA_lines a [])
  simp at hp
  rw [List.length_append] at h
  simp only [List.length_nil] at h; omega
theorem all_one {a : Ak} (h : mayM a = true) (hb : a.b.length ≤ 1000000) : allS [] (askA a ++ a.b) = .ok [lowA a] := by
  have ht := take_put h hb []
  rw [List.append_nil] at ht
  rw [all_on (askO_ne a _) ht, all_end]; rfl
theorem noM_not {l : List Fd} {ks : List (List UInt8)} {f : Fd} {k : List UInt8} (h : f ∈ noM l ks) (hk : k ∈ ks) : ¬ lowM f.n = lowM k := by
  intro e
  have h1 := (List.mem_filter.1 h).2
  have h2 : (ks.map lowM).contains (lowM k) = true := by simp; exact ⟨k, hk, rfl⟩
  simp only [e, h2] at h1
  cases h1
theorem path_targ {s m : List UInt8} (h : pathM s m = true) : targM s = true := by
  unfold pathM at h
  split at h
  · rename_i e; subst e; decide
  · rw [Bool.and_eq_true, List.all_eq_true] at h
    unfold targM
    rw [Bool.and_eq_true, List.all_eq_true]
    refine ⟨fun c hc => ?_, ?_⟩
    · have h1 := h.1 c hc
      unfold pathC at h1
      unfold tgC
      rw [decide_eq_true_eq] at *
      omega
    · cases s with
      | nil => exact absurd h.2 (by decide)
      | cons c s => rfl
theorem place_auth {l : List Fd} (h : placeM l = 0) : authM ((allM l).headD []) = true := by
  unfold placeM at h
  split at h
  · cases h
  · split at h
    · cases h
    · rename_i hn
      split at h
      · rename_i ha
        rw [List.all_eq_true] at ha
        cases hv : allM l with
        | nil => exact absurd hv hn
        | cons a r =>
          have h1 := ha a (by rw [hv]; exact List.mem_cons_self)
          rw [Bool.and_eq_true] at h1
          exact h1.1
      · cases h
theorem head_parts {l : List Fd} (h : headM l = true) : tokenM (getM l [58, 109, 101, 116, 104, 111, 100]) = true ∧ pathM (getM l [58, 112, 97, 116, 104]) (getM l [58, 109, 101, 116, 104, 111, 100]) = true := by
  unfold headM at h
  simp only [Bool.and_eq_true] at h
  exact ⟨h.1.1.1, h.2⟩
def restO (l : List Fd) : List Fd := noM (stripM (outM l)) clh
theorem ofM_eq {l : List Fd} (h : readE l = 0) (b who : List UInt8) : ofM (readR l) b who = ⟨getM l [58, 109, 101, 116, 104, 111, 100], getM l [58, 112, 97, 116, 104], hostF (lowM ((allM l).headD [])) :: restO l ++ [viaF ([50, 32] ++ who)], b⟩ := by
  unfold readR; rw [if_pos h]; rfl
theorem rest_names {l : List Fd} {f : Fd} (hf : f ∈ restO l) : ¬ lowM f.n = [99, 111, 110, 110, 101, 99, 116, 105, 111, 110] ∧ ¬ lowM f.n = [116, 114, 97, 110, 115, 102, 101, 114, 45, 101, 110, 99, 111, 100, 105, 110, 103] ∧ ¬ lowM f.n = [116, 101] ∧ ¬ lowM f.n = [99, 111, 110, 116, 101, 110, 116, 45, 108, 101, 110, 103, 116, 104] ∧ ¬ lowM f.n = [104, 111, 115, 116] := by
  have h1 := noM_mem hf
  have e1 : lowM [99, 111, 110, 110, 101, 99, 116, 105, 111, 110] = [99, 111, 110, 110, 101, 99, 116, 105, 111, 110] := by decide
  have e2 : lowM [116, 114, 97, 110, 115, 102, 101, 114, 45, 101, 110, 99, 111, 100, 105, 110, 103] = [116, 114, 97, 110, 115, 102, 101, 114, 45, 101, 110, 99, 111, 100, 105, 110, 103] := by decide
  have e3 : lowM [116, 101] = [116, 101] := by decide
  have e4 : lowM [99, 111, 110, 116, 101, 110, 116, 45, 108, 101, 110, 103, 116, 104] = [99, 111, 110, 116, 101, 110, 116, 45, 108, 101, 110, 103, 116, 104] := by decide
  have e5 : lowM [104, 111, 115, 116] = [104, 111, 115, 116] := by decide
  have k : ∀ x ∈ own9, ¬ lowM f.n = lowM x := fun x hx => noM_not h1 (List.mem_append_left _ hx)
  have k1 := k [99, 111, 110, 110, 101, 99, 116, 105, 111, 110] (by decide)
  have k2 := k [116, 114, 97, 110, 115, 102, 101, 114, 45, 101, 110, 99, 111, 100, 105, 110, 103] (by decide)
  have k3 := k [116, 101] (by decide)
  have k4 := noM_not hf (show [99, 111, 110, 116, 101, 110, 116, 45, 108, 101, 110, 103, 116, 104] ∈ clh by decide)
  have k5 := noM_not hf (show [104, 111, 115, 116] ∈ clh by decide)
  rw [e1] at k1; rw [e2] at k2; rw [e3] at k3; rw [e4] at k4; rw [e5] at k5
  exact ⟨k1, k2, k3, k4, k5⟩
theorem plain_token {f : Fd} (h : plainM f = true) : tokenM f.n = true := by
  unfold plainM at h; simp only [Bool.and_eq_true] at h; exact h.1.1.1.1
theorem ofM_may {l : List Fd} {b who : List UInt8} (h : readE l = 0) (hw : valueM ([50, 32] ++ who) = true) : mayM (ofM (readR l) b who) = true := by
  obtain ⟨h0, h1, h2, -⟩ := read_has h
  obtain ⟨q1, q2⟩ := head_parts h1
  rw [ofM_eq h]
  unfold mayM
  rw [Bool.and_eq_true, Bool.and_eq_true, List.all_eq_true]
  refine ⟨fun f hf => ?_, q1, path_targ q2⟩
  have hh : f = hostF (lowM ((allM l).headD [])) ∨ f ∈ restO l ∨ f = viaF ([50, 32] ++ who) := by
    rcases List.mem_append.1 hf with hf | hf
    · rcases List.mem_cons.1 hf with hf | hf
      · exact .inl hf
      · exact .inr (.inl hf)
    · exact .inr (.inr (List.mem_singleton.1 hf))
  rcases hh with rfl | hf | rfl
  · have hv : valueM (lowM ((allM l).headD [])) = true := auth_value (authM_low (place_auth h2))
    have e1 : tokenM [104, 111, 115, 116] = true := by decide
    have e2 : frmM [104, 111, 115, 116] = false := by decide
    show (tokenM [104, 111, 115, 116] && !frmM [104, 111, 115, 116] && valueM (lowM ((allM l).headD []))) = true
    rw [hv, e1, e2]; rfl
  · have hp := (out_has h f (noM_mem (noM_mem hf))).1.2
    obtain ⟨n1, n2, n3, n4, n5⟩ := rest_names hf
    unfold mayF frmM
    rw [plain_token hp, plain_value hp, beq_eq_false_iff_ne.2 n4, beq_eq_false_iff_ne.2 n2]; rfl
  · have e1 : tokenM [118, 105, 97] = true := by decide
    have e2 : frmM [118, 105, 97] = false := by decide
    show (tokenM [118, 105, 97] && !frmM [118, 105, 97] && valueM ([50, 32] ++ who)) = true
    rw [hw, e1, e2]; rfl
theorem szM_three {p q r : Fd → Bool} (h : ∀ f, (p f = true → q f = false ∧ r f = false) ∧ (q f = true → r f = false)) : ∀ l : List Fd, szM (l.filter p) + szM (l.filter q) + szM (l.filter r) ≤ szM l
  | [] => by simp [szM]
  | f :: l => by
    have ih := szM_three h l
    obtain ⟨h1, h2⟩ := h f
    rw [List.filter_cons, List.filter_cons, List.filter_cons, szM_cons]
    cases hp : p f with
    | true =>
      obtain ⟨a1, a2⟩ := h1 hp
      rw [a1, a2, if_pos rfl, if_neg (by decide), if_neg (by decide), szM_cons]; omega
    | false =>
      cases hq : q f with
      | true => rw [h2 hq, if_pos rfl, if_neg (by decide), if_neg (by decide), szM_cons]; omega
      | false =>
        rw [if_neg (by decide), if_neg (by decide)]
        split
        · rw [szM_cons]; omega
        · omega
theorem getM_f (l : List Fd) (k : List UInt8) : (getM l k).length ≤ szM (l.filter fun f => decide (f.n = k)) := by
  unfold getM valuesM
  cases l.filter (fun f => decide (f.n = k)) with
  | nil => exact Nat.zero_le _
  | cons f r => rw [szM_cons, List.map_cons, List.headD_cons]; omega
theorem szO_ck (J : List UInt8) : ∀ (x : List Fd) (b : Bool), szM (ckGo J b x) ≤ szM x + J.length
  | [], _ => by simp [ckGo, szM]
  | f :: x, b => by
    have key : ∀ x : List Fd, szM (ckGo J true x) ≤ szM x := fun x => by rw [ckGo_true]; exact szM_filter _ _
    simp only [ckGo]
    split
    · split
      · have := key x; rw [szM_cons]; omega
      · have := key x; rw [szM_cons, szM_cons]; show f.n.length + J.length + 32 + _ ≤ _; omega
    · have := szO_ck J x b; rw [szM_cons, szM_cons]; omega
theorem noM_sz (l : List Fd) (ks : List (List UInt8)) : szM (noM l ks) ≤ szM l := szM_filter _ _
theorem readO_len (l : List Fd) : (lowM ((allM l).headD [])).length ≤ szM l := by
  rw [lowM_len]
  cases hv : allM l with
  | nil => simp
  | cons a r =>
    have hm0 : a ∈ allM l := by rw [hv]; exact List.mem_cons_self
    have hm : a ∈ valuesM l [58, 97, 117, 116, 104, 111, 114, 105, 116, 121] ++ valuesM l [104, 111, 115, 116] := hm0
    show a.length ≤ _
    rcases List.mem_append.1 hm with h | h <;> have := valuesM_sz h <;> omega
theorem readO_sz {l : List Fd} (h : readE l = 0) : szM (readR l).f ≤ 2 * szM l := by
  have h1 := szO_ck (joinM (valuesM l kC)) (l.filter keepM) false
  have h2 := szM_filter keepM l
  have h3 := joinM_sz l
  unfold readR; rw [if_pos h]
  show szM (outM l) ≤ _
  unfold outM; omega
/-- The sizes of what goes on. -/
theorem ofM_sz {l : List Fd} {b who : List UInt8} (h : readE l = 0) (hl : szM l ≤ 16384) (hw : who.length ≤ 1000) (hb : b.length ≤ 65536) : (ofM (readR l) b who).small ∧ (askA (ofM (readR l) b who)).length ≤ 65536 := by
  have k1 := getM_f l [58, 109, 101, 116, 104, 111, 100]
  have k2 := getM_f l [58, 112, 97, 116, 104]
  have k3 := szM_three (p := fun f => decide (f.n = [58, 109, 101, 116, 104, 111, 100])) (q := fun f => decide (f.n = [58, 112, 97, 116, 104])) (r := keepM) (fun f => by
    constructor
    · intro e
      rw [decide_eq_true_eq] at e
      constructor
      · rw [e]; decide
      · unfold keepM; rw [e]; decide
    · intro e
      rw [decide_eq_true_eq] at e
      unfold keepM; rw [e]; decide) l
  have k4 := szO_ck (joinM (valuesM l kC)) (l.filter keepM) false
  have k5 := joinM_sz l
  have k6 := readO_len l
  have k7 : szM (restO l) ≤ szM (outM l) := Nat.le_trans (noM_sz _ _) (noM_sz _ _)
  have k8 : szM (outM l) ≤ szM (l.filter keepM) + (joinM (valuesM l kC)).length := k4
  have ksz : szM (hostF (lowM ((allM l).headD [])) :: restO l ++ [viaF ([50, 32] ++ who)]) = (36 + (lowM ((allM l).headD [])).length) + szM (restO l) + (37 + who.length) := by
    rw [szM_app, szM_cons, szM_cons]
    simp only [szM, List.map_nil, List.sum_nil, List.length_append, List.length_cons, List.length_nil]
    omega
  rw [ofM_eq h]
  refine ⟨⟨?_, ?_, ?_⟩, ?_⟩
  · dsimp only; omega
  · dsimp only; omega
  · dsimp only; omega
  · refine Nat.le_trans (askA_len _) ?_
    dsimp only
    rw [ksz]
    have k9 : ∀ a : Ak, a.b.length ≤ 65536 → (askL a).length ≤ 100 := fun a ha => by
      cases hg : lngM a with
      | false => rw [askL_no hg]; exact Nat.zero_le _
      | true =>
        rw [askL_yes hg, clL_len]
        have := digs_length 10 (by decide) (a.b.length : Int) (by omega)
        omega
    have := k9 ⟨getM l [58, 109, 101, 116, 104, 111, 100], getM l [58, 112, 97, 116, 104], hostF (lowM ((allM l).headD [])) :: restO l ++ [viaF ([50, 32] ++ who)], b⟩ hb
    omega
theorem ofM_put {l : List Fd} {b who : List UInt8} (h : readE l = 0) (hw : valueM ([50, 32] ++ who) = true) (hl : szM l ≤ 16384) (hw2 : who.length ≤ 1000) (hb : b.length ≤ 65536) : putAE (ofM (readR l) b who) = 0 ∧ allS [] (putA (ofM (readR l) b who)) = .ok [lowA (ofM (readR l) b who)] ∧ (putA (ofM (readR l) b who)).length ≤ 200000 := by
  have hm := ofM_may (b := b) h hw
  obtain ⟨h1, h2⟩ := ofM_sz h hl hw2 hb
  have e : putAE (ofM (readR l) b who) = 0 := by
    unfold putAE; rw [if_pos hm, if_neg (by omega)]
  have e2 : putA (ofM (readR l) b who) = askA (ofM (readR l) b who) ++ (ofM (readR l) b who).b := by
    unfold putA; rw [if_pos e]
  have hb2 : (ofM (readR l) b who).b = b := rfl
  refine ⟨e, ?_, ?_⟩
  · rw [e2]; exact all_one hm (by rw [hb2]; omega)
  · rw [e2, List.length_append, hb2]; omega
/-- The one request's fields, in small names. -/
theorem ofM_low {l : List Fd} {b who : List UInt8} (h : readE l = 0) : lowA (ofM (readR l) b who) = ⟨(readR l).m, (readR l).p, ⟨[104, 111, 115, 116], (readR l).a, false⟩ :: ((restO l).map lowFA ++ [lowFA (viaF ([50, 32] ++ who))]), b⟩ := by
  have e1 : lowFA (hostF (readR l).a) = ⟨[104, 111, 115, 116], (readR l).a, false⟩ := rfl
  have e2 : (readR l).f = outM l := by unfold readR; rw [if_pos h]
  unfold ofM lowA
  rw [e2]
  simp only [List.map_cons, List.map_append, List.cons_append, e1]
  rfl
theorem ofM_at {l : List Fd} {b who : List UInt8} {k : Nat} (h : readE l = 0) (hk : k < (lowA (ofM (readR l) b who)).fs.length) : (((lowA (ofM (readR l) b who)).fs[k]).n = [104, 111, 115, 116] ↔ k = 0) ∧ ¬ ((lowA (ofM (readR l) b who)).fs[k]).n = [99, 111, 110, 110, 101, 99, 116, 105, 111, 110] ∧ ¬ ((lowA (ofM (readR l) b who)).fs[k]).n = [116, 114, 97, 110, 115, 102, 101, 114, 45, 101, 110, 99, 111, 100, 105, 110, 103] ∧ ¬ ((lowA (ofM (readR l) b who)).fs[k]).n = [116, 101] := by
  have e := congrArg Ak.fs (ofM_low (b := b) (who := who) h)
  generalize (lowA (ofM (readR l) b who)).fs = F at e hk ⊢
  subst e
  cases k with
  | zero =>
    refine ⟨⟨fun _ => rfl, fun _ => rfl⟩, ?_⟩
    show ¬ [104, 111, 115, 116] = [99, 111, 110, 110, 101, 99, 116, 105, 111, 110] ∧ ¬ [104, 111, 115, 116] = [116, 114, 97, 110, 115, 102, 101, 114, 45, 101, 110, 99, 111, 100, 105, 110, 103] ∧ ¬ [104, 111, 115, 116] = [116, 101]
    decide
  | succ k =>
    rw [List.getElem_cons_succ]
    generalize hg : ((restO l).map lowFA ++ [lowFA (viaF ([50, 32] ++ who))])[k]'(by simpa using hk) = g
    have hm : g ∈ (restO l).map lowFA ++ [lowFA (viaF ([50, 32] ++ who))] := by rw [← hg]; exact List.getElem_mem _
    have hh : ¬ g.n = [99, 111, 110, 110, 101, 99, 116, 105, 111, 110] ∧ ¬ g.n = [116, 114, 97, 110, 115, 102, 101, 114, 45, 101, 110, 99, 111, 100, 105, 110, 103] ∧ ¬ g.n = [116, 101] ∧ ¬ g.n = [104, 111, 115, 116] := by
      rcases List.mem_append.1 hm with hm | hm
      · obtain ⟨f, hf, rfl⟩ := List.mem_map.1 hm
        obtain ⟨n1, n2, n3, n4, n5⟩ := rest_names hf
        exact ⟨n1, n2, n3, n5⟩
      · rw [List.mem_singleton] at hm; subst hm
        show ¬ lowM [118, 105, 97] = _ ∧ ¬ lowM [118, 105, 97] = _ ∧ ¬ lowM [118, 105, 97] = _ ∧ ¬ lowM [118, 105, 97] = _
        decide
    exact ⟨⟨fun e => absurd e hh.2.2.2, fun e => absurd e (by omega)⟩, hh.1, hh.2.1, hh.2.2.1⟩
end Go.Proofs.YtnjbfiejgiaibaaGreatDoor
