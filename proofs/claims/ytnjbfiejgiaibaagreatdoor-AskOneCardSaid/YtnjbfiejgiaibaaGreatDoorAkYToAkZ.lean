/- Chapter 14: what is put is taken: plain. No program, no condition. -/
import Derived.Test.YtnjbfiejgiaibaaGreatDoorAkWToAkX
namespace Go.Proofs.YtnjbfiejgiaibaaGreatDoor
set_option linter.all false
open Go Go.RowKit
set_option maxRecDepth 10000
theorem byte_all {p : Nat → Bool} (h : ∀ n : Fin 256, p n.val = true) (c : UInt8) : p c.toNat = true := h ⟨c.toNat, c.toNat_lt⟩
theorem tok_facts (c : UInt8) (h : tokM c.toNat = true) : isNL c = false ∧ c ≠ 32 ∧ c ≠ 58 := by
  have := byte_all (p := fun n => !(tokM n) || (decide (n ≠ 13 ∧ n ≠ 10 ∧ n ≠ 32 ∧ n ≠ 58))) (by decide +kernel) c
  simp only [h, Bool.not_true, Bool.false_or, decide_eq_true_eq] at this
  refine ⟨?_, ?_, ?_⟩
  · rw [Bool.eq_false_iff]; intro e
    rcases (isNL_or c).1 e with e | e <;> (subst e; simp at this)
  · intro e; subst e; simp at this
  · intro e; subst e; simp at this
theorem tg_facts (c : UInt8) (h : tgC c = true) : isNL c = false ∧ c ≠ 32 := by
  unfold tgC at h
  rw [decide_eq_true_eq] at h
  refine ⟨?_, ?_⟩
  · rw [Bool.eq_false_iff]; intro e
    rcases (isNL_or c).1 e with e | e <;> (subst e; simp at h)
  · intro e; subst e; simp at h
theorem val_facts (c : UInt8) (h : badV c.toNat = false) : isNL c = false := by
  rw [Bool.eq_false_iff]; intro e
  rcases (isNL_or c).1 e with e | e <;> (subst e; exact absurd h (by decide))
theorem noNL_of {l : List UInt8} (h : ∀ c ∈ l, isNL c = false) : noNL l = true := by
  unfold noNL
  rw [Bool.not_eq_true', List.any_eq_false]
  intro c hc; rw [h c hc]; simp
theorem token_nl {l : List UInt8} (h : tokenM l = true) : noNL l = true ∧ (32 : UInt8) ∉ l ∧ (58 : UInt8) ∉ l ∧ l ≠ [] := by
  unfold tokenM at h
  rw [Bool.and_eq_true, List.all_eq_true] at h
  refine ⟨noNL_of fun c hc => (tok_facts c (h.2 c hc)).1, fun hc => (tok_facts _ (h.2 _ hc)).2.1 rfl, fun hc => (tok_facts _ (h.2 _ hc)).2.2 rfl, ?_⟩
  intro e; subst e; exact absurd h.1 (by decide)
theorem targ_nl {l : List UInt8} (h : targM l = true) : noNL l = true ∧ (32 : UInt8) ∉ l := by
  unfold targM at h
  rw [Bool.and_eq_true, List.all_eq_true] at h
  exact ⟨noNL_of fun c hc => (tg_facts c (h.1 c hc)).1, fun hc => (tg_facts _ (h.1 _ hc)).2 rfl⟩
theorem value_nl {l : List UInt8} (h : valueM l = true) : noNL l = true := by
  unfold valueM at h
  rw [Bool.and_eq_true, List.all_eq_true] at h
  exact noNL_of fun c hc => val_facts c (by have := h.2 c hc; simpa using this)
theorem rdw_sub (p : UInt8 → Bool) (l : List UInt8) : (rdw p l).Sublist l := by
  unfold rdw
  have h := (List.dropWhile_sublist p (l := l.reverse)).reverse
  rwa [List.reverse_reverse] at h
theorem value_trim {l : List UInt8} (h : valueM l = true) : trimM (32 :: l) = l := by
  have h1 : trimM (32 :: l) = trimM l := by
    rw [trimM_eq', trimM_eq']
    have : (32 :: l).dropWhile isBl = l.dropWhile isBl := by
      rw [List.dropWhile_cons, if_pos (by decide)]
    rw [this]
  rw [h1]
  unfold valueM at h
  rw [Bool.and_eq_true, decide_eq_true_eq] at h
  have hs : (trimM l).Sublist l := by
    rw [trimM_eq']
    exact (rdw_sub isBl _).trans (List.dropWhile_sublist _)
  exact hs.eq_of_length h.1
theorem ln_app : ∀ {x : List UInt8} (r : List UInt8), noNL x = true → lnM (x ++ 13 :: 10 :: r) = .ok (x, r)
  | [], r, _ => by rw [List.nil_append, lnM, if_neg (by decide), if_pos rfl, if_neg (by simp)]; rfl
  | c :: x, r, h => by
    rw [noNL_cons, Bool.and_eq_true, Bool.not_eq_true'] at h
    have hc : ¬ c = 10 ∧ ¬ c = 13 := by
      refine ⟨fun e => ?_, fun e => ?_⟩ <;> (subst e; exact absurd h.1 (by decide))
    rw [List.cons_append, lnM, if_neg hc.1, if_neg hc.2, ln_app r h.2]
theorem cutAt_app {c : UInt8} : ∀ {x : List UInt8} (r : List UInt8), c ∉ x → cutAt c (x ++ c :: r) = (x, some r)
  | [], r, _ => by rw [List.nil_append, cutAt, if_pos rfl]
  | a :: x, r, h => by
    rw [List.mem_cons, not_or] at h
    rw [List.cons_append, cutAt, if_neg (fun e => h.1 e.symm), cutAt_app r h.2]
/-- A request's first line. -/
def topL (m t : List UInt8) : List UInt8 := m ++ 32 :: (t ++ 32 :: h11)
theorem top_first {m t : List UInt8} (hm : tokenM m = true) (ht : targM t = true) : firstM (topL m t) = some (m, t) ∧ noNL (topL m t) = true := by
  obtain ⟨a1, a2, -, -⟩ := token_nl hm
  obtain ⟨b1, b2⟩ := targ_nl ht
  refine ⟨?_, ?_⟩
  · unfold firstM topL
    rw [cutAt_app _ a2]
    simp only
    rw [cutAt_app _ b2]
    simp only
    rw [if_pos (by simp [hm, ht])]
  · unfold topL
    rw [noNL_app, a1, noNL_cons, noNL_app, b1, noNL_cons]; rfl
/-- A field's line. -/
def lineM (f : Fd) : List UInt8 := f.n ++ 58 :: 32 :: f.v
def lowFA (f : Fd) : Fd := ⟨lowM f.n, f.v, false⟩
theorem line_field {f : Fd} (hn : tokenM f.n = true) (hv : valueM f.v = true) : fieldM (lineM f) = some (lowFA f) ∧ noNL (lineM f) = true ∧ ¬ lineM f = [] := by
  obtain ⟨a1, -, a3, a4⟩ := token_nl hn
  have b := value_nl hv
  refine ⟨?_, ?_, ?_⟩
  · unfold fieldM lineM
    rw [cutAt_app _ a3]
    simp only
    rw [value_trim hv, if_pos ⟨hn, hv⟩]; rfl
  · unfold lineM
    rw [noNL_app, a1, noNL_cons, noNL_cons, b]; rfl
  · unfold lineM; simp
/-- Lines, each with its end. -/
def flatL (l : List Fd) : List UInt8 := l.flatMap fun f => lineM f ++ [13, 10]
def fldsT (fs : List Fd) (b : List UInt8) : Except Int (List Fd × List UInt8) := match lnM b with
  | .error e => .error e
  | .ok (s, r) => fldsS fs s r
theorem hdr_T (m t r : List UInt8) : hdrM m t r = tailM m t (fldsT [] r) := by
  unfold hdrM fldsT
  cases lnM r with
  | error e => rfl
  | ok p => rfl
theorem fldsS_T {fs : List Fd} {s r : List UInt8} {f : Fd} (hs : ¬ s = []) (h : fieldM s = some f) : fldsS fs s r = fldsT (fs ++ [f]) r := by
  unfold fldsT
  cases hl : lnM r with
  | error e => exact flds_err hs h hl
  | ok p => obtain ⟨s', r'⟩ := p; exact flds_on hs h hl
def okL (l : List Fd) : Prop := ∀ f ∈ l, tokenM f.n = true ∧ valueM f.v = true
theorem flatL_cons (f : Fd) (l : List Fd) (r : List UInt8) : flatL (f :: l) ++ r = lineM f ++ 13 :: 10 :: (flatL l ++ r) := by
  unfold flatL; simp
theorem flds_lines : ∀ {l : List Fd} (fs : List Fd) (r : List UInt8), okL l → fldsT fs (flatL l ++ 13 :: 10 :: r) = .ok (fs ++ l.map lowFA, r)
  | [], fs, r, _ => by
    have h := ln_app (x := []) r rfl
    unfold fldsT
    have e : flatL [] ++ 13 :: 10 :: r = [] ++ 13 :: 10 :: r := rfl
    rw [e, h]
    simp only
    rw [flds_end, List.map_nil, List.append_nil]
  | f :: l, fs, r, h => by
    obtain ⟨q1, q2, q3⟩ := line_field (h f List.mem_cons_self).1 (h f List.mem_cons_self).2
    rw [flatL_cons]
    unfold fldsT
    rw [ln_app _ q2]
    simp only
    rw [fldsS_T q3 q1, flds_lines (fs ++ [lowFA f]) r fun g hg => h g (List.mem_cons_of_mem _ hg)]
    simp
end Go.Proofs.YtnjbfiejgiaibaaGreatDoor

/- Chapter 14: what is put is taken, and nothing less: plain. No program, no condition. -/
namespace Go.Proofs.YtnjbfiejgiaibaaGreatDoor
set_option linter.all false
open Go Go.RowKit
set_option maxRecDepth 10000
theorem digs_chars : ∀ n : Nat, ∀ c ∈ digsM 10 n, 48 ≤ c.toNat ∧ c.toNat ≤ 57 := by
  have hch : ∀ k : Nat, k < 10 → 48 ≤ (chM k).toNat ∧ (chM k).toNat ≤ 57 := fun k hk => by
    have h : ∀ k : Fin 10, 48 ≤ (chM k.val).toNat ∧ (chM k.val).toNat ≤ 57 := by decide
    exact h ⟨k, hk⟩
  intro n
  induction n using digs_ind 10 (by decide) with
  | h0 n h => intro c hc; rw [digsM_eq 10 (by decide), if_pos h] at hc; simp at hc; subst hc; exact hch n h
  | h1 n h ih =>
    intro c hc
    rw [digsM_eq 10 (by decide), if_neg (by omega)] at hc
    rcases List.mem_append.1 hc with hc | hc
    · exact ih c hc
    · simp at hc; subst hc; exact hch _ (Nat.mod_lt _ (by decide))
theorem digs_value {n : Int} (h0 : 0 ≤ n) : valueM (digs 10 n) = true := by
  have hd : ∀ c ∈ digs 10 n, 48 ≤ c.toNat ∧ c.toNat ≤ 57 := fun c hc => by
    unfold digs at hc
    rw [if_neg (by omega)] at hc
    exact digs_chars _ c hc
  have hb : ∀ c ∈ digs 10 n, isBl c = false := fun c hc => by
    have h1 := hd c hc
    unfold isBl blankM
    rw [Bool.eq_false_iff]
    intro e
    simp at e
    omega
  unfold valueM
  rw [Bool.and_eq_true, decide_eq_true_eq, List.all_eq_true]
  refine ⟨(trim_len _).2 ⟨fun a ha => hb a (List.mem_of_mem_head? ha), fun a ha => hb a (List.mem_of_mem_getLast? ha)⟩, fun c hc => ?_⟩
  have h1 := hd c hc
  unfold badV
  simp
  omega
def clF (a : Ak) : Fd := ⟨kCL, digs 10 (a.b.length : Int), false⟩
/-- The fields that a request's bytes have. -/
def fieldsL (a : Ak) : List Fd := a.fs ++ if lngM a = true then [clF a] else []
theorem flatL_app (l k : List Fd) : flatL (l ++ k) = flatL l ++ flatL k := by unfold flatL; simp
theorem flatL_lines (l : List Fd) : l.flatMap lineF = flatL l := by
  unfold flatL
  have : lineF = fun f => lineM f ++ [13, 10] := by
    funext f; unfold lineF lineM; simp
  rw [this]
theorem askL_flat (a : Ak) : askL a = flatL (if lngM a = true then [clF a] else []) := by
  unfold askL
  by_cases h : lngM a = true
  · rw [if_pos h, if_pos h]
    unfold flatL clF lineM kCL; simp
  · rw [if_neg h, if_neg h]; rfl
theorem askA_lines (a : Ak) (r : List UInt8) : askA a ++ r = topL a.m a.t ++ 13 :: 10 :: (flatL (fieldsL a) ++ 13 :: 10 :: r) := by
  unfold askA fieldsL
  rw [flatL_lines, askL_flat, flatL_app]
  have h : askH a = topL a.m a.t ++ [13, 10] := by unfold askH topL h11; simp
  rw [h]; simp
theorem may_parts {a : Ak} (h : mayM a = true) : (∀ f ∈ a.fs, tokenM f.n = true ∧ valueM f.v = true ∧ frmM f.n = false) ∧ tokenM a.m = true ∧ targM a.t = true := by
  unfold mayM at h
  rw [Bool.and_eq_true, Bool.and_eq_true, List.all_eq_true] at h
  refine ⟨fun f hf => ?_, h.2.1, h.2.2⟩
  have := h.1 f hf
  unfold mayF at this
  rw [Bool.and_eq_true, Bool.and_eq_true, Bool.not_eq_true'] at this
  exact ⟨this.1.1, this.2, this.1.2⟩
theorem kCL_tok : tokenM kCL = true := by decide
theorem fields_ok {a : Ak} (h : mayM a = true) : okL (fieldsL a) := fun f hf => by
  obtain ⟨h1, -, -⟩ := may_parts h
  unfold fieldsL at hf
  rcases List.mem_append.1 hf with hf | hf
  · exact ⟨(h1 f hf).1, (h1 f hf).2.1⟩
  · split at hf
    · rw [List.mem_singleton] at hf; subst hf
      show tokenM kCL = true ∧ valueM (digs 10 (a.b.length : Int)) = true
      exact ⟨kCL_tok, digs_value (n := (a.b.length : Int)) (by omega)⟩
    · cases hf
theorem frm_no {n : List UInt8} (h : frmM n = false) : ¬ lowM n = kCL ∧ ¬ lowM n = kTE := by
  unfold frmM at h
  rw [Bool.or_eq_false_iff, beq_eq_false_iff_ne, beq_eq_false_iff_ne] at h
  exact ⟨fun e => h.1 (by rw [e]; exact low_cl.symm), fun e => h.2 (by rw [e]; exact low_te.symm)⟩
def lowA (a : Ak) : Ak := ⟨a.m, a.t, a.fs.map lowFA, a.b⟩
theorem low_kCL : lowM kCL = kCL := by decide
theorem low_kTE : lowM kTE = kTE := by decide
theorem kCL_kTE : ¬ kCL = kTE := by decide
theorem body_put {a : Ak} (h : mayM a = true) (hb : a.b.length ≤ 1000000) (r : List UInt8) : bodyM ((fieldsL a).map lowFA) r = if (r.length : Int) < (a.b.length : Int) then .error 12 else .ok (r.take a.b.length) := by
  obtain ⟨h1, -, -⟩ := may_parts h
  have hv : valuesM ((fieldsL a).map lowFA) kCL = if lngM a = true then [digs 10 (a.b.length : Int)] else [] := by
    unfold fieldsL
    rw [List.map_append, valuesM_app]
    have e1 : valuesM (a.fs.map lowFA) kCL = [] := by
      unfold valuesM
      rw [List.filter_eq_nil_iff.2 (fun f hf => by
        obtain ⟨g, hg, rfl⟩ := List.mem_map.1 hf
        rw [decide_eq_true_eq]
        exact (frm_no (h1 g hg).2.2).1)]
      rfl
    rw [e1, List.nil_append]
    by_cases hl : lngM a = true
    · rw [if_pos hl, if_pos hl]
      show valuesM [lowFA (clF a)] kCL = _
      rw [valuesM_one, if_pos (show (lowFA (clF a)).n = kCL from low_kCL)]; rfl
    · rw [if_neg hl, if_neg hl]; rfl
  have hte : hvM ((fieldsL a).map lowFA) kTE = [] := by
    unfold hvM
    rw [List.filter_eq_nil_iff.2 (fun f hf => by
      obtain ⟨g, hg, rfl⟩ := List.mem_map.1 hf
      rw [decide_eq_true_eq]
      show ¬ lowM (lowM g.n) = lowM kTE
      rw [lowM_low, low_kTE]
      unfold fieldsL at hg
      rcases List.mem_append.1 hg with hg | hg
      · exact (frm_no (h1 g hg).2.2).2
      · split at hg
        · rw [List.mem_singleton] at hg; subst hg
          show ¬ lowM kCL = kTE
          rw [low_kCL]; exact kCL_kTE
        · cases hg)]
    rfl
  have hlen : lenM ((fieldsL a).map lowFA) = ((a.b.length : Int), lngM a, 0) := by
    show lenGo 0 false (valuesM ((fieldsL a).map lowFA) kCL) = _
    rw [hv]
    cases hl : lngM a with
    | false =>
      rw [if_neg (by decide)]
      have hbn : a.b = [] := by
        unfold lngM at hl
        simp only [Bool.or_eq_false_iff] at hl
        have := hl.1.1.1
        simpa using this
      rw [hbn]; rfl
    | true =>
      rw [if_pos rfl]
      obtain ⟨d1, d2⟩ := digs_small 10 (by decide) (by decide) (a.b.length : Int) (by omega) (by omega)
      unfold lenGo
      have d1' : numV 10 (digs 10 (a.b.length : Int)) = (a.b.length : Int) := d1
      have d2' : numE 10 (digs 10 (a.b.length : Int)) = 0 := d2
      rw [if_neg (by rw [d2']; simp), d1']
      rfl
  unfold bodyM
  rw [hlen, hte]
  rw [if_neg (by simp; omega)]
  simp only [Int.toNat_natCast]
theorem noM_put {a : Ak} (h : mayM a = true) : noM ((fieldsL a).map lowFA) [kCL] = a.fs.map lowFA := by
  obtain ⟨h1, -, -⟩ := may_parts h
  unfold fieldsL
  rw [List.map_append, noM_app]
  have e1 : noM (a.fs.map lowFA) [kCL] = a.fs.map lowFA := by
    unfold noM
    rw [List.filter_eq_self]
    intro f hf
    obtain ⟨g, hg, rfl⟩ := List.mem_map.1 hf
    have := (frm_no (h1 g hg).2.2).1
    simp only [List.map_cons, List.map_nil, low_kCL, Bool.not_eq_true']
    rw [List.contains_cons]
    have e : lowM (lowFA g).n = lowM g.n := lowM_low g.n
    rw [e]
    simpa using this
  rw [e1]
  have e2 : noM ((if lngM a = true then [clF a] else []).map lowFA) [kCL] = [] := by
    split
    · unfold noM
      rw [List.filter_eq_nil_iff]
      intro f hf
      simp only [List.map_cons, List.map_nil, List.mem_singleton] at hf
      subst hf
      have e : lowM (lowFA (clF a)).n = kCL := by
        show lowM (lowM kCL) = kCL
        rw [low_kCL, low_kCL]
      rw [e]
      simp [low_kCL]
    · rfl
  rw [e2, List.append_nil]
theorem take_put {a : Ak} (h : mayM a = true) (hb : a.b.length ≤ 1000000) (c : List UInt8) : takeA (askA a ++ (a.b ++ c)) = .ok (lowA a, c) := by
  obtain ⟨h1, h2, h3⟩ := may_parts h
  obtain ⟨q1, q2⟩ := top_first h2 h3
  rw [askA_lines, take_h (ln_app _ q2) q1, hdr_T, flds_lines [] _ (fields_ok h), List.nil_append]
  unfold tailM
  simp only
  rw [body_put h hb, if_neg (by simp; omega)]
  simp only
  rw [noM_put h, List.take_left', List.drop_left']
  · rfl
  · simp
  · simp
end Go.Proofs.YtnjbfiejgiaibaaGreatDoor
