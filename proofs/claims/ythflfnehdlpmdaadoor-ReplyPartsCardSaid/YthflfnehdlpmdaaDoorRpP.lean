/- Chapter 15 in plain Lean: pieces. No program, no condition. -/
import Derived.Test.YthflfnehdlpmdaaDoorRpVToRpR
namespace Go.Proofs.YthflfnehdlpmdaaDoor
set_option linter.all false
open Go Go.RowKit
theorem addH_0 (a : Hs) : addH a hs0 = a := by obtain ⟨a1, a2, a3, a4, a5⟩ := a; simp [addH]
theorem addH_plus (a h : Hs) (d : List UInt8) : (addH a h).plus d = addH a (h.plus d) := by
  obtain ⟨a1, a2, a3, a4, a5⟩ := a
  obtain ⟨b1, b2, b3, b4, b5⟩ := h
  cases b1 <;> simp [addH, Hs.plus]
theorem addH_end (a h : Hs) : (addH a h).end_ = addH a h.end_ := by
  obtain ⟨a1, a2, a3, a4, a5⟩ := a
  obtain ⟨b1, b2, b3, b4, b5⟩ := h
  cases b1 <;> simp [addH, Hs.end_]
theorem addH_heard (a h : Hs) (s : Ps) : (addH a h).heard s = addH a (h.heard s) := by
  obtain ⟨a1, a2, a3, a4, a5⟩ := a
  obtain ⟨b1, b2, b3, b4, b5⟩ := h
  cases b1 <;> simp [addH, Hs.heard]
def mapH (a : Hs) : Except Int (Ps × Hs) → Except Int (Ps × Hs)
  | .error e => .error e
  | .ok (s, h) => .ok (s, addH a h)
theorem body_add (a h : Hs) (s : Ps) : bodyM s (addH a h) = mapH a (bodyM s h) := by
  unfold bodyM
  split
  · rfl
  split
  · rfl
  split
  · rfl
  split
  · simp only [mapH, addH_heard, addH_end]
  split
  · simp only [mapH, addH_heard]
  split
  · simp only [mapH, addH_heard, addH_end]
  split
  · simp only [mapH, addH_heard]
  · simp only [mapH, addH_heard]
theorem onLine_add (a h : Hs) (s : Ps) (t : List UInt8) : onLine s (addH a h) t = mapH a (onLine s h t) := by
  unfold onLine
  split
  · unfold onFirst; split <;> rfl
  · unfold onHeads
    split
    · rfl
    · rfl
    · exact body_add a h _
  · unfold onChunk; split <;> rfl
  · unfold onTrailer
    split
    · rfl
    · rfl
    · simp only [mapH, addH_end]
theorem byte_add (a h : Hs) (s : Ps) (c : UInt8) : byteM s (addH a h) c = mapH a (byteM s h c) := by
  have hl : lineB s (addH a h) c = mapH a (lineB s h c) := by
    unfold lineB
    split
    · exact onLine_add a h s _
    split
    · rfl
    split
    · rfl
    · rfl
  unfold byteM
  split
  · simp only [mapH, addH_plus]
  · split
    · simp only [mapH, addH_plus, addH_end]
    · simp only [mapH, addH_plus]
  · simp only [mapH, addH_plus]
  · split
    · split <;> rfl
    · split <;> rfl
  · exact hl
def mapR (a : Hs) : Except Int (Ps × Hs × List UInt8) → Except Int (Ps × Hs × List UInt8)
  | .error e => .error e
  | .ok (s, h, r) => .ok (s, addH a h, r)
theorem run_add (a : Hs) : ∀ (b : List UInt8) (s : Ps) (h : Hs), runB s (addH a h) b = mapR a (runB s h b)
  | [], s, h => rfl
  | c :: b, s, h => by
    rw [runB, runB]
    by_cases he : s.ended = true
    · rw [if_pos he, if_pos he]; rfl
    · rw [if_neg he, if_neg he, byte_add]
      cases byteM s h c with
      | error e => rfl
      | ok p => obtain ⟨s', h'⟩ := p; exact run_add a b s' h'
/-- From what was heard on. -/
theorem run_from (a : Hs) (b : List UInt8) (s : Ps) : runB s a b = mapR a (runB s hs0 b) := by
  have := run_add a b s hs0
  rwa [addH_0] at this
theorem runB_app : ∀ (b : List UInt8) (s : Ps) (h : Hs) (s' : Ps) (h' : Hs) (r c : List UInt8), runB s h b = .ok (s', h', r) → runB s h (b ++ c) = runB s' h' (r ++ c)
  | [], s, h, s', h', r, c, hr => by
    injection hr with hr; injection hr with h1 hr; injection hr with h2 h3
    subst h1 h2 h3; rfl
  | x :: b, s, h, s', h', r, c, hr => by
    rw [runB] at hr
    by_cases he : s.ended = true
    · rw [if_pos he] at hr
      injection hr with hr; injection hr with h1 hr; injection hr with h2 h3
      subst h1 h2 h3; rfl
    · rw [if_neg he] at hr
      rw [List.cons_append, runB, if_neg he]
      cases hb : byteM s h x with
      | error e => rw [hb] at hr; cases hr
      | ok p =>
        obtain ⟨s1, h1⟩ := p
        rw [hb] at hr
        exact runB_app b s1 h1 s' h' r c hr
theorem run_appE : ∀ (b : List UInt8) (s : Ps) (h : Hs) (e : Int) (c : List UInt8), runB s h b = .error e → runB s h (b ++ c) = .error e
  | [], s, h, e, c, hr => by cases hr
  | x :: b, s, h, e, c, hr => by
    rw [runB] at hr
    by_cases he : s.ended = true
    · rw [if_pos he] at hr; cases hr
    · rw [if_neg he] at hr
      rw [List.cons_append, runB, if_neg he]
      cases hb : byteM s h x with
      | error e' => rw [hb] at hr; exact hr
      | ok p =>
        obtain ⟨s1, h1⟩ := p
        rw [hb] at hr
        exact run_appE b s1 h1 e c hr
theorem run_rest : ∀ (b : List UInt8) (s : Ps) (h : Hs) (s' : Ps) (h' : Hs) (r : List UInt8), runB s h b = .ok (s', h', r) → s'.ended = false → r = []
  | [], s, h, s', h', r, hr, _ => by injection hr with hr; injection hr with h1 hr; injection hr with h2 h3; exact h3.symm
  | x :: b, s, h, s', h', r, hr, he' => by
    rw [runB] at hr
    by_cases he : s.ended = true
    · rw [if_pos he] at hr
      injection hr with hr; injection hr with h1 hr
      subst h1; rw [he] at he'; cases he'
    · rw [if_neg he] at hr
      cases hb : byteM s h x with
      | error e' => rw [hb] at hr; cases hr
      | ok p =>
        obtain ⟨s1, h1⟩ := p
        rw [hb] at hr
        exact run_rest b s1 h1 s' h' r hr he'
theorem body_fin {s : Ps} {h : Hs} {s' : Ps} {h' : Hs} (hf : h.fin = s.ended) (he : s.ended = false) (hb : bodyM s h = .ok (s', h')) : h'.fin = s'.ended := by
  unfold bodyM at hb
  split at hb
  · cases hb
  split at hb
  · injection hb with hb; injection hb with h1 h2; subst h1 h2; exact hf
  split at hb
  · cases hb
  split at hb
  · injection hb with hb; injection hb with h1 h2; subst h1 h2; rfl
  split at hb
  · injection hb with hb; injection hb with h1 h2; subst h1 h2; exact hf
  split at hb
  · injection hb with hb; injection hb with h1 h2; subst h1 h2; rfl
  split at hb
  · injection hb with hb; injection hb with h1 h2; subst h1 h2; exact hf
  · injection hb with hb; injection hb with h1 h2; subst h1 h2; exact hf
theorem line_fin {s : Ps} {h : Hs} {t : List UInt8} {s' : Ps} {h' : Hs} (hf : h.fin = s.ended) (he : s.ended = false) (hb : onLine s h t = .ok (s', h')) : h'.fin = s'.ended := by
  unfold onLine at hb
  split at hb
  · unfold onFirst at hb
    split at hb
    · cases hb
    · injection hb with hb; injection hb with h1 h2; subst h1 h2; exact hf
  · unfold onHeads at hb
    split at hb
    · cases hb
    · injection hb with hb; injection hb with h1 h2; subst h1 h2; exact hf
    · exact body_fin (s := s.line []) hf he hb
  · unfold onChunk at hb
    split at hb
    · cases hb
    · injection hb with hb; injection hb with h1 h2; subst h1 h2; exact hf
  · unfold onTrailer at hb
    split at hb
    · cases hb
    · injection hb with hb; injection hb with h1 h2; subst h1 h2; exact hf
    · injection hb with hb; injection hb with h1 h2; subst h1 h2; rfl
theorem byte_fin {s : Ps} {h : Hs} {c : UInt8} {s' : Ps} {h' : Hs} (hf : h.fin = s.ended) (he : s.ended = false) (hb : byteM s h c = .ok (s', h')) : h'.fin = s'.ended := by
  have hl : lineB s h c = .ok (s', h') → h'.fin = s'.ended := fun hb => by
    unfold lineB at hb
    split at hb
    · exact line_fin hf he hb
    split at hb
    · cases hb
    split at hb
    · cases hb
    · injection hb with hb; injection hb with h1 h2; subst h1 h2; exact hf
  unfold byteM at hb
  split at hb
  · injection hb with hb; injection hb with h1 h2; subst h1 h2; exact hf
  · injection hb with hb
    split at hb
    · injection hb with h1 h2; subst h1 h2; rfl
    · injection hb with h1 h2; subst h1 h2; exact hf
  · injection hb with hb; injection hb with h1 h2; subst h1 h2; exact hf
  · split at hb
    · split at hb
      · injection hb with hb; injection hb with h1 h2; subst h1 h2; exact hf
      · cases hb
    · split at hb
      · injection hb with hb; injection hb with h1 h2; subst h1 h2; exact hf
      · cases hb
  · exact hl hb
theorem run_fin : ∀ (b : List UInt8) (s : Ps) (h : Hs) (s' : Ps) (h' : Hs) (r : List UInt8), h.fin = s.ended → runB s h b = .ok (s', h', r) → h'.fin = s'.ended
  | [], s, h, s', h', r, hf, hr => by
    injection hr with hr; injection hr with h1 hr; injection hr with h2 h3; subst h1 h2; exact hf
  | x :: b, s, h, s', h', r, hf, hr => by
    rw [runB] at hr
    by_cases he : s.ended = true
    · rw [if_pos he] at hr
      injection hr with hr; injection hr with h1 hr; injection hr with h2 h3; subst h1 h2; exact hf
    · rw [if_neg he] at hr
      cases hb : byteM s h x with
      | error e' => rw [hb] at hr; cases hr
      | ok p =>
        obtain ⟨s1, h1⟩ := p
        rw [hb] at hr
        exact run_fin b s1 h1 s' h' r (byte_fin hf (by simpa using he) hb) hr
theorem byte_one {s : Ps} {h : Hs} {c : UInt8} {s' : Ps} {h' : Hs} (hok : s.ok) (he : s.ended = false) (hb : byteM s h c = .ok (s', h')) : s'.ok ∧ h'.data.length ≤ h.data.length + 1 := by
  have h1 : runB s h [c] = .ok (s', h', []) := by rw [runB, if_neg (by rw [he]; decide), hb]; rfl
  have h2 := next_run (h := h) (b := [c]) hok he (by simp)
  cases hn : nextM s h [c] with
  | error e => rw [hn] at h2; have h2 : runB s h [c] = .error e := h2; rw [h1] at h2; cases h2
  | ok x =>
    have h3 := next_data hn (nextL_data hok)
    rw [hn] at h2
    obtain ⟨q1, q2, q3, q4, q5⟩ := h2
    have hr : x.r = [] := List.eq_nil_of_length_eq_zero (by simpa using q2)
    rw [hr, h1] at q1
    injection q1 with q1; injection q1 with e1 q1; injection q1 with e2 e3
    rw [e1, e2]
    refine ⟨q5, ?_⟩
    rw [hr] at h3; simpa using h3
theorem run_ok' : ∀ (b : List UInt8) (s : Ps) (h : Hs) (s' : Ps) (h' : Hs) (r : List UInt8), s.ok → runB s h b = .ok (s', h', r) → s'.ok ∧ h'.data.length ≤ h.data.length + b.length
  | [], s, h, s', h', r, hok, hr => by
    injection hr with hr; injection hr with h1 hr; injection hr with h2 h3; subst h1 h2; exact ⟨hok, by simp⟩
  | x :: b, s, h, s', h', r, hok, hr => by
    rw [runB] at hr
    by_cases he : s.ended = true
    · rw [if_pos he] at hr
      injection hr with hr; injection hr with h1 hr; injection hr with h2 h3; subst h1 h2; exact ⟨hok, by omega⟩
    · rw [if_neg he] at hr
      cases hb : byteM s h x with
      | error e' => rw [hb] at hr; cases hr
      | ok p =>
        obtain ⟨s1, h1⟩ := p
        rw [hb] at hr
        obtain ⟨a1, a2⟩ := byte_one hok (by simpa using he) hb
        obtain ⟨b1, b2⟩ := run_ok' b s1 h1 s' h' r a1 hr
        exact ⟨b1, by simp; omega⟩
theorem fieldP_err {m : Int} {t : List UInt8} {e : Int} (h : fieldP m t = .error e) : ¬ e = 0 := by
  unfold fieldP at h
  split at h
  · cases h
  · split at h
    · injection h with h; subst h; decide
    · split at h
      · injection h with h; subst h; decide
      · cases h
theorem byte_err {s : Ps} {h : Hs} {c : UInt8} {e : Int} (hb : byteM s h c = .error e) : ¬ e = 0 := by
  have hbd : ∀ (s : Ps), bodyM s h = .error e → ¬ e = 0 := fun s hb => by
    unfold bodyM at hb
    split at hb
    · injection hb with hb; subst hb; decide
    split at hb
    · cases hb
    split at hb
    · injection hb with hb; subst hb; decide
    split at hb
    · cases hb
    split at hb
    · cases hb
    split at hb
    · cases hb
    split at hb <;> cases hb
  have ho : ∀ t, onLine s h t = .error e → ¬ e = 0 := fun t hb => by
    unfold onLine at hb
    split at hb
    · unfold onFirst at hb
      split at hb
      · injection hb with hb; subst hb; decide
      · cases hb
    · unfold onHeads at hb
      split at hb
      · injection hb with hb; subst hb; exact fieldP_err (by assumption)
      · cases hb
      · exact hbd _ hb
    · unfold onChunk at hb
      split at hb
      · injection hb with hb; subst hb; decide
      · cases hb
    · unfold onTrailer at hb
      split at hb
      · injection hb with hb; subst hb; exact fieldP_err (by assumption)
      · cases hb
      · cases hb
  have hl : lineB s h c = .error e → ¬ e = 0 := fun hb => by
    unfold lineB at hb
    split at hb
    · exact ho _ hb
    split at hb
    · injection hb with hb; subst hb; decide
    split at hb
    · injection hb with hb; subst hb; decide
    · cases hb
  unfold byteM at hb
  split at hb
  · cases hb
  · cases hb
  · cases hb
  · split at hb
    · split at hb
      · cases hb
      · injection hb with hb; subst hb; decide
    · split at hb
      · cases hb
      · injection hb with hb; subst hb; decide
  · exact hl hb
theorem run_err : ∀ (b : List UInt8) (s : Ps) (h : Hs) (e : Int), runB s h b = .error e → ¬ e = 0
  | [], s, h, e, hr => by cases hr
  | x :: b, s, h, e, hr => by
    rw [runB] at hr
    by_cases he : s.ended = true
    · rw [if_pos he] at hr; cases hr
    · rw [if_neg he] at hr
      cases hb : byteM s h x with
      | error e' => rw [hb] at hr; injection hr with hr; subst hr; exact byte_err hb
      | ok p =>
        obtain ⟨s1, h1⟩ := p
        rw [hb] at hr
        exact run_err b s1 h1 e hr
theorem byte_fs {s : Ps} {h : Hs} {c : UInt8} {s' : Ps} {h' : Hs} (hb : byteM s h c = .ok (s', h')) : h'.fs = h.fs ∨ h'.fs = s.fs := by
  have hbd : ∀ (s : Ps), bodyM s h = .ok (s', h') → h'.fs = h.fs ∨ h'.fs = s.fs := fun s hb => by
    unfold bodyM at hb
    split at hb
    · cases hb
    split at hb
    · injection hb with hb; injection hb with _ e; subst e; exact .inl rfl
    split at hb
    · cases hb
    split at hb
    · injection hb with hb; injection hb with _ e; subst e; exact .inr rfl
    split at hb
    · injection hb with hb; injection hb with _ e; subst e; exact .inr rfl
    split at hb
    · injection hb with hb; injection hb with _ e; subst e; exact .inr rfl
    split at hb
    · injection hb with hb; injection hb with _ e; subst e; exact .inr rfl
    · injection hb with hb; injection hb with _ e; subst e; exact .inr rfl
  have ho : ∀ t, onLine s h t = .ok (s', h') → h'.fs = h.fs ∨ h'.fs = s.fs := fun t hb => by
    unfold onLine at hb
    split at hb
    · unfold onFirst at hb
      split at hb
      · cases hb
      · injection hb with hb; injection hb with _ e; subst e; exact .inl rfl
    · unfold onHeads at hb
      split at hb
      · cases hb
      · injection hb with hb; injection hb with _ e; subst e; exact .inl rfl
      · exact hbd (s.line []) hb
    · unfold onChunk at hb
      split at hb
      · cases hb
      · injection hb with hb; injection hb with _ e; subst e; exact .inl rfl
    · unfold onTrailer at hb
      split at hb
      · cases hb
      · injection hb with hb; injection hb with _ e; subst e; exact .inl rfl
      · injection hb with hb; injection hb with _ e; subst e; exact .inl rfl
  have hl : lineB s h c = .ok (s', h') → h'.fs = h.fs ∨ h'.fs = s.fs := fun hb => by
    unfold lineB at hb
    split at hb
    · exact ho _ hb
    split at hb
    · cases hb
    split at hb
    · cases hb
    · injection hb with hb; injection hb with _ e; subst e; exact .inl rfl
  unfold byteM at hb
  split at hb
  · injection hb with hb; injection hb with _ e; subst e; exact .inl rfl
  · injection hb with hb
    split at hb
    · injection hb with _ e; subst e; exact .inl rfl
    · injection hb with _ e; subst e; exact .inl rfl
  · injection hb with hb; injection hb with _ e; subst e; exact .inl rfl
  · split at hb
    · split at hb
      · injection hb with hb; injection hb with _ e; subst e; exact .inl rfl
      · cases hb
    · split at hb
      · injection hb with hb; injection hb with _ e; subst e; exact .inl rfl
      · cases hb
  · exact hl hb
theorem run_fs : ∀ (b : List UInt8) (s : Ps) (h : Hs) (s' : Ps) (h' : Hs) (r : List UInt8), s.ok → h.fs.length ≤ 30000 → runB s h b = .ok (s', h', r) → h'.fs.length ≤ 30000
  | [], s, h, s', h', r, hok, hl, hr => by
    injection hr with hr; injection hr with h1 hr; injection hr with h2 h3; subst h1 h2; exact hl
  | x :: b, s, h, s', h', r, hok, hl, hr => by
    rw [runB] at hr
    by_cases he : s.ended = true
    · rw [if_pos he] at hr
      injection hr with hr; injection hr with h1 hr; injection hr with h2 h3; subst h1 h2; exact hl
    · rw [if_neg he] at hr
      cases hb : byteM s h x with
      | error e' => rw [hb] at hr; cases hr
      | ok p =>
        obtain ⟨s1, h1⟩ := p
        rw [hb] at hr
        refine run_fs b s1 h1 s' h' r (byte_one hok (by simpa using he) hb).1 ?_ hr
        rcases byte_fs hb with h2 | h2
        · rw [h2]; exact hl
        · rw [h2]; have := szM_len s.fs; have := hok.size; omega
/-- What is heard of more begins with what is heard of less. -/
theorem addH_data (a b : Hs) : (addH a b).data = a.data ++ b.data := by unfold addH; split <;> rfl
theorem sameH_refl (a : Hs) : sameH a a = true := by simp [sameH]
end Go.Proofs.YthflfnehdlpmdaaDoor
