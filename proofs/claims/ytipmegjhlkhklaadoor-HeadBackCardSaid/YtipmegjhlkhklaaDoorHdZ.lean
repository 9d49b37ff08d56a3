/- Layer 10: plain laws of requests with hosts, with pseudo-fields twice, read again. No program, no condition. -/
import Derived.Test.YtipmegjhlkhklaaDoorHdY
namespace Go.Proofs.YtipmegjhlkhklaaDoor
set_option linter.all false
open Go Go.RowKit
theorem ask_app {names : List (List UInt8)} : ∀ (l p r : List Fd), askM names p (l ++ r) = if askM names p l = 0 then askM names (p ++ l) r else askM names p l
  | [], p, r => by simp [askM]
  | f :: l, p, r => by
    rw [List.cons_append, askM, askM]
    by_cases h : okF names p f = 0
    · rw [if_pos h, if_pos h, ask_app l (p ++ [f]) r]; simp
    · rw [if_neg h, if_neg h, if_neg h]
/-- All plain fields may be. -/
def fineL (l : List Fd) : Prop := ∀ f ∈ l, pseudoM f.n = false → plainM f = true
theorem ask_fine {names : List (List UInt8)} : ∀ (l p : List Fd), askM names p l = 0 → fineL l
  | [], _, _ => fun f h => by cases h
  | f :: l, p, h => by
    rw [askM] at h
    split at h
    · rename_i ho
      intro g hg hp
      rcases List.mem_cons.1 hg with rfl | hg
      · rw [okF_plain hp] at ho
        split at ho
        · assumption
        · cases ho
      · exact ask_fine l _ h g hg hp
    · rename_i ho; exact absurd h ho
theorem ask_two {names : List (List UInt8)} : ∀ (l p : List Fd), fineL l → askM names p l = 0 ∨ askM names p l = 100
  | [], _, _ => .inl rfl
  | f :: l, p, h => by
    rw [askM]
    split
    · exact ask_two l _ fun g hg => h g (List.mem_cons_of_mem _ hg)
    · rename_i ho
      cases hp : pseudoM f.n with
      | false => rw [okF_plain hp, if_pos (h f List.mem_cons_self hp)] at ho; exact absurd rfl ho
      | true =>
        rw [okF_pseudo hp] at ho ⊢
        split at ho
        · exact absurd rfl ho
        · rename_i hh; rw [if_neg hh]; exact .inr rfl
theorem ask_plains {names : List (List UInt8)} : ∀ (l p : List Fd), (∀ f ∈ l, pseudoM f.n = false ∧ plainM f = true) → askM names p l = 0
  | [], _, _ => rfl
  | f :: l, p, h => by
    obtain ⟨h1, h2⟩ := h f List.mem_cons_self
    rw [askM, okF_plain h1, if_pos h2, if_pos rfl]
    exact ask_plains l _ fun g hg => h g (List.mem_cons_of_mem _ hg)
/-- What a list that reads has. -/
theorem read_has {l : List Fd} (h : readE l = 0) : askM names4 [] l = 0 ∧ headM l = true ∧ placeM l = 0 ∧ (lenM l).2.2 = 0 := by
  have h0 : askM names4 [] l = 0 := by
    by_cases h1 : askM names4 [] l = 0
    · exact h1
    · rw [readE_ask h1] at h; exact h
  obtain ⟨h1, h2, h3⟩ := readE_0 h0 h
  exact ⟨h0, h1, h2, h3⟩
theorem head_has {l : List Fd} (h : headM l = true) : ¬ valuesM l [58, 109, 101, 116, 104, 111, 100] = [] ∧ ¬ valuesM l [58, 112, 97, 116, 104] = [] := by
  constructor
  · intro hv
    rw [head_no (.inl (.inl (.inl (by rw [get_nil (by rw [hv]; decide)]; rfl))))] at h; cases h
  · intro hv
    rw [head_no (.inr (by rw [get_nil (k := [58, 112, 97, 116, 104]) (by rw [hv]; decide)]; rfl))] at h; cases h
theorem readE_100 {l : List Fd} (hf : fineL l) (h : ¬ askM names4 [] l = 0) : readE l = 100 ∧ readR l = Rq.nil := by
  have h1 : readE l = 100 := by rw [readE_ask h]; exact (ask_two l [] hf).resolve_left h
  exact ⟨h1, if_neg (by rw [h1]; decide)⟩
/-- A field of a list that reads, once more ahead of it. -/
theorem twice {l : List Fd} (h : readE l = 0) {f : Fd} (hm : f ∈ l) : readE (f :: l) = 100 := by
  obtain ⟨h0, h1, -, -⟩ := read_has h
  have hfine := ask_fine l [] h0
  refine (readE_100 (fun g hg => ?_) fun hz => ?_).1
  · rcases List.mem_cons.1 hg with rfl | hg
    · exact hfine _ hm
    · exact hfine g hg
  · cases hp : pseudoM f.n with
    | true =>
      have := ask_le (k := f.n) hp hz
      rw [show f :: l = [f] ++ l from rfl, valuesM_app, valuesM_one, if_pos rfl, List.length_append] at this
      have h2 : f.v ∈ valuesM l f.n := by unfold valuesM; exact List.mem_map.2 ⟨f, List.mem_filter.2 ⟨hm, by simp⟩, rfl⟩
      have h3 := List.length_pos_of_mem h2
      simp only [List.length_singleton] at this; omega
    | false =>
      rw [askM] at hz
      split at hz
      · have h2 := ask_plain l [f] hz ⟨f, List.mem_cons_self, hp⟩
        obtain ⟨v, hv⟩ := List.exists_mem_of_ne_nil _ (head_has h1).1
        obtain ⟨g, hg, hgn, -⟩ := valuesM_mem hv
        have := h2 g hg
        rw [hgn] at this; cases this
      · rename_i ho; exact ho hz
/-- A plain field and a path behind it. -/
theorem behind {l : List Fd} (h : readE l = 0) : readE (l ++ [⟨[122, 122], [49], false⟩, ⟨[58, 112, 97, 116, 104], [47], false⟩]) = 100 ∧ readR (l ++ [⟨[122, 122], [49], false⟩, ⟨[58, 112, 97, 116, 104], [47], false⟩]) = Rq.nil := by
  obtain ⟨h0, h1, -, -⟩ := read_has h
  have hfine := ask_fine l [] h0
  refine readE_100 (fun g hg hp => ?_) fun hz => ?_
  · rcases List.mem_append.1 hg with hg | hg
    · exact hfine g hg hp
    · rcases List.mem_cons.1 hg with rfl | hg
      · decide
      · rw [List.mem_singleton.1 hg] at hp; cases hp
  · have := ask_le (k := [58, 112, 97, 116, 104]) (by decide) hz
    rw [valuesM_app, List.length_append] at this
    have h2 := List.length_pos_iff.2 (head_has h1).2
    have h3 : (valuesM [(⟨[122, 122], [49], false⟩ : Fd), ⟨[58, 112, 97, 116, 104], [47], false⟩] [58, 112, 97, 116, 104]).length = 1 := by decide
    omega
theorem auth_low (c : UInt8) : authC c = true → authC (lowC c) = true ∧ (isBl c = false ∧ badV c.toNat = false) := by
  have : ∀ k : Fin 256, authC (UInt8.ofNat k.val) = true → authC (lowC (UInt8.ofNat k.val)) = true ∧ (isBl (UInt8.ofNat k.val) = false ∧ badV (UInt8.ofNat k.val).toNat = false) := by decide +kernel
  have h := this ⟨c.toNat, c.toNat_lt⟩
  simpa using h
theorem authM_low {s : List UInt8} (h : authM s = true) : authM (lowM s) = true := by
  unfold authM lowM at *
  rw [Bool.and_eq_true] at h ⊢
  refine ⟨?_, by cases s <;> simp_all⟩
  rw [List.all_eq_true] at *
  intro x hx
  obtain ⟨c, hc, rfl⟩ := List.mem_map.1 hx
  exact (auth_low c (h.1 c hc)).1
theorem value_iff (l : List UInt8) : valueM l = true ↔ ((∀ a, l.head? = some a → isBl a = false) ∧ (∀ a, l.getLast? = some a → isBl a = false)) ∧ ∀ c ∈ l, badV c.toNat = false := by
  unfold valueM
  rw [Bool.and_eq_true, decide_eq_true_iff, trim_len, List.all_eq_true]
  refine and_congr Iff.rfl ⟨fun h c hc => by simpa using h c hc, fun h c hc => by simp [h c hc]⟩
theorem auth_value {s : List UInt8} (h : authM s = true) : valueM s = true := by
  unfold authM at h
  rw [Bool.and_eq_true, List.all_eq_true] at h
  rw [value_iff]
  exact ⟨⟨fun a ha => (auth_low a (h.1 a (List.mem_of_mem_head? ha))).2.1, fun a ha => (auth_low a (h.1 a (List.mem_of_getLast? ha))).2.1⟩, fun c hc => (auth_low c (h.1 c hc)).2.2⟩
theorem host_plain {v : List UInt8} {b : Bool} (h : valueM v = true) : plainM ⟨kH, v, b⟩ = true := by
  have e1 : tokenM kH = true := by decide
  have e2 : (lowM kH == kH) = true := by decide
  have e3 : ofConnM kH = false := by decide
  have e4 : (kH == [116, 101]) = false := by decide
  show (tokenM kH && (lowM kH == kH) && valueM v && !ofConnM kH && (!(kH == [116, 101]) || v == [116, 114, 97, 105, 108, 101, 114, 115])) = true
  rw [e1, e2, h, e3, e4]; rfl
/-- A list that reads, with a host behind it. -/
theorem with_host {l : List Fd} (h : readE l = 0) (hh : valuesM l kH = []) : ∃ a, allM l = [a] ∧ authM a = true ∧ (readR l).a = lowM a := by
  obtain ⟨h0, h1, h2, -⟩ := read_has h
  have hk := ask_le (k := kA) (by decide) h0
  have hall : allM l = valuesM l kA ++ valuesM l kH := rfl
  rw [hh, List.append_nil] at hall
  have hR : (readR l).a = lowM ((allM l).headD []) := by unfold readR; rw [if_pos h]
  unfold placeM at h2
  change (if 1 < (valuesM l kH).length then (101 : Int) else _) = 0 at h2
  rw [if_neg (by rw [hh]; decide)] at h2
  split at h2
  · cases h2
  · rename_i hn
    split at h2
    · rename_i h3
      match hv : allM l, hn with
      | [a], _ =>
        rw [hv] at h3 hR
        refine ⟨a, rfl, ?_, hR⟩
        simp at h3; exact h3
      | a :: b :: r, _ => rw [hv] at hall; rw [← hall] at hk; simp at hk
    · cases h2
theorem getM_app {l r : List Fd} {k : List UInt8} (h : valuesM r k = []) : getM (l ++ r) k = getM l k := by unfold getM; rw [valuesM_app, h, List.append_nil]
theorem host_vals (v : List UInt8) (b : Bool) {k : List UInt8} (h : ¬ kH = k) : valuesM [⟨kH, v, b⟩] k = [] := by rw [valuesM_one, if_neg h]
theorem headM_app {l r : List Fd} (h1 : valuesM r [58, 109, 101, 116, 104, 111, 100] = []) (h2 : valuesM r [58, 115, 99, 104, 101, 109, 101] = []) (h3 : valuesM r [58, 112, 97, 116, 104] = []) : headM (l ++ r) = headM l := by
  unfold headM; rw [getM_app h1, getM_app h2, getM_app h3]
theorem ask_hosts {l r : List Fd} (h0 : askM names4 [] l = 0) (hr : ∀ f ∈ r, pseudoM f.n = false ∧ plainM f = true) : askM names4 [] (l ++ r) = 0 := by
  rw [ask_app, if_pos h0]; exact ask_plains r _ hr
theorem host_same {l : List Fd} (h : readE l = 0) (hh : valuesM l kH = []) : readE (l ++ [⟨kH, (readR l).a, false⟩]) = 0 ∧ readR (l ++ [⟨kH, (readR l).a, false⟩]) = readR l := by
  obtain ⟨a, ha, hau, hra⟩ := with_host h hh
  obtain ⟨h0, h1, h2, h3⟩ := read_has h
  rw [hra]
  have hlo : lowM (lowM a) = lowM a := lowM_low a
  have q0 := ask_hosts (r := [⟨kH, lowM a, false⟩]) h0 fun f hf => by rw [List.mem_singleton.1 hf]; exact ⟨rfl, host_plain (auth_value (authM_low hau))⟩
  have q1 : headM (l ++ [⟨kH, lowM a, false⟩]) = true := by rw [headM_app (host_vals _ _ (by decide)) (host_vals _ _ (by decide)) (host_vals _ _ (by decide))]; exact h1
  have hvh : valuesM (l ++ [⟨kH, lowM a, false⟩]) kH = [lowM a] := by rw [valuesM_app, hh, valuesM_one, if_pos rfl, List.nil_append]
  have hva : valuesM (l ++ [⟨kH, lowM a, false⟩]) kA = valuesM l kA := by rw [valuesM_app, host_vals _ _ (by decide), List.append_nil]
  have hA : valuesM l kA = [a] := by have : allM l = valuesM l kA ++ valuesM l kH := rfl; rw [hh, List.append_nil, ha] at this; exact this.symm
  have hal : allM (l ++ [⟨kH, lowM a, false⟩]) = [a, lowM a] := by
    show valuesM (l ++ [⟨kH, lowM a, false⟩]) kA ++ valuesM (l ++ [⟨kH, lowM a, false⟩]) kH = _
    rw [hva, hvh, hA]; rfl
  have q2 : placeM (l ++ [⟨kH, lowM a, false⟩]) = 0 := placeM_yes q0 (by rw [hvh]; simp) (by rw [hal]; simp) (by rw [hal]; exact hau) (by rw [hal]; exact authM_low hau) (by rw [hal]; exact hlo.symm)
  have q3 : lenM (l ++ [⟨kH, lowM a, false⟩]) = lenM l := by unfold lenM; rw [valuesM_app, host_vals _ _ (by decide), List.append_nil]
  have q4 : readE (l ++ [⟨kH, lowM a, false⟩]) = 0 := by rw [readE_len q0 q1 q2, q3]; exact h3
  refine ⟨q4, ?_⟩
  unfold readR
  rw [if_pos q4, if_pos h]
  refine Rq.ext' (getM_app (host_vals _ _ (by decide))) (getM_app (host_vals _ _ (by decide))) ?_ (getM_app (host_vals _ _ (by decide))) ?_
  · show lowM ((allM _).headD []) = lowM ((allM l).headD [])
    rw [hal, ha]; rfl
  · show outM _ = outM l
    unfold outM
    rw [valuesM_app, host_vals _ _ (by decide), List.append_nil, List.filter_append]
    rw [show [(⟨kH, lowM a, false⟩ : Fd)].filter keepM = [] from rfl, List.append_nil]
theorem host_other {l : List Fd} (h : readE l = 0) (hh : valuesM l kH = []) : readE (l ++ [⟨kH, (readR l).a ++ [120], false⟩]) = 100 := by
  obtain ⟨a, ha, hau, hra⟩ := with_host h hh
  obtain ⟨h0, h1, h2, h3⟩ := read_has h
  rw [hra]
  have hx : authM (lowM a ++ [120]) = true := by
    have := authM_low hau
    unfold authM at this ⊢
    rw [Bool.and_eq_true] at this
    rw [List.all_append, this.1]; simp; decide
  have q0 := ask_hosts (r := [⟨kH, lowM a ++ [120], false⟩]) h0 fun f hf => by rw [List.mem_singleton.1 hf]; exact ⟨rfl, host_plain (auth_value hx)⟩
  have q1 : headM (l ++ [⟨kH, lowM a ++ [120], false⟩]) = true := by rw [headM_app (host_vals _ _ (by decide)) (host_vals _ _ (by decide)) (host_vals _ _ (by decide))]; exact h1
  have hvh : valuesM (l ++ [⟨kH, lowM a ++ [120], false⟩]) kH = [lowM a ++ [120]] := by rw [valuesM_app, hh, valuesM_one, if_pos rfl, List.nil_append]
  have hva : valuesM (l ++ [⟨kH, lowM a ++ [120], false⟩]) kA = valuesM l kA := by rw [valuesM_app, host_vals _ _ (by decide), List.append_nil]
  have hA : valuesM l kA = [a] := by have : allM l = valuesM l kA ++ valuesM l kH := rfl; rw [hh, List.append_nil, ha] at this; exact this.symm
  have hal : allM (l ++ [⟨kH, lowM a ++ [120], false⟩]) = [a, lowM a ++ [120]] := by
    show valuesM (l ++ [⟨kH, lowM a ++ [120], false⟩]) kA ++ valuesM (l ++ [⟨kH, lowM a ++ [120], false⟩]) kH = _
    rw [hva, hvh, hA]; rfl
  have q2 : placeM (l ++ [⟨kH, lowM a ++ [120], false⟩]) = 100 := placeM_no q0 (by rw [hvh]; simp) (.inr (by
    rw [hal]
    show ¬ lowM a = lowM (lowM a ++ [120])
    intro e
    have := congrArg List.length e
    simp [lowM_len] at this))
  rw [readE_place q0 q1 (by rw [q2]; decide), q2]
theorem host_two {l : List Fd} (h : readE l = 0) (hh : valuesM l kH = []) : readE (l ++ [⟨kH, (readR l).a, false⟩, ⟨kH, (readR l).a, false⟩]) = 101 := by
  obtain ⟨a, ha, hau, hra⟩ := with_host h hh
  obtain ⟨h0, h1, h2, h3⟩ := read_has h
  rw [hra]
  have hv : ∀ k, ¬ kH = k → valuesM [(⟨kH, lowM a, false⟩ : Fd), ⟨kH, lowM a, false⟩] k = [] := fun k hk => by
    rw [show [(⟨kH, lowM a, false⟩ : Fd), ⟨kH, lowM a, false⟩] = [⟨kH, lowM a, false⟩] ++ [⟨kH, lowM a, false⟩] from rfl, valuesM_app, host_vals _ _ hk]; rfl
  have q0 := ask_hosts (r := [⟨kH, lowM a, false⟩, ⟨kH, lowM a, false⟩]) h0 fun f hf => by
    have hf : f = ⟨kH, lowM a, false⟩ := by simpa using hf
    rw [hf]; exact ⟨rfl, host_plain (auth_value (authM_low hau))⟩
  have q1 : headM (l ++ [⟨kH, lowM a, false⟩, ⟨kH, lowM a, false⟩]) = true := by rw [headM_app (hv _ (by decide)) (hv _ (by decide)) (hv _ (by decide))]; exact h1
  have q2 : placeM (l ++ [⟨kH, lowM a, false⟩, ⟨kH, lowM a, false⟩]) = 101 := placeM_many (by rw [valuesM_app, hh]; simp [valuesM, kH])
  rw [readE_place q0 q1 (by rw [q2]; decide), q2]
end Go.Proofs.YtipmegjhlkhklaaDoor
