/- Layer 10: plain laws: what is gathered is what the document says. No program, no condition. -/
import Derived.Test.YtipmegjhlkhklaaDoorHdK
namespace Go.Proofs.YtipmegjhlkhklaaDoor
set_option linter.all false
open Go Go.RowKit
theorem valuesM_filter {p : Fd → Bool} {k : List UInt8} : ∀ {l : List Fd}, (∀ f, f.n = k → p f = true) → valuesM (l.filter p) k = valuesM l k
  | [], _ => rfl
  | f :: l, h => by
    have ih := valuesM_filter (l := l) h
    rw [show f :: l = [f] ++ l from rfl, List.filter_append, valuesM_app, valuesM_app, ih]
    congr 1
    by_cases hp : p f = true
    · rw [List.filter_cons_of_pos hp, List.filter_nil]
    · rw [List.filter_cons_of_neg hp, List.filter_nil, valuesM_one, if_neg (fun e => hp (h f e))]; rfl
theorem rest_values {k : List UInt8} (hk : pseudoM k = false) (l : List Fd) : valuesM (restM l) k = valuesM l k := valuesM_filter fun f hf => by rw [hf, hk]; rfl
theorem noh_values {k : List UInt8} (hk : ¬ k = kH) (l : List Fd) : valuesM (nohM l) k = valuesM l k := valuesM_filter fun f hf => by rw [hf, decide_eq_false hk]; rfl
theorem lk_said {k : List UInt8} (hk : pseudoM k = true) : ∀ l : List Fd, lk k (saidM l) = (valuesM l k).head?
  | [] => rfl
  | f :: l => by
    rw [show f :: l = [f] ++ l from rfl, saidM_app, lk_app, valuesM_app, valuesM_one, lk_said hk l]
    by_cases h : f.n = k
    · rw [if_pos h]; simp [saidM, h, hk, lk]
    · rw [if_neg h]
      by_cases hp : pseudoM f.n = true <;> simp [saidM, h, hp, lk]
theorem lk_get {k : List UInt8} (hk : pseudoM k = true) (l : List Fd) : (lk k (saidM l)).getD [] = getM l k := by
  rw [lk_said hk]; unfold getM; cases valuesM l k <;> rfl
theorem look_get {k : List UInt8} (hk : pseudoM k = true) (l : List Fd) : (if false = true then D.tup [rd true (((lookM k (wdV (saidM l))).getD [V.str []]).map .v), .v (.bool (lookM k (wdV (saidM l))).isSome)] else rd true (((lookM k (wdV (saidM l))).getD [V.str []]).map .v)) = .agg [.v (.str (getM l k))] := by
  rw [look_wdF, lk_get hk]
theorem ask_once {names : List (List UInt8)} {k : List UInt8} (hk : pseudoM k = true) : ∀ (l p : List Fd), askM names p l = 0 → (valuesM p k).length ≤ 1 → (valuesM (p ++ l) k).length ≤ 1
  | [], p, _, h => by rwa [List.append_nil]
  | f :: l, p, h, hp => by
    rw [askM] at h
    split at h
    · rename_i ho
      rw [show p ++ f :: l = (p ++ [f]) ++ l by simp]
      refine ask_once hk l (p ++ [f]) h ?_
      rw [valuesM_app, valuesM_one]
      by_cases hf : f.n = k
      · rw [if_pos hf]
        have hps : pseudoM f.n = true := by rw [hf, hk]
        unfold okF at ho
        rw [if_pos hps] at ho
        split at ho
        · rename_i hh
          have h2 := hh.2
          rw [List.all_eq_true] at h2
          have : valuesM p k = [] := by
            unfold valuesM
            rw [List.map_eq_nil_iff, List.filter_eq_nil_iff]
            intro g hg
            have h3 := h2 g hg
            rw [Bool.and_eq_true] at h3
            rw [← hf]
            simpa using h3.2
          rw [this]; simp
        · cases ho
      · rw [if_neg hf, List.append_nil]; exact hp
    · rename_i ho; exact absurd h ho
theorem ask_le {names : List (List UInt8)} {k : List UInt8} (hk : pseudoM k = true) {l : List Fd} (h : askM names [] l = 0) : (valuesM l k).length ≤ 1 := ask_once hk l [] h (by simp [valuesM])
theorem place_at {hs au : List (List UInt8)} (h1 : ¬ 1 < hs.length) (h2 : au.length ≤ 1) :
    ((hs ++ au).all (fun h => authM h && decide (lowM h = lowM ((hs ++ au).headD []))) = (au ++ hs).all (fun h => authM h && decide (lowM h = lowM ((au ++ hs).headD [])))) ∧
    ((au ++ hs).all (fun h => authM h && decide (lowM h = lowM ((au ++ hs).headD []))) = true → lowM ((hs ++ au).headD []) = lowM ((au ++ hs).headD [])) := by
  match hs, au, h1, h2 with
  | [], [], _, _ => exact ⟨rfl, fun _ => rfl⟩
  | [h], [], _, _ => exact ⟨rfl, fun _ => rfl⟩
  | [], [a], _, _ => exact ⟨rfl, fun _ => rfl⟩
  | [h], [a], _, _ =>
    constructor
    · rw [Bool.eq_iff_iff]
      simp
      constructor
      · rintro ⟨x, y, z⟩; exact ⟨y, x, z.symm⟩
      · rintro ⟨x, y, z⟩; exact ⟨y, x, z.symm⟩
    · intro hh; simp at hh; simp [hh]
  | _ :: _ :: _, _, h, _ => exact absurd (by simp) h
  | _, _ :: _ :: _, _, h => simp at h
theorem place_eq {l : List Fd} (h : askM names4 [] l = 0) : placeE (valuesM l kH) (saidM l) = placeM l ∧ (placeM l = 0 → placeS (valuesM l kH) (saidM l) = lowM ((allM l).headD [])) := by
  have hA : (lk kA (saidM l)).toList = valuesM l kA := by
    rw [lk_said (by decide)]
    have := ask_le (k := kA) (by decide) h
    match valuesM l kA, this with
    | [], _ => rfl
    | [a], _ => rfl
    | _ :: _ :: _, h => simp at h
  have hn : ∀ au hs : List (List UInt8), (hs ++ au = []) ↔ (au ++ hs = []) := fun au hs => by
    rw [List.append_eq_nil_iff, List.append_eq_nil_iff]; exact And.comm
  have hall : allM l = valuesM l kA ++ valuesM l kH := rfl
  have hlen := ask_le (k := kA) (by decide) h
  have e1 : placeE (valuesM l kH) (saidM l) = placeM l := by
    unfold placeE placeM
    rw [hA, hall]
    show (if 1 < (valuesM l kH).length then (101 : Int) else _) = if 1 < (valuesM l kH).length then 101 else _
    by_cases h1 : 1 < (valuesM l kH).length
    · rw [if_pos h1, if_pos h1]
    · rw [if_neg h1, if_neg h1, (place_at h1 hlen).1]
      by_cases h2 : valuesM l kA ++ valuesM l kH = []
      · rw [if_pos ((hn _ _).2 h2), if_pos h2]
      · rw [if_neg (fun e => h2 ((hn _ _).1 e)), if_neg h2]
  refine ⟨e1, fun h0 => ?_⟩
  unfold placeS
  rw [e1, if_pos h0, hA, hall]
  unfold placeM at h0
  change (if 1 < (valuesM l kH).length then (101 : Int) else _) = 0 at h0
  split at h0
  · cases h0
  · rename_i h1
    rw [hall] at h0
    split at h0
    · cases h0
    · split at h0
      · rename_i h3; exact (place_at h1 hlen).2 h3
      · cases h0
theorem len_rest (l : List Fd) : lenM (restM l) = lenM l := by unfold lenM; rw [rest_values (by decide)]
theorem len_noh (l : List Fd) : lenM (nohM (restM l)) = lenM l := by unfold lenM; rw [noh_values (by decide), rest_values (by decide)]
theorem host_rest (l : List Fd) : valuesM (restM l) kH = valuesM l kH := rest_values (by decide) l
theorem out_eq (l : List Fd) : ckM (nohM (restM l)) = outM l := by
  have h2 : valuesM (nohM (restM l)) kC = valuesM l kC := by rw [noh_values (by decide), rest_values (by decide)]
  have h3 : nohM (restM l) = l.filter keepM := by
    unfold nohM restM
    rw [List.filter_filter]
    congr 1
    funext f
    show _ = (!pseudoM f.n && !(decide (f.n = kH)))
    rw [Bool.and_comm]
  unfold ckM outM
  rw [h2, h3]
theorem sz_rest (l : List Fd) : szM (restM l) ≤ szM l := szM_filter _ _
theorem sz_noh (l : List Fd) : szM (nohM l) ≤ szM l := szM_filter _ _
theorem head_no {l : List Fd} (h : ((tokenM (getM l [58, 109, 101, 116, 104, 111, 100]) = false ∨ getM l [58, 109, 101, 116, 104, 111, 100] = [67, 79, 78, 78, 69, 67, 84]) ∨ (¬ getM l [58, 115, 99, 104, 101, 109, 101] = [104, 116, 116, 112] ∧ ¬ getM l [58, 115, 99, 104, 101, 109, 101] = [104, 116, 116, 112, 115])) ∨ pathM (getM l [58, 112, 97, 116, 104]) (getM l [58, 109, 101, 116, 104, 111, 100]) = false) : headM l = false := by
  unfold headM
  rcases h with ((h | h) | ⟨h, h'⟩) | h
  · simp [h]
  · simp [h]
  · simp [h, h']
  · simp [h]
theorem head_yes {l : List Fd} (h : ((tokenM (getM l [58, 109, 101, 116, 104, 111, 100]) = true ∧ ¬ getM l [58, 109, 101, 116, 104, 111, 100] = [67, 79, 78, 78, 69, 67, 84]) ∧ (getM l [58, 115, 99, 104, 101, 109, 101] = [104, 116, 116, 112] ∨ getM l [58, 115, 99, 104, 101, 109, 101] = [104, 116, 116, 112, 115])) ∧ pathM (getM l [58, 112, 97, 116, 104]) (getM l [58, 109, 101, 116, 104, 111, 100]) = true) : headM l = true := by
  obtain ⟨⟨⟨h1, h2⟩, h3⟩, h4⟩ := h
  unfold headM
  rw [h1, h4, decide_eq_false h2]
  rcases h3 with h | h <;> simp [h]
theorem getM_sz (l : List Fd) (k : List UInt8) : (getM l k).length ≤ szM l := by
  unfold getM
  cases h : valuesM l k with
  | nil => simp
  | cons a r => have := valuesM_sz (l := l) (k := k) (v := a) (by rw [h]; exact List.mem_cons_self); simp; omega
theorem said_sz {l : List Fd} {s : List UInt8} (h : lk kA (saidM l) = some s) : s.length ≤ szM l := by
  rw [lk_said (by decide)] at h
  have := valuesM_sz (l := l) (k := kA) (v := s) (List.mem_of_mem_head? h)
  omega
end Go.Proofs.YtipmegjhlkhklaaDoor
