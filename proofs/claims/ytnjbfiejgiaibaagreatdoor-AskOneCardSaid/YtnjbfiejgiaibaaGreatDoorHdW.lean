/- Layer 10: the document's Read. No condition. -/
import Derived.Test.YtnjbfiejgiaibaaGreatDoorAtToHdR
namespace Go.Proofs.YtnjbfiejgiaibaaGreatDoor
set_option linter.all false
open Go Go.RowKit
set_option maxRecDepth 10000
set_option maxHeartbeats 8000000
def outP (l : List Fd) (q : Nat) : List Fd := ckGo (joinM (valuesM l kC)) false ((l.take q).filter keepM)
theorem outP_end (l : List Fd) : outP l l.length = outM l := by unfold outP; rw [List.take_length]; rfl
theorem keep_cookie {f : Fd} (h : f.n = kC) : keepM f = true := by unfold keepM; rw [h]; decide
theorem hasC_keep : ∀ l : List Fd, hasC (l.filter keepM) = hasC l
  | [] => rfl
  | f :: l => by
    have ih := hasC_keep l
    by_cases h : keepM f = true
    · rw [List.filter_cons_of_pos h, show f :: l.filter keepM = [f] ++ l.filter keepM from rfl, show f :: l = [f] ++ l from rfl, hasC_app, hasC_app, ih]
    · have hn : ¬ f.n = kC := fun e => h (keep_cookie e)
      rw [List.filter_cons_of_neg h, show f :: l = [f] ++ l from rfl, hasC_app, hasC_one, decide_eq_false hn, ih]; rfl
theorem outP_succ {l : List Fd} {q : Nat} (h : q < l.length) : outP l (q + 1) = outP l q ++ (if keepM l[q] = true then ckGo (joinM (valuesM l kC)) (hasC (l.take q)) [l[q]] else []) := by
  unfold outP
  rw [take_succ' h, List.filter_append, ckGo_app, hasC_keep, Bool.false_or]
  by_cases hk : keepM l[q] = true
  · rw [if_pos hk, List.filter_cons_of_pos hk]; rfl
  · rw [if_neg hk, List.filter_cons_of_neg hk]; rfl
theorem outP_skip {l : List Fd} {q : Nat} (h : q < l.length) (hs : (pseudoM (l[q]).n = true ∨ (l[q]).n = kH) ∨ ((l[q]).n = kC ∧ hasC (l.take q) = true)) : outP l (q + 1) = outP l q ∧ hasC (l.take (q + 1)) = hasC (l.take q) := by
  rw [outP_succ h, take_succ' h, hasC_app, hasC_one]
  rcases hs with (hp | hp) | ⟨hc, hm⟩
  · have hk : ¬ keepM l[q] = true := by unfold keepM; rw [hp]; simp
    have hn : ¬ (l[q]).n = kC := fun e => hk (keep_cookie e)
    rw [if_neg hk, decide_eq_false hn, List.append_nil, Bool.or_false]; exact ⟨rfl, rfl⟩
  · have hk : ¬ keepM l[q] = true := by unfold keepM; change ¬ (!pseudoM (l[q]).n && !(decide ((l[q]).n = kH))) = true; rw [hp]; simp
    have hn : ¬ (l[q]).n = kC := fun e => hk (keep_cookie e)
    rw [if_neg hk, decide_eq_false hn, List.append_nil, Bool.or_false]; exact ⟨rfl, rfl⟩
  · rw [if_pos (keep_cookie hc), hm, ckGo_true, ncM]; simp [hc]
theorem outP_plain {l : List Fd} {q : Nat} (h : q < l.length) (hp : pseudoM (l[q]).n = false) (hh : ¬ (l[q]).n = kH) (hc : ¬ (l[q]).n = kC) : outP l (q + 1) = outP l q ++ [l[q]] ∧ hasC (l.take (q + 1)) = hasC (l.take q) := by
  have hk : keepM l[q] = true := by unfold keepM; change (!pseudoM (l[q]).n && !(decide ((l[q]).n = kH))) = true; rw [hp, decide_eq_false hh]; rfl
  rw [outP_succ h, take_succ' h, hasC_app, hasC_one, if_pos hk, decide_eq_false hc, Bool.or_false]
  exact ⟨by simp [ckGo, hc], rfl⟩
theorem outP_first {l : List Fd} {q : Nat} (h : q < l.length) (hc : (l[q]).n = kC) (hm : hasC (l.take q) = false) : outP l (q + 1) = outP l q ++ [⟨(l[q]).n, joinM (valuesM l kC), (l[q]).s⟩] ∧ hasC (l.take (q + 1)) = true := by
  rw [outP_succ h, take_succ' h, hasC_app, hasC_one, if_pos (keep_cookie hc), hm, decide_eq_true hc]
  exact ⟨by simp [ckGo, hc], rfl⟩
theorem outP_le (l : List Fd) (q : Nat) : (outP l q).length ≤ q := by
  unfold outP
  exact Nat.le_trans (ckGo_le _ _ _) (Nat.le_trans (List.length_filter_le _ _) (take_le' l q))
theorem head_bad {l : List Fd} (h : ((((((valuesM l [58, 109, 101, 116, 104, 111, 100]).length = 0 ∨ (valuesM l [58, 115, 99, 104, 101, 109, 101]).length = 0) ∨ (valuesM l [58, 112, 97, 116, 104]).length = 0) ∨ tokenM (getM l [58, 109, 101, 116, 104, 111, 100]) = false) ∨ getM l [58, 109, 101, 116, 104, 111, 100] = [67, 79, 78, 78, 69, 67, 84]) ∨ (¬ getM l [58, 115, 99, 104, 101, 109, 101] = [104, 116, 116, 112] ∧ ¬ getM l [58, 115, 99, 104, 101, 109, 101] = [104, 116, 116, 112, 115])) ∨ pathM (getM l [58, 112, 97, 116, 104]) (getM l [58, 109, 101, 116, 104, 111, 100]) = false) : headM l = false := by
  rcases h with (((((h | h) | h) | h) | h) | h) | h
  · exact head_no (.inl (.inl (.inl (by rw [get_nil (by omega)]; rfl))))
  · exact head_no (.inl (.inr (by rw [get_nil (k := [58, 115, 99, 104, 101, 109, 101]) (by omega)]; decide)))
  · exact head_no (.inr (by rw [get_nil (k := [58, 112, 97, 116, 104]) (by omega)]; rfl))
  · exact head_no (.inl (.inl (.inl h)))
  · exact head_no (.inl (.inl (.inr h)))
  · exact head_no (.inl (.inr h))
  · exact head_no (.inr h)
def lastS (s : List (List UInt8)) : List UInt8 := (s[s.length - 1]?).getD []
theorem two_all {s : List (List UInt8)} (h : s.length ≤ 2) (h0 : ¬ s = []) : s.all (fun h => authM h && decide (lowM h = lowM (s.headD []))) = (authM (s.headD []) && authM (lastS s) && decide (lowM (s.headD []) = lowM (lastS s))) := by
  match s, h, h0 with
  | [a], _, _ => simp [lastS]
  | [a, b], _, _ =>
    rw [Bool.eq_iff_iff]
    simp [lastS]
    constructor <;> intro h <;> simp_all
  | _ :: _ :: _ :: _, h, _ => simp at h
theorem placeM_many {l : List Fd} (h : 1 < (valuesM l kH).length) : placeM l = 101 := by unfold placeM; exact if_pos h
theorem placeM_no {l : List Fd} (h0 : askM names4 [] l = 0) (h : ¬ 1 < (valuesM l kH).length) (hc : (((allM l).length = 0 ∨ authM ((allM l).headD []) = false) ∨ authM (lastS (allM l)) = false) ∨ ¬ lowM ((allM l).headD []) = lowM (lastS (allM l))) : placeM l = 100 := by
  have hk := ask_le (k := kA) (by decide) h0
  have hl : (allM l).length ≤ 2 := by show (valuesM l kA ++ valuesM l kH).length ≤ 2; rw [List.length_append]; omega
  unfold placeM
  change (if 1 < (valuesM l kH).length then (101 : Int) else _) = 100
  rw [if_neg h]
  by_cases hn : allM l = []
  · rw [if_pos hn]
  · rw [if_neg hn, two_all hl hn, if_neg]
    rcases hc with ((hc | hc) | hc) | hc
    · exact absurd (List.length_eq_zero_iff.1 hc) hn
    · rw [hc]; simp
    · rw [hc]; simp
    · rw [decide_eq_false hc]; simp
theorem placeM_yes {l : List Fd} (h0 : askM names4 [] l = 0) (h : ¬ 1 < (valuesM l kH).length) (hn : ¬ allM l = []) (h1 : authM ((allM l).headD []) = true) (h2 : authM (lastS (allM l)) = true) (h3 : lowM ((allM l).headD []) = lowM (lastS (allM l))) : placeM l = 0 := by
  have hk := ask_le (k := kA) (by decide) h0
  have hl : (allM l).length ≤ 2 := by show (valuesM l kA ++ valuesM l kH).length ≤ 2; rw [List.length_append]; omega
  unfold placeM
  change (if 1 < (valuesM l kH).length then (101 : Int) else _) = 0
  rw [if_neg h, if_neg hn, two_all hl hn, h1, h2, decide_eq_true h3]; rfl
end Go.Proofs.YtnjbfiejgiaibaaGreatDoor
