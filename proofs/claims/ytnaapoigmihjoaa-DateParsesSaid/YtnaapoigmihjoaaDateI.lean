/- Layer 12 in plain Lean: a text that is read as a date is that date's text. Printed by gen_inv.py. No program. No condition. -/
import Derived.Test.YtnaapoigmihjoaaDateL
namespace Go.Proofs.Ytnaapoigmihjoaa
set_option linter.all false
open Go Go.RowKit

theorem word_inv {p : PS} {s : List UInt8} (h : (wordP p s).bad = false) : p.bad = false ∧ p.left = s ++ (wordP p s).left := by
  have h2 : (p.bad || !Lib.hasPrefix p.left s) = false := h
  rw [Bool.or_eq_false_iff] at h2
  have h3 : Lib.hasPrefix p.left s = true := by simpa using h2.2
  refine ⟨h2.1, ?_⟩
  show p.left = s ++ Lib.trimPrefix p.left s
  unfold Lib.trimPrefix
  rw [if_pos h3]
  unfold Lib.hasPrefix at h3
  rw [List.isPrefixOf_iff_prefix] at h3
  obtain ⟨t, ht⟩ := h3
  rw [← ht]; simp
theorem digs_inv {p : PS} {n : Nat} (h : (digitsP p n).bad = false) : p.bad = false ∧ p.left = p.left.take n ++ (digitsP p n).left ∧ digitsV p n = valD (p.left.take n) ∧ (p.left.take n).length = n ∧ (p.left.take n).all isDg = true := by
  unfold digitsP at h ⊢
  unfold digitsV
  by_cases ok : digsOk p n = true
  · rw [if_pos ok] at h ⊢
    rw [if_pos ok]
    unfold digsOk at ok
    rw [Bool.and_eq_true] at ok
    exact ⟨h, (List.take_append_drop n p.left).symm, rfl, by rw [List.length_take]; have := of_decide_eq_true ok.1; omega, ok.2⟩
  · rw [if_neg ok] at h; simp at h
theorem two_inv {p : PS} (h : (digitsP p 2).bad = false) : p.bad = false ∧ p.left = twoM (digitsV p 2) ++ (digitsP p 2).left ∧ 0 ≤ digitsV p 2 ∧ digitsV p 2 ≤ 99 := by
  obtain ⟨a, b, c, d, e⟩ := digs_inv h
  have t := two_back _ d e
  rw [← c] at t
  exact ⟨a, by rw [← t.1]; exact b, t.2⟩
theorem four_inv {p : PS} (h : (digitsP p 4).bad = false) : p.bad = false ∧ p.left = (twoM (digitsV p 4 / 100) ++ twoM (digitsV p 4)) ++ (digitsP p 4).left ∧ 0 ≤ digitsV p 4 ∧ digitsV p 4 ≤ 9999 := by
  obtain ⟨a, b, c, d, e⟩ := digs_inv h
  have t := four_back _ d e
  rw [← c] at t
  exact ⟨a, by rw [← t.1]; exact b, t.2⟩
theorem one_inv {p : PS} (h : (digitsP p 1).bad = false) : p.bad = false ∧ p.left = [dg (digitsV p 1 % 10)] ++ (digitsP p 1).left ∧ 0 ≤ digitsV p 1 ∧ digitsV p 1 ≤ 9 := by
  obtain ⟨a, b, c, d, e⟩ := digs_inv h
  have t := one_back _ d e
  rw [← c] at t
  exact ⟨a, by rw [← t.1]; exact b, t.2⟩
theorem name_inv {p : PS} {all : List UInt8} (h : (nameP p all).bad = false) : p.bad = false ∧ p.left = three all (nameV p all) ++ (nameP p all).left := by
  unfold nameP at h ⊢
  unfold nameV
  cases ho : nameO p all with
  | none => rw [ho] at h; simp at h
  | some k =>
    rw [ho] at h
    refine ⟨h, ?_⟩
    unfold nameO at ho
    split at ho
    · rename_i h3
      unfold nameI at ho
      rw [List.find?_range_eq_some] at ho
      have he : (all.drop (3 * k)).take 3 = p.left.take 3 := by simpa using ho.1
      unfold three
      show p.left = (all.drop (3 * (k : Int)).toNat).take 3 ++ p.left.drop 3
      rw [show (3 * (k : Int)).toNat = 3 * k by omega, he, List.take_append_drop]
    · cases ho
theorem day_inv {p : PS} (h : (nameP p daysL).bad = false) : p.bad = false ∧ p.left = dayN (nameV p daysL) ++ (nameP p daysL).left ∧ 0 ≤ nameV p daysL ∧ nameV p daysL ≤ 6 :=
  have b := nameV_bd p daysL 7 rfl (by omega)
  ⟨(name_inv h).1, (name_inv h).2, b.1, b.2⟩
theorem mon_inv {p : PS} (h : (nameP p monthsL).bad = false) : p.bad = false ∧ p.left = monN (nameV p monthsL) ++ (nameP p monthsL).left ∧ 0 ≤ nameV p monthsL ∧ nameV p monthsL ≤ 11 :=
  have b := nameV_bd p monthsL 12 rfl (by omega)
  ⟨(name_inv h).1, (name_inv h).2, b.1, b.2⟩
theorem digs_week (p : PS) (n : Nat) : (digitsP p n).week = p.week := by unfold digitsP; split <;> rfl
theorem name_week (p : PS) (a : List UInt8) : (nameP p a).week = p.week := by unfold nameP; split <;> rfl
theorem digs_year (p : PS) (n : Nat) : (digitsP p n).year = p.year := by unfold digitsP; split <;> rfl
theorem name_year (p : PS) (a : List UInt8) : (nameP p a).year = p.year := by unfold nameP; split <;> rfl
theorem digs_month (p : PS) (n : Nat) : (digitsP p n).month = p.month := by unfold digitsP; split <;> rfl
theorem name_month (p : PS) (a : List UInt8) : (nameP p a).month = p.month := by unfold nameP; split <;> rfl
theorem digs_day (p : PS) (n : Nat) : (digitsP p n).day = p.day := by unfold digitsP; split <;> rfl
theorem name_day (p : PS) (a : List UInt8) : (nameP p a).day = p.day := by unfold nameP; split <;> rfl
theorem digs_hour (p : PS) (n : Nat) : (digitsP p n).hour = p.hour := by unfold digitsP; split <;> rfl
theorem name_hour (p : PS) (a : List UInt8) : (nameP p a).hour = p.hour := by unfold nameP; split <;> rfl
theorem digs_minute (p : PS) (n : Nat) : (digitsP p n).minute = p.minute := by unfold digitsP; split <;> rfl
theorem name_minute (p : PS) (a : List UInt8) : (nameP p a).minute = p.minute := by unfold nameP; split <;> rfl
theorem digs_sec (p : PS) (n : Nat) : (digitsP p n).sec = p.sec := by unfold digitsP; split <;> rfl
theorem name_sec (p : PS) (a : List UInt8) : (nameP p a).sec = p.sec := by unfold nameP; split <;> rfl
theorem clock_week (p : PS) : (clockP p).week = p.week := by
  unfold clockP; simp only [digs_week, wordP]
theorem clock_year (p : PS) : (clockP p).year = p.year := by
  unfold clockP; simp only [digs_year, wordP]
theorem clock_month (p : PS) : (clockP p).month = p.month := by
  unfold clockP; simp only [digs_month, wordP]
theorem clock_day (p : PS) : (clockP p).day = p.day := by
  unfold clockP; simp only [digs_day, wordP]
theorem clock_inv {p : PS} (h : (clockP p).bad = false) : p.bad = false ∧ p.left = clockM (clockP p).hour (clockP p).minute (clockP p).sec ++ (clockP p).left ∧ 0 ≤ (clockP p).hour ∧ (clockP p).hour ≤ 99 ∧ 0 ≤ (clockP p).minute ∧ (clockP p).minute ≤ 99 ∧ 0 ≤ (clockP p).sec ∧ (clockP p).sec ≤ 99 := by
  obtain ⟨q1, e1⟩ : ∃ q, q = digitsP p 2 := ⟨_, rfl⟩
  obtain ⟨q2, e2⟩ : ∃ q, q = wordP ({ q1 with hour := digitsV p 2 } : PS) [58] := ⟨_, rfl⟩
  obtain ⟨q3, e3⟩ : ∃ q, q = digitsP q2 2 := ⟨_, rfl⟩
  obtain ⟨q4, e4⟩ : ∃ q, q = wordP ({ q3 with minute := digitsV q2 2 } : PS) [58] := ⟨_, rfl⟩
  obtain ⟨q5, e5⟩ : ∃ q, q = digitsP q4 2 := ⟨_, rfl⟩
  have e : clockP p = ({ q5 with sec := digitsV q4 2 } : PS) := by subst e5 e4 e3 e2 e1; rfl
  rw [e] at h ⊢
  have h5 := two_inv (p := q4) (by rw [← e5]; exact h)
  have h4 := word_inv (p := { q3 with minute := digitsV q2 2 }) (s := [58]) (by rw [← e4]; exact h5.1)
  have h3 := two_inv (p := q2) (by rw [← e3]; exact h4.1)
  have h2 := word_inv (p := { q1 with hour := digitsV p 2 }) (s := [58]) (by rw [← e2]; exact h3.1)
  have h1 := two_inv (p := p) (by rw [← e1]; exact h2.1)
  rw [← e5] at h5
  rw [← e4] at h4
  rw [← e3] at h3
  rw [← e2] at h2
  rw [← e1] at h1
  have l4 : q3.left = [58] ++ q4.left := h4.2
  have l2 : q1.left = [58] ++ q2.left := h2.2
  have fh : q5.hour = digitsV p 2 := by rw [e5, digs_hour, e4]; show q3.hour = _; rw [e3, digs_hour, e2]; rfl
  have fm : q5.minute = digitsV q2 2 := by rw [e5, digs_minute, e4]; rfl
  show p.bad = false ∧ p.left = clockM q5.hour q5.minute (digitsV q4 2) ++ q5.left ∧ 0 ≤ q5.hour ∧ q5.hour ≤ 99 ∧ 0 ≤ q5.minute ∧ q5.minute ≤ 99 ∧ 0 ≤ digitsV q4 2 ∧ digitsV q4 2 ≤ 99
  rw [fh, fm]
  refine ⟨h1.1, ?_, h1.2.2.1, h1.2.2.2, h3.2.2.1, h3.2.2.2, h5.2.2.1, h5.2.2.2⟩
  rw [h1.2.1, l2, h3.2.1, l4, h5.2.1]
  simp only [clockM, List.append_assoc]
theorem oldW_inv {a : PS} (h : (oldW a).bad = false) : a.bad = false ∧ a.left = (longN a.week).drop 3 ++ (oldW a).left := by
  unfold oldW at h ⊢
  by_cases hb : a.bad = true
  · rw [if_pos hb] at h; rw [hb] at h; cases h
  · rw [if_neg hb] at h ⊢; exact word_inv h
theorem bareD_inv {d : PS} (h : (bareD d).bad = false) : d.bad = false ∧ d.left = lowM (bareD d).day ++ (bareD d).left ∧ 0 ≤ (bareD d).day ∧ (bareD d).day ≤ 99 := by
  unfold bareD at h ⊢
  by_cases hb : Lib.hasPrefix d.left [32] = true
  · rw [if_pos hb] at h ⊢
    have h1 := one_inv (p := wordP d [32]) h
    have h2 := word_inv h1.1
    refine ⟨h2.1, ?_, h1.2.2.1, Int.le_trans h1.2.2.2 (by omega)⟩
    show d.left = lowM (digitsV (wordP d [32]) 1) ++ (digitsP (wordP d [32]) 1).left
    have := h1.2.2.2
    unfold lowM
    rw [if_pos (by omega), h2.2, h1.2.1]; rfl
  · rw [if_neg hb] at h ⊢
    have h0 : ((digitsP d 2).bad || decide (digitsV d 2 < 10)) = false := h
    rw [Bool.or_eq_false_iff] at h0
    have h1 := two_inv h0.1
    have hge : ¬ digitsV d 2 < 10 := of_decide_eq_false h0.2
    refine ⟨h1.1, ?_, h1.2.2.1, h1.2.2.2⟩
    show d.left = lowM (digitsV d 2) ++ (digitsP d 2).left
    unfold lowM
    rw [if_neg hge]; exact h1.2.1
theorem bareD_week (d : PS) : (bareD d).week = d.week := by unfold bareD; split <;> simp only [digs_week, wordP]
theorem bareD_month (d : PS) : (bareD d).month = d.month := by unfold bareD; split <;> simp only [digs_month, wordP]
theorem oldW_week (d : PS) : (oldW d).week = d.week := by unfold oldW; split <;> rfl

theorem own_inv (p : PS) (h : (ownP p).bad = false) : p.left = ownT (ownP p).week (ownP p).day (ownP p).month (ownP p).year (ownP p).hour (ownP p).minute (ownP p).sec ++ (ownP p).left ∧ 0 ≤ (ownP p).week ∧ (ownP p).week ≤ 6 ∧ 0 ≤ (ownP p).month ∧ (ownP p).month ≤ 11 ∧ 0 ≤ (ownP p).day ∧ (ownP p).day ≤ 99 ∧ 0 ≤ (ownP p).hour ∧ (ownP p).hour ≤ 99 ∧ 0 ≤ (ownP p).minute ∧ (ownP p).minute ≤ 99 ∧ 0 ≤ (ownP p).sec ∧ (ownP p).sec ≤ 99 ∧ 0 ≤ (ownP p).year ∧ (ownP p).year ≤ 9999 := by
  obtain ⟨q1, e1⟩ : ∃ q, q = nameP p daysL := ⟨_, rfl⟩
  obtain ⟨q2, e2⟩ : ∃ q, q = wordP ({ q1 with week := nameV p daysL } : PS) [44, 32] := ⟨_, rfl⟩
  obtain ⟨q3, e3⟩ : ∃ q, q = digitsP q2 2 := ⟨_, rfl⟩
  obtain ⟨q4, e4⟩ : ∃ q, q = wordP ({ q3 with day := digitsV q2 2 } : PS) [32] := ⟨_, rfl⟩
  obtain ⟨q5, e5⟩ : ∃ q, q = nameP q4 monthsL := ⟨_, rfl⟩
  obtain ⟨q6, e6⟩ : ∃ q, q = wordP ({ q5 with month := nameV q4 monthsL } : PS) [32] := ⟨_, rfl⟩
  obtain ⟨q7, e7⟩ : ∃ q, q = digitsP q6 4 := ⟨_, rfl⟩
  obtain ⟨q8, e8⟩ : ∃ q, q = wordP ({ q7 with year := digitsV q6 4 } : PS) [32] := ⟨_, rfl⟩
  obtain ⟨q9, e9⟩ : ∃ q, q = clockP q8 := ⟨_, rfl⟩
  obtain ⟨q10, e10⟩ : ∃ q, q = wordP q9 [32, 71, 77, 84] := ⟨_, rfl⟩
  have e : ownP p = q10 := by subst e10 e9 e8 e7 e6 e5 e4 e3 e2 e1; rfl
  rw [e] at h ⊢
  have h10 := word_inv (p := q9) (s := [32, 71, 77, 84]) (by rw [← e10]; exact h)
  have h9 := clock_inv (p := q8) (by rw [← e9]; exact h10.1)
  have h8 := word_inv (p := ({ q7 with year := digitsV q6 4 } : PS)) (s := [32]) (by rw [← e8]; exact h9.1)
  have h7 := four_inv (p := q6) (by rw [← e7]; exact h8.1)
  have h6 := word_inv (p := ({ q5 with month := nameV q4 monthsL } : PS)) (s := [32]) (by rw [← e6]; exact h7.1)
  have h5 := mon_inv (p := q4) (by rw [← e5]; exact h6.1)
  have h4 := word_inv (p := ({ q3 with day := digitsV q2 2 } : PS)) (s := [32]) (by rw [← e4]; exact h5.1)
  have h3 := two_inv (p := q2) (by rw [← e3]; exact h4.1)
  have h2 := word_inv (p := ({ q1 with week := nameV p daysL } : PS)) (s := [44, 32]) (by rw [← e2]; exact h3.1)
  have h1 := day_inv (p := p) (by rw [← e1]; exact h2.1)
  rw [← e10] at h10
  rw [← e9] at h9
  rw [← e8] at h8
  rw [← e7] at h7
  rw [← e6] at h6
  rw [← e5] at h5
  rw [← e4] at h4
  rw [← e3] at h3
  rw [← e2] at h2
  rw [← e1] at h1
  have l1 : p.left = dayN (nameV p daysL) ++ q1.left := h1.2.1
  have l2 : q1.left = [44, 32] ++ q2.left := h2.2
  have l3 : q2.left = twoM (digitsV q2 2) ++ q3.left := h3.2.1
  have l4 : q3.left = [32] ++ q4.left := h4.2
  have l5 : q4.left = monN (nameV q4 monthsL) ++ q5.left := h5.2.1
  have l6 : q5.left = [32] ++ q6.left := h6.2
  have l7 : q6.left = (twoM ((digitsV q6 4) / 100) ++ twoM (digitsV q6 4)) ++ q7.left := h7.2.1
  have l8 : q7.left = [32] ++ q8.left := h8.2
  have l9 : q8.left = clockM q9.hour q9.minute q9.sec ++ q9.left := h9.2.1
  have l10 : q9.left = [32, 71, 77, 84] ++ q10.left := h10.2
  have f_week : (q10).week = nameV p daysL := by
    show (q10).week = _
    rw [e10]
    show (q9).week = _
    rw [e9]
    rw [clock_week]
    show (q8).week = _
    rw [e8]
    show (q7).week = _
    rw [e7]
    rw [digs_week]
    show (q6).week = _
    rw [e6]
    show (q5).week = _
    rw [e5]
    rw [name_week]
    show (q4).week = _
    rw [e4]
    show (q3).week = _
    rw [e3]
    rw [digs_week]
    show (q2).week = _
    rw [e2]
    all_goals rfl
  have f_month : (q10).month = nameV q4 monthsL := by
    show (q10).month = _
    rw [e10]
    show (q9).month = _
    rw [e9]
    rw [clock_month]
    show (q8).month = _
    rw [e8]
    show (q7).month = _
    rw [e7]
    rw [digs_month]
    show (q6).month = _
    rw [e6]
    all_goals rfl
  have f_day : (q10).day = digitsV q2 2 := by
    show (q10).day = _
    rw [e10]
    show (q9).day = _
    rw [e9]
    rw [clock_day]
    show (q8).day = _
    rw [e8]
    show (q7).day = _
    rw [e7]
    rw [digs_day]
    show (q6).day = _
    rw [e6]
    show (q5).day = _
    rw [e5]
    rw [name_day]
    show (q4).day = _
    rw [e4]
    all_goals rfl
  have f_year : (q10).year = digitsV q6 4 := by
    show (q10).year = _
    rw [e10]
    show (q9).year = _
    rw [e9]
    rw [clock_year]
    show (q8).year = _
    rw [e8]
    all_goals rfl
  have f_hour : (q10).hour = q9.hour := by
    show (q10).hour = _
    rw [e10]
    all_goals rfl
  have f_minute : (q10).minute = q9.minute := by
    show (q10).minute = _
    rw [e10]
    all_goals rfl
  have f_sec : (q10).sec = q9.sec := by
    show (q10).sec = _
    rw [e10]
    all_goals rfl
  rw [f_week, f_month, f_day, f_year, f_hour, f_minute, f_sec]
  refine ⟨?_, h1.2.2.1, h1.2.2.2, h5.2.2.1, h5.2.2.2, h3.2.2.1, h3.2.2.2, h9.2.2.1, h9.2.2.2.1, h9.2.2.2.2.1, h9.2.2.2.2.2.1, h9.2.2.2.2.2.2.1, h9.2.2.2.2.2.2.2, h7.2.2.1, h7.2.2.2⟩
  rw [l1, l2, l3, l4, l5, l6, l7, l8, l9, l10]
  simp only [ownT, gmt, List.append_assoc]
theorem old_inv (p : PS) (now : Int) (n0 : 1970 ≤ now) (n1 : now ≤ 9999) (h : (oldP p now).bad = false) : p.left = old7 ⟨(oldP p now).year, (oldP p now).month, (oldP p now).day, (oldP p now).hour, (oldP p now).minute, (oldP p now).sec, (oldP p now).week⟩ ++ (oldP p now).left ∧ 0 ≤ (oldP p now).week ∧ (oldP p now).week ≤ 6 ∧ 0 ≤ (oldP p now).month ∧ (oldP p now).month ≤ 11 ∧ 0 ≤ (oldP p now).day ∧ (oldP p now).day ≤ 99 ∧ 0 ≤ (oldP p now).hour ∧ (oldP p now).hour ≤ 99 ∧ 0 ≤ (oldP p now).minute ∧ (oldP p now).minute ≤ 99 ∧ 0 ≤ (oldP p now).sec ∧ (oldP p now).sec ≤ 99 ∧ 0 ≤ (oldP p now).year ∧ (oldP p now).year ≤ 9999 ∧ (oldP p now).year = yearO now ((oldP p now).year % 100) := by
  obtain ⟨q1, e1⟩ : ∃ q, q = nameP p daysL := ⟨_, rfl⟩
  obtain ⟨q2, e2⟩ : ∃ q, q = oldW ({ q1 with week := nameV p daysL } : PS) := ⟨_, rfl⟩
  obtain ⟨q3, e3⟩ : ∃ q, q = wordP q2 [44, 32] := ⟨_, rfl⟩
  obtain ⟨q4, e4⟩ : ∃ q, q = digitsP q3 2 := ⟨_, rfl⟩
  obtain ⟨q5, e5⟩ : ∃ q, q = wordP ({ q4 with day := digitsV q3 2 } : PS) [45] := ⟨_, rfl⟩
  obtain ⟨q6, e6⟩ : ∃ q, q = nameP q5 monthsL := ⟨_, rfl⟩
  obtain ⟨q7, e7⟩ : ∃ q, q = wordP ({ q6 with month := nameV q5 monthsL } : PS) [45] := ⟨_, rfl⟩
  obtain ⟨q8, e8⟩ : ∃ q, q = digitsP q7 2 := ⟨_, rfl⟩
  obtain ⟨q9, e9⟩ : ∃ q, q = wordP ({ q8 with year := yearO now (digitsV q7 2) } : PS) [32] := ⟨_, rfl⟩
  obtain ⟨q10, e10⟩ : ∃ q, q = clockP q9 := ⟨_, rfl⟩
  obtain ⟨q11, e11⟩ : ∃ q, q = wordP q10 [32, 71, 77, 84] := ⟨_, rfl⟩
  have e : oldP p now = q11 := by subst e11 e10 e9 e8 e7 e6 e5 e4 e3 e2 e1; rfl
  rw [e] at h ⊢
  have h11 := word_inv (p := q10) (s := [32, 71, 77, 84]) (by rw [← e11]; exact h)
  have h10 := clock_inv (p := q9) (by rw [← e10]; exact h11.1)
  have h9 := word_inv (p := ({ q8 with year := yearO now (digitsV q7 2) } : PS)) (s := [32]) (by rw [← e9]; exact h10.1)
  have h8 := two_inv (p := q7) (by rw [← e8]; exact h9.1)
  have h7 := word_inv (p := ({ q6 with month := nameV q5 monthsL } : PS)) (s := [45]) (by rw [← e7]; exact h8.1)
  have h6 := mon_inv (p := q5) (by rw [← e6]; exact h7.1)
  have h5 := word_inv (p := ({ q4 with day := digitsV q3 2 } : PS)) (s := [45]) (by rw [← e5]; exact h6.1)
  have h4 := two_inv (p := q3) (by rw [← e4]; exact h5.1)
  have h3 := word_inv (p := q2) (s := [44, 32]) (by rw [← e3]; exact h4.1)
  have h2 := oldW_inv (a := ({ q1 with week := nameV p daysL } : PS)) (by rw [← e2]; exact h3.1)
  have h1 := day_inv (p := p) (by rw [← e1]; exact h2.1)
  rw [← e11] at h11
  rw [← e10] at h10
  rw [← e9] at h9
  rw [← e8] at h8
  rw [← e7] at h7
  rw [← e6] at h6
  rw [← e5] at h5
  rw [← e4] at h4
  rw [← e3] at h3
  rw [← e2] at h2
  rw [← e1] at h1
  have l1 : p.left = dayN (nameV p daysL) ++ q1.left := h1.2.1
  have l2 : q1.left = (longN (({ q1 with week := nameV p daysL } : PS)).week).drop 3 ++ q2.left := h2.2
  have l3 : q2.left = [44, 32] ++ q3.left := h3.2
  have l4 : q3.left = twoM (digitsV q3 2) ++ q4.left := h4.2.1
  have l5 : q4.left = [45] ++ q5.left := h5.2
  have l6 : q5.left = monN (nameV q5 monthsL) ++ q6.left := h6.2.1
  have l7 : q6.left = [45] ++ q7.left := h7.2
  have l8 : q7.left = twoM (digitsV q7 2) ++ q8.left := h8.2.1
  have l9 : q8.left = [32] ++ q9.left := h9.2
  have l10 : q9.left = clockM q10.hour q10.minute q10.sec ++ q10.left := h10.2.1
  have l11 : q10.left = [32, 71, 77, 84] ++ q11.left := h11.2
  have f_week : (q11).week = nameV p daysL := by
    show (q11).week = _
    rw [e11]
    show (q10).week = _
    rw [e10]
    rw [clock_week]
    show (q9).week = _
    rw [e9]
    show (q8).week = _
    rw [e8]
    rw [digs_week]
    show (q7).week = _
    rw [e7]
    show (q6).week = _
    rw [e6]
    rw [name_week]
    show (q5).week = _
    rw [e5]
    show (q4).week = _
    rw [e4]
    rw [digs_week]
    show (q3).week = _
    rw [e3]
    show (q2).week = _
    rw [e2]
    rw [oldW_week]
    all_goals rfl
  have f_month : (q11).month = nameV q5 monthsL := by
    show (q11).month = _
    rw [e11]
    show (q10).month = _
    rw [e10]
    rw [clock_month]
    show (q9).month = _
    rw [e9]
    show (q8).month = _
    rw [e8]
    rw [digs_month]
    show (q7).month = _
    rw [e7]
    all_goals rfl
  have f_day : (q11).day = digitsV q3 2 := by
    show (q11).day = _
    rw [e11]
    show (q10).day = _
    rw [e10]
    rw [clock_day]
    show (q9).day = _
    rw [e9]
    show (q8).day = _
    rw [e8]
    rw [digs_day]
    show (q7).day = _
    rw [e7]
    show (q6).day = _
    rw [e6]
    rw [name_day]
    show (q5).day = _
    rw [e5]
    all_goals rfl
  have f_year : (q11).year = yearO now (digitsV q7 2) := by
    show (q11).year = _
    rw [e11]
    show (q10).year = _
    rw [e10]
    rw [clock_year]
    show (q9).year = _
    rw [e9]
    all_goals rfl
  have f_hour : (q11).hour = q10.hour := by
    show (q11).hour = _
    rw [e11]
    all_goals rfl
  have f_minute : (q11).minute = q10.minute := by
    show (q11).minute = _
    rw [e11]
    all_goals rfl
  have f_sec : (q11).sec = q10.sec := by
    show (q11).sec = _
    rw [e11]
    all_goals rfl
  rw [f_week, f_month, f_day, f_year, f_hour, f_minute, f_sec]
  have hy := h8.2.2
  obtain ⟨v, hv⟩ : ∃ v, v = digitsV q7 2 := ⟨_, rfl⟩
  rw [← hv] at hy l8 ⊢
  have hm : yearO now v % 100 = v ∧ 0 ≤ yearO now v ∧ yearO now v ≤ 9999 := by unfold yearO; split <;> omega
  refine ⟨?_, h1.2.2.1, h1.2.2.2, h6.2.2.1, h6.2.2.2, h4.2.2.1, h4.2.2.2, h10.2.2.1, h10.2.2.2.1, h10.2.2.2.2.1, h10.2.2.2.2.2.1, h10.2.2.2.2.2.2.1, h10.2.2.2.2.2.2.2, hm.2.1, hm.2.2, by rw [hm.1]⟩
  unfold old7
  show p.left = longN (nameV p daysL) ++ _ ++ twoM (digitsV q3 2) ++ _ ++ monN (nameV q5 monthsL) ++ _ ++ twoM (yearO now v % 100) ++ _ ++ clockM q10.hour q10.minute q10.sec ++ _ ++ _
  rw [hm.1, long_split _ h1.2.2.1 h1.2.2.2, l1, l2, l3, l4, l5, l6, l7, l8, l9, l10, l11]
  simp only [gmt, List.append_assoc]
theorem bare_inv (p : PS) (h : (bareP p).bad = false) : p.left = bare7 ⟨(bareP p).year, (bareP p).month, (bareP p).day, (bareP p).hour, (bareP p).minute, (bareP p).sec, (bareP p).week⟩ ++ (bareP p).left ∧ 0 ≤ (bareP p).week ∧ (bareP p).week ≤ 6 ∧ 0 ≤ (bareP p).month ∧ (bareP p).month ≤ 11 ∧ 0 ≤ (bareP p).day ∧ (bareP p).day ≤ 99 ∧ 0 ≤ (bareP p).hour ∧ (bareP p).hour ≤ 99 ∧ 0 ≤ (bareP p).minute ∧ (bareP p).minute ≤ 99 ∧ 0 ≤ (bareP p).sec ∧ (bareP p).sec ≤ 99 ∧ 0 ≤ (bareP p).year ∧ (bareP p).year ≤ 9999 := by
  obtain ⟨q1, e1⟩ : ∃ q, q = nameP p daysL := ⟨_, rfl⟩
  obtain ⟨q2, e2⟩ : ∃ q, q = wordP ({ q1 with week := nameV p daysL } : PS) [32] := ⟨_, rfl⟩
  obtain ⟨q3, e3⟩ : ∃ q, q = nameP q2 monthsL := ⟨_, rfl⟩
  obtain ⟨q4, e4⟩ : ∃ q, q = wordP ({ q3 with month := nameV q2 monthsL } : PS) [32] := ⟨_, rfl⟩
  obtain ⟨q5, e5⟩ : ∃ q, q = bareD q4 := ⟨_, rfl⟩
  obtain ⟨q6, e6⟩ : ∃ q, q = wordP q5 [32] := ⟨_, rfl⟩
  obtain ⟨q7, e7⟩ : ∃ q, q = clockP q6 := ⟨_, rfl⟩
  obtain ⟨q8, e8⟩ : ∃ q, q = wordP q7 [32] := ⟨_, rfl⟩
  obtain ⟨q9, e9⟩ : ∃ q, q = digitsP q8 4 := ⟨_, rfl⟩
  have e : bareP p = ({ q9 with year := digitsV q8 4 } : PS) := by subst e9 e8 e7 e6 e5 e4 e3 e2 e1; rfl
  rw [e] at h ⊢
  have h9 := four_inv (p := q8) (by rw [← e9]; exact h)
  have h8 := word_inv (p := q7) (s := [32]) (by rw [← e8]; exact h9.1)
  have h7 := clock_inv (p := q6) (by rw [← e7]; exact h8.1)
  have h6 := word_inv (p := q5) (s := [32]) (by rw [← e6]; exact h7.1)
  have h5 := bareD_inv (d := q4) (by rw [← e5]; exact h6.1)
  have h4 := word_inv (p := ({ q3 with month := nameV q2 monthsL } : PS)) (s := [32]) (by rw [← e4]; exact h5.1)
  have h3 := mon_inv (p := q2) (by rw [← e3]; exact h4.1)
  have h2 := word_inv (p := ({ q1 with week := nameV p daysL } : PS)) (s := [32]) (by rw [← e2]; exact h3.1)
  have h1 := day_inv (p := p) (by rw [← e1]; exact h2.1)
  rw [← e9] at h9
  rw [← e8] at h8
  rw [← e7] at h7
  rw [← e6] at h6
  rw [← e5] at h5
  rw [← e4] at h4
  rw [← e3] at h3
  rw [← e2] at h2
  rw [← e1] at h1
  have l1 : p.left = dayN (nameV p daysL) ++ q1.left := h1.2.1
  have l2 : q1.left = [32] ++ q2.left := h2.2
  have l3 : q2.left = monN (nameV q2 monthsL) ++ q3.left := h3.2.1
  have l4 : q3.left = [32] ++ q4.left := h4.2
  have l5 : q4.left = lowM q5.day ++ q5.left := h5.2.1
  have l6 : q5.left = [32] ++ q6.left := h6.2
  have l7 : q6.left = clockM q7.hour q7.minute q7.sec ++ q7.left := h7.2.1
  have l8 : q7.left = [32] ++ q8.left := h8.2
  have l9 : q8.left = (twoM ((digitsV q8 4) / 100) ++ twoM (digitsV q8 4)) ++ q9.left := h9.2.1
  have f_week : (({ q9 with year := digitsV q8 4 } : PS)).week = nameV p daysL := by
    show (q9).week = _
    rw [e9]
    rw [digs_week]
    show (q8).week = _
    rw [e8]
    show (q7).week = _
    rw [e7]
    rw [clock_week]
    show (q6).week = _
    rw [e6]
    show (q5).week = _
    rw [e5]
    rw [bareD_week]
    show (q4).week = _
    rw [e4]
    show (q3).week = _
    rw [e3]
    rw [name_week]
    show (q2).week = _
    rw [e2]
    all_goals rfl
  have f_month : (({ q9 with year := digitsV q8 4 } : PS)).month = nameV q2 monthsL := by
    show (q9).month = _
    rw [e9]
    rw [digs_month]
    show (q8).month = _
    rw [e8]
    show (q7).month = _
    rw [e7]
    rw [clock_month]
    show (q6).month = _
    rw [e6]
    show (q5).month = _
    rw [e5]
    rw [bareD_month]
    show (q4).month = _
    rw [e4]
    all_goals rfl
  have f_day : (({ q9 with year := digitsV q8 4 } : PS)).day = q5.day := by
    show (q9).day = _
    rw [e9]
    rw [digs_day]
    show (q8).day = _
    rw [e8]
    show (q7).day = _
    rw [e7]
    rw [clock_day]
    show (q6).day = _
    rw [e6]
    all_goals rfl
  have f_year : (({ q9 with year := digitsV q8 4 } : PS)).year = digitsV q8 4 := by
    rfl
  have f_hour : (({ q9 with year := digitsV q8 4 } : PS)).hour = q7.hour := by
    show (q9).hour = _
    rw [e9]
    rw [digs_hour]
    show (q8).hour = _
    rw [e8]
    all_goals rfl
  have f_minute : (({ q9 with year := digitsV q8 4 } : PS)).minute = q7.minute := by
    show (q9).minute = _
    rw [e9]
    rw [digs_minute]
    show (q8).minute = _
    rw [e8]
    all_goals rfl
  have f_sec : (({ q9 with year := digitsV q8 4 } : PS)).sec = q7.sec := by
    show (q9).sec = _
    rw [e9]
    rw [digs_sec]
    show (q8).sec = _
    rw [e8]
    all_goals rfl
  rw [f_week, f_month, f_day, f_year, f_hour, f_minute, f_sec]
  refine ⟨?_, h1.2.2.1, h1.2.2.2, h3.2.2.1, h3.2.2.2, h5.2.2.1, h5.2.2.2, h7.2.2.1, h7.2.2.2.1, h7.2.2.2.2.1, h7.2.2.2.2.2.1, h7.2.2.2.2.2.2.1, h7.2.2.2.2.2.2.2, h9.2.2.1, h9.2.2.2⟩
  unfold bare7
  show p.left = dayN (nameV p daysL) ++ _ ++ monN (nameV q2 monthsL) ++ _ ++ lowM q5.day ++ _ ++ clockM q7.hour q7.minute q7.sec ++ _ ++ twoM (digitsV q8 4 / 100) ++ twoM (digitsV q8 4) ++ _
  rw [l1, l2, l3, l4, l5, l6, l7, l8, l9]
  simp only [List.append_assoc]
/-- What the program reads: the moment whose text it is. -/
theorem progK_iff (k : Nat) (c : Int) (n0 : 1970 ≤ c) (n1 : c ≤ 9999) (s : List UInt8) (a : Int) :
    progK k c s = some a ↔ 0 ≤ a ∧ a ≤ 253402300799 ∧ s = text7 k (ofM a) ∧ (k = 1 → yOf a = yearO c (yOf a % 100)) := by
  constructor
  · intro h
    unfold progK at h
    split at h
    · cases h
    · rename_i hn
      obtain ⟨q, hq⟩ : ∃ q, q = kindP k c (start s) := ⟨_, rfl⟩
      rw [← hq] at hn h
      have ha : momA q = a := by simpa using h
      have hn1 : ¬ momNo q := fun e => hn (.inl e)
      have hw : dayOf q % 7 = q.week := Classical.byContradiction fun e => hn (.inr e)
      unfold momNo at hn1
      have hb : q.bad = false := by cases e : q.bad with
        | false => rfl
        | true => exact absurd (.inl e) hn1
      have hl : q.left = [] := Classical.byContradiction fun e => hn1 (.inr (.inl e))
      have k0 : ¬ q.year < 1970 := fun e => hn1 (.inr (.inr (.inl e)))
      have k1 : ¬ q.day < 1 := fun e => hn1 (.inr (.inr (.inr (.inl e))))
      have k2 : ¬ lenM q.year q.month < q.day := fun e => hn1 (.inr (.inr (.inr (.inr (.inl e)))))
      have k3 : ¬ 23 < q.hour := fun e => hn1 (.inr (.inr (.inr (.inr (.inr (.inl e))))))
      have k4 : ¬ 59 < q.minute := fun e => hn1 (.inr (.inr (.inr (.inr (.inr (.inr (.inl e)))))))
      have k5 : ¬ 59 < q.sec := fun e => hn1 (.inr (.inr (.inr (.inr (.inr (.inr (.inr e)))))))
      have key : s = text7 k ⟨q.year, q.month, q.day, q.hour, q.minute, q.sec, q.week⟩ ∧ 0 ≤ q.week ∧ q.week ≤ 6 ∧ 0 ≤ q.month ∧ q.month ≤ 11 ∧ 0 ≤ q.hour ∧ 0 ≤ q.minute ∧ 0 ≤ q.sec ∧ q.year ≤ 9999 ∧ (k = 1 → q.year = yearO c (q.year % 100)) := by
        rcases k with _ | _ | k
        · have hh : q = ownP (start s) := hq
          have := own_inv (start s) (by rw [← hh]; exact hb)
          rw [← hh, hl, List.append_nil] at this
          obtain ⟨t0, t1, t2, t3, t4, t5, t6, t7, t8, t9, t10, t11, t12, t13, t14⟩ := this
          exact ⟨t0, t1, t2, t3, t4, t7, t9, t11, t14, fun e => by cases e⟩
        · have hh : q = oldP (start s) c := hq
          have := old_inv (start s) c n0 n1 (by rw [← hh]; exact hb)
          rw [← hh, hl, List.append_nil] at this
          obtain ⟨t0, t1, t2, t3, t4, t5, t6, t7, t8, t9, t10, t11, t12, t13, t14, t15⟩ := this
          exact ⟨t0, t1, t2, t3, t4, t7, t9, t11, t14, fun _ => t15⟩
        · have hh : q = bareP (start s) := hq
          have := bare_inv (start s) (by rw [← hh]; exact hb)
          rw [← hh, hl, List.append_nil] at this
          obtain ⟨t0, t1, t2, t3, t4, t5, t6, t7, t8, t9, t10, t11, t12, t13, t14⟩ := this
          exact ⟨t0, t1, t2, t3, t4, t7, t9, t11, t14, fun e => by omega⟩
      obtain ⟨ks, w0, w6, m0, m1, h0, i0, s0, y1, ky⟩ := key
      have ok : D7.Ok ⟨q.year, q.month, q.day, q.hour, q.minute, q.sec, q.week⟩ :=
        ⟨by show 1970 ≤ q.year; omega, y1, m0, m1, by show 1 ≤ q.day; omega, by show q.day ≤ lenM q.year q.month; omega, h0, by show q.hour ≤ 23; omega, i0, by show q.minute ≤ 59; omega, s0, by show q.sec ≤ 59; omega⟩
      have hat : D7.at_ ⟨q.year, q.month, q.day, q.hour, q.minute, q.sec, q.week⟩ = a := ha
      have hof := of_at _ ok
      rw [hat] at hof
      have hww : D7.day ⟨q.year, q.month, q.day, q.hour, q.minute, q.sec, q.week⟩ % 7 = q.week := hw
      have hx : ofM a = ⟨q.year, q.month, q.day, q.hour, q.minute, q.sec, q.week⟩ := by rw [hof.2.2, hww]
      have hyo : yOf a = q.year := by have := congrArg D7.y hx; exact this
      exact ⟨hof.1, hof.2.1, by rw [hx]; exact ks, fun e => by rw [hyo]; exact ky e⟩
  · rintro ⟨h0, h1, hs, hy⟩
    obtain ⟨ok, hat, hw⟩ := at_of a h0 h1
    have w0 : 0 ≤ (ofM a).w ∧ (ofM a).w ≤ 6 := by rw [← hw]; omega
    have hq : kindP k c (start s) = ⟨[], (ofM a).w, (ofM a).y, (ofM a).m, (ofM a).d, (ofM a).h, (ofM a).i, (ofM a).s, false⟩ := by
      rw [hs]
      rcases k with _ | _ | k
      · exact own_fwd _ ok w0.1 w0.2
      · have := old_fwd _ ok w0.1 w0.2 c
        rw [show yearO c ((ofM a).y % 100) = (ofM a).y from (hy rfl).symm] at this
        exact this
      · exact bare_fwd _ ok w0.1 w0.2
    unfold progK
    rw [hq]
    obtain ⟨y0, y1, m0, m1, d0, d1, a0, a1, b0, b1, c0, c1⟩ := ok
    rw [if_neg]
    · exact congrArg some hat
    · rintro (e | e)
      · unfold momNo at e
        simp at e
        omega
      · exact e hw
end Go.Proofs.Ytnaapoigmihjoaa
