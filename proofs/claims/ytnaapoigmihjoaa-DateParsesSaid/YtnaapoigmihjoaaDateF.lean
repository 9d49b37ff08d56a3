/- Layer 12 in plain Lean: the parts that the reader leaves are within bounds, whatever the text is. Printed by gen_fit.py. No condition. -/
import Derived.Test.YtnaapoigmihjoaaDateI
namespace Go.Proofs.Ytnaapoigmihjoaa
set_option linter.all false
open Go Go.RowKit

def PS.Week (p : PS) : Prop := 0 ≤ p.week ∧ p.week ≤ 6
theorem two_bd (p : PS) : 0 ≤ digitsV p 2 ∧ digitsV p 2 ≤ 99 := by
  have h := digitsV_bd p 2
  rw [show (10 : Int) ^ 2 = 100 by decide] at h
  omega
theorem one_bd (p : PS) : 0 ≤ digitsV p 1 ∧ digitsV p 1 ≤ 99 := by
  have h := digitsV_bd p 1
  rw [show (10 : Int) ^ 1 = 10 by decide] at h
  omega
theorem four_bd (p : PS) : 0 ≤ digitsV p 4 ∧ digitsV p 4 ≤ 9999 := by
  have h := digitsV_bd p 4
  rw [show (10 : Int) ^ 4 = 10000 by decide] at h
  omega
theorem clock_hms (p : PS) : (0 ≤ (clockP p).hour ∧ (clockP p).hour ≤ 99) ∧ (0 ≤ (clockP p).minute ∧ (clockP p).minute ≤ 99) ∧ (0 ≤ (clockP p).sec ∧ (clockP p).sec ≤ 99) := by
  unfold clockP
  simp only [digs_hour, digs_minute, wordP]
  exact ⟨two_bd _, two_bd _, two_bd _⟩
theorem bareD_bd (d : PS) : 0 ≤ (bareD d).day ∧ (bareD d).day ≤ 99 := by
  unfold bareD
  split
  · exact one_bd _
  · exact two_bd _
theorem yearO_bd (now v : Int) (n0 : 1970 ≤ now) (n1 : now ≤ 9999) (v0 : 0 ≤ v) (v1 : v ≤ 99) : 0 ≤ yearO now v ∧ yearO now v ≤ 20000 := by
  unfold yearO; split <;> omega
theorem oldW_month (d : PS) : (oldW d).month = d.month := by unfold oldW; split <;> rfl
theorem oldW_day (d : PS) : (oldW d).day = d.day := by unfold oldW; split <;> rfl
theorem oldW_year (d : PS) : (oldW d).year = d.year := by unfold oldW; split <;> rfl
theorem bareD_year (d : PS) : (bareD d).year = d.year := by unfold bareD; split <;> simp only [digs_year, wordP]
theorem own_fit (p : PS) : (ownP p).Fit ∧ (ownP p).Week := by
  unfold ownP PS.Week
  refine ⟨⟨?_, ?_, ?_, ?_, ?_, ?_, ?_, ?_, ?_, ?_, ?_, ?_⟩, ?_⟩
  · simp only [wordP, digs_year, clock_year, name_year]; exact (four_bd _).1
  · simp only [wordP, digs_year, clock_year, name_year]; exact Int.le_trans (four_bd _).2 (by omega)
  · simp only [wordP, digs_month, clock_month, name_month]; exact (nameV_bd _ monthsL 12 rfl (by omega)).1
  · simp only [wordP, digs_month, clock_month, name_month]; exact (nameV_bd _ monthsL 12 rfl (by omega)).2
  · simp only [wordP, digs_day, clock_day, name_day]; exact (two_bd _).1
  · simp only [wordP, digs_day, clock_day, name_day]; exact (two_bd _).2
  · simp only [wordP]; exact (clock_hms _).1.1
  · simp only [wordP]; exact (clock_hms _).1.2
  · simp only [wordP]; exact (clock_hms _).2.1.1
  · simp only [wordP]; exact (clock_hms _).2.1.2
  · simp only [wordP]; exact (clock_hms _).2.2.1
  · simp only [wordP]; exact (clock_hms _).2.2.2
  · simp only [wordP, digs_week, clock_week, name_week]; exact nameV_bd _ daysL 7 rfl (by omega)
theorem old_fit (p : PS) (now : Int) (n0 : 1970 ≤ now) (n1 : now ≤ 9999) : (oldP p now).Fit ∧ (oldP p now).Week := by
  unfold oldP PS.Week
  refine ⟨⟨?_, ?_, ?_, ?_, ?_, ?_, ?_, ?_, ?_, ?_, ?_, ?_⟩, ?_⟩
  · simp only [wordP, digs_year, clock_year, name_year]; exact (yearO_bd _ _ n0 n1 (two_bd _).1 (two_bd _).2).1
  · simp only [wordP, digs_year, clock_year, name_year]; exact (yearO_bd _ _ n0 n1 (two_bd _).1 (two_bd _).2).2
  · simp only [wordP, digs_month, clock_month, name_month]; exact (nameV_bd _ monthsL 12 rfl (by omega)).1
  · simp only [wordP, digs_month, clock_month, name_month]; exact (nameV_bd _ monthsL 12 rfl (by omega)).2
  · simp only [wordP, digs_day, clock_day, name_day]; exact (two_bd _).1
  · simp only [wordP, digs_day, clock_day, name_day]; exact (two_bd _).2
  · simp only [wordP]; exact (clock_hms _).1.1
  · simp only [wordP]; exact (clock_hms _).1.2
  · simp only [wordP]; exact (clock_hms _).2.1.1
  · simp only [wordP]; exact (clock_hms _).2.1.2
  · simp only [wordP]; exact (clock_hms _).2.2.1
  · simp only [wordP]; exact (clock_hms _).2.2.2
  · simp only [wordP, digs_week, clock_week, name_week, oldW_week]; exact nameV_bd _ daysL 7 rfl (by omega)
theorem bare_fit (p : PS) : (bareP p).Fit ∧ (bareP p).Week := by
  unfold bareP PS.Week
  refine ⟨⟨?_, ?_, ?_, ?_, ?_, ?_, ?_, ?_, ?_, ?_, ?_, ?_⟩, ?_⟩
  · simp only [wordP, digs_year, clock_year, name_year]; exact (four_bd _).1
  · simp only [wordP, digs_year, clock_year, name_year]; exact Int.le_trans (four_bd _).2 (by omega)
  · simp only [wordP, digs_month, clock_month, name_month, bareD_month]; exact (nameV_bd _ monthsL 12 rfl (by omega)).1
  · simp only [wordP, digs_month, clock_month, name_month, bareD_month]; exact (nameV_bd _ monthsL 12 rfl (by omega)).2
  · simp only [wordP, digs_day, clock_day]; exact (bareD_bd _).1
  · simp only [wordP, digs_day, clock_day]; exact (bareD_bd _).2
  · simp only [wordP, digs_hour]; exact (clock_hms _).1.1
  · simp only [wordP, digs_hour]; exact (clock_hms _).1.2
  · simp only [wordP, digs_minute]; exact (clock_hms _).2.1.1
  · simp only [wordP, digs_minute]; exact (clock_hms _).2.1.2
  · simp only [wordP, digs_sec]; exact (clock_hms _).2.2.1
  · simp only [wordP, digs_sec]; exact (clock_hms _).2.2.2
  · simp only [wordP, digs_week, clock_week, name_week, bareD_week]; exact nameV_bd _ daysL 7 rfl (by omega)
theorem kind_fit (k : Nat) (c : Int) (n0 : 1970 ≤ c) (n1 : c ≤ 9999) (p : PS) : (kindP k c p).Fit ∧ (kindP k c p).Week := by
  rcases k with _ | _ | k
  · exact own_fit p
  · exact old_fit p c n0 n1
  · exact bare_fit p
end Go.Proofs.Ytnaapoigmihjoaa
