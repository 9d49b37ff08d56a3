/- Layer 12: the contract of the document's test of a date. No condition. -/
import Derived.Test.YtnaapoigmihjoaaDateW
namespace Go.Proofs.Ytnaapoigmihjoaa
set_option linter.all false
open Go Go.RowKit

theorem refDays_q (y m : Int) (h0 : 0 ≤ y) (m0 : 1 ≤ m) (m1 : m ≤ 12) (w : World) :
    Calls Try.prog 31 #[.int .i64 y, .int .i64 m] w fun e w' => e = .returned (.int .i64 (lenM y (m - 1))) ∧ w' = w := (refDays_any y m h0 m0 m1 w).mono fun _ _ ⟨a, b⟩ => ⟨a, b.symm⟩
def rightB (Y M D H I S' : Int) : Bool := decide (1970 ≤ Y ∧ Y ≤ 9999 ∧ 1 ≤ M ∧ 1 ≤ D ∧ D ≤ lenM Y (M - 1) ∧ 0 ≤ H ∧ H ≤ 23 ∧ 0 ≤ I ∧ I ≤ 59 ∧ 0 ≤ S' ∧ S' ≤ 59)
set_option maxHeartbeats 6400000 in
theorem right_raw (Y M D H I S' W : Int) (hM : M ≤ 12) (w : World) :
    Calls Try.prog 26 #[.agg #[.int .i64 Y, .int .i64 M, .int .i64 D, .int .i64 H, .int .i64 I, .int .i64 S', .int .i64 W]] w fun e w' =>
      e = .returned (.bool (rightB Y M D H I S')) ∧ Below w.heap.size w w' := by
  have X : Whole (w.alloc (.cells #[.int .i64 Y, .int .i64 M, .int .i64 D, .int .i64 H, .int .i64 I, .int .i64 S', .int .i64 W] 33)) w.heap.size 33 (C7 Y M D H I S' W) := Whole.new w _ _
  have B : Below w.heap.size w (w.alloc (.cells #[.int .i64 Y, .int .i64 M, .int .i64 D, .int .i64 H, .int .i64 I, .int .i64 S', .int .i64 W] 33)) := (Below.refl _ _).alloc (Nat.le_refl _) _
  go_enter Try.func26, Try.ntmps26
  go_wp2_with fail
  generalize w.alloc (.cells #[.int .i64 Y, .int .i64 M, .int .i64 D, .int .i64 H, .int .i64 I, .int .i64 S', .int .i64 W] 33) = wa at X B ⊢
  have c0 := X.at_ 0
  have c1 := X.at_ 1
  have c2 := X.at_ 2
  have c3 := X.at_ 3
  have c4 := X.at_ 4
  have c5 := X.at_ 5
  simp only [C7, List.getElem?_cons_zero, List.getElem?_cons_succ] at c0 c1 c2 c3 c4 c5
  clear X
  refine wp_region_quiet_lit (by kernel_rfl) (by kernel_rfl) ?_
  repeat (any_goals (first | go_big_quiet_step ((go_at_call 31; exact Calls.quiet_of_same (refDays_q _ _ (by omega) (by omega) (by omega) _))) | quiet_step ((go_at_call 31; exact Calls.quiet_of_same (refDays_q _ _ (by omega) (by omega) (by omega) _))) | (refine wpQuiet_step (fun K hK => ?_); go_simp; split <;> (refine hK _ ?_; clear hK K))))
  all_goals (refine wpQuiet_nil ?_; intro _ hw'; obtain ⟨nq, hw''⟩ := hw'; subst hw'')
  all_goals go_wp2
  all_goals go_ret
  all_goals refine ⟨ret_bool ?_, Below.drewN B _⟩
  all_goals unfold rightB
  all_goals first | (refine (decide_eq_false ?_).symm; omega) | (refine (decide_eq_true ?_).symm; omega) | (rw [Bool.eq_iff_iff]; simp; omega)
end Go.Proofs.Ytnaapoigmihjoaa
