/- Layer 1: contracts of the functions on digits. No condition. -/
import Derived.Test.YtnaapoigmihjoaaChecked
import Derived.Test.YtnaapoigmihjoaaOctM
import Derived.WalkLawsBesides
import Derived.WalkSpells
import Derived.Outline
namespace Go.Proofs.Ytnaapoigmihjoaa
set_option linter.all false
open Go Go.RowKit

theorem refDigit_any (c : Nat) (_hc : c < 256) (w : World) :
    Calls Try.prog 42 #[.int .u8 (c:Int)] w fun e w' => e = .returned (.bool (decide (48 ≤ c ∧ c ≤ 57))) ∧ w = w' := by
  go_enter Try.func42, Try.ntmps42
  go_wp2
  all_goals (go_ret; exact ⟨ret_bool (by first | (rw [Bool.eq_iff_iff]; simp; omega) | (simp; omega)), rfl⟩)
theorem refDigit_u8 (c : UInt8) (w : World) :
    Calls Try.prog 42 #[.int .u8 (c.toNat:Int)] w fun e w' => e = .returned (.bool (decide (48 ≤ c.toNat ∧ c.toNat ≤ 57))) ∧ w = w' := refDigit_any _ c.toNat_lt _

end Go.Proofs.Ytnaapoigmihjoaa
