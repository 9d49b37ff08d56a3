/- Layer 1: contracts of Put, Take and their references. No condition. -/
import Derived.Test.YtnjbfiejgiaibaaDoorOct
import Derived.Test.YtnjbfiejgiaibaaDoorTab
namespace Go.Proofs.YtnjbfiejgiaibaaDoor
set_option linter.all false
open Go Go.RowKit

theorem bytes_any (l r : List UInt8) (A D : Option Addr) (c d : Nat) (w : World) (B : Nat) (h : Rd w B A l) (k : Rd w B D r) :
    Calls Tryd.prog 11 #[.slice A l.length c, .slice D r.length d] w fun e w' => e = .returned (.bool (decide (l = r))) ∧ w = w' := by
  have h1 := conv_rd (P := Tryd.prog) h 27 9 5 c Tryd.underlying27 Tryd.underlying5 Tryd.underlying9
  have h2 := conv_rd (P := Tryd.prog) k 27 9 5 d Tryd.underlying27 Tryd.underlying5 Tryd.underlying9
  go_enter Tryd.func11, Tryd.ntmps11
  go_wp2
  go_ret
  refine ⟨ret_bool ?_, rfl⟩
  rw [Bool.eq_iff_iff]; simp

end Go.Proofs.YtnjbfiejgiaibaaDoor
