/- Closed facts on this translation's table of types. No condition. -/
import Derived.Test.YtigodfnckjidoaaChecked
import Derived.Test.YtigodfnckjidoaaMem
import Derived.OwnWalk
namespace Go.Proofs.Ytigodfnckjidoaa
set_option linter.all false
open Go Go.RowKit
theorem uint8_row : ∃ i, Try.prog.info? 5 = some i ∧ i.zero = some (.int .u8 0) ∧ i.size = 1 ∧ i.bytes = 1 := info_parts (by kernel_rfl)
end Go.Proofs.Ytigodfnckjidoaa
