/- Layer 1: contracts of the functions on digits. No condition. -/
import Derived.Test.YtigodfnckjidoaaChecked
import Derived.Test.YtigodfnckjidoaaOctM
import Derived.WalkLawsBesides
import Derived.WalkSpells
import Derived.Outline
namespace Go.Proofs.Ytigodfnckjidoaa
set_option linter.all false
open Go Go.RowKit

end Go.Proofs.Ytigodfnckjidoaa
