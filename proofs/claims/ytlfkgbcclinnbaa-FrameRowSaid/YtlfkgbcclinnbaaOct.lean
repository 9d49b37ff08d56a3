/- Layer 1: contracts of the functions on digits. No condition. -/
import Derived.Test.YtlfkgbcclinnbaaChecked
import Derived.Test.YtlfkgbcclinnbaaOctM
import Derived.WalkLawsBesides
import Derived.WalkSpells
import Derived.Outline
namespace Go.Proofs.Ytlfkgbcclinnbaa
set_option linter.all false
open Go Go.RowKit

end Go.Proofs.Ytlfkgbcclinnbaa
