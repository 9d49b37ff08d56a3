/- What is known of the library's variables at every call (kept blocks). No condition. -/
import Derived.Test.YtigodfnckjidoaaBase
namespace Go.Proofs.Ytigodfnckjidoaa
set_option linter.all false
open Go Go.RowKit
def Shp (P : Program) (K : Nat → Prop) (w : World) : Prop := True
theorem Shp.mono {P : Program} {K K' : Nat → Prop} {w : World} (h : Shp P K w) (hk : ∀ g, K g → K' g) : Shp P K' w := trivial
theorem Shp.keep {P : Program} {K : Nat → Prop} {w w' : World} (h : Shp P K w) (hk : ∀ g, K g → w'.heap[g]? = w.heap[g]?) : Shp P K w' := trivial
theorem Shp.keepC {P : Program} {K : Nat → Prop} {w w' : World} (h : Shp P K w) (hk : ∀ a v, w.cell? a = some v → w'.cell? a = some v) : Shp P K w' := trivial
theorem Shp.any {P : Program} {K : Nat → Prop} {w : World} : Shp P K w := trivial
end Go.Proofs.Ytigodfnckjidoaa
