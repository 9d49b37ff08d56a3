/- Chapter 14: what the library's variables hold when a row's call begins. No condition but the row's own. -/
import Derived.Test.YtnjbfiejgiaibaaGreatDoorMemToGl
import Derived.Test.YtnjbfiejgiaibaaGreatDoorRows
import Derived.Lib.LaidU8T
import Derived.PinnedBridge
import Derived.Shelf.Vars
import Derived.Test.YtnjbfiejgiaibaaGreatDoorShelf
namespace Go.Proofs.YtnjbfiejgiaibaaGreatDoor
set_option linter.all false
set_option maxRecDepth 100000
open Go Go.RowKit
theorem shp_of {W : World} (hL : laidMetH Tryz.prog [("unicode/utf8.acceptRanges", Rows.laid_unicode_utf8_acceptRanges), ("bytes.ErrTooLarge", Rows.laid_bytes_ErrTooLarge), ("unicode/utf8.first", Rows.laid_unicode_utf8_first)] W) (hS : W.ShapedOpen Tryz.prog) : Shp Tryz.prog (fun g => g < W.heap.size) W := by
  have hL' : laidMet Tryz.prog [("unicode/utf8.acceptRanges", Rows.laid_unicode_utf8_acceptRanges), ("bytes.ErrTooLarge", Rows.laid_bytes_ErrTooLarge), ("unicode/utf8.first", Rows.laid_unicode_utf8_first)] W := hL
  have hU : Lib.Utf8Tabs 2 3 W :=
    utf8Tabs_of_readsT (ρ := Tryz.lays160_ren) { Tryz.lays160 with } ⟨by kernel_rfl, by kernel_rfl, by kernel_rfl, by kernel_rfl, by kernel_rfl, by kernel_rfl, by kernel_rfl⟩
      (Pinned.utf8First_eq ▸ Lib.laidMet.reads hL' (n := "unicode/utf8.first") (d := Rows.laid_unicode_utf8_first) (by simp))
      ((show Rows.laid_unicode_utf8_acceptRanges = Lib.acceptData by kernel_rfl) ▸ Lib.laidMet.reads hL' (n := "unicode/utf8.acceptRanges") (d := Rows.laid_unicode_utf8_acceptRanges) (by simp))
  obtain ⟨m, hm⟩ : ∃ m, W.cell? ⟨0, 0, none⟩ = some (.int .i64 m) :=
    cell_of_shapedOpen_int (t := 3) (zero := #[.int .i64 0]) hS (of_decide_eq_true (by kernel_rfl)) (by kernel_rfl) rfl (by kernel_rfl) (by kernel_rfl) (by kernel_rfl)
  have hlt : ∀ g v, W.cell? ⟨g, 0, none⟩ = some v → g < W.heap.size := fun g v h => by
    rcases Nat.lt_or_ge g W.heap.size with k | k
    · exact k
    · exfalso
      simp [World.cell?, Array.getElem?_eq_none k] at h
  refine ⟨fun g hg => ?_, ⟨m, hm⟩, hU⟩
  rcases hg with rfl | rfl | rfl
  · exact hlt _ _ hm
  · exact hlt _ _ (hU.1 0 (by decide))
  · exact hlt _ _ (hU.2 0 (by decide)).1
end Go.Proofs.YtnjbfiejgiaibaaGreatDoor
