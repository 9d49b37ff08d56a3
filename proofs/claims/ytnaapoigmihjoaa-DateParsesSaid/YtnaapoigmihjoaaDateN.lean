/- Layer 12: the contract of the reader's step for names. No condition. -/
import Derived.Test.YtnaapoigmihjoaaDateR
import Derived.Deep.QuietTactic
import Derived.BigQuiet
namespace Go.Proofs.Ytnaapoigmihjoaa
set_option linter.all false
open Go Go.RowKit

theorem S_cut (l : List UInt8) (a b : Nat) (h : a + b ≤ l.length) : (S l).extract a (a + b) = S ((l.drop a).take b) := by
  apply ba_ext; simp [ByteArray.toList_eq, S, List.take_drop]
theorem S_pre (l : List UInt8) (b : Nat) : (S l).extract 0 b = S (l.take b) := by
  apply ba_ext; simp [ByteArray.toList_eq, S]
set_option maxHeartbeats 800000 in
theorem name_any (p : PS) (all : List UInt8) (K : Nat) (hK : all.length = 3 * K) (hK2 : K ≤ 12) (hm : p.left.length ≤ maxLen) (g : Nat) (w : World) (h : Whole w g 45 p.cells) :
    Calls Try.prog 33 #[.pointer (some ⟨g, 0, none⟩), .string (S all)] w fun e w' => e = .returned (.int .i64 (nameV p all)) ∧ Whole w' g 45 (nameP p all).cells ∧ w.grownBy w' (some g) := by
  obtain ⟨⟨f0, _, _, _, _, _, _, _, f8⟩, fz⟩ := PS.fields h
  have z0 := fz 0
  have z8 := fz 8
  clear fz
  unfold maxLen at hm
  have HK := Lib.hid hK
  have hl36 : all.length ≤ 36 := by omega
  clear hK
  by_cases hlen : 3 ≤ p.left.length
  · have Ho : Hid (nameO p all = nameI all p.left) := Lib.hid (by unfold nameO; rw [if_pos hlen])
    go_enter Try.func33, Try.ntmps33
    go_wp2
    go_loopw [5] (fun v wr => ∃ (k n : Nat), k ≤ K ∧ v = .int .i64 (3 * (k : Int)) ∧ wr = w.drewN n ∧ Hid (∀ j, j < k → ((all.drop (3 * j)).take 3 == p.left.take 3) = false)) (fun v _ => (40 - intOf v).toNat)
    case atStart => exact ⟨0, 0, Nat.zero_le _, rfl, rfl, Lib.hid (fun j hj => by omega)⟩
    case round =>
      obtain ⟨k, n, hk, rfl, rfl, hno⟩ := hrel
      by_cases hlt : k < K
      · have hlt2 : (3 : Int) * (k : Int) < (all.length : Int) := by have := HK.out; omega
        have b1 : (0 : Int) ≤ 3 * (k : Int) := by omega
        have b2 : (3 : Int) * (k : Int) ≤ 3 * (k : Int) + 3 := by omega
        have b3 : (3 : Int) * (k : Int) + 3 ≤ (all.length : Int) := by have := HK.out; omega
        have b4 : (3 : Int) ≤ (p.left.length : Int) := by omega
        have b5 : (3 : Int) * (k : Int) ≤ 36 := by omega
        have w1 : IntKind.i64.wrap (3 * (k : Int) + 3) = 3 * (k : Int) + 3 := IntWalk.i64_in _ (by omega)
        have t1 : (3 * (k : Int)).toNat = 3 * k := by omega
        have t2 : (3 * (k : Int) + 3).toNat = 3 * k + 3 := by omega
        have c1 := S_cut all (3 * k) 3 (by have := HK.out; omega)
        have c2 := S_pre p.left 3
        cases hq : ((all.drop (3 * k)).take 3 == p.left.take 3)
        · have Hno : Hid (∀ j, j < k + 1 → ((all.drop (3 * j)).take 3 == p.left.take 3) = false) := Lib.hid (fun j hj => by
            rcases Nat.lt_or_ge j k with h1 | h1
            · exact hno.out j h1
            · obtain rfl : j = k := by omega
              exact hq)
          go_wp2_with fail
          go_quiet (fail)
          go_wp2
          go_roundw
          case rel => exact ⟨k + 1, _, by omega, by rw [show (3 : Int) * ((k + 1 : Nat) : Int) = 3 * (k : Int) + 3 by omega], rfl, Hno⟩
          case measure => simp [intOf]; omega
        · have Hi : Hid (nameO p all = some k) := Lib.hid (by rw [Ho.out]; exact nameI_some all p.left k (by have := HK.out; omega) hq hno.out)
          have Hv : Hid (nameV p all = k) := Lib.hid (by unfold nameV; rw [Hi.out])
          have Hp : Hid (nameP p all = { p with left := p.left.drop 3 }) := Lib.hid (by unfold nameP; rw [Hi.out])
          have c3 := S_drop p.left 3 hlen
          have hwd : ∀ m, Whole ((w.drewN m).setCell ⟨g, 0, Option.none⟩ (.string (S (p.left.drop 3)))) g 45 (p.cells.set 0 (.string (S (p.left.drop 3)))) := fun m => (h.drawn m).put 0 _
          go_wp2_with fail
          go_quiet (fail)
          go_wp2
          go_ret
          refine ⟨ret_int (by first | exact Hv.out.symm | (rw [Hv.out]; omega)), ?_, only_set (only_drewN (World.grownBy.refl w _) _) _ _⟩
          rw [Hp.out]
          exact hwd _
      · obtain rfl : k = K := by omega
        have Hi : Hid (nameO p all = Option.none) := Lib.hid (by rw [Ho.out]; exact nameI_none all p.left (fun j hj => hno.out j (by have := HK.out; omega)))
        have Hv : Hid (nameV p all = 0) := Lib.hid (by unfold nameV; rw [Hi.out])
        have Hp : Hid (nameP p all = { p with bad := true }) := Lib.hid (by unfold nameP; rw [Hi.out])
        have hge : (all.length : Int) ≤ 3 * (k : Int) := by have := HK.out; omega
        go_wp2
        go_ret
        refine ⟨ret_int Hv.out.symm, ?_, only_set (only_drewN (World.grownBy.refl w _) _) _ _⟩
        rw [Hp.out]
        exact (h.drawn _).put 8 (.bool true)
  · have Hi : Hid (nameO p all = Option.none) := Lib.hid (by unfold nameO; rw [if_neg hlen])
    have Hv : Hid (nameV p all = 0) := Lib.hid (by unfold nameV; rw [Hi.out])
    have Hp : Hid (nameP p all = { p with bad := true }) := Lib.hid (by unfold nameP; rw [Hi.out])
    have hlen2 : (p.left.length : Int) < 3 := by omega
    clear hlen
    go_enter Try.func33, Try.ntmps33
    go_wp2
    go_ret
    exact ⟨ret_int Hv.out.symm, by rw [Hp.out]; exact h.put 8 (.bool true), only_set (World.grownBy.refl w _) _ _⟩
end Go.Proofs.Ytnaapoigmihjoaa
