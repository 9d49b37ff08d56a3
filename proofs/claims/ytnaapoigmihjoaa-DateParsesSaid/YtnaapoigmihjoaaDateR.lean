/- Layer 12: contracts of the reader's steps. No condition. -/
import Derived.Test.YtnaapoigmihjoaaDate
import Derived.Test.YtnaapoigmihjoaaDateRM
import Derived.Test.YtnaapoigmihjoaaShelf
namespace Go.Proofs.Ytnaapoigmihjoaa
set_option linter.all false
open Go Go.RowKit

theorem PS.fields {w : World} {g : Nat} {p : PS} (h : Whole w g 45 p.cells) :
    (w.cell? ⟨g, 0, none⟩ = some (.string (S p.left)) ∧ w.cell? ⟨g, 1, none⟩ = some (.int .i64 p.week) ∧ w.cell? ⟨g, 2, none⟩ = some (.int .i64 p.year) ∧ w.cell? ⟨g, 3, none⟩ = some (.int .i64 p.month) ∧ w.cell? ⟨g, 4, none⟩ = some (.int .i64 p.day) ∧
    w.cell? ⟨g, 5, none⟩ = some (.int .i64 p.hour) ∧ w.cell? ⟨g, 6, none⟩ = some (.int .i64 p.minute) ∧ w.cell? ⟨g, 7, none⟩ = some (.int .i64 p.sec) ∧ w.cell? ⟨g, 8, none⟩ = some (.bool p.bad)) ∧ (∀ i, w.frozen? ⟨g, i, none⟩ = false) :=
  ⟨⟨h.at_ 0, h.at_ 1, h.at_ 2, h.at_ 3, h.at_ 4, h.at_ 5, h.at_ 6, h.at_ 7, h.at_ 8⟩, h.free⟩
theorem word_any (p : PS) (s : ByteArray) (g : Nat) (w : World) (h : Whole w g 45 p.cells) :
    Calls Try.prog 34 #[.pointer (some ⟨g, 0, none⟩), .string s] w fun e w' => e = .returned (.tuple #[]) ∧ Whole w' g 45 (wordP p s.toList).cells ∧ w.grownBy w' (some g) := by
  obtain ⟨⟨f0, f1, f2, f3, f4, f5, f6, f7, f8⟩, fz⟩ := PS.fields h
  have w0 : w.grownBy w (some g) := World.grownBy.refl w _
  have hc := Any.strings_CutPrefix Try.lays103 (S p.left) s w
  change Calls Try.prog 44 _ _ _ at hc
  rw [← ByteArray.toList_eq, ← ByteArray.toList_eq, S_toList] at hc
  have Hc := Lib.hid hc
  clear hc
  have z0 := fz 0
  have z8 := fz 8
  clear fz
  go_enter Try.func34, Try.ntmps34
  go_wp2_with fail
  refine (Hc.out).mono ?_; rintro e w' ⟨rfl, rfl⟩
  cases hb : p.bad
  · rw [hb] at f8
    have Hq : Hid ((p.cells.set 0 (.string (S (Lib.trimPrefix p.left s.toList)))).set 8 (.bool (!Lib.hasPrefix p.left s.toList)) = (wordP p s.toList).cells) := Lib.hid (by simp [PS.cells, wordP, hb])
    go_wp2
    go_end0
    refine ⟨rfl, ?_, only_set (only_set w0 _ _) _ _⟩
    have := (h.put 0 (.string (S (Lib.trimPrefix p.left s.toList)))).put 8 (.bool (!Lib.hasPrefix p.left s.toList))
    rw [Hq.out] at this
    exact this
  · rw [hb] at f8
    have Hq : Hid ((p.cells.set 0 (.string (S (Lib.trimPrefix p.left s.toList)))).set 8 (.bool true) = (wordP p s.toList).cells) := Lib.hid (by simp [PS.cells, wordP, hb])
    go_wp2
    go_end0
    refine ⟨rfl, ?_, only_set (only_set w0 _ _) _ _⟩
    have := (h.put 0 (.string (S (Lib.trimPrefix p.left s.toList)))).put 8 (.bool true)
    rw [Hq.out] at this
    exact this
theorem S_drop (l : List UInt8) (n : Nat) (h : n ≤ l.length) : (S l).extract n l.length = S (l.drop n) := by
  apply ba_ext; simp [ByteArray.toList_eq, S]
  rw [List.take_of_length_le (by simp)]
theorem digits_any' (p : PS) (n : Nat) (hn : n ≤ 4) (hm : p.left.length ≤ maxLen) (g : Nat) (w : World) (h : Whole w g 45 p.cells) :
    Calls Try.prog 35 #[.pointer (some ⟨g, 0, none⟩), .int .i64 n] w fun e w' => e = .returned (.int .i64 (digitsV p n)) ∧ Whole w' g 45 (digitsP p n).cells ∧ w.grownBy w' (some g) := by
  obtain ⟨⟨f0, _, _, _, _, _, _, _, f8⟩, fz⟩ := PS.fields h
  have z0 := fz 0
  have z8 := fz 8
  clear fz
  unfold maxLen at hm
  have w0 : w.grownBy w (some g) := World.grownBy.refl w _
  by_cases hlen : n ≤ p.left.length
  · have hlen2 : ¬ (p.left.length : Int) < n := by omega
    go_enter Try.func35, Try.ntmps35
    go_wp2
    go_loop [5, 19] (fun v k => ∃ j : Nat, j ≤ n ∧ k = .int .i64 j ∧ v = .int .i64 (valD (p.left.take j)) ∧ Hid ((p.left.take j).all isDg = true)) (fun _ k => n - (intOf k).toNat)
    case atStart => exact ⟨0, Nat.zero_le _, rfl, by simp [valD], Lib.hid (by simp)⟩
    case round =>
      obtain ⟨j, hj, rfl, rfl, hall⟩ := hrel
      by_cases hlt : j < n
      · have hjl : j < p.left.length := by omega
        obtain ⟨c, hc⟩ : ∃ c : UInt8, p.left[j] = c := ⟨_, rfl⟩
        have Htk : Hid (p.left.take (j + 1) = p.left.take j ++ [c]) := Lib.hid (by rw [List.take_succ_eq_append_getElem hjl, hc])
        have hidx : (S p.left)[j]'(by rw [S_size]; exact hjl) = c := by
          have := toget (S p.left) j (by rw [S_size]; exact hjl)
          rw [← this]; simpa using hc
        have hclt := c.toNat_lt
        have hv := valD_bd _ hall.out
        have hp10 : (10 : Int) ^ (p.left.take j).length ≤ 10 ^ 4 := by
          have : (p.left.take j).length ≤ 4 := by rw [List.length_take]; omega
          rcases (by omega : (p.left.take j).length = 0 ∨ (p.left.take j).length = 1 ∨ (p.left.take j).length = 2 ∨ (p.left.take j).length = 3 ∨ (p.left.take j).length = 4) with e | e | e | e | e <;> rw [e] <;> decide
        have hv2 : 0 ≤ valD (p.left.take j) ∧ valD (p.left.take j) ≤ 10000 := by omega
        clear hv hp10 hc
        by_cases hd : 48 ≤ c.toNat ∧ c.toNat ≤ 57
        · have Hall2 : Hid ((p.left.take (j + 1)).all isDg = true) := Lib.hid (by rw [Htk.out, List.all_append, hall.out]; simp [isDg, hd])
          have Hv := Lib.hid (valD_snoc (p.left.take j) c)
          have hd1 : ¬ (c.toNat : Int) < 48 := by omega
          have hd2 : ¬ 57 < (c.toNat : Int) := by omega
          go_wp2
          go_round
          case rel => exact ⟨j + 1, by omega, by go_num, by rw [Htk.out, Hv.out], Hall2⟩
          case measure => simp [intOf]; omega
        · have Hno : Hid (digsOk p n = false) := Lib.hid (by
            unfold digsOk
            have : (p.left.take n).all isDg = false := by
              rw [List.all_eq_false]
              refine ⟨c, ?_, by simp [isDg]; omega⟩
              have h1 : c ∈ p.left.take (j + 1) := by rw [Htk.out]; simp
              exact List.mem_of_mem_take (by rw [List.take_take, show min (j + 1) n = j + 1 by omega]; exact h1 : c ∈ (p.left.take n).take (j + 1))
            rw [this]; simp)
          have Hv : Hid (digitsV p n = 0) := Lib.hid (by unfold digitsV; rw [Hno.out]; simp)
          have Hp : Hid (digitsP p n = { p with bad := true }) := Lib.hid (by unfold digitsP; rw [Hno.out]; simp)
          have hor : c.toNat < 48 ∨ 57 < c.toNat := by omega
          clear hd
          rcases hor with h48 | h57
          · go_wp2
            go_ret
            exact ⟨ret_int Hv.out.symm, by rw [Hp.out]; exact h.put 8 (.bool true), only_set w0 _ _⟩
          · have h48 : ¬ c.toNat < 48 := by omega
            go_wp2
            go_ret
            exact ⟨ret_int Hv.out.symm, by rw [Hp.out]; exact h.put 8 (.bool true), only_set w0 _ _⟩
      · obtain rfl : j = n := by omega
        have Hok : Hid (digsOk p j = true) := Lib.hid (by unfold digsOk; rw [hall.out, decide_eq_true hlen]; rfl)
        have Hv : Hid (digitsV p j = valD (p.left.take j)) := Lib.hid (by unfold digitsV; rw [Hok.out]; simp)
        have Hp : Hid (digitsP p j = { p with left := p.left.drop j }) := Lib.hid (by unfold digitsP; rw [Hok.out]; simp)
        have hcut := S_drop p.left j hlen
        go_wp2
        go_ret
        exact ⟨ret_int Hv.out.symm, by rw [Hp.out]; exact h.put 0 (.string (S (p.left.drop j))), only_set w0 _ _⟩
  · have hlen2 : (p.left.length : Int) < n := by omega
    have Hno : Hid (digsOk p n = false) := Lib.hid (by unfold digsOk; rw [decide_eq_false hlen]; rfl)
    have Hv : Hid (digitsV p n = 0) := Lib.hid (by unfold digitsV; rw [Hno.out]; simp)
    have Hp : Hid (digitsP p n = { p with bad := true }) := Lib.hid (by unfold digitsP; rw [Hno.out]; simp)
    clear hlen
    go_enter Try.func35, Try.ntmps35
    go_wp2
    go_ret
    exact ⟨ret_int Hv.out.symm, by rw [Hp.out]; exact h.put 8 (.bool true), only_set w0 _ _⟩
theorem digits_c (p : PS) (n : Nat) (hn : n ≤ 4) (hm : p.left.length ≤ maxLen) (g : Nat) (w : World) (h : Whole w g 45 p.cells) (ni : Int) (hni : ni = n) :
    Calls Try.prog 35 #[.pointer (some ⟨g, 0, none⟩), .int .i64 ni] w fun e w' => e = .returned (.int .i64 (digitsV p n)) ∧ ((Whole w' g 45 (digitsP p n).cells ∧ w.grownBy w' (some g)) ∧ ((∃ a, w'.cell? ⟨g, 0, none⟩ = some a) ∧ (∃ a, w'.cell? ⟨g, 1, none⟩ = some a) ∧ (∃ a, w'.cell? ⟨g, 2, none⟩ = some a) ∧ (∃ a, w'.cell? ⟨g, 3, none⟩ = some a) ∧ (∃ a, w'.cell? ⟨g, 4, none⟩ = some a) ∧ (∃ a, w'.cell? ⟨g, 5, none⟩ = some a) ∧ (∃ a, w'.cell? ⟨g, 6, none⟩ = some a) ∧ (∃ a, w'.cell? ⟨g, 7, none⟩ = some a)) ∧ (∀ i, w'.frozen? ⟨g, i, none⟩ = false)) := by
  subst hni
  refine (digits_any' p n hn hm g w h).mono fun e w' ⟨h1, h2, h3⟩ => ⟨h1, ⟨h2, h3⟩, ⟨⟨_, h2.at_ 0⟩, ⟨_, h2.at_ 1⟩, ⟨_, h2.at_ 2⟩, ⟨_, h2.at_ 3⟩, ⟨_, h2.at_ 4⟩, ⟨_, h2.at_ 5⟩, ⟨_, h2.at_ 6⟩, ⟨_, h2.at_ 7⟩⟩, h2.free⟩
theorem clock_any (p : PS) (hm : p.left.length ≤ maxLen) (g : Nat) (w : World) (h : Whole w g 45 p.cells) :
    Calls Try.prog 36 #[.pointer (some ⟨g, 0, none⟩)] w fun e w' => e = .returned (.tuple #[]) ∧ Whole w' g 45 (clockP p).cells ∧ w.grownBy w' (some g) := by
  have Hdef : Hid (clockP p = clockP p) := rfl
  have e58 : ({ data := #[58] } : ByteArray).toList = [58] := ByteArray.toList_mk [58]
  have E58 := Lib.hid e58
  clear e58
  go_enter Try.func36, Try.ntmps36
  go_wp2_with fail
  refine (digits_c p 2 (by omega) hm g w h 2 rfl).mono ?_; rintro e w1 ⟨rfl, ⟨h1, g1⟩, ⟨_, _, _, _, _, ⟨c5, f5⟩, _⟩, fz⟩
  have z := fz 5
  clear fz
  have h2 : Whole (w1.setCell ⟨g, 5, none⟩ (.int .i64 (digitsV p 2))) g 45 ({ digitsP p 2 with hour := digitsV p 2 } : PS).cells := h1.put 5 _
  have g2 := only_set g1 5 (.int .i64 (digitsV p 2))
  have l2 := digitsP_len p 2
  go_wp2_with fail
  refine (word_any _ _ g _ h2).mono ?_; rintro e w3 ⟨rfl, h3, g3⟩
  have g3 := only_trans g2 g3
  rw [E58.out] at h3
  have l3 := wordP_len ({ digitsP p 2 with hour := digitsV p 2 } : PS) [58]
  clear z f5 h1 h2 g1 g2 h
  generalize hp3 : wordP ({ digitsP p 2 with hour := digitsV p 2 } : PS) [58] = p3 at *
  have Hp3 := Lib.hid hp3
  clear hp3
  have l3' : p3.left.length ≤ maxLen := by simp at l3; omega
  go_wp2_with fail
  refine (digits_c p3 2 (by omega) l3' g w3 h3 2 rfl).mono ?_; rintro e w4 ⟨rfl, ⟨h4, g4⟩, ⟨_, _, _, _, _, _, ⟨c6, f6⟩, _⟩, fz⟩
  have z := fz 6
  clear fz
  have h5 : Whole (w4.setCell ⟨g, 6, none⟩ (.int .i64 (digitsV p3 2))) g 45 ({ digitsP p3 2 with minute := digitsV p3 2 } : PS).cells := h4.put 6 _
  have g5 := only_set (only_trans g3 g4) 6 (.int .i64 (digitsV p3 2))
  have l5 := digitsP_len p3 2
  go_wp2_with fail
  refine (word_any _ _ g _ h5).mono ?_; rintro e w6 ⟨rfl, h6, g6⟩
  have g6 := only_trans g5 g6
  rw [E58.out] at h6
  have l6 := wordP_len ({ digitsP p3 2 with minute := digitsV p3 2 } : PS) [58]
  clear z f6 h4 h5 g4 g5 h3 g3
  generalize hp6 : wordP ({ digitsP p3 2 with minute := digitsV p3 2 } : PS) [58] = p6 at *
  have Hp6 := Lib.hid hp6
  clear hp6
  have l6' : p6.left.length ≤ maxLen := by simp at l6; omega
  go_wp2_with fail
  refine (digits_c p6 2 (by omega) l6' g w6 h6 2 rfl).mono ?_; rintro e w7 ⟨rfl, ⟨h7, g7⟩, ⟨_, _, _, _, _, _, _, ⟨c7, f7⟩⟩, fz⟩
  have z := fz 7
  clear fz
  have h8 : Whole (w7.setCell ⟨g, 7, none⟩ (.int .i64 (digitsV p6 2))) g 45 ({ digitsP p6 2 with sec := digitsV p6 2 } : PS).cells := h7.put 7 _
  have g8 := only_set (only_trans g6 g7) 7 (.int .i64 (digitsV p6 2))
  go_wp2
  go_end0
  refine ⟨rfl, ?_, g8⟩
  have : clockP p = ({ digitsP p6 2 with sec := digitsV p6 2 } : PS) := by unfold clockP; rw [← Hp6.out, ← Hp3.out]
  rw [this]
  exact h8
end Go.Proofs.Ytnaapoigmihjoaa
