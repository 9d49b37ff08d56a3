/- Layer 12: contracts of own, old and bare: the reader's three ways. Printed by gen_date.py. No condition. -/
import Derived.Test.YtnaapoigmihjoaaDateN
namespace Go.Proofs.Ytnaapoigmihjoaa
set_option linter.all false
open Go Go.RowKit

theorem word_l (p : PS) (l : List UInt8) (s : ByteArray) (hs : s = S l) (g : Nat) (w : World) (h : Whole w g 45 p.cells) :
    Calls Try.prog 34 #[.pointer (some ⟨g, 0, none⟩), .string s] w fun e w' => e = .returned (.tuple #[]) ∧ Whole w' g 45 (wordP p l).cells ∧ w.grownBy w' (some g) := by
  subst hs
  have := word_any p (S l) g w h
  rwa [S_toList] at this
theorem name_c (p : PS) (all : List UInt8) (K : Nat) (hK : all.length = 3 * K) (hK2 : K ≤ 12) (hm : p.left.length ≤ maxLen) (g : Nat) (w : World) (h : Whole w g 45 p.cells) (s : ByteArray) (hs : s = S all) :
    Calls Try.prog 33 #[.pointer (some ⟨g, 0, none⟩), .string s] w fun e w' => e = .returned (.int .i64 (nameV p all)) ∧ ((Whole w' g 45 (nameP p all).cells ∧ w.grownBy w' (some g)) ∧ ((∃ a, w'.cell? ⟨g, 0, none⟩ = some a) ∧ (∃ a, w'.cell? ⟨g, 1, none⟩ = some a) ∧ (∃ a, w'.cell? ⟨g, 2, none⟩ = some a) ∧ (∃ a, w'.cell? ⟨g, 3, none⟩ = some a) ∧ (∃ a, w'.cell? ⟨g, 4, none⟩ = some a) ∧ (∃ a, w'.cell? ⟨g, 5, none⟩ = some a) ∧ (∃ a, w'.cell? ⟨g, 6, none⟩ = some a) ∧ (∃ a, w'.cell? ⟨g, 7, none⟩ = some a)) ∧ (∀ i, w'.frozen? ⟨g, i, none⟩ = false)) := by
  subst hs
  refine (name_any p all K hK hK2 hm g w h).mono fun e w' ⟨h1, h2, h3⟩ => ⟨h1, ⟨h2, h3⟩, ⟨⟨_, h2.at_ 0⟩, ⟨_, h2.at_ 1⟩, ⟨_, h2.at_ 2⟩, ⟨_, h2.at_ 3⟩, ⟨_, h2.at_ 4⟩, ⟨_, h2.at_ 5⟩, ⟨_, h2.at_ 6⟩, ⟨_, h2.at_ 7⟩⟩, h2.free⟩

set_option maxHeartbeats 1600000 in
theorem own_any (p : PS) (now : Int) (hm : p.left.length ≤ maxLen) (g : Nat) (w : World) (h : Whole w g 45 p.cells) :
    Calls Try.prog 21 #[.pointer (some ⟨g, 0, none⟩), .int .i64 now] w fun e w' => e = .returned (.tuple #[]) ∧ Whole w' g 45 (ownP p).cells ∧ w.grownBy w' (some g) := by
  have g0 : w.grownBy w (some g) := World.grownBy.refl w _
  go_enter Try.func21, Try.ntmps21
  go_wp2_with fail
  refine (name_c p daysL 7 rfl (by omega) hm g _ h _ rfl).mono ?_; rintro e w1 ⟨rfl, ⟨hh, gg⟩, ⟨_, ⟨cc, ff⟩, _, _, _, _, _, _⟩, fz⟩
  have zz := fz 1
  clear fz
  have h1 : Whole (w1.setCell ⟨g, 1, none⟩ (.int .i64 (nameV p daysL))) g 45 ({ nameP p daysL with week := nameV p daysL } : PS).cells := hh.put 1 _
  have g1 := only_set (only_trans g0 gg) 1 (.int .i64 (nameV p daysL))
  have l1 : ({ nameP p daysL with week := nameV p daysL } : PS).left.length ≤ maxLen := Nat.le_trans (nameP_len _ _) hm
  go_wp2_with fail
  clear ff zz
  clear h g0 hm hh gg
  generalize e1 : ({ nameP p daysL with week := nameV p daysL } : PS) = p1 at h1
  have lq : p1.left.length ≤ maxLen := by rw [← e1]; exact l1
  have E1 := Lib.hid e1
  clear e1 l1
  have l1 := lq
  clear lq
  go_wp2_with fail
  refine (word_l p1 [44, 32] _ rfl g _ h1).mono ?_; rintro e w2 ⟨rfl, h2, gg⟩
  have g2 := only_trans g1 gg
  have l2 : (wordP p1 [44, 32]).left.length ≤ maxLen := Nat.le_trans (wordP_len _ _) l1
  clear h1 g1 l1 gg
  generalize e2 : wordP p1 [44, 32] = p2 at h2 l2
  have E2 := Lib.hid e2
  clear e2
  go_wp2_with fail
  refine (digits_c p2 2 (by omega) l2 g _ h2 2 rfl).mono ?_; rintro e w3 ⟨rfl, ⟨hh, gg⟩, ⟨_, _, _, _, ⟨cc, ff⟩, _, _, _⟩, fz⟩
  have zz := fz 4
  clear fz
  have h3 : Whole (w3.setCell ⟨g, 4, none⟩ (.int .i64 (digitsV p2 2))) g 45 ({ digitsP p2 2 with day := digitsV p2 2 } : PS).cells := hh.put 4 _
  have g3 := only_set (only_trans g2 gg) 4 (.int .i64 (digitsV p2 2))
  have l3 : ({ digitsP p2 2 with day := digitsV p2 2 } : PS).left.length ≤ maxLen := Nat.le_trans (digitsP_len _ _) l2
  go_wp2_with fail
  clear ff zz
  clear h2 g2 l2 hh gg
  generalize e3 : ({ digitsP p2 2 with day := digitsV p2 2 } : PS) = p3 at h3
  have lq : p3.left.length ≤ maxLen := by rw [← e3]; exact l3
  have E3 := Lib.hid e3
  clear e3 l3
  have l3 := lq
  clear lq
  go_wp2_with fail
  refine (word_l p3 [32] _ rfl g _ h3).mono ?_; rintro e w4 ⟨rfl, h4, gg⟩
  have g4 := only_trans g3 gg
  have l4 : (wordP p3 [32]).left.length ≤ maxLen := Nat.le_trans (wordP_len _ _) l3
  clear h3 g3 l3 gg
  generalize e4 : wordP p3 [32] = p4 at h4 l4
  have E4 := Lib.hid e4
  clear e4
  go_wp2_with fail
  refine (name_c p4 monthsL 12 rfl (by omega) l4 g _ h4 _ rfl).mono ?_; rintro e w5 ⟨rfl, ⟨hh, gg⟩, ⟨_, _, _, ⟨cc, ff⟩, _, _, _, _⟩, fz⟩
  have zz := fz 3
  clear fz
  have h5 : Whole (w5.setCell ⟨g, 3, none⟩ (.int .i64 (nameV p4 monthsL))) g 45 ({ nameP p4 monthsL with month := nameV p4 monthsL } : PS).cells := hh.put 3 _
  have g5 := only_set (only_trans g4 gg) 3 (.int .i64 (nameV p4 monthsL))
  have l5 : ({ nameP p4 monthsL with month := nameV p4 monthsL } : PS).left.length ≤ maxLen := Nat.le_trans (nameP_len _ _) l4
  go_wp2_with fail
  clear ff zz
  clear h4 g4 l4 hh gg
  generalize e5 : ({ nameP p4 monthsL with month := nameV p4 monthsL } : PS) = p5 at h5
  have lq : p5.left.length ≤ maxLen := by rw [← e5]; exact l5
  have E5 := Lib.hid e5
  clear e5 l5
  have l5 := lq
  clear lq
  go_wp2_with fail
  refine (word_l p5 [32] _ rfl g _ h5).mono ?_; rintro e w6 ⟨rfl, h6, gg⟩
  have g6 := only_trans g5 gg
  have l6 : (wordP p5 [32]).left.length ≤ maxLen := Nat.le_trans (wordP_len _ _) l5
  clear h5 g5 l5 gg
  generalize e6 : wordP p5 [32] = p6 at h6 l6
  have E6 := Lib.hid e6
  clear e6
  go_wp2_with fail
  refine (digits_c p6 4 (by omega) l6 g _ h6 4 rfl).mono ?_; rintro e w7 ⟨rfl, ⟨hh, gg⟩, ⟨_, _, ⟨cc, ff⟩, _, _, _, _, _⟩, fz⟩
  have zz := fz 2
  clear fz
  have h7 : Whole (w7.setCell ⟨g, 2, none⟩ (.int .i64 (digitsV p6 4))) g 45 ({ digitsP p6 4 with year := digitsV p6 4 } : PS).cells := hh.put 2 _
  have g7 := only_set (only_trans g6 gg) 2 (.int .i64 (digitsV p6 4))
  have l7 : ({ digitsP p6 4 with year := digitsV p6 4 } : PS).left.length ≤ maxLen := Nat.le_trans (digitsP_len _ _) l6
  go_wp2_with fail
  clear ff zz
  clear h6 g6 l6 hh gg
  generalize e7 : ({ digitsP p6 4 with year := digitsV p6 4 } : PS) = p7 at h7
  have lq : p7.left.length ≤ maxLen := by rw [← e7]; exact l7
  have E7 := Lib.hid e7
  clear e7 l7
  have l7 := lq
  clear lq
  go_wp2_with fail
  refine (word_l p7 [32] _ rfl g _ h7).mono ?_; rintro e w8 ⟨rfl, h8, gg⟩
  have g8 := only_trans g7 gg
  have l8 : (wordP p7 [32]).left.length ≤ maxLen := Nat.le_trans (wordP_len _ _) l7
  clear h7 g7 l7 gg
  generalize e8 : wordP p7 [32] = p8 at h8 l8
  have E8 := Lib.hid e8
  clear e8
  go_wp2_with fail
  refine (clock_any p8 l8 g _ h8).mono ?_; rintro e w9 ⟨rfl, h9, gg⟩
  have g9 := only_trans g8 gg
  have l9 : (clockP p8).left.length ≤ maxLen := Nat.le_trans (clockP_len _) l8
  clear h8 g8 l8 gg
  generalize e9 : clockP p8 = p9 at h9 l9
  have E9 := Lib.hid e9
  clear e9
  go_wp2_with fail
  refine (word_l p9 [32, 71, 77, 84] _ rfl g _ h9).mono ?_; rintro e w10 ⟨rfl, h10, gg⟩
  have g10 := only_trans g9 gg
  have l10 : (wordP p9 [32, 71, 77, 84]).left.length ≤ maxLen := Nat.le_trans (wordP_len _ _) l9
  clear h9 g9 l9 gg
  generalize e10 : wordP p9 [32, 71, 77, 84] = p10 at h10 l10
  have E10 := Lib.hid e10
  clear e10
  go_wp2
  go_end0
  refine ⟨rfl, ?_, g10⟩
  have hfin : ownP p = p10 := by unfold ownP; simp only [E1.out, E2.out, E3.out, E4.out, E5.out, E6.out, E7.out, E8.out, E9.out, E10.out]
  rw [hfin]
  exact h10
set_option maxHeartbeats 1600000 in
theorem old_any (p : PS) (now : Int) (n0 : 1970 ≤ now) (n1 : now ≤ 9999) (hm : p.left.length ≤ maxLen) (g : Nat) (w : World) (h : Whole w g 45 p.cells) :
    Calls Try.prog 22 #[.pointer (some ⟨g, 0, none⟩), .int .i64 now] w fun e w' => e = .returned (.tuple #[]) ∧ Whole w' g 45 (oldP p now).cells ∧ w.grownBy w' (some g) := by
  have g0 : w.grownBy w (some g) := World.grownBy.refl w _
  go_enter Try.func22, Try.ntmps22
  go_wp2_with fail
  refine (name_c p daysL 7 rfl (by omega) hm g _ h _ rfl).mono ?_; rintro e w12 ⟨rfl, ⟨hh, gg⟩, ⟨_, ⟨cc, ff⟩, _, _, _, _, _, _⟩, fz⟩
  have zz := fz 1
  clear fz
  have h12 : Whole (w12.setCell ⟨g, 1, none⟩ (.int .i64 (nameV p daysL))) g 45 (({ nameP p daysL with week := nameV p daysL } : PS)).cells := hh.put 1 _
  have g12 := only_set (only_trans g0 gg) 1 (.int .i64 (nameV p daysL))
  have lx := Nat.le_trans (nameP_len p daysL) hm
  have f8 : w12.cell? ⟨g, 8, none⟩ = some (.bool (nameP p daysL).bad) := hh.at_ 8
  clear h g0 hm hh gg
  cases hbad : (nameP p daysL).bad
  · rw [hbad] at f8
    have hwk := nameV_bd p daysL 7 rfl (by omega)
    have hwk2 : nameV p daysL ≤ 6 := by omega
    have hll := longN_len (nameV p daysL) hwk.1 hwk2
    have hcut := S_drop (longN (nameV p daysL)) 3 hll.1
    have Eb : Hid (oldW ({ nameP p daysL with week := nameV p daysL } : PS) = wordP ({ nameP p daysL with week := nameV p daysL } : PS) ((longN (nameV p daysL)).drop 3)) := Lib.hid (by unfold oldW; simp [hbad])
    clear hbad
    go_wp2_with fail
    refine (long_any _ hwk.1 hwk2 _).mono ?_; rintro e w' ⟨rfl, hw'⟩
    subst hw'
    go_wp2_with fail
    refine (word_l ({ nameP p daysL with week := nameV p daysL } : PS) ((longN (nameV p daysL)).drop 3) _ rfl g _ h12).mono ?_; rintro e w13 ⟨rfl, h13, gg⟩
    have g13 := only_trans g12 gg
    have l13 : (wordP ({ nameP p daysL with week := nameV p daysL } : PS) ((longN (nameV p daysL)).drop 3)).left.length ≤ maxLen := Nat.le_trans (wordP_len _ _) lx
    clear h12 g12 lx gg f8 ff zz hwk hwk2 hll hcut
    rw [← Eb.out] at h13
    rw [← Eb.out] at l13
    clear Eb
    generalize eb : oldW ({ nameP p daysL with week := nameV p daysL } : PS) = q13 at h13 l13
    have B13 := Lib.hid eb
    clear eb
    go_wp2_with fail
    refine (word_l q13 [44, 32] _ rfl g _ h13).mono ?_; rintro e w14 ⟨rfl, h14, gg⟩
    have g14 := only_trans g13 gg
    have l14 : (wordP q13 [44, 32]).left.length ≤ maxLen := Nat.le_trans (wordP_len _ _) l13
    clear h13 g13 l13 gg
    generalize e14 : wordP q13 [44, 32] = p14 at h14 l14
    have E14 := Lib.hid e14
    clear e14
    go_wp2_with fail
    refine (digits_c p14 2 (by omega) l14 g _ h14 2 rfl).mono ?_; rintro e w15 ⟨rfl, ⟨hh, gg⟩, ⟨_, _, _, _, ⟨cc, ff⟩, _, _, _⟩, fz⟩
    have zz := fz 4
    clear fz
    have h15 : Whole (w15.setCell ⟨g, 4, none⟩ (.int .i64 (digitsV p14 2))) g 45 ({ digitsP p14 2 with day := digitsV p14 2 } : PS).cells := hh.put 4 _
    have g15 := only_set (only_trans g14 gg) 4 (.int .i64 (digitsV p14 2))
    have l15 : ({ digitsP p14 2 with day := digitsV p14 2 } : PS).left.length ≤ maxLen := Nat.le_trans (digitsP_len _ _) l14
    go_wp2_with fail
    clear ff zz
    clear h14 g14 l14 hh gg
    generalize e15 : ({ digitsP p14 2 with day := digitsV p14 2 } : PS) = p15 at h15
    have lq : p15.left.length ≤ maxLen := by rw [← e15]; exact l15
    have E15 := Lib.hid e15
    clear e15 l15
    have l15 := lq
    clear lq
    go_wp2_with fail
    refine (word_l p15 [45] _ rfl g _ h15).mono ?_; rintro e w16 ⟨rfl, h16, gg⟩
    have g16 := only_trans g15 gg
    have l16 : (wordP p15 [45]).left.length ≤ maxLen := Nat.le_trans (wordP_len _ _) l15
    clear h15 g15 l15 gg
    generalize e16 : wordP p15 [45] = p16 at h16 l16
    have E16 := Lib.hid e16
    clear e16
    go_wp2_with fail
    refine (name_c p16 monthsL 12 rfl (by omega) l16 g _ h16 _ rfl).mono ?_; rintro e w17 ⟨rfl, ⟨hh, gg⟩, ⟨_, _, _, ⟨cc, ff⟩, _, _, _, _⟩, fz⟩
    have zz := fz 3
    clear fz
    have h17 : Whole (w17.setCell ⟨g, 3, none⟩ (.int .i64 (nameV p16 monthsL))) g 45 ({ nameP p16 monthsL with month := nameV p16 monthsL } : PS).cells := hh.put 3 _
    have g17 := only_set (only_trans g16 gg) 3 (.int .i64 (nameV p16 monthsL))
    have l17 : ({ nameP p16 monthsL with month := nameV p16 monthsL } : PS).left.length ≤ maxLen := Nat.le_trans (nameP_len _ _) l16
    go_wp2_with fail
    clear ff zz
    clear h16 g16 l16 hh gg
    generalize e17 : ({ nameP p16 monthsL with month := nameV p16 monthsL } : PS) = p17 at h17
    have lq : p17.left.length ≤ maxLen := by rw [← e17]; exact l17
    have E17 := Lib.hid e17
    clear e17 l17
    have l17 := lq
    clear lq
    go_wp2_with fail
    refine (word_l p17 [45] _ rfl g _ h17).mono ?_; rintro e w18 ⟨rfl, h18, gg⟩
    have g18 := only_trans g17 gg
    have l18 : (wordP p17 [45]).left.length ≤ maxLen := Nat.le_trans (wordP_len _ _) l17
    clear h17 g17 l17 gg
    generalize e18 : wordP p17 [45] = p18 at h18 l18
    have E18 := Lib.hid e18
    clear e18
    have hvb := digitsV_bd p18 2
    have hvb2 : 0 ≤ digitsV p18 2 ∧ digitsV p18 2 ≤ 99 := by omega
    have hnm : 0 ≤ now % 100 ∧ now % 100 ≤ 99 := by omega
    clear hvb
    go_wp2_with fail
    refine (digits_c p18 2 (by omega) l18 g _ h18 2 rfl).mono ?_; rintro e w20 ⟨rfl, ⟨hh, gg⟩, ⟨_, _, ⟨cc, ff⟩, _, _, _, _, _⟩, fz⟩
    have zz := fz 2
    clear fz
    by_cases hy : now + 50 < now - now % 100 + digitsV p18 2
    · have Hv : Hid (yearO now (digitsV p18 2) = now - now % 100 + digitsV p18 2 - 100) := Lib.hid (by unfold yearO; rw [if_pos hy])
      have h21 : Whole ((w20.setCell ⟨g, 2, none⟩ (.int .i64 (now - now % 100 + digitsV p18 2))).setCell ⟨g, 2, none⟩ (.int .i64 (now - now % 100 + digitsV p18 2 - 100))) g 45 ({ digitsP p18 2 with year := now - now % 100 + digitsV p18 2 - 100 } : PS).cells := (hh.put 2 (.int .i64 (now - now % 100 + digitsV p18 2))).put 2 (.int .i64 (now - now % 100 + digitsV p18 2 - 100))
      have g21 := only_set (only_set (only_trans g18 gg) 2 (.int .i64 (now - now % 100 + digitsV p18 2))) 2 (.int .i64 (now - now % 100 + digitsV p18 2 - 100))
      have lx := Nat.le_trans (digitsP_len p18 2) l18
      have Hq : Hid (({ digitsP p18 2 with year := now - now % 100 + digitsV p18 2 - 100 } : PS) = { digitsP p18 2 with year := yearO now (digitsV p18 2) }) := Lib.hid (by rw [Hv.out])
      clear Hv
      go_wp2_with fail
      clear ff zz hy h18 g18 l18 hh gg hvb2
      rw [Hq.out] at h21
      clear Hq
      generalize eb : ({ digitsP p18 2 with year := yearO now (digitsV p18 2) } : PS) = q21 at h21
      have l21 : q21.left.length ≤ maxLen := by rw [← eb]; exact lx
      have B21 := Lib.hid eb
      clear eb lx
      go_wp2_with fail
      refine (word_l q21 [32] _ rfl g _ h21).mono ?_; rintro e w22 ⟨rfl, h22, gg⟩
      have g22 := only_trans g21 gg
      have l22 : (wordP q21 [32]).left.length ≤ maxLen := Nat.le_trans (wordP_len _ _) l21
      clear h21 g21 l21 gg
      generalize e22 : wordP q21 [32] = p22 at h22 l22
      have E22 := Lib.hid e22
      clear e22
      go_wp2_with fail
      refine (clock_any p22 l22 g _ h22).mono ?_; rintro e w23 ⟨rfl, h23, gg⟩
      have g23 := only_trans g22 gg
      have l23 : (clockP p22).left.length ≤ maxLen := Nat.le_trans (clockP_len _) l22
      clear h22 g22 l22 gg
      generalize e23 : clockP p22 = p23 at h23 l23
      have E23 := Lib.hid e23
      clear e23
      go_wp2_with fail
      refine (word_l p23 [32, 71, 77, 84] _ rfl g _ h23).mono ?_; rintro e w24 ⟨rfl, h24, gg⟩
      have g24 := only_trans g23 gg
      have l24 : (wordP p23 [32, 71, 77, 84]).left.length ≤ maxLen := Nat.le_trans (wordP_len _ _) l23
      clear h23 g23 l23 gg
      generalize e24 : wordP p23 [32, 71, 77, 84] = p24 at h24 l24
      have E24 := Lib.hid e24
      clear e24
      go_wp2
      go_end0
      refine ⟨rfl, ?_, g24⟩
      have hfin : oldP p now = p24 := by unfold oldP; simp only [B13.out, E14.out, E15.out, E16.out, E17.out, E18.out, B21.out, E22.out, E23.out, E24.out]
      rw [hfin]
      exact h24
    · have Hv : Hid (yearO now (digitsV p18 2) = now - now % 100 + digitsV p18 2) := Lib.hid (by unfold yearO; rw [if_neg hy])
      have h25 : Whole (w20.setCell ⟨g, 2, none⟩ (.int .i64 (now - now % 100 + digitsV p18 2))) g 45 ({ digitsP p18 2 with year := now - now % 100 + digitsV p18 2 } : PS).cells := hh.put 2 (.int .i64 (now - now % 100 + digitsV p18 2))
      have g25 := only_set (only_trans g18 gg) 2 (.int .i64 (now - now % 100 + digitsV p18 2))
      have lx := Nat.le_trans (digitsP_len p18 2) l18
      have Hq : Hid (({ digitsP p18 2 with year := now - now % 100 + digitsV p18 2 } : PS) = { digitsP p18 2 with year := yearO now (digitsV p18 2) }) := Lib.hid (by rw [Hv.out])
      clear Hv
      go_wp2_with fail
      clear ff zz hy h18 g18 l18 hh gg hvb2
      rw [Hq.out] at h25
      clear Hq
      generalize eb : ({ digitsP p18 2 with year := yearO now (digitsV p18 2) } : PS) = q25 at h25
      have l25 : q25.left.length ≤ maxLen := by rw [← eb]; exact lx
      have B25 := Lib.hid eb
      clear eb lx
      go_wp2_with fail
      refine (word_l q25 [32] _ rfl g _ h25).mono ?_; rintro e w26 ⟨rfl, h26, gg⟩
      have g26 := only_trans g25 gg
      have l26 : (wordP q25 [32]).left.length ≤ maxLen := Nat.le_trans (wordP_len _ _) l25
      clear h25 g25 l25 gg
      generalize e26 : wordP q25 [32] = p26 at h26 l26
      have E26 := Lib.hid e26
      clear e26
      go_wp2_with fail
      refine (clock_any p26 l26 g _ h26).mono ?_; rintro e w27 ⟨rfl, h27, gg⟩
      have g27 := only_trans g26 gg
      have l27 : (clockP p26).left.length ≤ maxLen := Nat.le_trans (clockP_len _) l26
      clear h26 g26 l26 gg
      generalize e27 : clockP p26 = p27 at h27 l27
      have E27 := Lib.hid e27
      clear e27
      go_wp2_with fail
      refine (word_l p27 [32, 71, 77, 84] _ rfl g _ h27).mono ?_; rintro e w28 ⟨rfl, h28, gg⟩
      have g28 := only_trans g27 gg
      have l28 : (wordP p27 [32, 71, 77, 84]).left.length ≤ maxLen := Nat.le_trans (wordP_len _ _) l27
      clear h27 g27 l27 gg
      generalize e28 : wordP p27 [32, 71, 77, 84] = p28 at h28 l28
      have E28 := Lib.hid e28
      clear e28
      go_wp2
      go_end0
      refine ⟨rfl, ?_, g28⟩
      have hfin : oldP p now = p28 := by unfold oldP; simp only [B13.out, E14.out, E15.out, E16.out, E17.out, E18.out, B25.out, E26.out, E27.out, E28.out]
      rw [hfin]
      exact h28
  · rw [hbad] at f8
    have Eb : Hid (oldW ({ nameP p daysL with week := nameV p daysL } : PS) = ({ nameP p daysL with week := nameV p daysL } : PS)) := Lib.hid (by unfold oldW; simp [hbad])
    clear hbad
    go_wp2_with fail
    have h29 := h12
    have g29 := g12
    clear h12 g12 f8 ff zz
    rw [← Eb.out] at h29
    have l29 : (oldW ({ nameP p daysL with week := nameV p daysL } : PS)).left.length ≤ maxLen := by rw [Eb.out]; exact lx
    clear lx
    clear Eb
    generalize eb : oldW ({ nameP p daysL with week := nameV p daysL } : PS) = q29 at h29 l29
    have B29 := Lib.hid eb
    clear eb
    go_wp2_with fail
    refine (word_l q29 [44, 32] _ rfl g _ h29).mono ?_; rintro e w30 ⟨rfl, h30, gg⟩
    have g30 := only_trans g29 gg
    have l30 : (wordP q29 [44, 32]).left.length ≤ maxLen := Nat.le_trans (wordP_len _ _) l29
    clear h29 g29 l29 gg
    generalize e30 : wordP q29 [44, 32] = p30 at h30 l30
    have E30 := Lib.hid e30
    clear e30
    go_wp2_with fail
    refine (digits_c p30 2 (by omega) l30 g _ h30 2 rfl).mono ?_; rintro e w31 ⟨rfl, ⟨hh, gg⟩, ⟨_, _, _, _, ⟨cc, ff⟩, _, _, _⟩, fz⟩
    have zz := fz 4
    clear fz
    have h31 : Whole (w31.setCell ⟨g, 4, none⟩ (.int .i64 (digitsV p30 2))) g 45 ({ digitsP p30 2 with day := digitsV p30 2 } : PS).cells := hh.put 4 _
    have g31 := only_set (only_trans g30 gg) 4 (.int .i64 (digitsV p30 2))
    have l31 : ({ digitsP p30 2 with day := digitsV p30 2 } : PS).left.length ≤ maxLen := Nat.le_trans (digitsP_len _ _) l30
    go_wp2_with fail
    clear ff zz
    clear h30 g30 l30 hh gg
    generalize e31 : ({ digitsP p30 2 with day := digitsV p30 2 } : PS) = p31 at h31
    have lq : p31.left.length ≤ maxLen := by rw [← e31]; exact l31
    have E31 := Lib.hid e31
    clear e31 l31
    have l31 := lq
    clear lq
    go_wp2_with fail
    refine (word_l p31 [45] _ rfl g _ h31).mono ?_; rintro e w32 ⟨rfl, h32, gg⟩
    have g32 := only_trans g31 gg
    have l32 : (wordP p31 [45]).left.length ≤ maxLen := Nat.le_trans (wordP_len _ _) l31
    clear h31 g31 l31 gg
    generalize e32 : wordP p31 [45] = p32 at h32 l32
    have E32 := Lib.hid e32
    clear e32
    go_wp2_with fail
    refine (name_c p32 monthsL 12 rfl (by omega) l32 g _ h32 _ rfl).mono ?_; rintro e w33 ⟨rfl, ⟨hh, gg⟩, ⟨_, _, _, ⟨cc, ff⟩, _, _, _, _⟩, fz⟩
    have zz := fz 3
    clear fz
    have h33 : Whole (w33.setCell ⟨g, 3, none⟩ (.int .i64 (nameV p32 monthsL))) g 45 ({ nameP p32 monthsL with month := nameV p32 monthsL } : PS).cells := hh.put 3 _
    have g33 := only_set (only_trans g32 gg) 3 (.int .i64 (nameV p32 monthsL))
    have l33 : ({ nameP p32 monthsL with month := nameV p32 monthsL } : PS).left.length ≤ maxLen := Nat.le_trans (nameP_len _ _) l32
    go_wp2_with fail
    clear ff zz
    clear h32 g32 l32 hh gg
    generalize e33 : ({ nameP p32 monthsL with month := nameV p32 monthsL } : PS) = p33 at h33
    have lq : p33.left.length ≤ maxLen := by rw [← e33]; exact l33
    have E33 := Lib.hid e33
    clear e33 l33
    have l33 := lq
    clear lq
    go_wp2_with fail
    refine (word_l p33 [45] _ rfl g _ h33).mono ?_; rintro e w34 ⟨rfl, h34, gg⟩
    have g34 := only_trans g33 gg
    have l34 : (wordP p33 [45]).left.length ≤ maxLen := Nat.le_trans (wordP_len _ _) l33
    clear h33 g33 l33 gg
    generalize e34 : wordP p33 [45] = p34 at h34 l34
    have E34 := Lib.hid e34
    clear e34
    have hvb := digitsV_bd p34 2
    have hvb2 : 0 ≤ digitsV p34 2 ∧ digitsV p34 2 ≤ 99 := by omega
    have hnm : 0 ≤ now % 100 ∧ now % 100 ≤ 99 := by omega
    clear hvb
    go_wp2_with fail
    refine (digits_c p34 2 (by omega) l34 g _ h34 2 rfl).mono ?_; rintro e w36 ⟨rfl, ⟨hh, gg⟩, ⟨_, _, ⟨cc, ff⟩, _, _, _, _, _⟩, fz⟩
    have zz := fz 2
    clear fz
    by_cases hy : now + 50 < now - now % 100 + digitsV p34 2
    · have Hv : Hid (yearO now (digitsV p34 2) = now - now % 100 + digitsV p34 2 - 100) := Lib.hid (by unfold yearO; rw [if_pos hy])
      have h37 : Whole ((w36.setCell ⟨g, 2, none⟩ (.int .i64 (now - now % 100 + digitsV p34 2))).setCell ⟨g, 2, none⟩ (.int .i64 (now - now % 100 + digitsV p34 2 - 100))) g 45 ({ digitsP p34 2 with year := now - now % 100 + digitsV p34 2 - 100 } : PS).cells := (hh.put 2 (.int .i64 (now - now % 100 + digitsV p34 2))).put 2 (.int .i64 (now - now % 100 + digitsV p34 2 - 100))
      have g37 := only_set (only_set (only_trans g34 gg) 2 (.int .i64 (now - now % 100 + digitsV p34 2))) 2 (.int .i64 (now - now % 100 + digitsV p34 2 - 100))
      have lx := Nat.le_trans (digitsP_len p34 2) l34
      have Hq : Hid (({ digitsP p34 2 with year := now - now % 100 + digitsV p34 2 - 100 } : PS) = { digitsP p34 2 with year := yearO now (digitsV p34 2) }) := Lib.hid (by rw [Hv.out])
      clear Hv
      go_wp2_with fail
      clear ff zz hy h34 g34 l34 hh gg hvb2
      rw [Hq.out] at h37
      clear Hq
      generalize eb : ({ digitsP p34 2 with year := yearO now (digitsV p34 2) } : PS) = q37 at h37
      have l37 : q37.left.length ≤ maxLen := by rw [← eb]; exact lx
      have B37 := Lib.hid eb
      clear eb lx
      go_wp2_with fail
      refine (word_l q37 [32] _ rfl g _ h37).mono ?_; rintro e w38 ⟨rfl, h38, gg⟩
      have g38 := only_trans g37 gg
      have l38 : (wordP q37 [32]).left.length ≤ maxLen := Nat.le_trans (wordP_len _ _) l37
      clear h37 g37 l37 gg
      generalize e38 : wordP q37 [32] = p38 at h38 l38
      have E38 := Lib.hid e38
      clear e38
      go_wp2_with fail
      refine (clock_any p38 l38 g _ h38).mono ?_; rintro e w39 ⟨rfl, h39, gg⟩
      have g39 := only_trans g38 gg
      have l39 : (clockP p38).left.length ≤ maxLen := Nat.le_trans (clockP_len _) l38
      clear h38 g38 l38 gg
      generalize e39 : clockP p38 = p39 at h39 l39
      have E39 := Lib.hid e39
      clear e39
      go_wp2_with fail
      refine (word_l p39 [32, 71, 77, 84] _ rfl g _ h39).mono ?_; rintro e w40 ⟨rfl, h40, gg⟩
      have g40 := only_trans g39 gg
      have l40 : (wordP p39 [32, 71, 77, 84]).left.length ≤ maxLen := Nat.le_trans (wordP_len _ _) l39
      clear h39 g39 l39 gg
      generalize e40 : wordP p39 [32, 71, 77, 84] = p40 at h40 l40
      have E40 := Lib.hid e40
      clear e40
      go_wp2
      go_end0
      refine ⟨rfl, ?_, g40⟩
      have hfin : oldP p now = p40 := by unfold oldP; simp only [B29.out, E30.out, E31.out, E32.out, E33.out, E34.out, B37.out, E38.out, E39.out, E40.out]
      rw [hfin]
      exact h40
    · have Hv : Hid (yearO now (digitsV p34 2) = now - now % 100 + digitsV p34 2) := Lib.hid (by unfold yearO; rw [if_neg hy])
      have h41 : Whole (w36.setCell ⟨g, 2, none⟩ (.int .i64 (now - now % 100 + digitsV p34 2))) g 45 ({ digitsP p34 2 with year := now - now % 100 + digitsV p34 2 } : PS).cells := hh.put 2 (.int .i64 (now - now % 100 + digitsV p34 2))
      have g41 := only_set (only_trans g34 gg) 2 (.int .i64 (now - now % 100 + digitsV p34 2))
      have lx := Nat.le_trans (digitsP_len p34 2) l34
      have Hq : Hid (({ digitsP p34 2 with year := now - now % 100 + digitsV p34 2 } : PS) = { digitsP p34 2 with year := yearO now (digitsV p34 2) }) := Lib.hid (by rw [Hv.out])
      clear Hv
      go_wp2_with fail
      clear ff zz hy h34 g34 l34 hh gg hvb2
      rw [Hq.out] at h41
      clear Hq
      generalize eb : ({ digitsP p34 2 with year := yearO now (digitsV p34 2) } : PS) = q41 at h41
      have l41 : q41.left.length ≤ maxLen := by rw [← eb]; exact lx
      have B41 := Lib.hid eb
      clear eb lx
      go_wp2_with fail
      refine (word_l q41 [32] _ rfl g _ h41).mono ?_; rintro e w42 ⟨rfl, h42, gg⟩
      have g42 := only_trans g41 gg
      have l42 : (wordP q41 [32]).left.length ≤ maxLen := Nat.le_trans (wordP_len _ _) l41
      clear h41 g41 l41 gg
      generalize e42 : wordP q41 [32] = p42 at h42 l42
      have E42 := Lib.hid e42
      clear e42
      go_wp2_with fail
      refine (clock_any p42 l42 g _ h42).mono ?_; rintro e w43 ⟨rfl, h43, gg⟩
      have g43 := only_trans g42 gg
      have l43 : (clockP p42).left.length ≤ maxLen := Nat.le_trans (clockP_len _) l42
      clear h42 g42 l42 gg
      generalize e43 : clockP p42 = p43 at h43 l43
      have E43 := Lib.hid e43
      clear e43
      go_wp2_with fail
      refine (word_l p43 [32, 71, 77, 84] _ rfl g _ h43).mono ?_; rintro e w44 ⟨rfl, h44, gg⟩
      have g44 := only_trans g43 gg
      have l44 : (wordP p43 [32, 71, 77, 84]).left.length ≤ maxLen := Nat.le_trans (wordP_len _ _) l43
      clear h43 g43 l43 gg
      generalize e44 : wordP p43 [32, 71, 77, 84] = p44 at h44 l44
      have E44 := Lib.hid e44
      clear e44
      go_wp2
      go_end0
      refine ⟨rfl, ?_, g44⟩
      have hfin : oldP p now = p44 := by unfold oldP; simp only [B29.out, E30.out, E31.out, E32.out, E33.out, E34.out, B41.out, E42.out, E43.out, E44.out]
      rw [hfin]
      exact h44
theorem hasp_l (l : List UInt8) (w : World) :
    Calls Try.prog 38 #[.string (S l), .string { data := #[32] }] w fun e w' => e = .returned (.bool (Lib.hasPrefix l [32])) ∧ w = w' := by
  have h := Any.strings_HasPrefix Try.lays99 (S l) { data := #[32] } w
  change Calls Try.prog 38 _ _ _ at h
  rw [← ByteArray.toList_eq, S_toList] at h
  exact h.mono fun e w' ⟨h1, h2⟩ => ⟨h1, h2.symm⟩
set_option maxHeartbeats 1600000 in
theorem bare_any (p : PS) (now : Int) (hm : p.left.length ≤ maxLen) (g : Nat) (w : World) (h : Whole w g 45 p.cells) :
    Calls Try.prog 23 #[.pointer (some ⟨g, 0, none⟩), .int .i64 now] w fun e w' => e = .returned (.tuple #[]) ∧ Whole w' g 45 (bareP p).cells ∧ w.grownBy w' (some g) := by
  have g0 : w.grownBy w (some g) := World.grownBy.refl w _
  go_enter Try.func23, Try.ntmps23
  go_wp2_with fail
  refine (name_c p daysL 7 rfl (by omega) hm g _ h _ rfl).mono ?_; rintro e w45 ⟨rfl, ⟨hh, gg⟩, ⟨_, ⟨cc, ff⟩, _, _, _, _, _, _⟩, fz⟩
  have zz := fz 1
  clear fz
  have h45 : Whole (w45.setCell ⟨g, 1, none⟩ (.int .i64 (nameV p daysL))) g 45 ({ nameP p daysL with week := nameV p daysL } : PS).cells := hh.put 1 _
  have g45 := only_set (only_trans g0 gg) 1 (.int .i64 (nameV p daysL))
  have l45 : ({ nameP p daysL with week := nameV p daysL } : PS).left.length ≤ maxLen := Nat.le_trans (nameP_len _ _) hm
  go_wp2_with fail
  clear ff zz
  clear h g0 hm hh gg
  generalize e45 : ({ nameP p daysL with week := nameV p daysL } : PS) = p45 at h45
  have lq : p45.left.length ≤ maxLen := by rw [← e45]; exact l45
  have E45 := Lib.hid e45
  clear e45 l45
  have l45 := lq
  clear lq
  go_wp2_with fail
  refine (word_l p45 [32] _ rfl g _ h45).mono ?_; rintro e w46 ⟨rfl, h46, gg⟩
  have g46 := only_trans g45 gg
  have l46 : (wordP p45 [32]).left.length ≤ maxLen := Nat.le_trans (wordP_len _ _) l45
  clear h45 g45 l45 gg
  generalize e46 : wordP p45 [32] = p46 at h46 l46
  have E46 := Lib.hid e46
  clear e46
  go_wp2_with fail
  refine (name_c p46 monthsL 12 rfl (by omega) l46 g _ h46 _ rfl).mono ?_; rintro e w47 ⟨rfl, ⟨hh, gg⟩, ⟨_, _, _, ⟨cc, ff⟩, _, _, _, _⟩, fz⟩
  have zz := fz 3
  clear fz
  have h47 : Whole (w47.setCell ⟨g, 3, none⟩ (.int .i64 (nameV p46 monthsL))) g 45 ({ nameP p46 monthsL with month := nameV p46 monthsL } : PS).cells := hh.put 3 _
  have g47 := only_set (only_trans g46 gg) 3 (.int .i64 (nameV p46 monthsL))
  have l47 : ({ nameP p46 monthsL with month := nameV p46 monthsL } : PS).left.length ≤ maxLen := Nat.le_trans (nameP_len _ _) l46
  go_wp2_with fail
  clear ff zz
  clear h46 g46 l46 hh gg
  generalize e47 : ({ nameP p46 monthsL with month := nameV p46 monthsL } : PS) = p47 at h47
  have lq : p47.left.length ≤ maxLen := by rw [← e47]; exact l47
  have E47 := Lib.hid e47
  clear e47 l47
  have l47 := lq
  clear lq
  go_wp2_with fail
  refine (word_l p47 [32] _ rfl g _ h47).mono ?_; rintro e w48 ⟨rfl, h48, gg⟩
  have g48 := only_trans g47 gg
  have l48 : (wordP p47 [32]).left.length ≤ maxLen := Nat.le_trans (wordP_len _ _) l47
  clear h47 g47 l47 gg
  generalize e48 : wordP p47 [32] = p48 at h48 l48
  have E48 := Lib.hid e48
  clear e48
  have f0 : w48.cell? ⟨g, 0, none⟩ = some (.string (S p48.left)) := h48.at_ 0
  go_wp2_with fail
  refine (hasp_l p48.left _).mono ?_; rintro e w' ⟨rfl, hw'⟩
  subst hw'
  clear f0
  cases hp : Lib.hasPrefix p48.left [32]
  · go_wp2_with fail
    have hvb := digitsV_bd p48 2
    refine (digits_c p48 2 (by omega) l48 g _ h48 2 rfl).mono ?_; rintro e w51 ⟨rfl, ⟨hh, gg⟩, ⟨_, _, _, _, ⟨cc, ff⟩, _, _, _⟩, fz⟩
    have zz := fz 4
    have z8 := fz 8
    clear fz
    have f8 : w51.cell? ⟨g, 8, none⟩ = some (.bool (digitsP p48 2).bad) := hh.at_ 8
    have lx := Nat.le_trans (digitsP_len p48 2) l48
    cases hb : (digitsP p48 2).bad
    · rw [hb] at f8
      have Hq : Hid (({ digitsP p48 2 with day := digitsV p48 2, bad := decide (digitsV p48 2 < 10) } : PS) = bareD p48) := Lib.hid (by unfold bareD; rw [hp]; simp [hb])
      have h52 : Whole ((w51.setCell ⟨g, 4, none⟩ (.int .i64 (digitsV p48 2))).setCell ⟨g, 8, none⟩ (.bool (decide (digitsV p48 2 < 10)))) g 45 ({ digitsP p48 2 with day := digitsV p48 2, bad := decide (digitsV p48 2 < 10) } : PS).cells := (hh.put 4 _).put 8 _
      have g52 := only_set (only_set (only_trans g48 gg) 4 (.int .i64 (digitsV p48 2))) 8 (.bool (decide (digitsV p48 2 < 10)))
      clear hb hp hh gg h48 g48
      go_wp2_with fail
      clear f8 z8 zz ff hvb
      rw [Hq.out] at h52
      have l52 : (bareD p48).left.length ≤ maxLen := by rw [← Hq.out]; exact lx
      clear Hq lx
      generalize eb : bareD p48 = q52 at h52 l52
      have B52 := Lib.hid eb
      clear eb
      go_wp2_with fail
      refine (word_l q52 [32] _ rfl g _ h52).mono ?_; rintro e w53 ⟨rfl, h53, gg⟩
      have g53 := only_trans g52 gg
      have l53 : (wordP q52 [32]).left.length ≤ maxLen := Nat.le_trans (wordP_len _ _) l52
      clear h52 g52 l52 gg
      generalize e53 : wordP q52 [32] = p53 at h53 l53
      have E53 := Lib.hid e53
      clear e53
      go_wp2_with fail
      refine (clock_any p53 l53 g _ h53).mono ?_; rintro e w54 ⟨rfl, h54, gg⟩
      have g54 := only_trans g53 gg
      have l54 : (clockP p53).left.length ≤ maxLen := Nat.le_trans (clockP_len _) l53
      clear h53 g53 l53 gg
      generalize e54 : clockP p53 = p54 at h54 l54
      have E54 := Lib.hid e54
      clear e54
      go_wp2_with fail
      refine (word_l p54 [32] _ rfl g _ h54).mono ?_; rintro e w55 ⟨rfl, h55, gg⟩
      have g55 := only_trans g54 gg
      have l55 : (wordP p54 [32]).left.length ≤ maxLen := Nat.le_trans (wordP_len _ _) l54
      clear h54 g54 l54 gg
      generalize e55 : wordP p54 [32] = p55 at h55 l55
      have E55 := Lib.hid e55
      clear e55
      go_wp2_with fail
      refine (digits_c p55 4 (by omega) l55 g _ h55 4 rfl).mono ?_; rintro e w56 ⟨rfl, ⟨hh, gg⟩, ⟨_, _, ⟨cc, ff⟩, _, _, _, _, _⟩, fz⟩
      have zz := fz 2
      clear fz
      have h56 : Whole (w56.setCell ⟨g, 2, none⟩ (.int .i64 (digitsV p55 4))) g 45 ({ digitsP p55 4 with year := digitsV p55 4 } : PS).cells := hh.put 2 _
      have g56 := only_set (only_trans g55 gg) 2 (.int .i64 (digitsV p55 4))
      have l56 : ({ digitsP p55 4 with year := digitsV p55 4 } : PS).left.length ≤ maxLen := Nat.le_trans (digitsP_len _ _) l55
      go_wp2_with fail
      clear ff zz
      clear h55 g55 l55 hh gg
      generalize e56 : ({ digitsP p55 4 with year := digitsV p55 4 } : PS) = p56 at h56
      have lq : p56.left.length ≤ maxLen := by rw [← e56]; exact l56
      have E56 := Lib.hid e56
      clear e56 l56
      have l56 := lq
      clear lq
      go_wp2
      go_end0
      refine ⟨rfl, ?_, g56⟩
      have hfin : bareP p = p56 := by unfold bareP; simp only [E45.out, E46.out, E47.out, E48.out, B52.out, E53.out, E54.out, E55.out, E56.out]
      rw [hfin]
      exact h56
    · rw [hb] at f8
      have Hq : Hid (({ digitsP p48 2 with day := digitsV p48 2, bad := true } : PS) = bareD p48) := Lib.hid (by unfold bareD; rw [hp]; simp [hb])
      have h57 : Whole ((w51.setCell ⟨g, 4, none⟩ (.int .i64 (digitsV p48 2))).setCell ⟨g, 8, none⟩ (.bool (true))) g 45 ({ digitsP p48 2 with day := digitsV p48 2, bad := true } : PS).cells := (hh.put 4 _).put 8 _
      have g57 := only_set (only_set (only_trans g48 gg) 4 (.int .i64 (digitsV p48 2))) 8 (.bool (true))
      clear hb hp hh gg h48 g48
      go_wp2_with fail
      clear f8 z8 zz ff hvb
      rw [Hq.out] at h57
      have l57 : (bareD p48).left.length ≤ maxLen := by rw [← Hq.out]; exact lx
      clear Hq lx
      generalize eb : bareD p48 = q57 at h57 l57
      have B57 := Lib.hid eb
      clear eb
      go_wp2_with fail
      refine (word_l q57 [32] _ rfl g _ h57).mono ?_; rintro e w58 ⟨rfl, h58, gg⟩
      have g58 := only_trans g57 gg
      have l58 : (wordP q57 [32]).left.length ≤ maxLen := Nat.le_trans (wordP_len _ _) l57
      clear h57 g57 l57 gg
      generalize e58 : wordP q57 [32] = p58 at h58 l58
      have E58 := Lib.hid e58
      clear e58
      go_wp2_with fail
      refine (clock_any p58 l58 g _ h58).mono ?_; rintro e w59 ⟨rfl, h59, gg⟩
      have g59 := only_trans g58 gg
      have l59 : (clockP p58).left.length ≤ maxLen := Nat.le_trans (clockP_len _) l58
      clear h58 g58 l58 gg
      generalize e59 : clockP p58 = p59 at h59 l59
      have E59 := Lib.hid e59
      clear e59
      go_wp2_with fail
      refine (word_l p59 [32] _ rfl g _ h59).mono ?_; rintro e w60 ⟨rfl, h60, gg⟩
      have g60 := only_trans g59 gg
      have l60 : (wordP p59 [32]).left.length ≤ maxLen := Nat.le_trans (wordP_len _ _) l59
      clear h59 g59 l59 gg
      generalize e60 : wordP p59 [32] = p60 at h60 l60
      have E60 := Lib.hid e60
      clear e60
      go_wp2_with fail
      refine (digits_c p60 4 (by omega) l60 g _ h60 4 rfl).mono ?_; rintro e w61 ⟨rfl, ⟨hh, gg⟩, ⟨_, _, ⟨cc, ff⟩, _, _, _, _, _⟩, fz⟩
      have zz := fz 2
      clear fz
      have h61 : Whole (w61.setCell ⟨g, 2, none⟩ (.int .i64 (digitsV p60 4))) g 45 ({ digitsP p60 4 with year := digitsV p60 4 } : PS).cells := hh.put 2 _
      have g61 := only_set (only_trans g60 gg) 2 (.int .i64 (digitsV p60 4))
      have l61 : ({ digitsP p60 4 with year := digitsV p60 4 } : PS).left.length ≤ maxLen := Nat.le_trans (digitsP_len _ _) l60
      go_wp2_with fail
      clear ff zz
      clear h60 g60 l60 hh gg
      generalize e61 : ({ digitsP p60 4 with year := digitsV p60 4 } : PS) = p61 at h61
      have lq : p61.left.length ≤ maxLen := by rw [← e61]; exact l61
      have E61 := Lib.hid e61
      clear e61 l61
      have l61 := lq
      clear lq
      go_wp2
      go_end0
      refine ⟨rfl, ?_, g61⟩
      have hfin : bareP p = p61 := by unfold bareP; simp only [E45.out, E46.out, E47.out, E48.out, B57.out, E58.out, E59.out, E60.out, E61.out]
      rw [hfin]
      exact h61
  · skip
    go_wp2_with fail
    refine (word_l p48 [32] _ rfl g _ h48).mono ?_; rintro e w62 ⟨rfl, h62, gg⟩
    have g62 := only_trans g48 gg
    have l62 : (wordP p48 [32]).left.length ≤ maxLen := Nat.le_trans (wordP_len _ _) l48
    clear h48 g48 l48 gg
    generalize e62 : wordP p48 [32] = p62 at h62 l62
    have E62 := Lib.hid e62
    clear e62
    go_wp2_with fail
    refine (digits_c p62 1 (by omega) l62 g _ h62 1 rfl).mono ?_; rintro e w63 ⟨rfl, ⟨hh, gg⟩, ⟨_, _, _, _, ⟨cc, ff⟩, _, _, _⟩, fz⟩
    have zz := fz 4
    clear fz
    have h63 : Whole (w63.setCell ⟨g, 4, none⟩ (.int .i64 (digitsV p62 1))) g 45 ({ digitsP p62 1 with day := digitsV p62 1 } : PS).cells := hh.put 4 _
    have g63 := only_set (only_trans g62 gg) 4 (.int .i64 (digitsV p62 1))
    have l63 : ({ digitsP p62 1 with day := digitsV p62 1 } : PS).left.length ≤ maxLen := Nat.le_trans (digitsP_len _ _) l62
    go_wp2_with fail
    clear ff zz
    clear h62 g62 l62 hh gg
    generalize e63 : ({ digitsP p62 1 with day := digitsV p62 1 } : PS) = p63 at h63
    have lq : p63.left.length ≤ maxLen := by rw [← e63]; exact l63
    have E63 := Lib.hid e63
    clear e63 l63
    have l63 := lq
    clear lq
    have B64 : Hid (bareD p48 = p63) := Lib.hid (by unfold bareD; rw [hp]; simp only [E62.out, E63.out, if_true])
    clear hp
    go_wp2_with fail
    refine (word_l p63 [32] _ rfl g _ h63).mono ?_; rintro e w65 ⟨rfl, h65, gg⟩
    have g65 := only_trans g63 gg
    have l65 : (wordP p63 [32]).left.length ≤ maxLen := Nat.le_trans (wordP_len _ _) l63
    clear h63 g63 l63 gg
    generalize e65 : wordP p63 [32] = p65 at h65 l65
    have E65 := Lib.hid e65
    clear e65
    go_wp2_with fail
    refine (clock_any p65 l65 g _ h65).mono ?_; rintro e w66 ⟨rfl, h66, gg⟩
    have g66 := only_trans g65 gg
    have l66 : (clockP p65).left.length ≤ maxLen := Nat.le_trans (clockP_len _) l65
    clear h65 g65 l65 gg
    generalize e66 : clockP p65 = p66 at h66 l66
    have E66 := Lib.hid e66
    clear e66
    go_wp2_with fail
    refine (word_l p66 [32] _ rfl g _ h66).mono ?_; rintro e w67 ⟨rfl, h67, gg⟩
    have g67 := only_trans g66 gg
    have l67 : (wordP p66 [32]).left.length ≤ maxLen := Nat.le_trans (wordP_len _ _) l66
    clear h66 g66 l66 gg
    generalize e67 : wordP p66 [32] = p67 at h67 l67
    have E67 := Lib.hid e67
    clear e67
    go_wp2_with fail
    refine (digits_c p67 4 (by omega) l67 g _ h67 4 rfl).mono ?_; rintro e w68 ⟨rfl, ⟨hh, gg⟩, ⟨_, _, ⟨cc, ff⟩, _, _, _, _, _⟩, fz⟩
    have zz := fz 2
    clear fz
    have h68 : Whole (w68.setCell ⟨g, 2, none⟩ (.int .i64 (digitsV p67 4))) g 45 ({ digitsP p67 4 with year := digitsV p67 4 } : PS).cells := hh.put 2 _
    have g68 := only_set (only_trans g67 gg) 2 (.int .i64 (digitsV p67 4))
    have l68 : ({ digitsP p67 4 with year := digitsV p67 4 } : PS).left.length ≤ maxLen := Nat.le_trans (digitsP_len _ _) l67
    go_wp2_with fail
    clear ff zz
    clear h67 g67 l67 hh gg
    generalize e68 : ({ digitsP p67 4 with year := digitsV p67 4 } : PS) = p68 at h68
    have lq : p68.left.length ≤ maxLen := by rw [← e68]; exact l68
    have E68 := Lib.hid e68
    clear e68 l68
    have l68 := lq
    clear lq
    go_wp2
    go_end0
    refine ⟨rfl, ?_, g68⟩
    have hfin : bareP p = p68 := by unfold bareP; simp only [E45.out, E46.out, E47.out, E48.out, B64.out, E65.out, E66.out, E67.out, E68.out]
    rw [hfin]
    exact h68
end Go.Proofs.Ytnaapoigmihjoaa
