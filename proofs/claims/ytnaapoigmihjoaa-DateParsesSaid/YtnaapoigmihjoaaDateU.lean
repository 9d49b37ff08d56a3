/- Layer 12: the contract of the document's Texts. No condition. -/
import Derived.Test.YtnaapoigmihjoaaDateT
import Derived.Test.YtnaapoigmihjoaaDateN
import Derived.Deep.DeepCutAuto
namespace Go.Proofs.Ytnaapoigmihjoaa
set_option linter.all false
open Go Go.RowKit

theorem day_take (d : Nat) (h : d ≤ 6) : (S (longN d)).extract 0 3 = S (dayN d) := by
  rw [S_pre]
  have : ∀ d : Fin 7, (longN (d.val : Int)).take 3 = dayN (d.val : Int) := by decide
  rw [this ⟨d, by omega⟩]
theorem low_lt {D : Int} (h : D < 10) : lowM D = [32, dg (D % 10)] := by unfold lowM; rw [if_pos h]
theorem low_ge {D : Int} (h : ¬ D < 10) : lowM D = twoM D := by unfold lowM; rw [if_neg h]
theorem refPadI (n k : Int) (hk : k = 2 ∨ k = 4) (hn : n ≤ 9223372036854775807) (w : World) :
    Calls Try.prog 29 #[.int .i64 n, .int .i64 k] w fun e w' => e = .returned (.string (S (padM n k.toNat))) ∧ Below w.heap.size w w' := by
  rcases hk with rfl | rfl
  · exact refPad_any n 2 (by omega) hn w
  · exact refPad_any n 4 (by omega) hn w
set_option maxRecDepth 100000 in
set_option maxHeartbeats 6400000 in
theorem refTexts_any (x : D7) (k : x.Ok) (w0 : 0 ≤ x.w) (w6 : x.w ≤ 6) (w : World) :
    Calls Try.prog 14 #[x.v] w fun e w' => ∃ g, e = .returned (.slice (some ⟨g, 0, none⟩) 3 3) ∧
      (w'.cell? ⟨g, 0, none⟩ = some (.string (S (own7 x))) ∧ w'.cell? ⟨g, 1, none⟩ = some (.string (S (old7 x))) ∧ w'.cell? ⟨g, 2, none⟩ = some (.string (S (bare7 x)))) ∧ Below w.heap.size w w' := by
  obtain ⟨Y, M, D, H, I, S', W⟩ := x
  obtain ⟨y0, y1, m0, m1, d0, d1, h0, h1, i0, i1, s0, s1⟩ := k
  simp only at y0 y1 m0 m1 d0 d1 h0 h1 i0 i1 s0 s1 w0 w6
  have d9 := lenM_99 Y M
  have d99 : D ≤ 99 := by omega
  clear d1 d9
  obtain ⟨m, rfl⟩ := Int.eq_ofNat_of_zero_le m0
  obtain ⟨d, rfl⟩ := Int.eq_ofNat_of_zero_le w0
  show Calls Try.prog 14 #[.agg #[.int .i64 Y, .int .i64 (m + 1), .int .i64 D, .int .i64 H, .int .i64 I, .int .i64 S', .int .i64 d]] w _
  have hwh : Whole (w.alloc (.cells #[.int .i64 Y, .int .i64 (m + 1), .int .i64 D, .int .i64 H, .int .i64 I, .int .i64 S', .int .i64 d] 33)) w.heap.size 33 (C7 Y (m + 1) D H I S' d) := Whole.new w _ _
  have hbel : Below w.heap.size w (w.alloc (.cells #[.int .i64 Y, .int .i64 (m + 1), .int .i64 D, .int .i64 H, .int .i64 I, .int .i64 S', .int .i64 d] 33)) := (Below.refl _ _).alloc (Nat.le_refl _) _
  have E0 : Hid (own7 ⟨Y, m, D, H, I, S', d⟩ = dayN d ++ [44, 32] ++ twoM D ++ [32] ++ monN m ++ [32] ++ (twoM (Y / 100) ++ twoM Y) ++ [32] ++ (twoM H ++ [58] ++ twoM I ++ [58] ++ twoM S') ++ [32, 71, 77, 84]) := Lib.hid (by simp only [own7, ownT, clockM, gmt, List.append_assoc])
  have E1 : Hid (old7 ⟨Y, m, D, H, I, S', d⟩ = longN d ++ [44, 32] ++ twoM D ++ [45] ++ monN m ++ [45] ++ twoM (Y % 100) ++ [32] ++ (twoM H ++ [58] ++ twoM I ++ [58] ++ twoM S') ++ [32, 71, 77, 84]) := Lib.hid (by simp only [old7, clockM, gmt, List.append_assoc])
  have E2 : Hid (bare7 ⟨Y, m, D, H, I, S', d⟩ = dayN d ++ [32] ++ monN m ++ [32] ++ lowM D ++ [32] ++ (twoM H ++ [58] ++ twoM I ++ [58] ++ twoM S') ++ [32] ++ (twoM (Y / 100) ++ twoM Y)) := Lib.hid (by simp only [bare7, clockM, List.append_assoc])
  have hdt := day_take d (by omega)
  have b1 : (0 : Int) ≤ d := by omega
  have b2 : (d : Int) < 7 := by omega
  have b3 : (0 : Int) ≤ m := by omega
  have b4 : (m : Int) < 12 := by omega
  have b5 : (m : Int) + 1 - 1 = m := by omega
  have wr1 : IntKind.i64.wrap (m : Int) = m := IntWalk.i64_in _ (by omega)
  have hY : 0 ≤ Y % 100 ∧ Y % 100 ≤ 99 := by omega
  have wr2 : Y.tmod 100 = Y % 100 := Int.tmod_eq_emod_of_nonneg (by omega)
  have hln := longN_len d (by omega) (by omega)
  have hl3 : (3 : Int) ≤ ((longN d).length : Int) := by omega
  obtain ⟨hn3, hn9⟩ := hln
  have e1 := dayN_len d (by omega)
  have e2 := monN_len m (by omega)
  have hl9 : ((longN d).length : Int) ≤ 9 := by omega
  have wr4 : IntKind.i64.wrap (Y % 100) = Y % 100 := IntWalk.i64_in _ (by omega)
  have P4 : padM Y 4 = twoM (Y / 100) ++ twoM Y := pad4 Y (by omega) (by omega)
  have P2 : padM (Y % 100) 2 = twoM (Y % 100) := pad2 _ (by omega) (by omega)
  have q0' : ¬ 9223372036854775807 < (longN d).length + 2 := by omega
  have q0 : ¬ 9223372036854775805 < (longN d).length := by omega
  have q1 : ¬ 9223372036854775807 < (longN d).length + 2 + 2 := by omega
  have q2 : ¬ 9223372036854775807 < (longN d).length + 4 + 1 := by omega
  have q3 : ¬ 9223372036854775807 < (longN d).length + 5 + 3 := by omega
  have q4 : ¬ 9223372036854775807 < (longN d).length + 8 + 1 := by omega
  have q5 : ¬ 9223372036854775807 < (longN d).length + 9 + 2 := by omega
  have q6 : ¬ 9223372036854775807 < (longN d).length + 11 + 1 := by omega
  have q7 : ¬ 9223372036854775807 < (longN d).length + 12 + 8 := by omega
  have q8 : ¬ 9223372036854775807 < (longN d).length + 20 + 4 := by omega
  go_enter Try.func14, Try.ntmps14
  go_wp2_with fail
  generalize w.alloc (.cells #[.int .i64 Y, .int .i64 (m + 1), .int .i64 D, .int .i64 H, .int .i64 I, .int .i64 S', .int .i64 d] 33) = wa at hwh hbel ⊢
  have hS : Hid (∀ wx, Below wa.heap.size wa wx → wx.cell? ⟨w.heap.size, 0, none⟩ = some (.int .i64 Y) ∧ wx.cell? ⟨w.heap.size, 1, none⟩ = some (.int .i64 (m + 1)) ∧ wx.cell? ⟨w.heap.size, 2, none⟩ = some (.int .i64 D) ∧ wx.cell? ⟨w.heap.size, 3, none⟩ = some (.int .i64 H) ∧ wx.cell? ⟨w.heap.size, 4, none⟩ = some (.int .i64 I) ∧ wx.cell? ⟨w.heap.size, 5, none⟩ = some (.int .i64 S') ∧ wx.cell? ⟨w.heap.size, 6, none⟩ = some (.int .i64 d) ∧ Below wa.heap.size wa wx) :=
    Lib.hid fun wx hb => have h := hwh.keep hb hwh.lt; ⟨h.at_ 0, h.at_ 1, h.at_ 2, h.at_ 3, h.at_ 4, h.at_ 5, h.at_ 6, hb⟩
  clear hwh
  have S6 : Hid (∀ wx, Below wa.heap.size wa wx → wx.cell? ⟨w.heap.size, 6, none⟩ = some (.int .i64 d) ∧ Below wa.heap.size wa wx) := Lib.hid fun wx hb => ⟨(hS.out wx hb).2.2.2.2.2.2.1, hb⟩
  have S1 : Hid (∀ wx, Below wa.heap.size wa wx → wx.cell? ⟨w.heap.size, 1, none⟩ = some (.int .i64 (m + 1)) ∧ Below wa.heap.size wa wx) := Lib.hid fun wx hb => ⟨(hS.out wx hb).2.1, hb⟩
  have S3 : Hid (∀ wx, Below wa.heap.size wa wx → wx.cell? ⟨w.heap.size, 3, none⟩ = some (.int .i64 H) ∧ wx.cell? ⟨w.heap.size, 4, none⟩ = some (.int .i64 I) ∧ wx.cell? ⟨w.heap.size, 5, none⟩ = some (.int .i64 S') ∧ Below wa.heap.size wa wx) := Lib.hid fun wx hb => ⟨(hS.out wx hb).2.2.2.1, (hS.out wx hb).2.2.2.2.1, (hS.out wx hb).2.2.2.2.2.1, hb⟩
  have S0 : Hid (∀ wx, Below wa.heap.size wa wx → wx.cell? ⟨w.heap.size, 0, none⟩ = some (.int .i64 Y) ∧ Below wa.heap.size wa wx) := Lib.hid fun wx hb => ⟨(hS.out wx hb).1, hb⟩
  have hk0' : Below wa.heap.size wa wa.drew := (Below.refl _ _).drew
  have x6 := (S6.out wa (Below.refl _ _)).1
  go_upto_region 1 with fail
  go_cut [3] (fun s3 wx => s3 = .string (S (longN d)) ∧ Below wa.heap.size wa wx)
  case first =>
    go_region_with (go_at_call 16; refine (weekdays_at d (by omega) _).mono ?_; rintro e w1 ⟨g1, rfl, gc1, gb1⟩; have y6 := (S6.out w1 (bt hk0' gb1)).1)
    all_goals (go_wp2_with fail; go_meet; exact ⟨rfl, bt hk0' gb1⟩)
  case rest =>
  obtain ⟨rfl, hk1⟩ := hcut
  clear hk0' x6
  have hk1' := hk1.drew
  have x1 := (S1.out _ hk1).1
  go_upto_region 2 with fail
  go_cut [4] (fun s4 wx => s4 = .string (S (monN m)) ∧ Below wa.heap.size wa wx)
  case first =>
    go_region_with (go_at_call 28; refine (months_at m (by omega) _).mono ?_; rintro e w2 ⟨g2, rfl, gc2, gb2⟩; have y6 := (S1.out w2 (bt hk1' gb2)).1)
    all_goals (go_wp2_with fail; go_meet; exact ⟨rfl, bt hk1' gb2⟩)
  case rest =>
  obtain ⟨rfl, hk2⟩ := hcut
  have hk2' := hk2.drew
  clear hk1 hk1' x1
  go_wp2_with fail
  go_region_held3 (fun wx => wx.cell? ⟨w.heap.size, 3, none⟩ = some (.int .i64 H) ∧ wx.cell? ⟨w.heap.size, 4, none⟩ = some (.int .i64 I) ∧ wx.cell? ⟨w.heap.size, 5, none⟩ = some (.int .i64 S') ∧ Below wa.heap.size wa wx) (first | exact S3.out _ hk2' | exact S3.out _ (bt hk2' gb3) | exact S3.out _ (bt (And.right (And.right (And.right (by assumption)))) gb3)) (first | (go_at_call 29; refine (refPad2 _ (by omega) (by omega) _).mono ?_; rintro e w3 ⟨rfl, gb3⟩))
  have hk3 : Below wa.heap.size wa w3 := And.right (And.right (And.right (by assumption)))
  clear gb3 hk2 hk2' wr1
  obtain ⟨_, _, c2, _, _, _, _, _⟩ := hS.out w3 hk3
  go_wp2_with fail
  refine (refPad2 _ (by omega) (by omega) _).mono ?_; rintro e w4 ⟨rfl, gb4⟩
  have hk4 := bt hk3 gb4
  obtain ⟨_, _, c2', _, _, _, _, _⟩ := hS.out w4 hk4
  clear c2 gb4 hk3
  have hcut : (S (twoM D)).extract 1 2 = S [dg (D % 10)] := S_drop (twoM D) 1 (by simp)
  have hk4' : Below wa.heap.size wa w4.drew := hk4.drew
  by_cases hD : D < 10
  all_goals
    first | have hlow := Lib.hid (low_lt hD) | have hlow := Lib.hid (low_ge hD)
    go_wp2_with fail
    go_region_held3 (fun wx => wx.cell? ⟨w.heap.size, 0, none⟩ = some (.int .i64 Y) ∧ Below wa.heap.size wa wx) (first | exact S0.out _ hk4' | exact S0.out _ (bt hk4' gb5) | exact S0.out _ (bt (And.right (by assumption)) gb5) | (refine S0.out _ (Below.alloc ?_ ?_ _); exact And.right (by assumption); exact Below.size (And.right (by assumption)))) (first | (go_at_call 29; refine (refPadI _ _ (by omega) (by omega) _).mono ?_; rintro e w5 ⟨rfl, gb5⟩))
    go_wp2_with fail
    go_ret
    refine ⟨_, rfl, ⟨?_, ?_, ?_⟩, bt hbel (And.right (by assumption))⟩
    · refine ((Whole.new _ _ _).at_ 0).trans ?_
      rw [E0.out]
      simp
    · refine ((Whole.new _ _ _).at_ 1).trans ?_
      rw [E1.out]
      simp
    · refine ((Whole.new _ _ _).at_ 2).trans ?_
      rw [E2.out, hlow.out]
      simp
end Go.Proofs.Ytnaapoigmihjoaa
