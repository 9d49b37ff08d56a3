/- Layer 12: contracts of the document's functions on the calendar. No condition. -/
import Derived.Test.YtnaapoigmihjoaaDate
import Derived.Test.YtnaapoigmihjoaaDateL
import Derived.Test.YtnaapoigmihjoaaOctD
import Derived.Deep.RegionHeld3
import Derived.Deep.QuietTactic
import Derived.BigQuiet
namespace Go.Proofs.Ytnaapoigmihjoaa
set_option linter.all false
open Go Go.RowKit

theorem refLeap_any (y : Int) (h0 : 0 ≤ y) (w : World) :
    Calls Try.prog 30 #[.int .i64 y] w fun e w' => e = .returned (.bool (leapM y)) ∧ w = w' := by
  by_cases h400 : y % 400 = 0
  · have e4 : (y % 400 == 0) = true := by rw [beq_iff_eq]; exact h400
    have Hf : Hid (leapM y = true) := Lib.hid (by unfold leapM; simp; omega)
    clear h400
    go_enter Try.func30, Try.ntmps30
    go_wp2
    go_ret
    exact ⟨ret_bool Hf.out.symm, rfl⟩
  · have e4 : (y % 400 == 0) = false := by rw [beq_eq_false_iff_ne]; exact h400
    by_cases h4 : y % 4 = 0
    · have e5 : (y % 4 == 0) = true := by rw [beq_iff_eq]; exact h4
      have Hf : Hid (leapM y = (y % 100 != 0)) := Lib.hid (by unfold leapM; rw [Bool.eq_iff_iff]; simp; omega)
      clear h400 h4
      go_enter Try.func30, Try.ntmps30
      go_wp2
      go_ret
      exact ⟨ret_bool Hf.out.symm, rfl⟩
    · have e5 : (y % 4 == 0) = false := by rw [beq_eq_false_iff_ne]; exact h4
      have Hf : Hid (leapM y = false) := Lib.hid (by unfold leapM; simp; omega)
      clear h400 h4
      go_enter Try.func30, Try.ntmps30
      go_wp2
      go_ret
      exact ⟨ret_bool Hf.out.symm, rfl⟩
set_option maxHeartbeats 1600000 in
theorem refDays_any (y m : Int) (h0 : 0 ≤ y) (m0 : 1 ≤ m) (m1 : m ≤ 12) (w : World) :
    Calls Try.prog 31 #[.int .i64 y, .int .i64 m] w fun e w' => e = .returned (.int .i64 (lenM y (m - 1))) ∧ w = w' := by
  have hh : m = 2 ∨ m = 1 ∨ m = 3 ∨ m = 4 ∨ m = 5 ∨ m = 6 ∨ m = 7 ∨ m = 8 ∨ m = 9 ∨ m = 10 ∨ m = 11 ∨ m = 12 := by omega
  rcases hh with rfl | rfl | rfl | rfl | rfl | rfl | rfl | rfl | rfl | rfl | rfl | rfl
  · cases hl : leapM y
    · have Hf : Hid (lenM y 1 = 28) := Lib.hid (by unfold lenM lp; rw [hl]; simp)
      go_enter Try.func31, Try.ntmps31
      go_wp2_with (go_at_call 30; refine (refLeap_any _ h0 _).mono ?_; rintro e w' ⟨rfl, rfl⟩)
      go_ret
      exact ⟨ret_int Hf.out.symm, rfl⟩
    · have Hf : Hid (lenM y 1 = 29) := Lib.hid (by unfold lenM lp; rw [hl]; simp)
      go_enter Try.func31, Try.ntmps31
      go_wp2_with (go_at_call 30; refine (refLeap_any _ h0 _).mono ?_; rintro e w' ⟨rfl, rfl⟩)
      go_ret
      exact ⟨ret_int Hf.out.symm, rfl⟩
  all_goals
    go_enter Try.func31, Try.ntmps31
    go_wp2
    go_ret
    exact ⟨ret_int rfl, rfl⟩
def D7.v (x : D7) : Value := .agg #[.int .i64 x.y, .int .i64 (x.m + 1), .int .i64 x.d, .int .i64 x.h, .int .i64 x.i, .int .i64 x.s, .int .i64 x.w]
theorem lp_t {x : Int} (h : leapM x = true) : lp x = 1 := by unfold lp; rw [h]; rfl
theorem lp_f {x : Int} (h : leapM x = false) : lp x = 0 := by unfold lp; rw [h]; rfl
def Z7 : List Value := [.int .i64 0, .int .i64 0, .int .i64 0, .int .i64 0, .int .i64 0, .int .i64 0, .int .i64 0]
def C7 (a b c d e f g : Int) : List Value := [.int .i64 a, .int .i64 b, .int .i64 c, .int .i64 d, .int .i64 e, .int .i64 f, .int .i64 g]
theorem of_start (w : World) (a b c d : Int) (T : TypeId) :
    Below w.heap.size w ((w.alloc (.cells Z7.toArray T)).alloc (.cells (C7 1970 1 0 a b c d).toArray T)) ∧ Whole ((w.alloc (.cells Z7.toArray T)).alloc (.cells (C7 1970 1 0 a b c d).toArray T)) w.heap.size T Z7 ∧
    Whole ((w.alloc (.cells Z7.toArray T)).alloc (.cells (C7 1970 1 0 a b c d).toArray T)) (w.heap.size + 1) T (C7 1970 1 0 a b c d) := by
  have h1 := Whole.new w T Z7
  have h2 := Whole.new (w.alloc (.cells Z7.toArray T)) T (C7 1970 1 0 a b c d)
  rw [show (w.alloc (.cells Z7.toArray T)).heap.size = w.heap.size + 1 by simp] at h2
  exact ⟨((Below.refl _ _).alloc (Nat.le_refl _) _).alloc (by simp) _, h1.past _, h2⟩
set_option maxHeartbeats 3200000 in
theorem refOf_any (n : Int) (h0 : 0 ≤ n) (h1 : n ≤ 253402300799) (w : World) :
    Calls Try.prog 15 #[.int .i64 n] w fun e w' => e = .returned (ofM n).v ∧ Below w.heap.size w w' := by
  have hp := of_prop n h0 h1
  obtain ⟨y, hy⟩ : ∃ y, y = yOf n := ⟨_, rfl⟩
  obtain ⟨m, hm⟩ : ∃ m, m = mOf n := ⟨_, rfl⟩
  have hl : lOf n = n / 86400 - begM y := by rw [hy]; rfl
  have Hdd : Hid (dOf n = n / 86400 - begM y - cumM y m + 1) := Lib.hid (by unfold dOf; rw [hl, hm, hy])
  rw [← hy, ← hm, hl] at hp
  have Hy := Lib.hid hy
  have Hm := Lib.hid hm
  clear hy hm hl
  obtain ⟨p1, p2, p3, p4, p5, p6, p7, p8⟩ := hp
  have hlp := lp_01 y
  obtain ⟨m, rfl⟩ := Int.eq_ofNat_of_zero_le p5
  have hd : 0 ≤ n / 86400 ∧ n / 86400 ≤ 2932896 := by omega
  have hr0 : 0 ≤ n % 86400 ∧ n % 86400 ≤ 86399 := by omega
  have hbs := begM_succ y
  go_enter Try.func15, Try.ntmps15
  go_wp2
  rw [show n % 86400 % 60 = n % 60 by omega]
  go_loopw [3, 6] (fun d _ wr => ∃ x : Int, d = .int .i64 (n / 86400 - begM x) ∧ 1970 ≤ x ∧ x ≤ y ∧ Below w.heap.size w wr ∧ Whole wr w.heap.size 33 Z7 ∧ Whole wr (w.heap.size + 1) 33 (C7 x 1 0 (n % 86400 / 3600) (n % 86400 / 60 % 60) (n % 60) (n / 86400 % 7))) (fun d _ _ => (intOf d + 1).toNat)
  case atStart =>
    refine ⟨1970, by rw [begM_1970]; simp, by omega, by omega, ?_⟩
    have := of_start w (n % 86400 / 3600) (n % 86400 / 60 % 60) (n % 60) (n / 86400 % 7) 33
    exact this
  case round =>
    obtain ⟨x, rfl, hx0, hx1, hbel, hres, hwh⟩ := hrel
    have c0 := hwh.at_ 0
    have z0 := hwh.free 0
    simp only [C7, List.getElem?_cons_zero] at c0
    have hbx := begM_succ x
    have hbm := begM_mono x y hx1
    have hb0 := begM_mono 1970 x hx0
    rw [begM_1970] at hb0
    by_cases hlt : x < y
    · have hbm2 := begM_mono (x + 1) y (by omega)
      have hput := hwh.put 0 (.int .i64 (x + 1))
      have hbel2 := hbel.setCell (p := ⟨w.heap.size + 1, 0, none⟩) (by simp) (.int .i64 (x + 1))
      have hres2 := hres.far (p := ⟨w.heap.size + 1, 0, none⟩) (by simp) (.int .i64 (x + 1))
      cases hlp2 : leapM x
      all_goals
        first | have hlx := lp_t hlp2 | have hlx := lp_f hlp2
        have Hbx := Lib.hid hbx
        have Hlx := Lib.hid hlx
        have ho : n / 86400 - begM x - (365 + lp x) = n / 86400 - begM (x + 1) := by rw [hbx]; omega
        rw [hlx] at ho
        simp only [Int.reduceAdd, Int.add_zero] at ho
        have hge : 365 + lp x ≤ n / 86400 - begM x := by omega
        rw [hlx] at hge
        have Ho := Lib.hid ho
        clear ho hlx hbx
        go_wp2_with (go_at_call 30; refine (refLeap_any _ (by omega) _).mono ?_; rintro e w' ⟨rfl, rfl⟩)
        go_roundw
        case rel => exact ⟨x + 1, by rw [← Ho.out], by omega, by omega, hbel2, hres2, hput⟩
        case measure => simp [intOf]; omega
    · obtain rfl : x = y := by omega
      have Hlt : n / 86400 - begM x < 365 + lp x := by omega
      cases hlp2 : leapM x
      all_goals
        first | have hlx := lp_t hlp2 | have hlx := lp_f hlp2
        rw [hlx] at Hlt
        have Hlx := Lib.hid hlx
        clear hlx hbx
        go_wp2_with (go_at_call 30; refine (refLeap_any _ (by omega) _).mono ?_; rintro e w' ⟨rfl, rfl⟩)
        first | rw [show decide (n / 86400 - begM x < 365) = true from decide_eq_true (by omega)] | rw [show decide (n / 86400 - begM x < 366) = true from decide_eq_true (by omega)]
        clear Hlt
        obtain ⟨wo, rfl⟩ : ∃ wo : World, wo = wr := ⟨_, rfl⟩
        go_loopw [3] (fun d wq => ∃ j : Nat, d = .int .i64 (n / 86400 - begM x - cumM x j) ∧ j ≤ m ∧ Below w.heap.size w wq ∧ Whole wq w.heap.size 33 Z7 ∧ Whole wq (w.heap.size + 1) 33 (C7 x (j + 1) 0 (n % 86400 / 3600) (n % 86400 / 60 % 60) (n % 60) (n / 86400 % 7))) (fun d _ => (intOf d + 1).toNat)
        case atStart => exact ⟨0, by rw [show ((0 : Nat) : Int) = 0 from rfl, cumM_0]; simp, by omega, hbel, hres, hwh⟩
        case round =>
          clear c0 z0 hbel hres hwh
          obtain ⟨j, hdd, hj, hbel, hres, hwh⟩ := hrel
          subst hdd
          have c0 := hwh.at_ 0
          have c1 := hwh.at_ 1
          have z1 := hwh.free 1
          simp only [C7, List.getElem?_cons_zero, List.getElem?_cons_succ] at c0 c1
          have hc := cumM_bd x j (by omega) (by omega)
          have hln := lenM_bd x j
          have hs := cumM_succ x j (by omega) (by omega)
          have e11 : (j : Int) + 1 - 1 = j := by omega
          by_cases hlt2 : j < m
          · have h2 := cumM_mono x (j + 1) m (by omega) (by omega) (by omega)
            have hge : lenM x j ≤ n / 86400 - begM x - cumM x j := by omega
            have hput := hwh.put 1 (.int .i64 ((j : Int) + 1 + 1))
            have hbel2 := hbel.setCell (p := ⟨w.heap.size + 1, 1, none⟩) (by simp) (.int .i64 ((j : Int) + 1 + 1))
            have hres2 := hres.far (p := ⟨w.heap.size + 1, 1, none⟩) (by simp) (.int .i64 ((j : Int) + 1 + 1))
            have Hs := Lib.hid hs
            clear hs h2
            go_wp2_with (go_at_call 31; refine (refDays_any _ _ (by omega) (by omega) (by omega) _).mono ?_; rintro e w' ⟨rfl, rfl⟩)
            go_roundw
            case rel => exact ⟨j + 1, by rw [show ((j + 1 : Nat) : Int) = (j : Int) + 1 by omega, Hs.out]; congr 1; omega, by omega, hbel2, hres2, hput⟩
            case measure => simp [intOf]; omega
          · obtain rfl : j = m := by omega
            have hge : n / 86400 - begM x - cumM x j < lenM x j := by omega
            have Hs := Lib.hid hs
            clear hs
            have c2 := hwh.at_ 2
            have c3 := hwh.at_ 3
            have c4 := hwh.at_ 4
            have c5 := hwh.at_ 5
            have c6 := hwh.at_ 6
            have z2 := hwh.free 2
            have r0 := hres.at_ 0
            have r1 := hres.at_ 1
            have r2 := hres.at_ 2
            have r3 := hres.at_ 3
            have r4 := hres.at_ 4
            have r5 := hres.at_ 5
            have r6 := hres.at_ 6
            have y0 := hres.free 0
            have y1 := hres.free 1
            have y2 := hres.free 2
            have y3 := hres.free 3
            have y4 := hres.free 4
            have y5 := hres.free 5
            have y6 := hres.free 6
            simp only [C7, Z7, List.getElem?_cons_zero, List.getElem?_cons_succ] at c2 c3 c4 c5 c6 r0 r1 r2 r3 r4 r5 r6
            have Hv : Hid ((ofM n).v = .agg #[.int .i64 x, .int .i64 (j + 1), .int .i64 (n / 86400 - begM x - cumM x j + 1), .int .i64 (n % 86400 / 3600), .int .i64 (n % 86400 / 60 % 60), .int .i64 (n % 60), .int .i64 (n / 86400 % 7)]) := Lib.hid (by
              unfold D7.v ofM
              have e60 : sOf n = n % 60 := by unfold sOf; omega
              simp only [← Hm.out, ← Hy.out, Hdd.out, e60]
              rfl)
            go_wp2_with (go_at_call 31; refine (refDays_any _ _ (by omega) (by omega) (by omega) _).mono ?_; rintro e w' ⟨rfl, rfl⟩)
            refine bodyPost_ret (v := .agg #[.int .i64 x, .int .i64 (j + 1), .int .i64 (n / 86400 - begM x - cumM x j + 1), .int .i64 (n % 86400 / 3600), .int .i64 (n % 86400 / 60 % 60), .int .i64 (n % 60), .int .i64 (n / 86400 % 7)]) (by simp [results, Try.results15, go_sem, r0, r1, r2, r3, r4, r5, r6]) rfl ⟨by rw [Hv.out], ?_⟩
            repeat (refine Below.setCell ?_ (by simp) _)
            exact hbel
end Go.Proofs.Ytnaapoigmihjoaa
