/- Layer 12: the contract of Print. No condition. -/
import Derived.Test.YtnaapoigmihjoaaDate
import Derived.Deep.RegionHeld3
namespace Go.Proofs.Ytnaapoigmihjoaa
set_option linter.all false
open Go Go.RowKit

theorem cut_days (d : Nat) (h : d ≤ 6) : ({ data := #[84, 104, 117, 70, 114, 105, 83, 97, 116, 83, 117, 110, 77, 111, 110, 84, 117, 101, 87, 101, 100] } : ByteArray).extract (3 * d) (3 * d + 3) = S (dayN d) := by
  have : ∀ d : Fin 7, ({ data := #[84, 104, 117, 70, 114, 105, 83, 97, 116, 83, 117, 110, 77, 111, 110, 84, 117, 101, 87, 101, 100] } : ByteArray).extract (3 * d.val) (3 * d.val + 3) = S (dayN d.val) := by decide
  exact this ⟨d, by omega⟩
theorem cut_months (d : Nat) (h : d ≤ 11) : ({ data := #[74, 97, 110, 70, 101, 98, 77, 97, 114, 65, 112, 114, 77, 97, 121, 74, 117, 110, 74, 117, 108, 65, 117, 103, 83, 101, 112, 79, 99, 116, 78, 111, 118, 68, 101, 99] } : ByteArray).extract (3 * d) (3 * d + 3) = S (monN d) := by
  have : ∀ d : Fin 12, ({ data := #[74, 97, 110, 70, 101, 98, 77, 97, 114, 65, 112, 114, 77, 97, 121, 74, 117, 110, 74, 117, 108, 65, 117, 103, 83, 101, 112, 79, 99, 116, 78, 111, 118, 68, 101, 99] } : ByteArray).extract (3 * d.val) (3 * d.val + 3) = S (monN d.val) := by decide
  exact this ⟨d, by omega⟩
theorem cat_own (d L j y a b c : Int) :
    S (dayN d) ++ { data := #[44, 32] } ++ S (twoM L) ++ { data := #[32] } ++ S (monN j) ++ { data := #[32] } ++ S (twoM (y / 100)) ++ S (twoM y) ++ { data := #[32] } ++ S (twoM a) ++ { data := #[58] } ++ S (twoM b) ++ { data := #[58] } ++ S (twoM c) ++ { data := #[32, 71, 77, 84] } =
    S (ownT d L j y a b c) := by
  simp [ownT, clockM, gmt]
theorem Print_no (n : Int) (h : n < 0 ∨ 253402300799 < n) (w : World) :
    Calls Try.prog 10 #[.int .i64 n] w fun e w' => e = .returned (.string (S (printM n))) ∧ Below w.heap.size w w' := by
  have Hf : Hid (printM n = []) := Lib.hid (by unfold printM; rw [if_pos h])
  rcases h with h | h
  · go_enter Try.func10, Try.ntmps10
    go_wp2
    go_ret
    exact ⟨ret_str (by rw [Hf.out]; rfl), Below.refl _ _⟩
  · have h2 : ¬ n < 0 := by omega
    go_enter Try.func10, Try.ntmps10
    go_wp2
    go_ret
    exact ⟨ret_str (by rw [Hf.out]; rfl), Below.refl _ _⟩
set_option maxHeartbeats 3200000 in
theorem Print_yes (n : Int) (h0 : 0 ≤ n) (h1 : n ≤ 253402300799) (w : World) :
    Calls Try.prog 10 #[.int .i64 n] w fun e w' => e = .returned (.string (S (printM n))) ∧ Below w.heap.size w w' := by
  have hp := of_prop n h0 h1
  have Hf : Hid (printM n = ownT (wOf n) (dOf n) (mOf n) (yOf n) (hOf n) (miOf n) (sOf n)) := Lib.hid (by unfold printM; rw [if_neg (by omega)])
  have hd : 0 ≤ n / 86400 ∧ n / 86400 ≤ 2932896 := by omega
  obtain ⟨y, hy⟩ : ∃ y, y = yOf n := ⟨_, rfl⟩
  have hy2 : yearM (n / 86400) = y := by rw [hy]; rfl
  obtain ⟨m, hm⟩ : ∃ m, m = mOf n := ⟨_, rfl⟩
  have hl : lOf n = n / 86400 - begM y := by rw [hy]; rfl
  have Hdd : Hid (dOf n = n / 86400 - begM y - cumM y m + 1) := Lib.hid (by unfold dOf; rw [hl, hm, hy])
  rw [← hy, ← hm, hl] at hp
  have Hy := Lib.hid hy
  have Hm := Lib.hid hm
  obtain ⟨p1, p2, p3, p4, p5, p6, p7, p8⟩ := hp
  have hlp := lp_01 y
  obtain ⟨m, rfl⟩ := Int.eq_ofNat_of_zero_le p5
  clear hy hm hl
  have hbb := begM_bd y (by omega) (by omega)
  go_enter Try.func10, Try.ntmps10
  go_wp2_with (go_at_call 17; refine (year_any _ hd.1 hd.2 _).mono ?_; rintro e w' ⟨rfl, rfl⟩)
  refine (begin_any _ (by omega) (by omega) _).mono ?_; rintro e w' ⟨rfl, rfl⟩
  go_wp2
  go_loop [6, 7] (fun a k => ∃ j : Nat, j ≤ m ∧ k = .int .i64 j ∧ a = .int .i64 (n / 86400 - begM y - cumM y j)) (fun _ k => m - (intOf k).toNat)
  case atStart => exact ⟨0, Nat.zero_le _, rfl, by rw [show ((0 : Nat) : Int) = 0 from rfl, cumM_0]; simp⟩
  case round =>
    obtain ⟨j, hj, rfl, rfl⟩ := hrel
    have hc := cumM_bd y j (by omega) (by omega)
    have hln := lenM_bd y j
    by_cases hlt : j < m
    · have Hs := Lib.hid (cumM_succ y j (by omega) (by omega))
      have hge : lenM y j ≤ n / 86400 - begM y - cumM y j := by
        have h2 := cumM_mono y (j + 1) m (by omega) (by omega) (by omega)
        have := Hs.out
        omega
      go_wp2_with (go_at_call 19; refine (length_any _ _ (by omega) (by omega) (by omega) _).mono ?_; rintro e w' ⟨rfl, rfl⟩)
      go_round
      case rel => exact ⟨j + 1, by omega, by go_num, by rw [show ((j + 1 : Nat) : Int) = (j : Int) + 1 by omega, Hs.out]; congr 1; omega⟩
      case measure => simp [intOf]; omega
    · obtain rfl : j = m := by omega
      have Hs := Lib.hid (cumM_succ y j (by omega) (by omega))
      have hlt2 : n / 86400 - begM y - cumM y j < lenM y j := by have := Hs.out; omega
      obtain ⟨d, hdw⟩ : ∃ d : Nat, (d : Int) = n / 86400 % 7 := ⟨(n / 86400 % 7).toNat, by omega⟩
      have hd7 : d ≤ 6 := by omega
      have Hdw := Lib.hid hdw
      have hcd := cut_days d hd7
      have hcm := cut_months j (by omega)
      rw [eq_comm] at hdw
      go_wp2_with (go_at_call 19; refine (length_any _ _ (by omega) (by omega) (by omega) _).mono ?_; rintro e w' ⟨rfl, rfl⟩)
      obtain ⟨r, hr⟩ : ∃ r, r = n % 86400 := ⟨_, rfl⟩
      obtain ⟨L, hL⟩ : ∃ L, L = n / 86400 - begM y - cumM y j := ⟨_, rfl⟩
      rw [← hr, ← hL]
      try rw [hdw]
      have hr0 : 0 ≤ r ∧ r ≤ 86399 := by omega
      have hL0 : 0 ≤ L ∧ L ≤ 400 := by omega
      have HL := Lib.hid hL
      have Hr := Lib.hid hr
      have Hcd := Lib.hid hcd
      have Hcm := Lib.hid hcm
      have b1 : (0 : Int) ≤ 3 * (d : Int) := by omega
      have b2 : (3 : Int) * (d : Int) ≤ 3 * (d : Int) + 3 := by omega
      have b3 : (3 : Int) * (d : Int) + 3 ≤ 21 := by omega
      have c1 : (0 : Int) ≤ 3 * (j : Int) := by omega
      have c2 : (3 : Int) * (j : Int) ≤ 3 * (j : Int) + 3 := by omega
      have c3 : (3 : Int) * (j : Int) + 3 ≤ 36 := by omega
      have d1 : 0 ≤ L + 1 ∧ L + 1 ≤ 100000 := by omega
      have d2 : 0 ≤ y / 100 ∧ y / 100 ≤ 100000 := by omega
      have d3 : 0 ≤ y ∧ y ≤ 100000 := by omega
      have d4 : 0 ≤ r / 3600 ∧ r / 3600 ≤ 100000 := by omega
      have d5 : 0 ≤ r / 60 % 60 ∧ r / 60 % 60 ≤ 100000 := by omega
      have d6 : 0 ≤ r % 60 ∧ r % 60 ≤ 100000 := by omega
      have w1 : IntKind.i64.wrap (3 * (d : Int)) = 3 * (d : Int) := IntWalk.i64_in _ (by omega)
      have w2 : IntKind.i64.wrap (3 * (d : Int) + 3) = 3 * (d : Int) + 3 := IntWalk.i64_in _ (by omega)
      have w3 : IntKind.i64.wrap (3 * (j : Int)) = 3 * (j : Int) := IntWalk.i64_in _ (by omega)
      have w4 : IntKind.i64.wrap (3 * (j : Int) + 3) = 3 * (j : Int) + 3 := IntWalk.i64_in _ (by omega)
      have w5 : IntKind.i64.wrap (L + 1) = L + 1 := IntWalk.i64_in _ (by omega)
      have w6 : IntKind.i64.wrap (y.tdiv 100) = y / 100 := IntWalk.i64_quo _ _ (by omega)
      have w7 : IntKind.i64.wrap (r.tdiv 3600) = r / 3600 := IntWalk.i64_quo _ _ (by omega)
      have w8 : IntKind.i64.wrap (r.tdiv 60) = r / 60 := IntWalk.i64_quo _ _ (by omega)
      have w9 : (r / 60).tmod 60 = r / 60 % 60 := Int.tmod_eq_emod_of_nonneg (by omega)
      have w10 : r.tmod 60 = r % 60 := Int.tmod_eq_emod_of_nonneg (by omega)
      have e1 := dayN_len d hd7
      have e2 := monN_len j (by omega)
      have t1 : (3 * (d : Int)).toNat = 3 * d := by omega
      have t2 : (3 * (d : Int) + 3).toNat = 3 * d + 3 := by omega
      have t3 : (3 * (j : Int)).toNat = 3 * j := by omega
      have t4 : (3 * (j : Int) + 3).toNat = 3 * j + 3 := by omega
      clear hL hr hlt2 hlt p1 p2 p3 p4 p5 p6 p7 p8 hbb hlp hc hln hdw hd hy2
      go_region_held3 (fun wx => Below w.heap.size w wx) (first | assumption | exact (Below.refl _ _).drew | exact bt (by assumption) (by assumption)) (first | (go_at_call 20; refine (two_any _ (by omega) (by omega) _).mono ?_; rintro e w' ⟨rfl, hb'⟩))
      go_wp2
      go_ret
      refine ⟨ret_str ?_, by assumption⟩
      rw [Hf.out]
      congr 1
      have q1 : wOf n = (d : Int) := by unfold wOf; exact Hdw.out.symm
      have q2 : dOf n = L + 1 := by rw [Hdd.out, HL.out]
      have q3 : mOf n = (j : Int) := Hm.out.symm
      have q4 : yOf n = y := Hy.out.symm
      have q5 : hOf n = r / 3600 := by unfold hOf; rw [Hr.out]
      have q6 : miOf n = r / 60 % 60 := by unfold miOf; rw [Hr.out]
      have q7 : sOf n = r % 60 := by unfold sOf; rw [Hr.out]
      rw [q1, q2, q3, q4, q5, q6, q7]
      first | exact cat_own _ _ _ _ _ _ _ | simp [ownT, clockM, gmt]
end Go.Proofs.Ytnaapoigmihjoaa
