/- Layer 12: contracts of the document's functions that write and read the texts' parts. No condition. -/
import Derived.Test.YtnaapoigmihjoaaDateS
namespace Go.Proofs.Ytnaapoigmihjoaa
set_option linter.all false
open Go Go.RowKit

theorem refAt_any (x : D7) (k : x.Ok) (w : World) :
    Calls Try.prog 27 #[x.v] w fun e w' => e = .returned (.int .i64 x.at_) ∧ Below w.heap.size w w' := by
  obtain ⟨Y, M, D, H, I, S', W⟩ := x
  obtain ⟨y0, y1, m0, m1, d0, d1, h0, h1, i0, i1, s0, s1⟩ := k
  simp only at y0 y1 m0 m1 d0 d1 h0 h1 i0 i1 s0 s1
  have d9 := lenM_99 Y M
  have Hf : Hid (D7.at_ ⟨Y, M, D, H, I, S', W⟩ = (begM Y + cumM Y M + D - 1) * 86400 + (3600 * H + 60 * I + S')) := Lib.hid rfl
  obtain ⟨m, rfl⟩ := Int.eq_ofNat_of_zero_le m0
  show Calls Try.prog 27 #[.agg #[.int .i64 Y, .int .i64 (m + 1), .int .i64 D, .int .i64 H, .int .i64 I, .int .i64 S', .int .i64 W]] w _
  have hwh : Whole (w.alloc (.cells #[.int .i64 Y, .int .i64 (m + 1), .int .i64 D, .int .i64 H, .int .i64 I, .int .i64 S', .int .i64 W] 33)) w.heap.size 33 (C7 Y (m + 1) D H I S' W) := Whole.new w _ _
  have hbel : Below w.heap.size w (w.alloc (.cells #[.int .i64 Y, .int .i64 (m + 1), .int .i64 D, .int .i64 H, .int .i64 I, .int .i64 S', .int .i64 W] 33)) := (Below.refl _ _).alloc (Nat.le_refl _) _
  have hY := begM_mono 1970 Y y0
  rw [begM_1970] at hY
  have hY2 := begM_bd Y (by omega) (by omega)
  go_enter Try.func27, Try.ntmps27
  go_wp2_with fail
  generalize w.alloc (.cells #[.int .i64 Y, .int .i64 (m + 1), .int .i64 D, .int .i64 H, .int .i64 I, .int .i64 S', .int .i64 W] 33) = wa at hwh hbel ⊢
  have c0 := hwh.at_ 0
  have c1 := hwh.at_ 1
  have c2 := hwh.at_ 2
  have c3 := hwh.at_ 3
  have c4 := hwh.at_ 4
  have c5 := hwh.at_ 5
  simp only [C7, List.getElem?_cons_zero, List.getElem?_cons_succ] at c0 c1 c2 c3 c4 c5
  clear hwh
  go_loop [3, 4] (fun d y => ∃ q : Int, y = .int .i64 q ∧ 1970 ≤ q ∧ q ≤ Y ∧ d = .int .i64 (begM q)) (fun _ y => (Y - intOf y).toNat)
  case atStart => exact ⟨1970, rfl, by omega, y0, by rw [begM_1970]⟩
  case round =>
    obtain ⟨q, rfl, q0, q1, rfl⟩ := hrel
    have hbq := begM_mono 1970 q q0
    rw [begM_1970] at hbq
    have hbd := begM_bd q (by omega) (by omega)
    have hbs := begM_succ q
    by_cases hlt : q < Y
    · cases hlp2 : leapM q
      all_goals
        first | have hlx := lp_t hlp2 | have hlx := lp_f hlp2
        rw [hlx] at hbs
        have Hbs := Lib.hid hbs
        clear hbs hlx
        go_wp2_with (go_at_call 30; refine (refLeap_any _ (by omega) _).mono ?_; rintro e w' ⟨rfl, rfl⟩)
        go_round
        case rel => exact ⟨q + 1, rfl, by omega, by omega, by rw [Hbs.out]; all_goals (congr 1; omega)⟩
        case measure => simp [intOf]; omega
    · obtain rfl : q = Y := by omega
      clear hbs
      go_wp2_with fail
      go_loop [3, 5] (fun d k => ∃ j : Nat, j ≤ m ∧ k = .int .i64 (j + 1) ∧ d = .int .i64 (begM q + cumM q j)) (fun _ k => (m + 1 - intOf k).toNat)
      case atStart => exact ⟨0, Nat.zero_le _, rfl, by rw [show ((0 : Nat) : Int) = 0 from rfl, cumM_0]; simp⟩
      case round =>
        obtain ⟨j, hj, rfl, rfl⟩ := hrel
        have hc := cumM_bd q j (by omega) (by omega)
        have hl := lenM_bd q j
        by_cases hlt2 : j < m
        · have Hs := Lib.hid (cumM_succ q j (by omega) (by omega))
          have e11 : (j : Int) + 1 - 1 = j := by omega
          go_wp2_with (go_at_call 31; refine (refDays_any _ _ (by omega) (by omega) (by omega) _).mono ?_; rintro e w' ⟨rfl, rfl⟩)
          go_round
          case rel => exact ⟨j + 1, by omega, by go_num, by rw [show ((j + 1 : Nat) : Int) = (j : Int) + 1 by omega, Hs.out]; congr 1; omega⟩
          case measure => simp [intOf]; omega
        · obtain rfl : j = m := by omega
          go_wp2
          go_ret
          exact ⟨ret_int (by rw [Hf.out]; omega), hbel⟩
/-- A number with noughts ahead. -/
def padM (n : Int) (k : Nat) : List UInt8 := List.replicate (k - (digs 10 n).length) 48 ++ digs 10 n
theorem S_cat (l : List UInt8) : ({ data := #[48] } : ByteArray) ++ S l = S (48 :: l) := by simp
theorem refPad_any (n : Int) (k : Nat) (hk : k ≤ 4) (hn : n ≤ 9223372036854775807) (w : World) :
    Calls Try.prog 29 #[.int .i64 n, .int .i64 k] w fun e w' => e = .returned (.string (S (padM n k))) ∧ Below w.heap.size w w' := by
  have hl := digs_length 10 (by omega) n hn
  go_enter Try.func29, Try.ntmps29
  go_wp2_with (go_at_call 43; refine (refDigits_all n hn 10 (.inl rfl) _).mono ?_; rintro e w1 ⟨rfl, hb⟩)
  go_loop [5] (fun s => ∃ j : Nat, s = .string (S (List.replicate j 48 ++ digs 10 n)) ∧ (j = 0 ∨ j + (digs 10 n).length ≤ k)) (fun s => match s with | .string t => k - t.size | _ => 0)
  case atStart => exact ⟨0, rfl, .inl rfl⟩
  case round =>
    obtain ⟨j, rfl, hj⟩ := hrel
    by_cases hlt : j + (digs 10 n).length < k
    · have hc := S_cat (List.replicate j 48 ++ digs 10 n)
      rw [← List.cons_append, ← List.replicate_succ] at hc
      have Hj : Hid (j + 1 + (digs 10 n).length ≤ k) := Lib.hid (by omega)
      clear hj
      go_wp2
      go_round
      case rel => exact ⟨j + 1, rfl, .inr Hj.out⟩
      case measure => simp; omega
    · have Hp : Hid (padM n k = List.replicate j 48 ++ digs 10 n) := Lib.hid (by
        unfold padM
        rw [show k - (digs 10 n).length = j by omega])
      go_wp2
      go_ret
      exact ⟨ret_str (by rw [Hp.out]), hb⟩
theorem chM_dg (d : Nat) (h : d < 10) : chM d = dg (d : Int) := by
  have : ∀ d : Fin 10, chM d.val = dg (d.val : Int) := by decide
  exact this ⟨d, h⟩
theorem digs_one (n : Nat) (h : n < 10) : digsM 10 n = [dg (n : Int)] := by
  rw [digsM_eq 10 (by omega), if_pos h, chM_dg n h]
theorem digs_more (n : Nat) (h : 10 ≤ n) : digsM 10 n = digsM 10 (n / 10) ++ [dg ((n % 10 : Nat) : Int)] := by
  rw [digsM_eq 10 (by omega), if_neg (by omega), chM_dg _ (by omega)]
theorem pad2 (n : Int) (h0 : 0 ≤ n) (h1 : n ≤ 99) : padM n 2 = twoM n := by
  obtain ⟨n, rfl⟩ := Int.eq_ofNat_of_zero_le h0
  unfold padM digs
  rw [if_neg (by omega), Int.toNat_natCast]
  by_cases h : n < 10
  · rw [digs_one n h]
    unfold twoM
    rw [show (n : Int) / 10 % 10 = 0 by omega, show (n : Int) % 10 = n by omega]; rfl
  · rw [digs_more n (by omega), digs_one (n / 10) (by omega)]
    unfold twoM
    rw [show (n : Int) / 10 % 10 = ((n / 10 : Nat) : Int) by omega, show (n : Int) % 10 = ((n % 10 : Nat) : Int) by omega]; rfl
theorem pad4 (n : Int) (h0 : 1000 ≤ n) (h1 : n ≤ 9999) : padM n 4 = twoM (n / 100) ++ twoM n := by
  obtain ⟨n, rfl⟩ := Int.eq_ofNat_of_zero_le (show 0 ≤ n by omega)
  unfold padM digs
  rw [if_neg (by omega), Int.toNat_natCast, digs_more n (by omega), digs_more (n / 10) (by omega), digs_more (n / 10 / 10) (by omega), digs_one (n / 10 / 10 / 10) (by omega)]
  unfold twoM
  rw [show (n : Int) / 100 / 10 % 10 = ((n / 10 / 10 / 10 : Nat) : Int) by omega, show (n : Int) / 100 % 10 = ((n / 10 / 10 % 10 : Nat) : Int) by omega, show (n : Int) / 10 % 10 = ((n / 10 % 10 : Nat) : Int) by omega, show (n : Int) % 10 = ((n % 10 : Nat) : Int) by omega]; rfl
theorem refPad2 (n : Int) (h0 : 0 ≤ n) (h1 : n ≤ 99) (w : World) :
    Calls Try.prog 29 #[.int .i64 n, .int .i64 2] w fun e w' => e = .returned (.string (S (twoM n))) ∧ Below w.heap.size w w' := by
  have := refPad_any n 2 (by omega) (by omega) w
  rw [pad2 n h0 h1] at this; exact this
theorem refPad4 (n : Int) (h0 : 1000 ≤ n) (h1 : n ≤ 9999) (w : World) :
    Calls Try.prog 29 #[.int .i64 n, .int .i64 4] w fun e w' => e = .returned (.string (S (twoM (n / 100) ++ twoM n))) ∧ Below w.heap.size w w' := by
  have := refPad_any n 4 (by omega) (by omega) w
  rw [pad4 n h0 h1] at this; exact this
theorem weekdays_at (d : Nat) (h : d ≤ 6) (w : World) :
    Calls Try.prog 16 #[] w fun e w' => ∃ g, e = .returned (.slice (some ⟨g, 0, none⟩) 7 7) ∧ w'.cell? ⟨g, d, none⟩ = some (.string (S (longN d))) ∧ Below w.heap.size w w' := by
  have hw := Whole.new w 9 (longL.map fun l => Value.string (S l))
  have hc := hw.at_ d
  have e : (longL.map fun l => Value.string (S l))[d]? = some (.string (S (longN d))) := by
    unfold longN
    rw [List.getElem?_map, List.getElem?_eq_getElem (by have : longL.length = 7 := rfl; omega)]
    simp [show d < longL.length by have : longL.length = 7 := rfl; omega]
  rw [e] at hc
  have Hc := Lib.hid hc
  clear hc hw e
  go_enter Try.func16, Try.ntmps16
  go_wp2
  go_ret
  exact ⟨_, rfl, Hc.out, (Below.refl _ _).alloc (Nat.le_refl _) _⟩
theorem months_at (d : Nat) (h : d ≤ 11) (w : World) :
    Calls Try.prog 28 #[] w fun e w' => ∃ g, e = .returned (.slice (some ⟨g, 0, none⟩) 12 12) ∧ w'.cell? ⟨g, d, none⟩ = some (.string (S (monN d))) ∧ Below w.heap.size w w' := by
  have hw := Whole.new w 9 ((List.range 12).map fun k => Value.string (S (monN (k : Nat))))
  have hc := hw.at_ d
  have e : ((List.range 12).map fun k => Value.string (S (monN (k : Nat))))[d]? = some (.string (S (monN d))) := by
    rw [List.getElem?_map, List.getElem?_range (by omega)]; rfl
  rw [e] at hc
  have Hc := Lib.hid hc
  clear hc hw e
  go_enter Try.func28, Try.ntmps28
  go_wp2
  go_ret
  exact ⟨_, rfl, Hc.out, (Below.refl _ _).alloc (Nat.le_refl _) _⟩
end Go.Proofs.Ytnaapoigmihjoaa
