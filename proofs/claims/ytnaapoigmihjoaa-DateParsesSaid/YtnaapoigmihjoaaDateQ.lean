/- Layer 12: the contract of moment. No condition. -/
import Derived.Test.YtnaapoigmihjoaaDateO
import Derived.Deep.QuietTactic
import Derived.BigQuiet
namespace Go.Proofs.Ytnaapoigmihjoaa
set_option linter.all false
open Go Go.RowKit

theorem length_q (y m : Int) (h0 : 0 ≤ y) (m0 : 0 ≤ m) (m1 : m ≤ 11) (w : World) :
    Calls Try.prog 19 #[.int .i64 y, .int .i64 m] w fun e w' => e = .returned (.int .i64 (lenM y m)) ∧ w' = w := (length_any y m h0 m0 m1 w).mono fun _ _ ⟨a, b⟩ => ⟨a, b.symm⟩
theorem day_q (y m n : Int) (h0 : 1 ≤ y) (h1 : y ≤ 100000) (m0 : 0 ≤ m) (m1 : m ≤ 11) (n0 : 0 ≤ n) (n1 : n ≤ 100) (w : World) :
    Calls Try.prog 39 #[.int .i64 y, .int .i64 m, .int .i64 n] w fun e w' => e = .returned (.int .i64 (begM y + cumM y m + n - 1)) ∧ w' = w := (day_any y m n h0 h1 m0 m1 n0 n1 w).mono fun _ _ ⟨a, b⟩ => ⟨a, b.symm⟩
/-- What moment answers. -/
def MomE (p : PS) (e : Ending) : Prop :=
  (momNo p → e = .returned (.tuple #[.int .i64 0, .bool false])) ∧
  (¬ momNo p → e = .returned (.tuple #[.int .i64 (dayOf p * 86400 + (3600 * p.hour + 60 * p.minute + p.sec)), .bool (dayOf p % 7 == p.week)]))
def Drawn (w w' : World) : Prop := ∃ n, w' = w.drewN n
theorem MomE.no {p : PS} {e : Ending} (h : momNo p) (he : e = .returned (.tuple #[.int .i64 0, .bool false])) : MomE p e := ⟨fun _ => he, fun k => absurd h k⟩
theorem Drawn.more {w w1 w2 : World} (h : Drawn w w1) (k : Drawn w1 w2) : Drawn w w2 := by
  obtain ⟨n, rfl⟩ := h; obtain ⟨m, rfl⟩ := k; exact ⟨n + m, World.drewN_drewN _ _ _⟩
set_option maxHeartbeats 6400000 in
theorem moment_all (p : PS) (hf : p.Fit) (w0 : 0 ≤ p.week) (w6 : p.week ≤ 6) (g : Nat) (w : World) (h : Whole w g 45 p.cells) :
    Calls Try.prog 24 #[.pointer (some ⟨g, 0, none⟩)] w fun e w' => MomE p e ∧ Drawn w w' := by
  obtain ⟨⟨f0, f1, f2, f3, f4, f5, f6, f7, f8⟩, _⟩ := PS.fields h
  obtain ⟨y0, y1, m0, m1, d0, d1, a0, a1, b0, b1, c0, c1⟩ := hf
  have hl := lenM_bd p.year p.month
  cases hb : p.bad
  · by_cases hl0 : p.left = []
    · have Hno : Hid (momNo p = (p.year < 1970 ∨ p.day < 1 ∨ lenM p.year p.month < p.day ∨ 23 < p.hour ∨ 59 < p.minute ∨ 59 < p.sec)) := Lib.hid (by unfold momNo; rw [hb, hl0]; simp)
      have Hdef : Hid (∀ e, MomE p e = MomE p e) := Lib.hid (fun _ => rfl)
      obtain ⟨y, hy⟩ : ∃ y, p.year = y := ⟨_, rfl⟩
      obtain ⟨m, hm⟩ : ∃ y, p.month = y := ⟨_, rfl⟩
      obtain ⟨d, hd⟩ : ∃ y, p.day = y := ⟨_, rfl⟩
      obtain ⟨a, ha⟩ : ∃ y, p.hour = y := ⟨_, rfl⟩
      obtain ⟨b, hbb⟩ : ∃ y, p.minute = y := ⟨_, rfl⟩
      obtain ⟨c, hcc⟩ : ∃ y, p.sec = y := ⟨_, rfl⟩
      obtain ⟨k, hk⟩ : ∃ y, p.week = y := ⟨_, rfl⟩
      have Hday : Hid (dayOf p = begM y + cumM y m + d - 1) := Lib.hid (by unfold dayOf; rw [hy, hm, hd])
      rw [hb] at f8
      rw [hl0] at f0
      rw [hy] at f2 y0 y1 hl Hno
      rw [hm] at f3 m0 m1 hl Hno
      rw [hd] at f4 d0 d1 Hno
      rw [ha] at f5 a0 a1 Hno
      rw [hbb] at f6 b0 b1 Hno
      rw [hcc] at f7 c0 c1 Hno
      rw [hk] at f1 w0 w6
      have HY := Lib.hid (And.intro hy (And.intro hm (And.intro hd (And.intro ha (And.intro hbb (And.intro hcc hk))))))
      clear hy hm hd ha hbb hcc hk hb hl0
      have H := Lib.hid h
      clear h d0 d1
      go_enter Try.func24, Try.ntmps24
      go_wp2_with fail
      refine wp_region_quiet_lit (by kernel_rfl) (by kernel_rfl) ?_
      repeat (any_goals (first | go_big_quiet_step ((go_at_call 19; exact Calls.quiet_of_same (length_q _ _ y0 m0 m1 _))) | quiet_step ((go_at_call 19; exact Calls.quiet_of_same (length_q _ _ y0 m0 m1 _))) | (refine wpQuiet_step (fun K hK => ?_); go_simp; split <;> (refine hK _ ?_; clear hK K))))
      all_goals (refine wpQuiet_nil ?_; intro _ hw'; obtain ⟨nq, hw''⟩ := hw'; subst hw'')
      all_goals go_wp2_with fail
      all_goals try (go_ret2; refine ⟨MomE.no (by rw [Hno.out]; omega) rfl, ⟨_, rfl⟩⟩)
      have Hnn : Hid (¬ momNo p) := Lib.hid (by rw [Hno.out]; omega)
      have X := H.out.drawn nq
      have Hdr : Hid (Drawn w (w.drewN nq)) := Lib.hid ⟨nq, rfl⟩
      generalize w.drewN nq = w1 at X Hdr ⊢
      clear f0 f1 f2 f3 f4 f5 f6 f7 f8 H
      obtain ⟨⟨f0, f1, f2, f3, f4, f5, f6, f7, f8⟩, _⟩ := PS.fields X
      have y2 : ¬ y < 1970 := fun e => Hnn.out (by rw [Hno.out]; omega)
      have d2 : ¬ d < 1 := fun e => Hnn.out (by rw [Hno.out]; omega)
      have d3 : ¬ lenM y m < d := fun e => Hnn.out (by rw [Hno.out]; omega)
      have hbb := begM_bd y (by omega) (by omega)
      have hb2 := begM_mono 1970 y (by omega)
      rw [begM_1970] at hb2
      have hcc := cumM_bd y m m0 (by omega)
      have H := Lib.hid X
      clear X
      rw [HY.out.1] at f2
      rw [HY.out.2.1] at f3
      rw [HY.out.2.2.1] at f4
      rw [HY.out.2.2.2.1] at f5
      rw [HY.out.2.2.2.2.1] at f6
      rw [HY.out.2.2.2.2.2.1] at f7
      rw [HY.out.2.2.2.2.2.2] at f1
      go_quiet ((go_at_call 39; exact Calls.quiet_of_same (day_q _ _ _ (by omega) (by omega) m0 m1 (by omega) (by omega) _)))
      go_wp2_with fail
      rw [← Hday.out]
      have hdd : 0 ≤ dayOf p ∧ dayOf p ≤ 40000000 := by rw [Hday.out]; omega
      have X := H.out.drawn nq
      generalize hq : w1.drewN nq = w2 at X ⊢
      have Hdr2 : Hid (Drawn w w2) := Lib.hid (by rw [← hq]; exact Hdr.out.more ⟨_, rfl⟩)
      clear f0 f1 f2 f3 f4 f5 f6 f7 f8 hq
      obtain ⟨⟨f0, f1, f2, f3, f4, f5, f6, f7, f8⟩, _⟩ := PS.fields X
      clear X
      rw [HY.out.2.2.2.1] at f5
      rw [HY.out.2.2.2.2.1] at f6
      rw [HY.out.2.2.2.2.2.1] at f7
      rw [HY.out.2.2.2.2.2.2] at f1
      generalize hdq : dayOf p = dd at hdd ⊢
      have Hdq := Lib.hid hdq
      clear hdq Hday
      go_quiet (fail)
      go_wp2_with fail
      go_ret2
      refine ⟨⟨fun e => absurd e Hnn.out, fun _ => ?_⟩, Hdr2.out.more ⟨_, rfl⟩⟩
      rw [HY.out.2.2.2.1, HY.out.2.2.2.2.1, HY.out.2.2.2.2.2.1, HY.out.2.2.2.2.2.2, Hdq.out]
      rfl
    · have he : p.left.isEmpty = false := by
        cases e : p.left with
        | nil => exact absurd e hl0
        | cons a t => rfl
      have Hno : Hid (momNo p) := Lib.hid (.inr (.inl hl0))
      rw [hb] at f8
      clear h hb hl0
      go_enter Try.func24, Try.ntmps24
      go_wp2_with fail
      go_quiet ((go_at_call 19; exact Calls.quiet_of_same (length_q _ _ y0 m0 m1 _)))
      go_wp2
      go_ret2
      exact ⟨MomE.no Hno.out rfl, _, rfl⟩
  · have Hno : Hid (momNo p) := Lib.hid (.inl hb)
    rw [hb] at f8
    clear h hb
    go_enter Try.func24, Try.ntmps24
    go_wp2_with fail
    go_quiet ((go_at_call 19; exact Calls.quiet_of_same (length_q _ _ y0 m0 m1 _)))
    go_wp2
    go_ret2
    exact ⟨MomE.no Hno.out rfl, _, rfl⟩
end Go.Proofs.Ytnaapoigmihjoaa
