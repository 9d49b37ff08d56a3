/- The law DateBack: a moment's own text, and the text without commas, mean that moment, whatever the time is; the text with two digits of the year means it within the fifty years around. Printed by gen_back.py. No condition. -/
import Derived.Test.YtnaapoigmihjoaaLawKit
import Derived.Test.YtnaapoigmihjoaaDateLaw
namespace Go.Proofs.Ytnaapoigmihjoaa.dateBack
set_option linter.all false
open Go Go.RowKit
open Go.ChangeShapes Go.WideShapes Go.ChangeAt
open Go.ChangeMaps (open_string shut_string)
theorem print_own (a : Int) (h0 : 0 ≤ a) (h1 : a ≤ 253402300799) : printM a = own7 (ofM a) := by unfold printM; rw [if_neg (by omega)]; rfl
theorem cell_lt {w : World} {g i : Nat} {v : Value} (h : w.cell? ⟨g, i, none⟩ = some v) : g < w.heap.size := by
  rcases Nat.lt_or_ge g w.heap.size with h1 | h1
  · exact h1
  · simp [World.cell?, Array.getElem?_eq_none h1] at h
theorem cond_year (y z : Int) (h0 : 0 ≤ y) (k0 : 0 ≤ z) : (y = yearO z (y % 100)) ↔ ((y / 100 = z / 100 ∧ y ≤ z + 50) ∨ (y / 100 = z / 100 - 1 ∧ z + 50 < y + 100)) := by
  unfold yearO
  split <;> omega
set_option maxHeartbeats 6400000 in
theorem yes (w : World) (n m a t : Int) (wn : (Lit.int .i64 n).wf = true) (wm : (Lit.int .i64 m).wf = true) (ha : momLaw n = a) (ht : momLaw m = t) (h0 : 0 ≤ a) (h1 : a ≤ 253402300799) (k0 : 0 ≤ t) (k1 : t ≤ 253402300799) :
    Calls Try.prog 5 #[.int .i64 n, .int .i64 m] w fun e w' => e = .returned (.bool true) ∧ Below w.heap.size w w' := by
  have hn := bounds_i64 wn
  have hm := bounds_i64 wm
  have Ha := Lib.hid ha
  have Ht := Lib.hid ht
  clear ha ht
  obtain ⟨ok, _, hw⟩ := at_of a h0 h1
  have v1 : 0 ≤ (ofM a).w ∧ (ofM a).w ≤ 6 := by rw [← hw]; omega
  have Ok := Lib.hid ok
  have len1 := own_len _ ok v1.1 v1.2
  have len2 := old_len _ ok
  have len3 := bare_len _ ok v1.1 v1.2
  have ln := longN_len' _ v1.1 v1.2
  have Hl1 : Hid ((own7 (ofM a)).length ≤ 10000) := Lib.hid (by omega)
  have Hl2 : Hid ((old7 (ofM a)).length ≤ 10000) := Lib.hid (by omega)
  have Hl3 : Hid ((bare7 (ofM a)).length ≤ 10000) := Lib.hid (by omega)
  have V1 := Lib.hid v1
  clear ok hw len1 len2 len3 ln v1
  have Hp := Lib.hid (print_own a h0 h1)
  have F1 := Lib.hid (first_own a h0 h1 t)
  have F3 := Lib.hid (first_bare a h0 h1 t)
  obtain ⟨r, hr⟩ : ∃ r, (firstK fun k => progK k (nowY t) (old7 (ofM a))) = r := ⟨_, rfl⟩
  have hz : nowY t = (ofM t).y := by unfold nowY; rw [if_neg (by omega), if_neg (by omega)]; rfl
  have hcond := cond_year (ofM a).y (ofM t).y (by have := Ok.out.y0; omega) (by have := (at_of t k0 k1).1.y0; omega)
  have Hyes : Hid (((ofM a).y / 100 = (ofM t).y / 100 ∧ (ofM a).y ≤ (ofM t).y + 50) ∨ ((ofM a).y / 100 = (ofM t).y / 100 - 1 ∧ (ofM t).y + 50 < (ofM a).y + 100) → r = some a) := Lib.hid (fun h => by
    rw [← hr]; exact first_old a h0 h1 t (by rw [hz]; exact hcond.2 h))
  have Hno : Hid (¬ (((ofM a).y / 100 = (ofM t).y / 100 ∧ (ofM a).y ≤ (ofM t).y + 50) ∨ ((ofM a).y / 100 = (ofM t).y / 100 - 1 ∧ (ofM t).y + 50 < (ofM a).y + 100)) → r ≠ some a) := Lib.hid (fun h => by
    rw [← hr]; exact first_old_no a h0 h1 t (fun e => h (hcond.1 (by rw [hz] at e; exact e))))
  have Hr := Lib.hid hr
  have yb : 1970 ≤ (ofM a).y ∧ (ofM a).y ≤ 9999 := ⟨Ok.out.y0, Ok.out.y1⟩
  have zb : 1970 ≤ (ofM t).y ∧ (ofM t).y ≤ 9999 := ⟨(at_of t k0 k1).1.y0, (at_of t k0 k1).1.y1⟩
  clear hr hz hcond
  have hfa := fun w : World => field_year (ofM a).y ((ofM a).m + 1) (ofM a).d (ofM a).h (ofM a).i (ofM a).s (ofM a).w w
  have hft := fun w : World => field_year (ofM t).y ((ofM t).m + 1) (ofM t).d (ofM t).h (ofM t).i (ofM t).s (ofM t).w w
  have Hfa := Lib.hid hfa
  have Hft := Lib.hid hft
  clear hfa hft
  go_enter Try.func5, Try.ntmps5
  go_wp2_with fail
  refine (awake_any _).mono ?_; rintro e w1 ⟨rfl, b1⟩
  go_wp2_with fail
  refine (lawMoment_any n hn.1 hn.2 _).mono ?_; rintro e w' ⟨rfl, rfl⟩
  rw [Ha.out]
  go_wp2_with fail
  refine (lawMoment_any m hm.1 hm.2 _).mono ?_; rintro e w' ⟨rfl, rfl⟩
  rw [Ht.out]
  go_wp2_with fail
  refine (refOf_any a h0 h1 _).mono ?_; rintro e w2 ⟨rfl, b2⟩
  go_wp2_with fail
  refine (refTexts_any (ofM a) Ok.out V1.out.1 V1.out.2 _).mono ?_; rintro e w3 ⟨g, rfl, ⟨_, C1, C2⟩, b3⟩
  have B3 := bt (bt b1 b2) b3
  have glt := cell_lt C1
  go_wp2_with fail
  refine (Print_any a _).mono ?_; rintro e w4 ⟨rfl, b4⟩
  rw [Hp.out]
  go_wp2_with fail
  refine (Parse_any _ t Hl1.out _).mono ?_; rintro e w5 ⟨rfl, b5⟩
  rw [F1.out]
  simp only [ansV]
  have B45 := bt b4 b5
  have D1 := (B45.cell (p := ⟨g, 1, none⟩) glt).trans C1
  have D2 := (B45.cell (p := ⟨g, 2, none⟩) glt).trans C2
  have B5 := bt B3 B45
  clear b1 b2 b3 b4 b5 B45 B3 C1 C2 glt
  have glt := cell_lt D1
  go_wp2_with fail
  refine (Parse_any _ t Hl3.out _).mono ?_; rintro e w6 ⟨rfl, b6⟩
  rw [F3.out]
  simp only [ansV]
  go_wp2_with fail
  refine (refOf_any a h0 h1 _).mono ?_; rintro e w7 ⟨rfl, b7⟩
  simp only [D7.v]
  have hfa := Hfa.out
  go_wp2_with fail
  clear hfa
  refine (refOf_any t k0 k1 _).mono ?_; rintro e w8 ⟨rfl, b8⟩
  simp only [D7.v]
  have hft := Hft.out
  have B58 := bt (bt b6 b7) b8
  have E1 := (B58.cell (p := ⟨g, 1, none⟩) glt).trans D1
  have B8 := bt B5 B58
  clear b6 b7 b8 D1 D2 glt B58 B5
  go_wp2_with fail
  clear hft
  refine (Parse_any _ t Hl2.out _).mono ?_; rintro e w9 ⟨rfl, b9⟩
  rw [Hr.out]
  have B9 := bt B8 b9
  clear B8 b9 E1 F1 F3 Hp Ok V1 Hl1 Hl2 Hl3 Hr Hfa Hft Ha Ht hn hm wn wm h0 h1 k0 k1
  generalize (ofM a).y = y at yb Hyes Hno ⊢
  generalize (ofM t).y = z at zb Hyes Hno ⊢
  by_cases g1 : y / 100 = z / 100
  · have f1 : (y / 100 == z / 100) = true := by rw [beq_iff_eq]; exact g1
    by_cases g2 : y ≤ z + 50
    · have f2 : decide (y ≤ z + 50) = true := decide_eq_true g2
      obtain rfl := Hyes.out (by omega)
      simp only [ansV]
      clear Hyes Hno
      go_wp2_with fail
      go_ret
      exact ⟨rfl, B9⟩
    · have f2 : decide (y ≤ z + 50) = false := decide_eq_false g2
      have f3 : (y / 100 == z / 100 - 1) = false := by rw [beq_eq_false_iff_ne]; omega
      have hne := Hno.out (by omega)
      clear Hyes Hno
      rcases r with _ | b
      · simp only [ansV]
        clear hne
        go_wp2_with fail
        go_ret
        exact ⟨rfl, B9⟩
      · have nb : b ≠ a := fun e => hne (by rw [e])
        clear hne
        have q1 : (b == a) = false := by rw [beq_eq_false_iff_ne]; exact nb
        have q2 : (b != a) = true := by rw [bne_iff_ne]; exact nb
        clear nb
        simp only [ansV]
        go_wp2_with fail
        go_ret
        exact ⟨rfl, B9⟩
  · have f1 : (y / 100 == z / 100) = false := by rw [beq_eq_false_iff_ne]; exact g1
    by_cases g3 : y / 100 = z / 100 - 1
    · have f3 : (y / 100 == z / 100 - 1) = true := by rw [beq_iff_eq]; exact g3
      by_cases g4 : z + 50 < y + 100
      · have f4 : decide (z + 50 < y + 100) = true := decide_eq_true g4
        obtain rfl := Hyes.out (by omega)
        simp only [ansV]
        clear Hyes Hno
        go_wp2_with fail
        go_ret
        exact ⟨rfl, B9⟩
      · have f4 : decide (z + 50 < y + 100) = false := decide_eq_false g4
        have hne := Hno.out (by omega)
        clear Hyes Hno
        rcases r with _ | b
        · simp only [ansV]
          clear hne
          go_wp2_with fail
          go_ret
          exact ⟨rfl, B9⟩
        · have nb : b ≠ a := fun e => hne (by rw [e])
          clear hne
          have q1 : (b == a) = false := by rw [beq_eq_false_iff_ne]; exact nb
          have q2 : (b != a) = true := by rw [bne_iff_ne]; exact nb
          clear nb
          simp only [ansV]
          go_wp2_with fail
          go_ret
          exact ⟨rfl, B9⟩
    · have f3 : (y / 100 == z / 100 - 1) = false := by rw [beq_eq_false_iff_ne]; exact g3
      have hne := Hno.out (by omega)
      clear Hyes Hno
      rcases r with _ | b
      · simp only [ansV]
        clear hne
        go_wp2_with fail
        go_ret
        exact ⟨rfl, B9⟩
      · have nb : b ≠ a := fun e => hne (by rw [e])
        clear hne
        have q1 : (b == a) = false := by rw [beq_eq_false_iff_ne]; exact nb
        have q2 : (b != a) = true := by rw [bne_iff_ne]; exact nb
        clear nb
        simp only [ansV]
        go_wp2_with fail
        go_ret
        exact ⟨rfl, B9⟩
theorem walk (w : World) (n : Int) (wn : (Lit.int .i64 n).wf = true) (m : Int) (wm : (Lit.int .i64 m).wf = true) :
    Calls Try.prog 5 #[.int .i64 n, .int .i64 m] w fun e w' => e = .returned (.bool true) ∧ Below w.heap.size w w' := by
  have hb := momLaw_bd n
  have hc := momLaw_bd m
  exact yes w n m _ _ wn wm rfl rfl hb.1 hb.2 hc.1 hc.2
set_option maxRecDepth 100000 in
theorem lifted (os : Os) (started : os.Started) (H : Type) (enc : TypeId × Value → H) :
    ReturnsInHanded {} Try.checked os 5 .any (Rows.dateBackSpec.pre6 enc Try.prog Try.f5 Rows.dateBackRow.domain false) (Rows.dateBackSpec.post enc Try.prog Try.f5 false true false false) := by
  refine returnsInHanded_of_change_sized (C := Try.checked) own started (by kernel_rfl) Try.func5
    (ChangeSpec.witness6 (enc := enc) (C := Try.checked) false ⟨#[], #[.int .i64 0, .int .i64 0], []⟩ 8 (by kernel_rfl) (by kernel_rfl) (by kernel_rfl) (by kernel_rfl)) ?_
  intro W base args ds gs before hval0 hW _ hsz0 _
  have hsz : (DataW.weightsEach Try.prog (Try.f5.params.toList ++ Rows.dateBackSpec.plain.varTypes Try.prog) (ds ++ gs)).all (· ≤ reachBytes) = true := hsz0
  clear hsz0
  have hval : ∀ (j : Nat) t v, Try.f5.params[j]? = some t → args[j]? = some v → Value.okWide Try.prog W .any base t v := hval0
  have hW' := hW
  obtain ⟨p, q, hA0, hV, rfl, _, _⟩ := hW
  have hA : DataW.TrodAll enc Try.prog W 0 (fun _ => true) true Try.f5.params.toList args.toList ds p := hA0
  rw [Try.params5] at hA hval hsz
  obtain ⟨v0, vs0, d0, ds0, p0, q0, hargs, rfl, rfl, h0, r0⟩ := trodAll_cons hA
  obtain ⟨v1, vs1, d1, ds1, p1, q1, rfl, rfl, rfl, h1, r1⟩ := trodAll_cons r0
  obtain ⟨rfl, rfl, rfl⟩ := trodAll_nil r1
  obtain rfl : args = #[v0, v1] := by cases args; simp_all
  obtain ⟨rfl, rfl⟩ := trodVars_none hV
  obtain ⟨a0, rfl, rfl, rfl, w0⟩ := open_int Try.underlying2 (hval 0 2 v0 rfl rfl) h0
  obtain ⟨a1, rfl, rfl, rfl, w1⟩ := open_int Try.underlying2 (hval 1 2 v1 rfl rfl) h1
  clear hA0 hval0
  refine (walk W a0 w0 a1 w1).mono fun e W' ⟨he, bel⟩ => ?_
  subst he
  exact ⟨_, rfl, _, _, _, [], _, [], hW', trodAll_mk1 (shut_bool Try.underlying4 _), (trodAll_cons_mk (shut_int Try.underlying2 w0) (trodAll_cons_mk (shut_int Try.underlying2 w1) trodAll_mk0)), rfl, bel.frame _, fun h => by cases h⟩
theorem over : Rows.dateBackRow.holds Try.pinned (OpenSpec.ofChange Rows.dateBackSpec) :=
  OpenClaim.holds_of_wide 5 Try.f5 rfl rfl rfl rfl rfl rfl rfl ⟨rfl, rfl, rfl, rfl, rfl⟩ rfl rfl rfl rfl rfl (by kernel_rfl) Try.func5 (by kernel_rfl)
    (of_decide_eq_true (by kernel_rfl)) (by unfold Func.isWrapper; first | (rw [if_pos (by decide +kernel)]; kernel_rfl) | (rw [if_neg (by decide +kernel)]; exact ⟨rfl, rfl⟩))
    (fun os started H enc _ => lifted os started H enc)
theorem proved : Rows.DateBackSaid := over
#print axioms proved
end Go.Proofs.Ytnaapoigmihjoaa.dateBack
