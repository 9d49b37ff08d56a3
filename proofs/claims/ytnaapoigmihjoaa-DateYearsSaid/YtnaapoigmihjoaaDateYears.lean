/- The law DateYears: four hundred years later the text is the same but for the year. No condition. -/
import Derived.Test.YtnaapoigmihjoaaLawKit
import Derived.Test.YtnaapoigmihjoaaDateLaw
namespace Go.Proofs.Ytnaapoigmihjoaa.dateYears
set_option linter.all false
open Go Go.RowKit
open Go.ChangeShapes Go.WideShapes Go.ChangeAt
open Go.ChangeMaps (open_string shut_string)
theorem print_own (a : Int) (h0 : 0 ≤ a) (h1 : a ≤ 253402300799) : printM a = own7 (ofM a) := by unfold printM; rw [if_neg (by omega)]; rfl
theorem parts (x : D7) (k : x.Ok) (w0 : 0 ≤ x.w) (w6 : x.w ≤ 6) :
    (own7 x).take 12 = dayN x.w ++ [44, 32] ++ twoM x.d ++ [32] ++ monN x.m ++ [32] ∧ (own7 x).drop 16 = [32] ++ clockM x.h x.i x.s ++ gmt ∧ ((own7 x).drop 12).take 4 = twoM (x.y / 100) ++ twoM x.y := by
  have e : own7 x = (dayN x.w ++ [44, 32] ++ twoM x.d ++ [32] ++ monN x.m ++ [32]) ++ ((twoM (x.y / 100) ++ twoM x.y) ++ ([32] ++ clockM x.h x.i x.s ++ gmt)) := by simp only [own7, ownT, List.append_assoc]
  have l : (dayN x.w ++ [44, 32] ++ twoM x.d ++ [32] ++ monN x.m ++ [32]).length = 12 := by simp [dayN_len' x.w w0 w6, monN_len' x.m k.m0 k.m1]
  have l4 : (twoM (x.y / 100) ++ twoM x.y).length = 4 := rfl
  refine ⟨?_, ?_, ?_⟩
  · rw [e, ← l, List.take_left]
  · rw [e, show 16 = 12 + 4 from rfl, ← List.drop_drop, ← l, List.drop_left, ← l4, List.drop_left]
  · rw [e, ← l, List.drop_left, ← l4, List.take_left]
/-- The same date four hundred years later. -/
theorem later (x : D7) (k : x.Ok) (hy : x.y + 400 ≤ 9999) (hw : x.day % 7 = x.w) : ofM (x.at_ + 12622780800) = { x with y := x.y + 400 } := by
  obtain ⟨y0, y1, m0, m1, d0, d1, h0, h1, i0, i1, s0, s1⟩ := k
  have hb : begM (x.y + 400) = begM x.y + 146097 := by unfold begM; omega
  have hlp : leapM (x.y + 400) = leapM x.y := by
    unfold leapM
    rw [show (x.y + 400) % 4 = x.y % 4 by omega, show (x.y + 400) % 100 = x.y % 100 by omega, show (x.y + 400) % 400 = x.y % 400 by omega]
  have hl : lp (x.y + 400) = lp x.y := by unfold lp; rw [hlp]
  have hlen : lenM (x.y + 400) x.m = lenM x.y x.m := by unfold lenM; rw [hl]
  have hcum : cumM (x.y + 400) x.m = cumM x.y x.m := by unfold cumM; rw [hl]
  have ok2 : D7.Ok { x with y := x.y + 400 } := ⟨by show 1970 ≤ x.y + 400; omega, hy, m0, m1, d0, by show x.d ≤ lenM (x.y + 400) x.m; rw [hlen]; exact d1, h0, h1, i0, i1, s0, s1⟩
  have hday : D7.day { x with y := x.y + 400 } = x.day + 146097 := by
    show begM (x.y + 400) + cumM (x.y + 400) x.m + x.d - 1 = _
    rw [hb, hcum]; unfold D7.day; omega
  have hat : D7.at_ { x with y := x.y + 400 } = x.at_ + 12622780800 := by
    show D7.day { x with y := x.y + 400 } * 86400 + (3600 * x.h + 60 * x.i + x.s) = _
    rw [hday]; unfold D7.at_; omega
  have h := (of_at _ ok2).2.2
  rw [hat, hday] at h
  rw [h]
  have : (x.day + 146097) % 7 = x.w := by omega
  rw [this]
theorem four_ne (y : Int) (h0 : 0 ≤ y) (h1 : y + 400 ≤ 9999) : ((twoM (y / 100) ++ twoM y) == (twoM ((y + 400) / 100) ++ twoM (y + 400))) = false := by
  rw [beq_eq_false_iff_ne]
  intro e
  have a := (four_val y h0 (by omega)).1
  have b := (four_val (y + 400) (by omega) h1).1
  rw [e, b] at a
  omega
set_option maxHeartbeats 1600000 in
theorem yes (w : World) (n a : Int) (wf : (Lit.int .i64 n).wf = true) (ha : momLaw n = a) (h0 : 0 ≤ a) (h1 : a ≤ 240779519999) :
    Calls Try.prog 7 #[.int .i64 n] w fun e w' => e = .returned (.bool true) ∧ Below w.heap.size w w' := by
  have hn := bounds_i64 wf
  have Ha := Lib.hid ha
  obtain ⟨ok1, at1, w1'⟩ := at_of a h0 (by omega)
  have v1 : 0 ≤ (ofM a).w ∧ (ofM a).w ≤ 6 := by rw [← w1']; omega
  have hy9 : (ofM a).y + 400 ≤ 9999 := by
    show yearM (a / 86400) + 400 ≤ 9999
    have hp := yearM_prop (a / 86400) (by omega)
    rcases Int.lt_or_le 9599 (yearM (a / 86400)) with h | h
    · have h4 := begM_mono 9600 (yearM (a / 86400)) h
      have h5 : begM 9600 = 2786800 := by decide
      omega
    · omega
  have lt := later (ofM a) ok1 hy9 w1'
  rw [at1] at lt
  have ok2 : (ofM (a + 12622780800)).Ok := (at_of _ (by omega) (by omega)).1
  have w2 : (ofM (a + 12622780800)).w = (ofM a).w := by rw [lt]
  have len1 := own_len _ ok1 v1.1 v1.2
  have len2 := own_len _ ok2 (by rw [w2]; exact v1.1) (by rw [w2]; exact v1.2)
  obtain ⟨p1, p2, p3⟩ := parts _ ok1 v1.1 v1.2
  obtain ⟨q1, q2, q3⟩ := parts _ ok2 (by rw [w2]; exact v1.1) (by rw [w2]; exact v1.2)
  have hne := four_ne (ofM a).y (by have := ok1.y0; omega) hy9
  have Hp1 := Lib.hid (print_own a h0 (by omega))
  have Hp2 := Lib.hid (print_own (a + 12622780800) (by omega) (by omega))
  rw [lt] at q1 q2 q3 len2 Hp2
  simp only at q1 q2 q3
  generalize twoM ((ofM a).y / 100) ++ twoM (ofM a).y = Y1 at p3 hne
  generalize twoM (((ofM a).y + 400) / 100) ++ twoM ((ofM a).y + 400) = Y2 at q3 hne
  rw [← p1] at q1
  rw [← p2] at q2
  generalize own7 (ofM a) = L1 at len1 p1 p2 p3 q1 q2 Hp1
  generalize own7 _ = L2 at len2 q1 q2 q3 Hp2
  clear lt ok2 w2 ok1 at1 w1' v1 hy9 p1 p2 ha
  obtain ⟨A, hA⟩ : ∃ A, L1.take 12 = A := ⟨_, rfl⟩
  obtain ⟨B, hB⟩ : ∃ A, L1.drop 16 = A := ⟨_, rfl⟩
  rw [hA] at q1
  rw [hB] at q2
  have x1 : (S L1).extract 0 12 = S A := by rw [S_pre, hA]
  have x2 : (S L2).extract 0 12 = S A := by rw [S_pre, q1]
  have y1 : (S L1).extract 16 29 = S B := by have := S_drop L1 16 (by omega); rw [len1, hB] at this; exact this
  have y2 : (S L2).extract 16 29 = S B := by have := S_drop L2 16 (by omega); rw [len2, q2] at this; exact this
  have z1 : (S L1).extract 12 16 = S Y1 := by have := S_cut L1 12 4 (by omega); rw [p3] at this; exact this
  have z2 : (S L2).extract 12 16 = S Y2 := by have := S_cut L2 12 4 (by omega); rw [q3] at this; exact this
  clear hA hB q1 q2 p3 q3
  go_enter Try.func7, Try.ntmps7
  go_wp2_with fail
  refine (awake_any _).mono ?_; rintro e w1 ⟨rfl, b1⟩
  go_wp2_with fail
  refine (lawMoment_any n hn.1 hn.2 _).mono ?_; rintro e w' ⟨rfl, rfl⟩
  rw [Ha.out]
  go_wp2_with fail
  refine (Print_any a _).mono ?_; rintro e w2 ⟨rfl, b2⟩
  rw [Hp1.out]
  go_wp2_with fail
  refine (Print_any (a + 12622780800) _).mono ?_; rintro e w3 ⟨rfl, b3⟩
  rw [Hp2.out]
  have B3 : Below w.heap.size w w3 := bt (bt b1 b2) b3
  clear b1 b2 b3
  go_wp2_with fail
  go_quiet (fail)
  go_wp2_with fail
  go_ret
  exact ⟨ret_bool (by try simp), Below.drewN B3 _⟩
theorem walk (w : World) (n : Int) (wf : (Lit.int .i64 n).wf = true) :
    Calls Try.prog 7 #[.int .i64 n] w fun e w' => e = .returned (.bool true) ∧ Below w.heap.size w w' := by
  have hb := momLaw_bd n
  by_cases h : momLaw n ≤ 240779519999
  · exact yes w n _ wf rfl hb.1 h
  · have hn := bounds_i64 wf
    have h2 : 240779519999 < momLaw n := by omega
    go_enter Try.func7, Try.ntmps7
    go_wp2_with fail
    refine (awake_any _).mono ?_; rintro e w1 ⟨rfl, b1⟩
    go_wp2_with fail
    refine (lawMoment_any n hn.1 hn.2 _).mono ?_; rintro e w' ⟨rfl, rfl⟩
    go_wp2_with fail
    go_ret
    exact ⟨rfl, b1⟩
set_option maxRecDepth 100000 in
theorem lifted (os : Os) (started : os.Started) (H : Type) (enc : TypeId × Value → H) :
    ReturnsInHanded {} Try.checked os 7 .any (Rows.dateYearsSpec.pre6 enc Try.prog Try.f7 Rows.dateYearsRow.domain false) (Rows.dateYearsSpec.post enc Try.prog Try.f7 false true false false) := by
  refine returnsInHanded_of_change_sized (C := Try.checked) own started (by kernel_rfl) Try.func7
    (ChangeSpec.witness6 (enc := enc) (C := Try.checked) false ⟨#[], #[.int .i64 0], []⟩ 8 (by kernel_rfl) (by kernel_rfl) (by kernel_rfl) (by kernel_rfl)) ?_
  intro W base args ds gs before hval0 hW _ hsz0 _
  have hsz : (DataW.weightsEach Try.prog (Try.f7.params.toList ++ Rows.dateYearsSpec.plain.varTypes Try.prog) (ds ++ gs)).all (· ≤ reachBytes) = true := hsz0
  clear hsz0
  have hval : ∀ (j : Nat) t v, Try.f7.params[j]? = some t → args[j]? = some v → Value.okWide Try.prog W .any base t v := hval0
  have hW' := hW
  obtain ⟨p, q, hA0, hV, rfl, _, _⟩ := hW
  have hA : DataW.TrodAll enc Try.prog W 0 (fun _ => true) true Try.f7.params.toList args.toList ds p := hA0
  rw [Try.params7] at hA hval hsz
  obtain ⟨v0, vs0, d0, ds0, p0, q0, hargs, rfl, rfl, h0, r0⟩ := trodAll_cons hA
  obtain ⟨rfl, rfl, rfl⟩ := trodAll_nil r0
  obtain rfl : args = #[v0] := by cases args; simp_all
  obtain ⟨rfl, rfl⟩ := trodVars_none hV
  obtain ⟨a0, rfl, rfl, rfl, w0⟩ := open_int Try.underlying2 (hval 0 2 v0 rfl rfl) h0
  clear hA0 hval0
  refine (walk W a0 w0).mono fun e W' ⟨he, bel⟩ => ?_
  subst he
  exact ⟨_, rfl, _, _, _, [], _, [], hW', trodAll_mk1 (shut_bool Try.underlying4 _), (trodAll_cons_mk (shut_int Try.underlying2 w0) trodAll_mk0), rfl, bel.frame _, fun h => by cases h⟩
theorem over : Rows.dateYearsRow.holds Try.pinned (OpenSpec.ofChange Rows.dateYearsSpec) :=
  OpenClaim.holds_of_wide 7 Try.f7 rfl rfl rfl rfl rfl rfl rfl ⟨rfl, rfl, rfl, rfl, rfl⟩ rfl rfl rfl rfl rfl (by kernel_rfl) Try.func7 (by kernel_rfl)
    (of_decide_eq_true (by kernel_rfl)) (by unfold Func.isWrapper; first | (rw [if_pos (by decide +kernel)]; kernel_rfl) | (rw [if_neg (by decide +kernel)]; exact ⟨rfl, rfl⟩))
    (fun os started H enc _ => lifted os started H enc)
theorem proved : Rows.DateYearsSaid := over
#print axioms proved
end Go.Proofs.Ytnaapoigmihjoaa.dateYears
