/- The law OctetDigits: a number's digits say that number; below 0 there are none; a nought ahead changes nothing. No condition. -/
import Derived.Test.YtefodepamjpmjaaLawKit
import Derived.Test.YtefodepamjpmjaaOctD
namespace Go.Proofs.Ytefodepamjpmjaa.octetDigits
open Go Go.RowKit
open Go.ChangeShapes Go.WideShapes Go.ChangeAt
open Go.ChangeMaps (open_string shut_string)
theorem dig70 (w : World) :
    Calls Try.prog 17 #[.int .i64 70] w fun e w' => e = .returned (.string { data := #[55, 48] }) ∧ Below w.heap.size w w' :=
  octDigits_all 70 (by omega) w
theorem dig255 (w : World) :
    Calls Try.prog 18 #[.int .i64 255] w fun e w' => e = .returned (.string { data := #[102, 102] }) ∧ Below w.heap.size w w' :=
  octHexDigits_all 255 (by omega) w
theorem walk (w : World) (n : Int) (wf : (Lit.int .i64 n).wf = true) :
    Calls Try.prog 7 #[.int .i64 n] w fun e w' => e = .returned (.bool true) ∧ Below w.heap.size w w' := by
  have hn : n ≤ 9223372036854775807 := by have := bounds_i64 wf; omega
  have hl10 := digs_length 10 (by omega) n hn
  have hl16 := digs_length 16 (by omega) n hn
  rcases Int.lt_or_le n 0 with h | h
  · have e10 := digs_neg 10 n h
    have e16 := digs_neg 16 n h
    have v1 : numV 10 [] = 0 := rfl
    have v2 : numE 10 [] = 10 := rfl
    have v3 : numV 16 [48] = 0 := by decide
    have v4 : numE 16 [48] = 0 := by decide
    clear hl10 hl16
    go_enter Try.func7, Try.ntmps7
    (go_wp2_with fail); refine (dig70 _).mono ?_; rintro e w1 ⟨rfl, hb1⟩
    (go_wp2_with fail); refine (dig255 _).mono ?_; rintro e w2 ⟨rfl, hb2⟩
    (go_wp2_with fail); refine (octDigits_all n hn _).mono ?_; rintro e w3 ⟨rfl, hb3⟩
    (go_wp2_with fail); refine (octHexDigits_all n hn _).mono ?_; rintro e w4 ⟨rfl, hb4⟩
    (go_wp2_with fail); refine (refDigits_all n hn 10 (.inl rfl) _).mono ?_; rintro e w5 ⟨rfl, hb5⟩
    (go_wp2_with fail); refine (refDigits_all n hn 16 (.inr rfl) _).mono ?_; rintro e w6 ⟨rfl, hb6⟩
    (go_wp2_with fail); refine (decimal_any _ _ (by simp [maxLen]; try omega)).mono ?_; rintro e w' ⟨rfl, rfl⟩
    (go_wp2_with fail); refine (hex_any _ _ (by simp [maxLen]; try omega)).mono ?_; rintro e w' ⟨rfl, rfl⟩
    go_wp2_with fail
    go_ret
    exact ⟨rfl, bt (bt (bt (bt (bt hb1 hb2) hb3) hb4) hb5) hb6⟩
  · have hno := digs_no 16 (by omega) n h
    have n16' := nought 16 (by omega) (digs 16 n) hno
    have N16 := Lib.hid n16'
    clear n16'
    have Hno := Lib.hid hno
    clear hno
    rcases Int.lt_or_le 1099511627776 n with hg | hg
    · have d10 : numV 10 (digs 10 n) = 0 ∧ numE 10 (digs 10 n) = 11 := digs_big 10 (by omega) (by omega) n hg
      have d16 : numV 16 (digs 16 n) = 0 ∧ numE 16 (digs 16 n) = 11 := digs_big 16 (by omega) (by omega) n hg
      have n16 : numV 16 (48 :: digs 16 n) = 0 ∧ numE 16 (48 :: digs 16 n) = 11 := by rw [N16.out.1, N16.out.2]; exact d16
      go_enter Try.func7, Try.ntmps7
      (go_wp2_with fail); refine (dig70 _).mono ?_; rintro e w1 ⟨rfl, hb1⟩
      (go_wp2_with fail); refine (dig255 _).mono ?_; rintro e w2 ⟨rfl, hb2⟩
      (go_wp2_with fail); refine (octDigits_all n hn _).mono ?_; rintro e w3 ⟨rfl, hb3⟩
      (go_wp2_with fail); refine (octHexDigits_all n hn _).mono ?_; rintro e w4 ⟨rfl, hb4⟩
      (go_wp2_with fail); refine (refDigits_all n hn 10 (.inl rfl) _).mono ?_; rintro e w5 ⟨rfl, hb5⟩
      (go_wp2_with fail); refine (refDigits_all n hn 16 (.inr rfl) _).mono ?_; rintro e w6 ⟨rfl, hb6⟩
      (go_wp2_with fail); refine (decimal_any _ _ (by simp [maxLen]; try omega)).mono ?_; rintro e w' ⟨rfl, rfl⟩
      (go_wp2_with fail); refine (hex_any _ _ (by simp [maxLen]; try omega)).mono ?_; rintro e w' ⟨rfl, rfl⟩
      go_wp2_with fail
      go_ret
      exact ⟨rfl, bt (bt (bt (bt (bt hb1 hb2) hb3) hb4) hb5) hb6⟩
    · have d10 : numV 10 (digs 10 n) = n ∧ numE 10 (digs 10 n) = 0 := digs_small 10 (by omega) (by omega) n h hg
      have d16 : numV 16 (digs 16 n) = n ∧ numE 16 (digs 16 n) = 0 := digs_small 16 (by omega) (by omega) n h hg
      have n16 : numV 16 (48 :: digs 16 n) = n ∧ numE 16 (48 :: digs 16 n) = 0 := by rw [N16.out.1, N16.out.2]; exact d16
      go_enter Try.func7, Try.ntmps7
      (go_wp2_with fail); refine (dig70 _).mono ?_; rintro e w1 ⟨rfl, hb1⟩
      (go_wp2_with fail); refine (dig255 _).mono ?_; rintro e w2 ⟨rfl, hb2⟩
      (go_wp2_with fail); refine (octDigits_all n hn _).mono ?_; rintro e w3 ⟨rfl, hb3⟩
      (go_wp2_with fail); refine (octHexDigits_all n hn _).mono ?_; rintro e w4 ⟨rfl, hb4⟩
      (go_wp2_with fail); refine (refDigits_all n hn 10 (.inl rfl) _).mono ?_; rintro e w5 ⟨rfl, hb5⟩
      (go_wp2_with fail); refine (refDigits_all n hn 16 (.inr rfl) _).mono ?_; rintro e w6 ⟨rfl, hb6⟩
      (go_wp2_with fail); refine (decimal_any _ _ (by simp [maxLen]; try omega)).mono ?_; rintro e w' ⟨rfl, rfl⟩
      (go_wp2_with fail); refine (hex_any _ _ (by simp [maxLen]; try omega)).mono ?_; rintro e w' ⟨rfl, rfl⟩
      go_wp2_with fail
      go_ret
      exact ⟨rfl, bt (bt (bt (bt (bt hb1 hb2) hb3) hb4) hb5) hb6⟩
set_option maxRecDepth 100000 in
theorem lifted (os : Os) (started : os.Started) (H : Type) (enc : TypeId × Value → H) :
    ReturnsInHanded {} Try.checked os 7 .any (Rows.octetDigitsSpec.pre6 enc Try.prog Try.f7 Rows.octetDigitsRow.domain false) (Rows.octetDigitsSpec.post enc Try.prog Try.f7 false true false false) := by
  refine returnsInHanded_of_change (C := Try.checked) own started (by kernel_rfl) Try.func7
    (ChangeSpec.witness6 (enc := enc) (C := Try.checked) false ⟨#[], #[.int .i64 0], []⟩ 8 (by kernel_rfl) (by kernel_rfl) (by kernel_rfl) (by kernel_rfl)) ?_
  intro W base args ds gs before hval0 hW hcnd _
  have hval : ∀ (j : Nat) t v, Try.f7.params[j]? = some t → args[j]? = some v → Value.okWide Try.prog W .any base t v := hval0
  have hW' := hW
  obtain ⟨p, q, hA0, hV, rfl, hfz, hnd⟩ := hW
  have hA : DataW.TrodAll enc Try.prog W 0 (fun _ => true) true Try.f7.params.toList args.toList ds p := hA0
  rw [Try.params7] at hA hval
  obtain ⟨v0, vs0, d0, ds0, p0, q0, hargs, rfl, rfl, h0, r0⟩ := trodAll_cons hA
  obtain ⟨rfl, rfl, rfl⟩ := trodAll_nil r0
  obtain rfl : args = #[v0] := by cases args; simp_all
  obtain ⟨rfl, rfl⟩ := trodVars_none hV
  obtain ⟨a0, rfl, rfl, rfl, w0⟩ := open_int Try.underlying2 (hval 0 2 v0 rfl rfl) h0
  clear hA0 hval0
  refine (walk W a0 w0).mono fun e W' ⟨he, bel⟩ => ?_
  subst he
  exact ⟨_, rfl, _, _, _, [], _, [], hW', trodAll_mk1 (shut_bool Try.underlying4 _), (trodAll_cons_mk (shut_int Try.underlying2 w0) trodAll_mk0), rfl, bel.frame _, fun h => by cases h⟩
theorem over : Rows.octetDigitsRow.holds Try.pinned (OpenSpec.ofChange Rows.octetDigitsSpec) :=
  OpenClaim.holds_of_wide 7 Try.f7 rfl rfl rfl rfl rfl rfl rfl ⟨rfl, rfl, rfl, rfl, rfl⟩ rfl rfl rfl rfl rfl (by kernel_rfl) Try.func7 (by kernel_rfl)
    (of_decide_eq_true (by kernel_rfl)) (by unfold Func.isWrapper; first | (rw [if_pos (by decide +kernel)]; kernel_rfl) | (rw [if_neg (by decide +kernel)]; exact ⟨rfl, rfl⟩))
    (fun os started H enc _ => lifted os started H enc)
theorem proved : Rows.OctetDigitsSaid := over
#print axioms proved
end Go.Proofs.Ytefodepamjpmjaa.octetDigits
