/- The law DateParses: every text is the moment that the document says, at every time, or none's. No condition. -/
import Derived.Test.YtnaapoigmihjoaaLawKit
import Derived.Test.YtnaapoigmihjoaaDateLaw
namespace Go.Proofs.Ytnaapoigmihjoaa.dateParses
set_option linter.all false
open Go Go.RowKit
open Go.ChangeShapes Go.WideShapes Go.ChangeAt
open Go.ChangeMaps (open_string shut_string)
set_option maxHeartbeats 1600000 in
theorem walk (w : World) (s : ByteArray) (hs : s.size ≤ maxLen) (n : Int) (wf : (Lit.int .i64 n).wf = true) :
    Calls Try.prog 4 #[.string s, .int .i64 n] w fun e w' => e = .returned (.bool true) ∧ Below w.heap.size w w' := by
  obtain ⟨l, rfl⟩ : ∃ l, s = S l := ⟨s.toList, (S_of s).symm⟩
  unfold maxLen at hs
  rw [S_size] at hs
  by_cases hl : l.length ≤ 10000
  · obtain ⟨r, hr⟩ : ∃ r, (firstK fun k => refK k (nowY n) l) = r := ⟨_, rfl⟩
    have hp := (both l n).trans hr
    have P1 : Hid (∀ w : World, Calls Try.prog 12 #[.string (S l), .int .i64 n] w fun e w' => e = .returned (ansV r) ∧ Below w.heap.size w w') := Lib.hid fun w => by
      have h := Parse_any l n hl w
      rw [hp] at h; exact h
    have P2 : Hid (∀ w : World, Calls Try.prog 13 #[.string (S l), .int .i64 n] w fun e w' => e = .returned (ansV r) ∧ Below w.heap.size w w') := Lib.hid fun w => by
      have h := refParse_any l n hl w
      rw [hr] at h; exact h
    clear hr hp hs
    have hg : decide ((10000 : Int) < (l.length : Int)) = false := decide_eq_false (by omega)
    go_enter Try.func4, Try.ntmps4
    go_wp2_with fail
    refine (awake_any _).mono ?_; rintro e w1 ⟨rfl, b1⟩
    go_wp2_with fail
    refine (P1.out _).mono ?_; rintro e w2 ⟨rfl, b2⟩
    rcases r with _ | a
    all_goals
      simp only [ansV]
      go_wp2_with fail
      refine (P2.out _).mono ?_; rintro e w3 ⟨rfl, b3⟩
      simp only [ansV]
      go_wp2_with fail
      go_ret
      exact ⟨rfl, bt (bt b1 b2) b3⟩
  · go_enter Try.func4, Try.ntmps4
    go_wp2_with fail
    refine (awake_any _).mono ?_; rintro e w1 ⟨rfl, b1⟩
    go_wp2_with fail
    go_ret
    exact ⟨rfl, b1⟩
set_option maxRecDepth 100000 in
theorem lifted (os : Os) (started : os.Started) (H : Type) (enc : TypeId × Value → H) :
    ReturnsInHanded {} Try.checked os 4 .any (Rows.dateParsesSpec.pre6 enc Try.prog Try.f4 Rows.dateParsesRow.domain false) (Rows.dateParsesSpec.post enc Try.prog Try.f4 false true false false) := by
  refine returnsInHanded_of_change_sized (C := Try.checked) own started (by kernel_rfl) Try.func4
    (ChangeSpec.witness6 (enc := enc) (C := Try.checked) false ⟨#[], #[.string ByteArray.empty, .int .i64 0], []⟩ 8 (by kernel_rfl) (by kernel_rfl) (by kernel_rfl) (by kernel_rfl)) ?_
  intro W base args ds gs before hval0 hW _ hsz0 _
  have hsz : (DataW.weightsEach Try.prog (Try.f4.params.toList ++ Rows.dateParsesSpec.plain.varTypes Try.prog) (ds ++ gs)).all (· ≤ reachBytes) = true := hsz0
  clear hsz0
  have hval : ∀ (j : Nat) t v, Try.f4.params[j]? = some t → args[j]? = some v → Value.okWide Try.prog W .any base t v := hval0
  have hW' := hW
  obtain ⟨p, q, hA0, hV, rfl, _, _⟩ := hW
  have hA : DataW.TrodAll enc Try.prog W 0 (fun _ => true) true Try.f4.params.toList args.toList ds p := hA0
  rw [Try.params4] at hA hval hsz
  obtain ⟨v0, vs0, d0, ds0, p0, q0, hargs, rfl, rfl, h0, r0⟩ := trodAll_cons hA
  obtain ⟨v1, vs1, d1, ds1, p1, q1, rfl, rfl, rfl, h1, r1⟩ := trodAll_cons r0
  obtain ⟨rfl, rfl, rfl⟩ := trodAll_nil r1
  obtain rfl : args = #[v0, v1] := by cases args; simp_all
  obtain ⟨rfl, rfl⟩ := trodVars_none hV
  obtain ⟨a0, rfl, rfl, rfl, w0⟩ := open_string Try.underlying9 (hval 0 9 v0 rfl rfl) h0
  obtain ⟨a1, rfl, rfl, rfl, w1⟩ := open_int Try.underlying2 (hval 1 2 v1 rfl rfl) h1
  clear hA0 hval0
  refine (walk W a0 w0 a1 w1).mono fun e W' ⟨he, bel⟩ => ?_
  subst he
  exact ⟨_, rfl, _, _, _, [], _, [], hW', trodAll_mk1 (shut_bool Try.underlying4 _), (trodAll_cons_mk (shut_string Try.underlying9 w0) (trodAll_cons_mk (shut_int Try.underlying2 w1) trodAll_mk0)), rfl, bel.frame _, fun h => by cases h⟩
theorem over : Rows.dateParsesRow.holds Try.pinned (OpenSpec.ofChange Rows.dateParsesSpec) :=
  OpenClaim.holds_of_wide 4 Try.f4 rfl rfl rfl rfl rfl rfl rfl ⟨rfl, rfl, rfl, rfl, rfl⟩ rfl rfl rfl rfl rfl (by kernel_rfl) Try.func4 (by kernel_rfl)
    (of_decide_eq_true (by kernel_rfl)) (by unfold Func.isWrapper; first | (rw [if_pos (by decide +kernel)]; kernel_rfl) | (rw [if_neg (by decide +kernel)]; exact ⟨rfl, rfl⟩))
    (fun os started H enc _ => lifted os started H enc)
theorem proved : Rows.DateParsesSaid := over
#print axioms proved
end Go.Proofs.Ytnaapoigmihjoaa.dateParses
