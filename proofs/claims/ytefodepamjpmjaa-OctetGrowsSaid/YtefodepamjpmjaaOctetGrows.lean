/- The law OctetGrows: a digit more makes ten times the number and that digit, or one too great. No condition. -/
import Derived.Test.YtefodepamjpmjaaLawKit
import Derived.Test.YtefodepamjpmjaaOctD
namespace Go.Proofs.Ytefodepamjpmjaa.octetGrows
open Go Go.RowKit
open Go.ChangeShapes Go.WideShapes Go.ChangeAt
open Go.ChangeMaps (open_string shut_string)
theorem dec70 (w : World) :
    Calls Try.prog 13 #[.string { data := #[55, 48] }] w fun e w' => e = .returned (.tuple #[.int .i64 70, .int .i64 0]) ∧ w = w' := by
  have h := decimal_any { data := #[55, 48] } w (by decide)
  rw [ByteArray.toList_eq] at h
  exact h
theorem grows (l : List UInt8) (k : Nat) (hk : k < 10) (hl : l.isEmpty = false) :
    (numE 10 l = 10 ∧ numV 10 l = 0 ∧ numE 10 (l ++ digs 10 k) = 10 ∧ numV 10 (l ++ digs 10 k) = 0) ∨
    (numE 10 l = 11 ∧ numV 10 l = 0 ∧ numE 10 (l ++ digs 10 k) = 11 ∧ numV 10 (l ++ digs 10 k) = 0) ∨
    (∃ n, numE 10 l = 0 ∧ numV 10 l = n ∧ 0 ≤ n ∧ n ≤ 1099511627776 ∧ 1099511627776 < n * 10 + k ∧ numE 10 (l ++ digs 10 k) = 11 ∧ numV 10 (l ++ digs 10 k) = 0) ∨
    (∃ n, numE 10 l = 0 ∧ numV 10 l = n ∧ 0 ≤ n ∧ n ≤ 1099511627776 ∧ n * 10 + k ≤ 1099511627776 ∧ numE 10 (l ++ digs 10 k) = 0 ∧ numV 10 (l ++ digs 10 k) = n * 10 + k) := by
  have hd : digs 10 k = [chM k] := by unfold digs; rw [if_neg (by omega), digsM_eq 10 (by omega), if_pos (by simpa using hk)]; rfl
  have hc := digitM_ch k (by omega)
  have hb : badM 10 (l ++ [chM k]) = badM 10 l := by rw [badM_snoc, hc]; simp; intro h; omega
  have hv : valM 10 (l ++ [chM k]) = valM 10 l * 10 + k := by rw [valM_snoc, hc]
  have hne : (l ++ [chM k]).isEmpty = false := by simp
  have h0 := valM_nonneg 10 (by omega) l
  rw [hd]
  by_cases h1 : badM 10 l = true
  · have := num_bad 10 l h1
    have := num_bad 10 (l ++ [chM k]) (by rw [hb]; exact h1)
    exact .inl ⟨by omega, by omega, by omega, by omega⟩
  · have h1 : badM 10 l = false := by simpa using h1
    rw [h1] at hb
    by_cases h2 : 1099511627776 < valM 10 l
    · have := num_big 10 l hl h1 h2
      have := num_big 10 (l ++ [chM k]) hne hb (by omega)
      exact .inr (.inl ⟨by omega, by omega, by omega, by omega⟩)
    · have := num_ok 10 l hl h1 (by omega)
      by_cases h3 : 1099511627776 < valM 10 l * 10 + k
      · have := num_big 10 (l ++ [chM k]) hne hb (by omega)
        exact .inr (.inr (.inl ⟨valM 10 l, by omega, by omega, by omega, by omega, by omega, by omega, by omega⟩))
      · have := num_ok 10 (l ++ [chM k]) hne hb (by omega)
        exact .inr (.inr (.inr ⟨valM 10 l, by omega, by omega, by omega, by omega, by omega, by omega, by omega⟩))
theorem walk (w : World) (s : ByteArray) (hs : s.size ≤ maxLen) (d : Int) (wf : (Lit.int .u8 d).wf = true) :
    Calls Try.prog 6 #[.string s, .int .u8 d] w fun e w' => e = .returned (.bool true) ∧ Below w.heap.size w w' := by
  have hd := bounds_u8 wf
  obtain ⟨d, rfl⟩ := Int.eq_ofNat_of_zero_le hd.1
  clear wf
  obtain ⟨l, rfl⟩ : ∃ l, s = S l := ⟨_, (S_of s).symm⟩
  rw [S_size] at hs
  rcases Nat.lt_or_ge 65536 l.length with h | h
  · go_enter Try.func6, Try.ntmps6
    (go_wp2_with fail); refine (dec70 _).mono ?_; rintro e w' ⟨rfl, rfl⟩
    go_wp2_with fail
    go_ret
    exact ⟨rfl, Below.refl _ _⟩
  · have hk : ((d % 10 : Nat) : Int) = (d : Int) % 10 := by omega
    have hk10 : d % 10 < 10 := Nat.mod_lt _ (by omega)
    have hl := digs_length 10 (by omega) ((d : Int) % 10) (by omega)
    by_cases h0 : l = []
    · subst h0
      have v1 : numV 10 [] = 0 := rfl
      have v2 : numE 10 [] = 10 := rfl
      have v3 : numV 10 (digs 10 ((d : Int) % 10)) = (d : Int) % 10 ∧ numE 10 (digs 10 ((d : Int) % 10)) = 0 := digs_small 10 (by omega) (by omega) _ (by omega) (by omega)
      clear hk
      go_enter Try.func6, Try.ntmps6
      (go_wp2_with fail); refine (dec70 _).mono ?_; rintro e w' ⟨rfl, rfl⟩
      (go_wp2_with fail); refine (decimal_any _ _ (by rw [S_size]; exact hs)).mono ?_; rintro e w' ⟨rfl, rfl⟩
      (go_wp2_with fail); refine (octDigits_all _ (by omega) _).mono ?_; rintro e w1 ⟨rfl, hb1⟩
      (go_wp2_with fail); refine (decimal_any _ _ (by simp [maxLen]; try omega)).mono ?_; rintro e w' ⟨rfl, rfl⟩
      go_wp2_with fail
      go_ret
      exact ⟨rfl, hb1⟩
    · have he : l.isEmpty = false := by simpa using h0
      have hg := grows l (d % 10) hk10 he
      rw [hk] at hg
      clear hk
      have hd0 : 0 ≤ (d : Int) % 10 ∧ (d : Int) % 10 ≤ 9 := by omega
      rcases hg with ⟨a1, a2, a3, a4⟩ | ⟨a1, a2, a3, a4⟩ | ⟨n, a1, a2, a5, a6, a7, a3, a4⟩ | ⟨n, a1, a2, a5, a6, a7, a3, a4⟩
      · go_enter Try.func6, Try.ntmps6
        (go_wp2_with fail); refine (dec70 _).mono ?_; rintro e w' ⟨rfl, rfl⟩
        (go_wp2_with fail); refine (decimal_any _ _ (by rw [S_size]; exact hs)).mono ?_; rintro e w' ⟨rfl, rfl⟩
        (go_wp2_with fail); refine (octDigits_all _ (by omega) _).mono ?_; rintro e w1 ⟨rfl, hb1⟩
        (go_wp2_with fail); refine (decimal_any _ _ (by simp [maxLen]; try omega)).mono ?_; rintro e w' ⟨rfl, rfl⟩
        go_wp2_with fail
        go_ret
        exact ⟨rfl, hb1⟩
      · go_enter Try.func6, Try.ntmps6
        (go_wp2_with fail); refine (dec70 _).mono ?_; rintro e w' ⟨rfl, rfl⟩
        (go_wp2_with fail); refine (decimal_any _ _ (by rw [S_size]; exact hs)).mono ?_; rintro e w' ⟨rfl, rfl⟩
        (go_wp2_with fail); refine (octDigits_all _ (by omega) _).mono ?_; rintro e w1 ⟨rfl, hb1⟩
        (go_wp2_with fail); refine (decimal_any _ _ (by simp [maxLen]; try omega)).mono ?_; rintro e w' ⟨rfl, rfl⟩
        go_wp2_with fail
        go_ret
        exact ⟨rfl, hb1⟩
      · have hq : (1099511627776 - (d : Int) % 10) / 10 < n := by omega
        go_enter Try.func6, Try.ntmps6
        (go_wp2_with fail); refine (dec70 _).mono ?_; rintro e w' ⟨rfl, rfl⟩
        (go_wp2_with fail); refine (decimal_any _ _ (by rw [S_size]; exact hs)).mono ?_; rintro e w' ⟨rfl, rfl⟩
        (go_wp2_with fail); refine (octDigits_all _ (by omega) _).mono ?_; rintro e w1 ⟨rfl, hb1⟩
        (go_wp2_with fail); refine (decimal_any _ _ (by simp [maxLen]; try omega)).mono ?_; rintro e w' ⟨rfl, rfl⟩
        go_wp2_with fail
        go_ret
        exact ⟨rfl, hb1⟩
      · have hq : ¬ (1099511627776 - (d : Int) % 10) / 10 < n := by omega
        have hc : (n * 10 + (d : Int) % 10 == 10 * n + (d : Int) % 10) = true := by rw [beq_iff_eq]; omega
        go_enter Try.func6, Try.ntmps6
        (go_wp2_with fail); refine (dec70 _).mono ?_; rintro e w' ⟨rfl, rfl⟩
        (go_wp2_with fail); refine (decimal_any _ _ (by rw [S_size]; exact hs)).mono ?_; rintro e w' ⟨rfl, rfl⟩
        (go_wp2_with fail); refine (octDigits_all _ (by omega) _).mono ?_; rintro e w1 ⟨rfl, hb1⟩
        (go_wp2_with fail); refine (decimal_any _ _ (by simp [maxLen]; try omega)).mono ?_; rintro e w' ⟨rfl, rfl⟩
        go_wp2_with fail
        go_ret
        exact ⟨rfl, hb1⟩
set_option maxRecDepth 100000 in
theorem lifted (os : Os) (started : os.Started) (H : Type) (enc : TypeId × Value → H) :
    ReturnsInHanded {} Try.checked os 6 .any (Rows.octetGrowsSpec.pre6 enc Try.prog Try.f6 Rows.octetGrowsRow.domain false) (Rows.octetGrowsSpec.post enc Try.prog Try.f6 false true false false) := by
  refine returnsInHanded_of_change (C := Try.checked) own started (by kernel_rfl) Try.func6
    (ChangeSpec.witness6 (enc := enc) (C := Try.checked) false ⟨#[], #[.string ByteArray.empty, .int .u8 0], []⟩ 8 (by kernel_rfl) (by kernel_rfl) (by kernel_rfl) (by kernel_rfl)) ?_
  intro W base args ds gs before hval0 hW hcnd _
  have hval : ∀ (j : Nat) t v, Try.f6.params[j]? = some t → args[j]? = some v → Value.okWide Try.prog W .any base t v := hval0
  have hW' := hW
  obtain ⟨p, q, hA0, hV, rfl, hfz, hnd⟩ := hW
  have hA : DataW.TrodAll enc Try.prog W 0 (fun _ => true) true Try.f6.params.toList args.toList ds p := hA0
  rw [Try.params6] at hA hval
  obtain ⟨v0, vs0, d0, ds0, p0, q0, hargs, rfl, rfl, h0, r0⟩ := trodAll_cons hA
  obtain ⟨v1, vs1, d1, ds1, p1, q1, rfl, rfl, rfl, h1, r1⟩ := trodAll_cons r0
  obtain ⟨rfl, rfl, rfl⟩ := trodAll_nil r1
  obtain rfl : args = #[v0, v1] := by cases args; simp_all
  obtain ⟨rfl, rfl⟩ := trodVars_none hV
  obtain ⟨a0, rfl, rfl, rfl, w0⟩ := open_string Try.underlying9 (hval 0 9 v0 rfl rfl) h0
  obtain ⟨a1, rfl, rfl, rfl, w1⟩ := open_int Try.underlying5 (hval 1 5 v1 rfl rfl) h1
  clear hA0 hval0
  refine (walk W a0 w0 a1 w1).mono fun e W' ⟨he, bel⟩ => ?_
  subst he
  exact ⟨_, rfl, _, _, _, [], _, [], hW', trodAll_mk1 (shut_bool Try.underlying4 _), (trodAll_cons_mk (shut_string Try.underlying9 w0) (trodAll_cons_mk (shut_int Try.underlying5 w1) trodAll_mk0)), rfl, bel.frame _, fun h => by cases h⟩
theorem over : Rows.octetGrowsRow.holds Try.pinned (OpenSpec.ofChange Rows.octetGrowsSpec) :=
  OpenClaim.holds_of_wide 6 Try.f6 rfl rfl rfl rfl rfl rfl rfl ⟨rfl, rfl, rfl, rfl, rfl⟩ rfl rfl rfl rfl rfl (by kernel_rfl) Try.func6 (by kernel_rfl)
    (of_decide_eq_true (by kernel_rfl)) (by unfold Func.isWrapper; first | (rw [if_pos (by decide +kernel)]; kernel_rfl) | (rw [if_neg (by decide +kernel)]; exact ⟨rfl, rfl⟩))
    (fun os started H enc _ => lifted os started H enc)
theorem proved : Rows.OctetGrowsSaid := over
#print axioms proved
end Go.Proofs.Ytefodepamjpmjaa.octetGrows
