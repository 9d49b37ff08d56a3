/- The law OctetCases: Lower, Same and Trim answer as the references do, for every two texts. No condition. -/
import Derived.Test.YtefodepamjpmjaaDoorCards
import Derived.Test.YtefodepamjpmjaaDoorTie
import Derived.Test.YtefodepamjpmjaaDoorLawKit
import Derived.Test.YtefodepamjpmjaaDoorOctC4
import Derived.Deep.DeepHandedRow
import Derived.Lib.LaidTab
namespace Go.Proofs.YtefodepamjpmjaaDoor.octetCases
open Go Go.RowKit
open Go.ChangeShapes Go.WideShapes Go.ChangeAt
open Go.ChangeMaps (open_string shut_string)
theorem low_az (w : World) :
    Calls Tryd.prog 5 #[.string { data := #[65, 90, 91] }] w fun e w' => e = .returned (.string { data := #[97, 122, 91] }) ∧ Below w.heap.size w w' := by
  have h := Lower_any { data := #[65, 90, 91] } w (by decide)
  rw [ByteArray.toList_eq] at h
  exact h
theorem trim_a (w : World) :
    Calls Tryd.prog 6 #[.string { data := #[9, 32, 97, 32] }] w fun e w' => e = .returned (.string { data := #[97] }) ∧ Below w.heap.size w w' := by
  have h := Trim_any { data := #[9, 32, 97, 32] } w (by decide)
  rw [ByteArray.toList_eq] at h
  have e : S (trimM ({ data := #[9, 32, 97, 32] } : ByteArray).data.toList) = { data := #[97] } := by
    have : trimM ({ data := #[9, 32, 97, 32] } : ByteArray).data.toList = [97] := by decide
    rw [this]; rfl
  rw [e] at h
  exact h
theorem walk (w : World) (a : ByteArray) (ha : a.size ≤ 140737488351232) (b : ByteArray) (hb : b.size ≤ 140737488351232) :
    Calls Tryd.prog 3 #[.string a, .string b] w fun e w' => e = .returned (.bool true) ∧ Below w.heap.size w w' := by
  obtain ⟨l, rfl⟩ : ∃ l, a = S l := ⟨_, (S_of a).symm⟩
  obtain ⟨r, rfl⟩ : ∃ r, b = S r := ⟨_, (S_of b).symm⟩
  have hx : (S (lowM l)).size ≤ 140737488351232 := by rw [S_size, lowM_len]; rwa [S_size] at ha
  have hll := lowM_low l
  have hm : (S l).size ≤ maxLen := by unfold maxLen; omega
  by_cases hq : lowM l = lowM r
  · have hd : decide (lowM l = lowM r) = true := decide_eq_true hq
    have hd2 : (lowM l == lowM r) = true := by rw [beq_iff_eq]; exact hq
    clear hq
    go_enter Tryd.func3, Tryd.ntmps3
    (go_wp2_with fail); refine (low_az _).mono ?_; rintro e w1 ⟨rfl, hb1⟩
    (go_wp2_with fail); refine (trim_a _).mono ?_; rintro e w2 ⟨rfl, hb2⟩
    (go_wp2_with fail); refine (Lower_any (S l) _ ha).mono ?_; rintro e w3 ⟨rfl, hb3⟩
    (go_wp2_with fail); refine (refLower_any (S l) _ ha).mono ?_; rintro e w4 ⟨rfl, hb4⟩
    (go_wp2_with fail); refine (Lower_any (S (lowM l)) _ hx).mono ?_; rintro e w5 ⟨rfl, hb5⟩
    (go_wp2_with fail); refine (Same_any (S l) (S r) _ ha hb).mono ?_; rintro e w6 ⟨rfl, hb6⟩
    (go_wp2_with fail); refine (refLower_any (S l) _ ha).mono ?_; rintro e w7 ⟨rfl, hb7⟩
    (go_wp2_with fail); refine (refLower_any (S r) _ hb).mono ?_; rintro e w8 ⟨rfl, hb8⟩
    (go_wp2_with fail); refine (Same_any (S l) (S (lowM l)) _ ha hx).mono ?_; rintro e w9 ⟨rfl, hb9⟩
    (go_wp2_with fail); refine (Trim_any (S l) _ hm).mono ?_; rintro e w10 ⟨rfl, hb10⟩
    (go_wp2_with fail); refine (refTrim_any (S l) _ hm).mono ?_; rintro e w' ⟨rfl, rfl⟩
    go_wp2
    go_ret
    exact ⟨rfl, bt (bt (bt (bt (bt (bt (bt (bt (bt hb1 hb2) hb3) hb4) hb5) hb6) hb7) hb8) hb9) hb10⟩
  · have hd : decide (lowM l = lowM r) = false := decide_eq_false hq
    have hd2 : (lowM l == lowM r) = false := by rw [beq_eq_false_iff_ne]; exact hq
    clear hq
    go_enter Tryd.func3, Tryd.ntmps3
    (go_wp2_with fail); refine (low_az _).mono ?_; rintro e w1 ⟨rfl, hb1⟩
    (go_wp2_with fail); refine (trim_a _).mono ?_; rintro e w2 ⟨rfl, hb2⟩
    (go_wp2_with fail); refine (Lower_any (S l) _ ha).mono ?_; rintro e w3 ⟨rfl, hb3⟩
    (go_wp2_with fail); refine (refLower_any (S l) _ ha).mono ?_; rintro e w4 ⟨rfl, hb4⟩
    (go_wp2_with fail); refine (Lower_any (S (lowM l)) _ hx).mono ?_; rintro e w5 ⟨rfl, hb5⟩
    (go_wp2_with fail); refine (Same_any (S l) (S r) _ ha hb).mono ?_; rintro e w6 ⟨rfl, hb6⟩
    (go_wp2_with fail); refine (refLower_any (S l) _ ha).mono ?_; rintro e w7 ⟨rfl, hb7⟩
    (go_wp2_with fail); refine (refLower_any (S r) _ hb).mono ?_; rintro e w8 ⟨rfl, hb8⟩
    (go_wp2_with fail); refine (Same_any (S l) (S (lowM l)) _ ha hx).mono ?_; rintro e w9 ⟨rfl, hb9⟩
    (go_wp2_with fail); refine (Trim_any (S l) _ hm).mono ?_; rintro e w10 ⟨rfl, hb10⟩
    (go_wp2_with fail); refine (refTrim_any (S l) _ hm).mono ?_; rintro e w' ⟨rfl, rfl⟩
    go_wp2
    go_ret
    exact ⟨rfl, bt (bt (bt (bt (bt (bt (bt (bt (bt hb1 hb2) hb3) hb4) hb5) hb6) hb7) hb8) hb9) hb10⟩
def firstCells : Array Value := (Go.Pinned.utf8FirstZ.map fun (n : Nat) => Value.int .u8 (n : Int)).toArray
def rangeCells : Array Value := (([128, 191, 160, 191, 128, 159, 144, 191, 128, 143] ++ List.replicate 22 0 : List Int).map (Value.int .u8)).toArray
theorem contract (H : Type) (enc : TypeId × Value → H) (W : World) (base : Nat) (args : Array Value) (ds gs : List (DataW H)) (before : List MemPlace)
    (hval : ∀ (j : Nat) t v, Tryd.f3.params[j]? = some t → args[j]? = some v → Value.okWide Tryd.prog W .any base t v)
    (hsz : (DataW.weightsEach Tryd.prog (Tryd.f3.params.toList ++ Rows.octetCasesSpec.plain.varTypes Tryd.prog) (ds ++ gs)).all (· ≤ reachBytes) = true)
    (hW : DataW.Whole enc Tryd.prog Tryd.f3.params.toList Rows.octetCasesSpec.vars false W args.toList ds gs before) :
    Calls Tryd.prog 3 args W fun e W' => ∃ v, e = .returned v ∧ Rows.octetCasesSpec.post enc Tryd.prog Tryd.f3 false true false false W args v W' := by
  have hW' := hW
  obtain ⟨p, q, hA0, hV, rfl, _, _⟩ := hW
  have hA : DataW.TrodAll enc Tryd.prog W 0 (fun _ => true) true Tryd.f3.params.toList args.toList ds p := hA0
  rw [Tryd.params3] at hA hval hsz
  obtain ⟨v0, vs0, d0, ds0, p0, q0, hargs, rfl, rfl, h0, r0⟩ := trodAll_cons hA
  obtain ⟨v1, vs1, d1, ds1, p1, q1, rfl, rfl, rfl, h1, r1⟩ := trodAll_cons r0
  obtain ⟨rfl, rfl, rfl⟩ := trodAll_nil r1
  obtain rfl : args = #[v0, v1] := by cases args; simp_all
  obtain ⟨rfl, rfl⟩ := trodVars_none hV
  obtain ⟨a0, rfl, rfl, rfl, w0⟩ := open_string Tryd.underlying9 (hval 0 9 v0 rfl rfl) h0
  have z0 : a0.size ≤ 140737488351232 := by have := sized_string hsz (j := 0) (t := 9) rfl rfl; simpa [reachBytes] using this
  obtain ⟨a1, rfl, rfl, rfl, w1⟩ := open_string Tryd.underlying9 (hval 1 9 v1 rfl rfl) h1
  have z1 : a1.size ≤ 140737488351232 := by have := sized_string hsz (j := 1) (t := 9) rfl rfl; simpa [reachBytes] using this
  clear hA0
  refine (walk W a0 z0 a1 z1).mono fun e W' ⟨he, bel⟩ => ?_
  subst he
  exact ⟨_, rfl, _, _, _, [], _, [], hW', trodAll_mk1 (shut_bool Tryd.underlying4 _), (trodAll_cons_mk (shut_string Tryd.underlying9 w0) (trodAll_cons_mk (shut_string Tryd.underlying9 w1) trodAll_mk0)), rfl, bel.frame _, fun h => by cases h⟩
noncomputable def laidWorld (os : Os) : World := { World.holding Tryd.prog os ⟨#[], #[], []⟩ with heap := (((World.holding Tryd.prog os ⟨#[], #[], []⟩).heap.modify 0 fun | .cells _ t frozen => .cells (firstCells) t frozen | o => o).modify 1 fun | .cells _ t frozen => .cells (rangeCells) t frozen | o => o) }
theorem laid_met (os : Os) : laidMet Tryd.prog Rows.octetCasesRow.laid ((laidWorld os).forCall (fun _ _ => 0) ⟨#[], #[Value.string ByteArray.empty, Value.string ByteArray.empty], []⟩).memory := laidMet_of_run' 8 (by kernel_rfl) (by kernel_rfl)
theorem reads (os : Os) {H : Type} (enc : TypeId × Value → H) : ∃ places, DataW.whole enc Tryd.prog ((laidWorld os).forCall (fun _ _ => 0) ⟨#[], #[Value.string ByteArray.empty, Value.string ByteArray.empty], []⟩).memory Tryd.f3.params.toList Rows.octetCasesSpec.vars false #[Value.string ByteArray.empty, Value.string ByteArray.empty].toList 8 = some ([.lit (.string []), .lit (.string [])], [], places) := ⟨[], by kernel_rfl⟩
set_option maxRecDepth 100000 in
theorem lifted (os : Os) (started : os.Started) (H : Type) (enc : TypeId × Value → H) (F : Stop.Interp) :
    ReturnsInHanded {} Tryd.checked os 3 .any ((OpenSpec.ofChange Rows.octetCasesSpec).preRow enc Tryd.prog Tryd.f3 Rows.octetCasesRow.domain false Rows.octetCasesRow.laid) (((OpenSpec.ofChange Rows.octetCasesSpec).at F).post enc Tryd.prog Tryd.f3 false true false false) := by
  obtain ⟨places, hx⟩ := reads os enc
  refine returnsInHanded_of_row (C := Tryd.checked) (s := OpenSpec.ofChange Rows.octetCasesSpec) own started (by kernel_rfl) Tryd.func3
    (witness_row_at (enc := enc) (C := Tryd.checked) false (laidWorld os) #[Value.string ByteArray.empty, Value.string ByteArray.empty] rfl (by kernel_rfl) (by kernel_rfl) (by kernel_rfl)
      (OpenSpec.preRow_of_cond 8 hx (by kernel_rfl) (fun k hk => by cases hk) (by kernel_rfl) (laid_met os))) ?_
  intro W base args ds gs before hval hW _ _ hsz _ _ _
  exact contract H enc W base args ds gs before hval hsz hW
theorem said : Rows.OctetCasesSaid :=
  OpenClaim.holds_of_cond 3 Tryd.f3 rfl rfl rfl rfl rfl rfl rfl ⟨rfl, rfl, rfl, rfl, rfl⟩ rfl rfl rfl rfl rfl (by kernel_rfl) Tryd.func3 (by kernel_rfl)
    (of_decide_eq_true (by kernel_rfl)) (by unfold Func.isWrapper; first | (rw [if_pos (by decide +kernel)]; kernel_rfl) | (rw [if_neg (by decide +kernel)]; exact ⟨rfl, rfl⟩))
    (fun os started H enc _ F => by rw [OpenClaim.pre_eq_preRow]; exact lifted os started H enc F)
theorem plain (f : FuncId) (fn : Func) (hf : Tryd.pinned.checked.prog.funcNamed (Rows.octetCasesRow.func) = some f) (hfn : Tryd.pinned.checked.prog.funcs[f]? = some fn) :
    false = Tryd.pinned.checked.prog.looks [] ∧ ∀ (j : Nat) t, fn.params[j]? = some t → Tryd.pinned.checked.prog.wantsStandIn t = false := by
  obtain rfl : f = 3 := Option.some.inj ((show Tryd.prog.funcNamed (Rows.octetCasesRow.func) = some 3 by kernel_rfl).symm.trans hf) |>.symm
  obtain rfl : fn = Tryd.f3 := (Option.some.inj (Tryd.func3.symm.trans hfn)).symm
  refine ⟨by kernel_rfl, fun j t ht => ?_⟩
  rw [Tryd.params3] at ht
  have ht2 := Array.mem_of_getElem? ht
  have ht3 : t = 9 := by simpa using ht2
  rcases ht3 with rfl
  · exact (show Tryd.prog.wantsStandIn 9 = false by kernel_rfl)
theorem proved : Rows.OctetCasesCardSaid :=
  Claim7.holds_tied_plain_at .later [] _ _ _ _ said (fun _ h => by cases h) (by kernel_rfl) (fun _ h => by cases h) octetCases_row_tie rfl ⟨rfl, rfl⟩ (by kernel_rfl) rfl plain (by kernel_rfl)
#print axioms proved
end Go.Proofs.YtefodepamjpmjaaDoor.octetCases
