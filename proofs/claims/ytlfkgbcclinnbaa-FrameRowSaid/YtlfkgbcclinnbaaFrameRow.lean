/- The law FrameRow, joined. No condition. -/
import Derived.Test.YtlfkgbcclinnbaaFrRw
import Derived.Test.YtlfkgbcclinnbaaFrL
namespace Go.Proofs.Ytlfkgbcclinnbaa
set_option linter.all false
open Go Go.RowKit
theorem frames_of : ∀ c : List (List V), (∀ x ∈ c, Fit Try.prog 4 24 x) → ∃ l, c = fsV l
  | [], _ => ⟨[], rfl⟩
  | x :: c, h => by
    obtain ⟨f, hf⟩ := fit_frame (h x List.mem_cons_self)
    obtain ⟨l, rfl⟩ := frames_of c fun y hy => h y (List.mem_cons_of_mem _ hy)
    have hx : x = f.vs := by
      have h2 : x.map D.v = (f.vs).map D.v := hf
      exact (List.map_inj_right (fun a b h => by injection h)).1 h2
    exact ⟨f :: l, by rw [hx]; rfl⟩
open Go.WideShapes Go.ChangeShapes in
theorem open_frames {H : Type} {enc : TypeId × Value → H} {W : World} {base b0 : Nat} {spare : Nat → Bool} {held : Bool} {r : Reach} {v : Value} {d : DataW H} {p : List MemPlace} {e : TypeId} (ht : Try.prog.underlying 40 = some (.slice e)) (hv : Value.okWide Try.prog W r b0 40 v) (h : DataW.Trod enc Try.prog W base spare held 40 v d p) :
    ∃ (l : List Fr) (A : Option Addr) (n c : Nat), v = .slice A n c ∧ (RepD (g0 W) W (look []) (.v (.sl (fsV l))) (.slice A n c) ∧ l.length ≤ maxLen) := by
  obtain ⟨A, len, cap, rfl⟩ := okWide_slice ht hv
  obtain ⟨fuel, hf⟩ := h
  obtain ⟨xs, h1, h2, _⟩ := open_any 5 40 fuel _ _ (by kernel_rfl) hf
  obtain ⟨c, rfl, hc, hall⟩ := fit_sl Try.underlying40 h1
  obtain ⟨l, rfl⟩ := frames_of c hall
  have h3 := h2.2 0 _ (.slice A len cap) rfl (by simp [Value.cells])
  exact ⟨l, A, len, cap, rfl, .v _ _ h3, by rwa [fsV_len] at hc⟩
namespace frameRow
open Go.ChangeShapes Go.WideShapes Go.ChangeAt
open Go.ChangeMaps (open_string shut_string)
theorem walk (W : World) (l : List Fr) (A : Option Addr) (n c : Nat) (h : RepD (g0 W) W (look []) (.v (.sl (fsV l))) (.slice A n c) ∧ l.length ≤ maxLen) : Calls Try.prog 7 #[.slice A n c] W fun e w' => e = .returned (.bool true) ∧ Below W.heap.size W w' := by
  refine ((con_FrameRow h.2).calls W [.slice A n c] (.cons h.1 .nil)).mono fun e w' ⟨v, Z, he, hr, hb⟩ => ?_
  obtain rfl := rep_bool hr
  exact ⟨he, hb⟩
set_option maxRecDepth 100000 in
theorem lifted (os : Os) (started : os.Started) (H : Type) (enc : TypeId × Value → H) :
    ReturnsInHanded {} Try.checked os 7 .any (Rows.frameRowSpec.pre6 enc Try.prog Try.f7 Rows.frameRowRow.domain false) (Rows.frameRowSpec.post enc Try.prog Try.f7 false true false false) := by
  refine returnsInHanded_of_change_sized (C := Try.checked) own started (by kernel_rfl) Try.func7
    (ChangeSpec.witness6 (enc := enc) (C := Try.checked) false ⟨#[], #[.slice none 0 0], []⟩ 8 (by kernel_rfl) (by kernel_rfl) (by kernel_rfl) (by kernel_rfl)) ?_
  intro W base args ds gs before hval0 hW _ hsz0 _
  have hsz : (DataW.weightsEach Try.prog (Try.f7.params.toList ++ Rows.frameRowSpec.plain.varTypes Try.prog) (ds ++ gs)).all (· ≤ reachBytes) = true := hsz0
  clear hsz0
  have hval : ∀ (j : Nat) t v, Try.f7.params[j]? = some t → args[j]? = some v → Value.okWide Try.prog W .any base t v := hval0
  have hW' := hW
  obtain ⟨p, q, hA0, hV, rfl, _, _⟩ := hW
  have hA : DataW.TrodAll enc Try.prog W 0 (fun _ => true) true Try.f7.params.toList args.toList ds p := hA0
  rw [Try.params7] at hA hval hsz
  obtain ⟨v0, vs0, d0, ds0, p0, q0, hargs, rfl, rfl, h0, r0⟩ := trodAll_cons hA
  obtain ⟨rfl, rfl, rfl⟩ := trodAll_nil r0
  obtain rfl : args = #[v0] := by cases args; simp_all
  obtain ⟨rfl, rfl⟩ := trodVars_none hV
  have k0 := h0
  have lt0 : ∀ x ∈ p0, x.block < W.heap.size := by obtain ⟨m, hm⟩ := k0; exact DataW.trod_lt m _ _ _ hm
  obtain ⟨a0_0, a0_1, a0_2, a0_3, rfl, w0⟩ := open_frames Try.underlying40  (hval 0 40 v0 rfl rfl) h0
  clear hA0 hval0
  refine (walk W a0_0 a0_1 a0_2 a0_3 w0).mono fun e W' ⟨he, bel⟩ => ?_
  subst he
  exact ⟨_, rfl, _, _, _, [], _, [], hW', trodAll_mk1 (shut_bool Try.underlying4 _), (trodAll_cons_mk (Below.trod laidOut (by kernel_rfl) (of_decide_eq_true (by kernel_rfl)) k0 bel lt0) trodAll_mk0), rfl, bel.frame _, fun h => by cases h⟩
theorem over : Rows.frameRowRow.holds Try.pinned (OpenSpec.ofChange Rows.frameRowSpec) :=
  OpenClaim.holds_of_wide 7 Try.f7 rfl rfl rfl rfl rfl rfl rfl ⟨rfl, rfl, rfl, rfl, rfl⟩ rfl rfl rfl rfl rfl (by kernel_rfl) Try.func7 (by kernel_rfl)
    (of_decide_eq_true (by kernel_rfl)) (by unfold Func.isWrapper; first | (rw [if_pos (by decide +kernel)]; kernel_rfl) | (rw [if_neg (by decide +kernel)]; exact ⟨rfl, rfl⟩))
    (fun os started H enc _ => lifted os started H enc)
theorem proved : Rows.FrameRowSaid := over
#print axioms proved
end frameRow
end Go.Proofs.Ytlfkgbcclinnbaa
