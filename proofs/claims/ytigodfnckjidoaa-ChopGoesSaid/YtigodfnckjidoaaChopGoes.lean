/- The law ChopGoes, joined. No condition. -/
import Derived.Test.YtigodfnckjidoaaCgH
import Derived.Test.YtigodfnckjidoaaLoToChP
namespace Go.Proofs.Ytigodfnckjidoaa
set_option linter.all false
open Go Go.RowKit
theorem fit_setting {xs : List V} {d : Nat} (h : Fit Try.prog (d + 2) 70 xs) : ∃ a b, xs = [.int .i64 a, .int .i64 b] := by
  have h := fit_struct Try.underlying70 h
  simp only [FitAll] at h
  obtain ⟨a0, r0, rfl, k0, a1, r1, rfl, k1, rfl⟩ := h
  obtain ⟨n0, rfl, w0⟩ := fit_int (by first | exact Try.underlying3 | exact Try.underlying2) k0
  obtain ⟨n1, rfl, w1⟩ := fit_int (by first | exact Try.underlying3 | exact Try.underlying2) k1
  exact ⟨n0, n1, rfl⟩
theorem sets_of : ∀ c : List (List V), (∀ x ∈ c, ∃ a b, x = [.int .i64 a, .int .i64 b]) → ∃ l, c = setV l
  | [], _ => ⟨[], rfl⟩
  | x :: c, h => by
    obtain ⟨a, b, rfl⟩ := h x List.mem_cons_self
    obtain ⟨l, rfl⟩ := sets_of c fun y hy => h y (List.mem_cons_of_mem _ hy)
    exact ⟨(a, b) :: l, rfl⟩
theorem fit_frame {xs : List V} (h : Fit Try.prog 4 40 xs) : ∃ f : Fr, xs.map D.v = f.cs := by
  have h1 := fit_struct Try.underlying40 h
  simp only [FitAll] at h1
  obtain ⟨a0, r0, rfl, k0, a1, r1, rfl, k1, a2, r2, rfl, k2, a3, r3, rfl, k3, a4, r4, rfl, k4, a5, r5, rfl, k5, a6, r6, rfl, k6, a7, r7, rfl, k7, a8, r8, rfl, k8, a9, r9, rfl, k9, a10, r10, rfl, k10, a11, r11, rfl, k11, rfl⟩ := h1
  obtain ⟨n0, rfl, w0⟩ := fit_int (by first | exact Try.underlying3 | exact Try.underlying2) k0
  obtain ⟨n1, rfl, w1⟩ := fit_int (by first | exact Try.underlying3 | exact Try.underlying2) k1
  obtain ⟨n2, rfl, w2⟩ := fit_int (by first | exact Try.underlying3 | exact Try.underlying2) k2
  obtain ⟨n3, rfl, w3⟩ := fit_str Try.underlying9 k3
  obtain ⟨n4, rfl, w4⟩ := fit_int (by first | exact Try.underlying3 | exact Try.underlying2) k4
  obtain ⟨n5, rfl, w5, q5⟩ := fit_sl Try.underlying38 k5
  obtain ⟨l, rfl⟩ := sets_of n5 (fun x hx => fit_setting (q5 x hx))
  obtain ⟨n6, rfl, w6⟩ := fit_int (by first | exact Try.underlying3 | exact Try.underlying2) k6
  obtain ⟨n7, rfl, w7⟩ := fit_int (by first | exact Try.underlying3 | exact Try.underlying2) k7
  obtain ⟨n8, rfl, w8⟩ := fit_int (by first | exact Try.underlying3 | exact Try.underlying2) k8
  obtain ⟨n9, rfl, w9⟩ := fit_int (by first | exact Try.underlying3 | exact Try.underlying2) k9
  obtain ⟨n10, rfl, w10⟩ := fit_int (by first | exact Try.underlying3 | exact Try.underlying2) k10
  obtain ⟨n11, rfl⟩ := fit_bool Try.underlying4 k11
  exact ⟨⟨n0, n1, n2, n3, n4, l, n6, n7, n8, n9, n10, n11⟩, rfl⟩
theorem frames_of : ∀ c : List (List V), (∀ x ∈ c, Fit Try.prog 4 40 x) → ∃ l, c = fsV l
  | [], _ => ⟨[], rfl⟩
  | x :: c, h => by
    obtain ⟨f, hf⟩ := fit_frame (h x List.mem_cons_self)
    obtain ⟨l, rfl⟩ := frames_of c fun y hy => h y (List.mem_cons_of_mem _ hy)
    have hx : x = f.vs := by
      have h2 : x.map D.v = (f.vs).map D.v := hf
      exact (List.map_inj_right (fun a b h => by injection h)).1 h2
    exact ⟨f :: l, by rw [hx]; rfl⟩
open Go.WideShapes Go.ChangeShapes in
theorem open_frames {H : Type} {enc : TypeId × Value → H} {W : World} {base b0 : Nat} {spare : Nat → Bool} {held : Bool} {r : Reach} {v : Value} {d : DataW H} {p : List MemPlace} {e : TypeId} (ht : Try.prog.underlying 44 = some (.slice e)) (hv : Value.okWide Try.prog W r b0 44 v) (h : DataW.Trod enc Try.prog W base spare held 44 v d p) :
    ∃ (l : List Fr) (A : Option Addr) (n c : Nat), v = .slice A n c ∧ (RepD (g0 W) W (look []) (.v (.sl (fsV l))) (.slice A n c) ∧ l.length ≤ maxLen) := by
  obtain ⟨A, len, cap, rfl⟩ := okWide_slice ht hv
  obtain ⟨fuel, hf⟩ := h
  obtain ⟨xs, h1, h2, _⟩ := open_any 5 44 fuel _ _ (by kernel_rfl) hf
  obtain ⟨c, rfl, hc, hall⟩ := fit_sl Try.underlying44 h1
  obtain ⟨l, rfl⟩ := frames_of c hall
  have h3 := h2.2 0 _ (.slice A len cap) rfl (by simp [Value.cells])
  exact ⟨l, A, len, cap, rfl, .v _ _ h3, by rwa [fsV_len] at hc⟩
namespace chopGoes
open Go.ChangeShapes Go.WideShapes Go.ChangeAt
open Go.ChangeMaps (open_string shut_string)
theorem walk (W : World) (l : List Fr) (A : Option Addr) (n c : Nat) (h : RepD (g0 W) W (look []) (.v (.sl (fsV l))) (.slice A n c) ∧ l.length ≤ maxLen) (s : Int) (ws : (Lit.int .u16 s).wf = true) : Calls Try.prog 7 #[.slice A n c, .int .u16 s] W fun e w' => e = .returned (.bool true) ∧ Below W.heap.size W w' := by
  have h1 : (decide ((0 : Int) ≤ s) && decide (s ≤ 65535)) = true := ws
  rw [Bool.and_eq_true, decide_eq_true_eq, decide_eq_true_eq] at h1
  obtain ⟨k, rfl⟩ := Int.eq_ofNat_of_zero_le h1.1
  refine ((con_ChopGoes (s := k) (by omega) h.2).calls W [.slice A n c, .int .u16 (k : Int)] (.cons h.1 (.cons (mk_int _ _) .nil))).mono fun e w' ⟨v, Z, he, hr, hb⟩ => ?_
  obtain rfl := rep_bool hr
  exact ⟨he, hb⟩
set_option maxRecDepth 100000 in
theorem lifted (os : Os) (started : os.Started) (H : Type) (enc : TypeId × Value → H) :
    ReturnsInHanded {} Try.checked os 7 .any (Rows.chopGoesSpec.pre6 enc Try.prog Try.f7 Rows.chopGoesRow.domain false) (Rows.chopGoesSpec.post enc Try.prog Try.f7 false true false false) := by
  refine returnsInHanded_of_change_sized (C := Try.checked) own started (by kernel_rfl) Try.func7
    (ChangeSpec.witness6 (enc := enc) (C := Try.checked) false ⟨#[], #[.slice none 0 0, .int .u16 0], []⟩ 8 (by kernel_rfl) (by kernel_rfl) (by kernel_rfl) (by kernel_rfl)) ?_
  intro W base args ds gs before hval0 hW _ hsz0 _
  have hsz : (DataW.weightsEach Try.prog (Try.f7.params.toList ++ Rows.chopGoesSpec.plain.varTypes Try.prog) (ds ++ gs)).all (· ≤ reachBytes) = true := hsz0
  clear hsz0
  have hval : ∀ (j : Nat) t v, Try.f7.params[j]? = some t → args[j]? = some v → Value.okWide Try.prog W .any base t v := hval0
  have hW' := hW
  obtain ⟨p, q, hA0, hV, rfl, _, _⟩ := hW
  have hA : DataW.TrodAll enc Try.prog W 0 (fun _ => true) true Try.f7.params.toList args.toList ds p := hA0
  rw [Try.params7] at hA hval hsz
  obtain ⟨v0, vs0, d0, ds0, p0, q0, hargs, rfl, rfl, h0, r0⟩ := trodAll_cons hA
  obtain ⟨v1, vs1, d1, ds1, p1, q1, rfl, rfl, rfl, h1, r1⟩ := trodAll_cons r0
  obtain ⟨rfl, rfl, rfl⟩ := trodAll_nil r1
  obtain rfl : args = #[v0, v1] := by cases args; simp_all
  obtain ⟨rfl, rfl⟩ := trodVars_none hV
  have k0 := h0
  have lt0 : ∀ x ∈ p0, x.block < W.heap.size := by obtain ⟨m, hm⟩ := k0; exact DataW.trod_lt m _ _ _ hm
  obtain ⟨a0_0, a0_1, a0_2, a0_3, rfl, w0⟩ := open_frames Try.underlying44  (hval 0 44 v0 rfl rfl) h0
  obtain ⟨a1, rfl, rfl, rfl, w1⟩ := open_int Try.underlying45 (hval 1 45 v1 rfl rfl) h1
  clear hA0 hval0
  refine (walk W a0_0 a0_1 a0_2 a0_3 w0 a1 w1).mono fun e W' ⟨he, bel⟩ => ?_
  subst he
  exact ⟨_, rfl, _, _, _, [], _, [], hW', trodAll_mk1 (shut_bool Try.underlying4 _), (trodAll_cons_mk (Below.trod laidOut (by kernel_rfl) (of_decide_eq_true (by kernel_rfl)) k0 bel lt0) (trodAll_cons_mk (shut_int Try.underlying45 w1) trodAll_mk0)), rfl, bel.frame _, fun h => by cases h⟩
theorem over : Rows.chopGoesRow.holds Try.pinned (OpenSpec.ofChange Rows.chopGoesSpec) :=
  OpenClaim.holds_of_wide 7 Try.f7 rfl rfl rfl rfl rfl rfl rfl ⟨rfl, rfl, rfl, rfl, rfl⟩ rfl rfl rfl rfl rfl (by kernel_rfl) Try.func7 (by kernel_rfl)
    (of_decide_eq_true (by kernel_rfl)) (by unfold Func.isWrapper; first | (rw [if_pos (by decide +kernel)]; kernel_rfl) | (rw [if_neg (by decide +kernel)]; exact ⟨rfl, rfl⟩))
    (fun os started H enc _ => lifted os started H enc)
theorem proved : Rows.ChopGoesSaid := over
#print axioms proved
end chopGoes
end Go.Proofs.Ytigodfnckjidoaa
