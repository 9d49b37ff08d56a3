/- The law OctetBytes: Put and Take answer as the references do, for every number, slice and place. No condition. -/
import Derived.Test.YtefodepamjpmjaaLawKit
import Derived.Test.YtefodepamjpmjaaOctT
namespace Go.Proofs.Ytefodepamjpmjaa.octetBytes
open Go Go.RowKit
open Go.ChangeShapes Go.WideShapes Go.ChangeAt
open Go.ChangeMaps (open_string shut_string)
theorem put258 (w : World) :
    Calls Try.prog 8 #[.int .u32 258, .int .i64 3] w fun e w' => (∃ g o c, e = .returned (.slice (some ⟨g, o, none⟩) 3 c) ∧ w'.cell? ⟨g, o + 1, none⟩ = some (.int .u8 1)) ∧ Below w.heap.size w w' := by
  refine (put_any 258 (by omega) 3 w).mono ?_
  rintro e w' ⟨⟨v, rfl, hv⟩, hb⟩
  have e3 : putL 258 3 = [0, 1, 2] := by decide
  rw [e3] at hv
  obtain ⟨A, c, rfl, _, _, hr, _⟩ := hv.open_
  obtain ⟨g, o, rfl, _, hc⟩ := hr.get (i := 1) (by simp)
  exact ⟨⟨g, o, c, rfl, hc⟩, hb⟩
theorem walk (w : World) (n : Int) (wn : (Lit.int .u32 n).wf = true) (A : Option Addr) (c : Nat) (l : List UInt8) (hb : l.length ≤ c ∧ c ≤ 140737488351232 ∧ Rd w w.heap.size A l)
    (a b : Int) (hab : a ≤ 9223372036854775807 ∧ b ≤ 9223372036854775807) :
    Calls Try.prog 3 #[.int .u32 n, .slice A l.length c, .agg #[.int .i64 a, .int .i64 b]] w fun e w' => e = .returned (.bool true) ∧ Below w.heap.size w w' := by
  have hn := bounds_u32 wn
  obtain ⟨n, rfl⟩ := Int.eq_ofNat_of_zero_le hn.1
  have hn2 : n < 4294967296 := by omega
  clear wn hn
  obtain ⟨hl1, hl2, hrd⟩ := hb
  obtain ⟨i8, hi8⟩ := uint8_row
  have Hi8 := Lib.hid hi8
  clear hi8
  go_enter Try.func3, Try.ntmps3
  have h1 : Below w.heap.size w (w.alloc (.cells #[.int .i64 a, .int .i64 b] 24)) := (Below.refl _ _).alloc (Nat.le_refl _) _
  go_wp2_with fail
  refine (put258 _).mono ?_
  rintro e w1 ⟨⟨g, o, c1, rfl, hc1⟩, hb⟩
  have hb1 := bt h1 (hb.mono (by simp))
  clear h1 hb
  go_wp2_with (at_builtin; refine wpList_append_bytes rfl (.tmp 29) (.tmp 30) 23 rfl Try.underlying23 Hi8.out w.heap.size w.heap.size (.slice (some ⟨w1.heap.size, 0, none⟩) 0 0) [] l rfl A l.length c rfl ?_ ?c1 ?c2 ?c3 ?c4 ?c5; intro v2 w2 hown2 hg2 hat2 hb2)
  case c1 => exact Own.new0 _ _ _ _ rfl hb1.size
  case c2 => exact hrd.keep (hb1.alloc hb1.size _)
  case c3 => rfl
  case c4 => simp; omega
  case c5 => have := hb1.size; simp; omega
  have hw2 : Below w.heap.size w w2 := (hb1.alloc hb1.size _).trans hb2
  clear hb1 hb2 hg2 hat2 hc1
  obtain ⟨A2, c2, rfl, ha1, ha2, hr2, _⟩ := hown2.open_
  rw [List.nil_append] at ha1 hr2 ⊢
  clear hown2
  have hr2' := (hrd.keep hw2).more hw2.size
  refine (take_any l A2 c2 ha1 ha2 a b hab.1 w2 _ hr2).mono ?_; rintro e w' ⟨rfl, rfl⟩
  (go_wp2_with fail); refine (reftake_any l A c hl1 (by simp [maxLen]; omega) a b hab.1 _ _ hr2').mono ?_; rintro e w' ⟨rfl, rfl⟩
  (go_wp2_with fail); refine (bytes_any l l A2 A c2 c _ _ hr2 hr2').mono ?_; rintro e w' ⟨rfl, rfl⟩
  go_wp2_with fail
  refine (put_any n hn2 b _).mono ?_
  rintro e w3 ⟨⟨v3, rfl, ho3⟩, hb3⟩
  go_wp2_with fail
  refine (refput_any n hn2 b _).mono ?_
  rintro e w4 ⟨⟨v4, rfl, ho4⟩, hb4⟩
  obtain ⟨A3, c3, rfl, _, _, hr3, _⟩ := ho3.open_
  obtain ⟨A4, c4, rfl, _, _, hr4, _⟩ := ho4.open_
  have hr3' := (hr3.keep hb4).more hb4.size
  (go_wp2_with fail); refine (bytes_any _ _ A3 A4 c3 c4 _ _ hr3' hr4).mono ?_; rintro e w' ⟨rfl, rfl⟩
  go_wp2
  go_ret
  exact ⟨rfl, bt (bt hw2 hb3) hb4⟩
set_option maxRecDepth 100000 in
theorem lifted (os : Os) (started : os.Started) (H : Type) (enc : TypeId × Value → H) :
    ReturnsInHanded {} Try.checked os 3 .any (Rows.octetBytesSpec.pre6 enc Try.prog Try.f3 Rows.octetBytesRow.domain false) (Rows.octetBytesSpec.post enc Try.prog Try.f3 false true false false) := by
  refine returnsInHanded_of_change_sized (C := Try.checked) own started (by kernel_rfl) Try.func3
    (ChangeSpec.witness6 (enc := enc) (C := Try.checked) false ⟨#[], #[.int .u32 0, .slice none 0 0, .agg #[.int .i64 0, .int .i64 0]], []⟩ 8 (by kernel_rfl) (by kernel_rfl) (by kernel_rfl) (by kernel_rfl)) ?_
  intro W base args ds gs before hval0 hW _ hsz0 _
  have hsz : (DataW.weightsEach Try.prog (Try.f3.params.toList ++ Rows.octetBytesSpec.plain.varTypes Try.prog) (ds ++ gs)).all (· ≤ reachBytes) = true := hsz0
  clear hsz0
  have hval : ∀ (j : Nat) t v, Try.f3.params[j]? = some t → args[j]? = some v → Value.okWide Try.prog W .any base t v := hval0
  have hW' := hW
  obtain ⟨p, q, hA0, hV, rfl, _, _⟩ := hW
  have hA : DataW.TrodAll enc Try.prog W 0 (fun _ => true) true Try.f3.params.toList args.toList ds p := hA0
  rw [Try.params3] at hA hval hsz
  obtain ⟨v0, vs0, d0, ds0, p0, q0, hargs, rfl, rfl, h0, r0⟩ := trodAll_cons hA
  obtain ⟨v1, vs1, d1, ds1, p1, q1, rfl, rfl, rfl, h1, r1⟩ := trodAll_cons r0
  obtain ⟨v2, vs2, d2, ds2, p2, q2, rfl, rfl, rfl, h2, r2⟩ := trodAll_cons r1
  obtain ⟨rfl, rfl, rfl⟩ := trodAll_nil r2
  obtain rfl : args = #[v0, v1, v2] := by cases args; simp_all
  obtain ⟨rfl, rfl⟩ := trodVars_none hV
  obtain ⟨a0, rfl, rfl, rfl, w0⟩ := open_int Try.underlying22 (hval 0 22 v0 rfl rfl) h0
  have k1 := h1
  have lt1 : ∀ x ∈ p1, x.block < W.heap.size := by obtain ⟨m, hm⟩ := k1; exact DataW.trod_lt m _ _ _ hm
  have z1 := fun el sp (hd : d1 = .slice el sp) => sized_slice hsz (j := 1) (t := 23) (elems := el) (spare := sp) rfl (by rw [hd]; rfl) Try.underlying23
  obtain ⟨a1_0, a1_1, a1_2, rfl, w1⟩ := open_bytes Try.underlying23 Try.underlying5 (by kernel_rfl) (by kernel_rfl) (hval 1 23 v1 rfl rfl) h1 z1
  have k2 := h2
  have lt2 : ∀ x ∈ p2, x.block < W.heap.size := by obtain ⟨m, hm⟩ := k2; exact DataW.trod_lt m _ _ _ hm
  obtain ⟨a2_0, a2_1, rfl, w2⟩ := open_two Try.underlying24 Try.underlying3 (by kernel_rfl) (by kernel_rfl) (hval 2 24 v2 rfl rfl) h2
  clear hA0 hval0
  refine (walk W a0 w0 a1_0 a1_1 a1_2 w1 a2_0 a2_1 w2).mono fun e W' ⟨he, bel⟩ => ?_
  subst he
  exact ⟨_, rfl, _, _, _, [], _, [], hW', trodAll_mk1 (shut_bool Try.underlying4 _), (trodAll_cons_mk (shut_int Try.underlying22 w0) (trodAll_cons_mk (Below.trod laidOut (by kernel_rfl) (of_decide_eq_true (by kernel_rfl)) k1 bel lt1) (trodAll_cons_mk (Below.trod laidOut (by kernel_rfl) (of_decide_eq_true (by kernel_rfl)) k2 bel lt2) trodAll_mk0))), rfl, bel.frame _, fun h => by cases h⟩
theorem over : Rows.octetBytesRow.holds Try.pinned (OpenSpec.ofChange Rows.octetBytesSpec) :=
  OpenClaim.holds_of_wide 3 Try.f3 rfl rfl rfl rfl rfl rfl rfl ⟨rfl, rfl, rfl, rfl, rfl⟩ rfl rfl rfl rfl rfl (by kernel_rfl) Try.func3 (by kernel_rfl)
    (of_decide_eq_true (by kernel_rfl)) (by unfold Func.isWrapper; first | (rw [if_pos (by decide +kernel)]; kernel_rfl) | (rw [if_neg (by decide +kernel)]; exact ⟨rfl, rfl⟩))
    (fun os started H enc _ => lifted os started H enc)
theorem proved : Rows.OctetBytesSaid := over
#print axioms proved
end Go.Proofs.Ytefodepamjpmjaa.octetBytes
