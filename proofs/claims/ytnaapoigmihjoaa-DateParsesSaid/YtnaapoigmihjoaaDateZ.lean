/- Layer 12: the contracts of the document's Print and Parse. No condition. -/
import Derived.Test.YtnaapoigmihjoaaDateY
namespace Go.Proofs.Ytnaapoigmihjoaa
set_option linter.all false
open Go Go.RowKit

def okB (x : D7) : Bool := rightB x.y (x.m + 1) x.d x.h x.i x.s
theorem okB_iff (x : D7) (h : x.m ≤ 11) : okB x = true ↔ x.Ok := by
  unfold okB rightB
  rw [decide_eq_true_iff]
  constructor
  · rintro ⟨a1, a2, a3, a4, a5, a6, a7, a8, a9, a10, a11⟩
    rw [show x.m + 1 - 1 = x.m by omega] at a5
    exact ⟨a1, a2, by omega, h, a4, a5, a6, a7, a8, a9, a10, a11⟩
  · rintro ⟨a1, a2, a3, a4, a5, a6, a7, a8, a9, a10, a11, a12⟩
    rw [show x.m + 1 - 1 = x.m by omega]
    exact ⟨a1, a2, by omega, a5, a6, a7, a8, a9, a10, a11, a12⟩
theorem guess_m (s : List UInt8) (k : Nat) (c : Int) : (guessR s k c).m ≤ 11 := by
  have b1 := monR_bd s 8
  have b2 := monR_bd s ((s.length : Int) - 12 - 7)
  have b3 := monR_bd s 4
  unfold guessR
  split
  · show monR s 8 - 1 ≤ 11; omega
  · split
    · show monR s ((s.length : Int) - 12 - 7) - 1 ≤ 11; omega
    · show monR s 4 - 1 ≤ 11; omega
/-- What the document reads in a text of a kind. -/
def refK (k : Nat) (c : Int) (s : List UInt8) : Option Int :=
  if okB (guessR s k c) = true then (if text7 k (ofM (guessR s k c).at_) = s then some (guessR s k c).at_ else none) else none
theorem guess_any (s : List UInt8) (k : Nat) (hk : k ≤ 2) (c : Int) (k0 : 0 ≤ c) (k1 : c ≤ 100000) (hs : s.length ≤ 10000) (w : World) :
    Calls Try.prog 25 #[.string (S s), .int .i64 k, .int .i64 c] w fun e w' => e = .returned (guessR s k c).v ∧ Below w.heap.size w w' := by
  rcases (by omega : k = 0 ∨ k = 1 ∨ k = 2) with rfl | rfl | rfl
  · exact guess0 s c hs w
  · exact guess1 s c k0 k1 hs w
  · exact guess2 s c hs w
theorem refTexts_at (a : Int) (h0 : 0 ≤ a) (h1 : a ≤ 253402300799) (k : Nat) (hk : k ≤ 2) (w : World) :
    Calls Try.prog 14 #[(ofM a).v] w fun e w' => ∃ g, e = .returned (.slice (some ⟨g, 0, none⟩) 3 3) ∧ w'.cell? ⟨g, k, none⟩ = some (.string (S (text7 k (ofM a)))) ∧ Below w.heap.size w w' := by
  obtain ⟨ok, _, hw⟩ := at_of a h0 h1
  refine (refTexts_any (ofM a) ok (by rw [← hw]; omega) (by rw [← hw]; omega) w).mono ?_
  rintro e w' ⟨g, rfl, ⟨c0, c1, c2⟩, hb⟩
  refine ⟨g, rfl, ?_, hb⟩
  rcases (by omega : k = 0 ∨ k = 1 ∨ k = 2) with rfl | rfl | rfl
  · exact c0
  · exact c1
  · exact c2
theorem refPrint_no (n : Int) (h : n < 0 ∨ 253402300799 < n) (w : World) :
    Calls Try.prog 11 #[.int .i64 n] w fun e w' => e = .returned (.string (S (printM n))) ∧ Below w.heap.size w w' := by
  have Hf : Hid (printM n = []) := Lib.hid (by unfold printM; rw [if_pos h])
  rcases h with h | h
  · go_enter Try.func11, Try.ntmps11
    go_wp2
    go_ret
    exact ⟨ret_str (by rw [Hf.out]; rfl), Below.refl _ _⟩
  · have h2 : ¬ n < 0 := by omega
    go_enter Try.func11, Try.ntmps11
    go_wp2
    go_ret
    exact ⟨ret_str (by rw [Hf.out]; rfl), Below.refl _ _⟩
theorem refPrint_yes (n : Int) (h0 : 0 ≤ n) (h1 : n ≤ 253402300799) (w : World) :
    Calls Try.prog 11 #[.int .i64 n] w fun e w' => e = .returned (.string (S (printM n))) ∧ Below w.heap.size w w' := by
  have Hf : Hid (printM n = text7 0 (ofM n)) := Lib.hid (by unfold printM; rw [if_neg (by omega)]; rfl)
  go_enter Try.func11, Try.ntmps11
  go_wp2_with fail
  refine (refOf_any n h0 h1 _).mono ?_; rintro e w1 ⟨rfl, b1⟩
  go_wp2_with fail
  refine (refTexts_at n h0 h1 0 (by omega) _).mono ?_; rintro e w2 ⟨g, rfl, hc, b2⟩
  go_wp2_with fail
  go_ret
  exact ⟨ret_str (by rw [Hf.out]), bt b1 b2⟩
theorem refPrint_any (n : Int) (w : World) :
    Calls Try.prog 11 #[.int .i64 n] w fun e w' => e = .returned (.string (S (printM n))) ∧ Below w.heap.size w w' := by
  by_cases h : n < 0 ∨ 253402300799 < n
  · exact refPrint_no n h w
  · exact refPrint_yes n (by omega) (by omega) w
theorem Print_any (n : Int) (w : World) :
    Calls Try.prog 10 #[.int .i64 n] w fun e w' => e = .returned (.string (S (printM n))) ∧ Below w.heap.size w w' := by
  by_cases h : n < 0 ∨ 253402300799 < n
  · exact Print_no n h w
  · exact Print_yes n (by omega) (by omega) w
theorem ofM_v (a c : Int) (h : yOf a = c) : (ofM a).v = (⟨c, (ofM a).m, (ofM a).d, (ofM a).h, (ofM a).i, (ofM a).s, (ofM a).w⟩ : D7).v := by subst h; rfl
theorem field_year (a b c d e f g : Int) (w : World) : (Instr.field 33 (.agg #[.int .i64 a, .int .i64 b, .int .i64 c, .int .i64 d, .int .i64 e, .int .i64 f, .int .i64 g]) 0).run Try.prog w = .ok (.int .i64 a) w := by kernel_rfl
set_option maxHeartbeats 3200000 in
theorem refLoop (s : List UInt8) (now : Int) (h0 : 0 ≤ now) (h1 : now ≤ 253402300799) (hs : s.length ≤ 10000) (w : World) :
    Calls Try.prog 13 #[.string (S s), .int .i64 now] w fun e w' => e = .returned (ansV (firstK fun k => refK k (nowY now) s)) ∧ Below w.heap.size w w' := by
  obtain ⟨c, hc⟩ : ∃ c, nowY now = c := ⟨_, rfl⟩
  have hcb := nowY_bd now
  rw [hc] at hcb
  have Hcy : Hid ((ofM now).v = (⟨c, (ofM now).m, (ofM now).d, (ofM now).h, (ofM now).i, (ofM now).s, (ofM now).w⟩ : D7).v) := Lib.hid (ofM_v _ c (by rw [← hc]; unfold nowY; rw [if_neg (by omega), if_neg (by omega)]))
  have Hcc := Lib.hid hc
  clear hc
  go_enter Try.func13, Try.ntmps13
  go_wp2_with fail
  go_loopw [6] (fun k wr => ∃ j : Nat, k = .int .i64 j ∧ j ≤ 3 ∧ Hid (∀ q, q < j → refK q c s = none) ∧ Below w.heap.size w wr) (fun k _ => (3 - intOf k).toNat)
  case atStart => exact ⟨0, rfl, by omega, Lib.hid (fun q hq => by omega), Below.refl _ _⟩
  case round =>
    obtain ⟨j, rfl, hj, hno, B⟩ := hrel
    by_cases hlt : j < 3
    · obtain ⟨x, hx⟩ : ∃ x, x = guessR s j c := ⟨_, rfl⟩
      have hxm : x.m ≤ 11 := by rw [hx]; exact guess_m s j c
      obtain ⟨Y, M, D, H, I, S', W⟩ := x
      have Hx := Lib.hid hx
      clear hx
      go_wp2_with fail
      refine (refOf_any now h0 h1 _).mono ?_; rintro e w1 ⟨rfl, b1⟩
      rw [Hcy.out]
      simp only [D7.v]
      have hfy := fun w : World => field_year c ((ofM now).m + 1) (ofM now).d (ofM now).h (ofM now).i (ofM now).s (ofM now).w w
      go_wp2_with fail
      clear hfy
      refine (guess_any s j (by omega) c (by omega) (by omega) hs _).mono ?_; rintro e w2 ⟨rfl, b2⟩
      rw [← Hx.out]
      simp only [D7.v]
      have B2 := B.trans (Below.mono (b1.trans (b2.mono b1.size)) B.size)
      clear b1 b2 B
      go_wp2_with fail
      have X : Whole (w2.alloc (.cells #[.int .i64 Y, .int .i64 (M + 1), .int .i64 D, .int .i64 H, .int .i64 I, .int .i64 S', .int .i64 W] 33)) w2.heap.size 33 (C7 Y (M + 1) D H I S' W) := Whole.new w2 _ _
      have B3 := B2.alloc B2.size (.cells #[.int .i64 Y, .int .i64 (M + 1), .int .i64 D, .int .i64 H, .int .i64 I, .int .i64 S', .int .i64 W] 33)
      generalize w2.alloc (.cells #[.int .i64 Y, .int .i64 (M + 1), .int .i64 D, .int .i64 H, .int .i64 I, .int .i64 S', .int .i64 W] 33) = wx at X B3 ⊢
      refine (right_raw Y (M + 1) D H I S' W (by show M + 1 ≤ 12; have : M ≤ 11 := hxm; omega) _).mono ?_; rintro e w3 ⟨rfl, b3⟩
      have B4 := bt B3 b3
      clear B2 B3
      cases hk : rightB Y (M + 1) D H I S'
      · have Hn : Hid (∀ q, q < j + 1 → refK q c s = none) := Lib.hid (fun q hq => by
          rcases (by omega : q < j ∨ q = j) with h | rfl
          · exact hno.out q h
          · unfold refK
            rw [← Hx.out, if_neg]
            unfold okB
            rw [show rightB _ _ _ _ _ _ = false from hk]; simp)
        go_wp2_with fail
        go_roundw
        case rel => exact ⟨j + 1, by go_num, by omega, Hn, B4⟩
        case measure => simp [intOf]; omega
      · have ok : D7.Ok ⟨Y, M, D, H, I, S', W⟩ := (okB_iff _ hxm).1 hk
        have oa := of_at _ ok
        have Hok : Hid (okB ⟨Y, M, D, H, I, S', W⟩ = true) := Lib.hid hk
        obtain ⟨a, ha⟩ : ∃ a, D7.at_ ⟨Y, M, D, H, I, S', W⟩ = a := ⟨_, rfl⟩
        rw [ha] at oa
        have oa0 := oa.1
        have oa1 := oa.2.1
        clear oa
        have X3 := X.keep b3 X.lt
        clear X b3 hk
        have c0 := X3.at_ 0
        have c1 := X3.at_ 1
        have c2 := X3.at_ 2
        have c3 := X3.at_ 3
        have c4 := X3.at_ 4
        have c5 := X3.at_ 5
        have c6 := X3.at_ 6
        simp only [C7, List.getElem?_cons_zero, List.getElem?_cons_succ] at c0 c1 c2 c3 c4 c5 c6
        have Ok := Lib.hid ok
        have Ha := Lib.hid ha
        have Hxm := Lib.hid hxm
        clear X3 ok ha hxm
        go_wp2_with fail
        refine (refAt_any ⟨Y, M, D, H, I, S', W⟩ Ok.out _).mono ?_; rintro e w4 ⟨rfl, b4⟩
        have B5 := bt B4 b4
        clear c0 c1 c2 c3 c4 c5 c6 b4 B4
        rw [Ha.out]
        have Hr : Hid (refK j c s = if text7 j (ofM a) = s then some a else none) := Lib.hid (by
          unfold refK
          rw [← Hx.out, if_pos Hok.out, Ha.out])
        go_wp2_with fail
        refine (refOf_any a oa0 oa1 _).mono ?_; rintro e w5 ⟨rfl, b5⟩
        go_wp2_with fail
        refine (refTexts_at a oa0 oa1 j (by omega) _).mono ?_; rintro e w6 ⟨g, rfl, hc, b6⟩
        have B7 := bt (bt B5 b5) b6
        have j0 : (0 : Int) ≤ (j : Int) := by omega
        have j3 : (j : Int) < 3 := by omega
        cases heq : (text7 j (ofM a) == s)
        · have Hn : Hid (∀ q, q < j + 1 → refK q c s = none) := Lib.hid (fun q hq => by
            rcases (by omega : q < j ∨ q = j) with h | rfl
            · exact hno.out q h
            · rw [Hr.out, if_neg (by simpa using heq)])
          go_wp2_with fail
          go_roundw
          case rel => exact ⟨j + 1, by go_num, by omega, Hn, B7⟩
          case measure => simp [intOf]; omega
        · have Ha2 : Hid (firstK (fun k => refK k c s) = some a) := Lib.hid (by
            have hr : refK j c s = some a := by rw [Hr.out, if_pos (by simpa using heq)]
            unfold firstK
            rcases (by omega : j = 0 ∨ j = 1 ∨ j = 2) with rfl | rfl | rfl
            · simp only [hr]
            · simp only [hno.out 0 (by omega), hr]
            · simp only [hno.out 0 (by omega), hno.out 1 (by omega), hr])
          go_wp2_with fail
          go_ret2
          exact ⟨by rw [Hcc.out, Ha2.out]; rfl, B7⟩
    · obtain rfl : j = 3 := by omega
      have Ha : Hid (firstK (fun k => refK k c s) = none) := Lib.hid (by
        unfold firstK
        simp only [hno.out 0 (by omega), hno.out 1 (by omega), hno.out 2 (by omega)])
      go_wp2_with fail
      go_ret2
      exact ⟨by rw [Hcc.out, Ha.out]; rfl, B⟩
set_option maxHeartbeats 3200000 in
theorem refLoopN (s : List UInt8) (now : Int) (hn : now < 0) (hs : s.length ≤ 10000) (w : World) :
    Calls Try.prog 13 #[.string (S s), .int .i64 now] w fun e w' => e = .returned (ansV (firstK fun k => refK k (nowY now) s)) ∧ Below w.heap.size w w' := by
  obtain ⟨c, hc⟩ : ∃ c, nowY now = c := ⟨_, rfl⟩
  have hcb := nowY_bd now
  rw [hc] at hcb
  have Hcy : Hid ((ofM 0).v = (⟨c, (ofM 0).m, (ofM 0).d, (ofM 0).h, (ofM 0).i, (ofM 0).s, (ofM 0).w⟩ : D7).v) := Lib.hid (ofM_v _ c (by rw [← hc]; unfold nowY; rw [if_pos hn]))
  have Hcc := Lib.hid hc
  clear hc
  go_enter Try.func13, Try.ntmps13
  go_wp2_with fail
  go_loopw [6] (fun k wr => ∃ j : Nat, k = .int .i64 j ∧ j ≤ 3 ∧ Hid (∀ q, q < j → refK q c s = none) ∧ Below w.heap.size w wr) (fun k _ => (3 - intOf k).toNat)
  case atStart => exact ⟨0, rfl, by omega, Lib.hid (fun q hq => by omega), Below.refl _ _⟩
  case round =>
    obtain ⟨j, rfl, hj, hno, B⟩ := hrel
    by_cases hlt : j < 3
    · obtain ⟨x, hx⟩ : ∃ x, x = guessR s j c := ⟨_, rfl⟩
      have hxm : x.m ≤ 11 := by rw [hx]; exact guess_m s j c
      obtain ⟨Y, M, D, H, I, S', W⟩ := x
      have Hx := Lib.hid hx
      clear hx
      go_wp2_with fail
      refine (refOf_any 0 (by omega) (by omega) _).mono ?_; rintro e w1 ⟨rfl, b1⟩
      rw [Hcy.out]
      simp only [D7.v]
      have hfy := fun w : World => field_year c ((ofM 0).m + 1) (ofM 0).d (ofM 0).h (ofM 0).i (ofM 0).s (ofM 0).w w
      go_wp2_with fail
      clear hfy
      refine (guess_any s j (by omega) c (by omega) (by omega) hs _).mono ?_; rintro e w2 ⟨rfl, b2⟩
      rw [← Hx.out]
      simp only [D7.v]
      have B2 := B.trans (Below.mono (b1.trans (b2.mono b1.size)) B.size)
      clear b1 b2 B
      go_wp2_with fail
      have X : Whole (w2.alloc (.cells #[.int .i64 Y, .int .i64 (M + 1), .int .i64 D, .int .i64 H, .int .i64 I, .int .i64 S', .int .i64 W] 33)) w2.heap.size 33 (C7 Y (M + 1) D H I S' W) := Whole.new w2 _ _
      have B3 := B2.alloc B2.size (.cells #[.int .i64 Y, .int .i64 (M + 1), .int .i64 D, .int .i64 H, .int .i64 I, .int .i64 S', .int .i64 W] 33)
      generalize w2.alloc (.cells #[.int .i64 Y, .int .i64 (M + 1), .int .i64 D, .int .i64 H, .int .i64 I, .int .i64 S', .int .i64 W] 33) = wx at X B3 ⊢
      refine (right_raw Y (M + 1) D H I S' W (by show M + 1 ≤ 12; have : M ≤ 11 := hxm; omega) _).mono ?_; rintro e w3 ⟨rfl, b3⟩
      have B4 := bt B3 b3
      clear B2 B3
      cases hk : rightB Y (M + 1) D H I S'
      · have Hn : Hid (∀ q, q < j + 1 → refK q c s = none) := Lib.hid (fun q hq => by
          rcases (by omega : q < j ∨ q = j) with h | rfl
          · exact hno.out q h
          · unfold refK
            rw [← Hx.out, if_neg]
            unfold okB
            rw [show rightB _ _ _ _ _ _ = false from hk]; simp)
        go_wp2_with fail
        go_roundw
        case rel => exact ⟨j + 1, by go_num, by omega, Hn, B4⟩
        case measure => simp [intOf]; omega
      · have ok : D7.Ok ⟨Y, M, D, H, I, S', W⟩ := (okB_iff _ hxm).1 hk
        have oa := of_at _ ok
        have Hok : Hid (okB ⟨Y, M, D, H, I, S', W⟩ = true) := Lib.hid hk
        obtain ⟨a, ha⟩ : ∃ a, D7.at_ ⟨Y, M, D, H, I, S', W⟩ = a := ⟨_, rfl⟩
        rw [ha] at oa
        have oa0 := oa.1
        have oa1 := oa.2.1
        clear oa
        have X3 := X.keep b3 X.lt
        clear X b3 hk
        have c0 := X3.at_ 0
        have c1 := X3.at_ 1
        have c2 := X3.at_ 2
        have c3 := X3.at_ 3
        have c4 := X3.at_ 4
        have c5 := X3.at_ 5
        have c6 := X3.at_ 6
        simp only [C7, List.getElem?_cons_zero, List.getElem?_cons_succ] at c0 c1 c2 c3 c4 c5 c6
        have Ok := Lib.hid ok
        have Ha := Lib.hid ha
        have Hxm := Lib.hid hxm
        clear X3 ok ha hxm
        go_wp2_with fail
        refine (refAt_any ⟨Y, M, D, H, I, S', W⟩ Ok.out _).mono ?_; rintro e w4 ⟨rfl, b4⟩
        have B5 := bt B4 b4
        clear c0 c1 c2 c3 c4 c5 c6 b4 B4
        rw [Ha.out]
        have Hr : Hid (refK j c s = if text7 j (ofM a) = s then some a else none) := Lib.hid (by
          unfold refK
          rw [← Hx.out, if_pos Hok.out, Ha.out])
        go_wp2_with fail
        refine (refOf_any a oa0 oa1 _).mono ?_; rintro e w5 ⟨rfl, b5⟩
        go_wp2_with fail
        refine (refTexts_at a oa0 oa1 j (by omega) _).mono ?_; rintro e w6 ⟨g, rfl, hc, b6⟩
        have B7 := bt (bt B5 b5) b6
        have j0 : (0 : Int) ≤ (j : Int) := by omega
        have j3 : (j : Int) < 3 := by omega
        cases heq : (text7 j (ofM a) == s)
        · have Hn : Hid (∀ q, q < j + 1 → refK q c s = none) := Lib.hid (fun q hq => by
            rcases (by omega : q < j ∨ q = j) with h | rfl
            · exact hno.out q h
            · rw [Hr.out, if_neg (by simpa using heq)])
          go_wp2_with fail
          go_roundw
          case rel => exact ⟨j + 1, by go_num, by omega, Hn, B7⟩
          case measure => simp [intOf]; omega
        · have Ha2 : Hid (firstK (fun k => refK k c s) = some a) := Lib.hid (by
            have hr : refK j c s = some a := by rw [Hr.out, if_pos (by simpa using heq)]
            unfold firstK
            rcases (by omega : j = 0 ∨ j = 1 ∨ j = 2) with rfl | rfl | rfl
            · simp only [hr]
            · simp only [hno.out 0 (by omega), hr]
            · simp only [hno.out 0 (by omega), hno.out 1 (by omega), hr])
          go_wp2_with fail
          go_ret2
          exact ⟨by rw [Hcc.out, Ha2.out]; rfl, B7⟩
    · obtain rfl : j = 3 := by omega
      have Ha : Hid (firstK (fun k => refK k c s) = none) := Lib.hid (by
        unfold firstK
        simp only [hno.out 0 (by omega), hno.out 1 (by omega), hno.out 2 (by omega)])
      go_wp2_with fail
      go_ret2
      exact ⟨by rw [Hcc.out, Ha.out]; rfl, B⟩
set_option maxHeartbeats 3200000 in
theorem refLoopM (s : List UInt8) (now : Int) (hn : 253402300799 < now) (hs : s.length ≤ 10000) (w : World) :
    Calls Try.prog 13 #[.string (S s), .int .i64 now] w fun e w' => e = .returned (ansV (firstK fun k => refK k (nowY now) s)) ∧ Below w.heap.size w w' := by
  obtain ⟨c, hc⟩ : ∃ c, nowY now = c := ⟨_, rfl⟩
  have hcb := nowY_bd now
  rw [hc] at hcb
  have Hcy : Hid ((ofM 253402300799).v = (⟨c, (ofM 253402300799).m, (ofM 253402300799).d, (ofM 253402300799).h, (ofM 253402300799).i, (ofM 253402300799).s, (ofM 253402300799).w⟩ : D7).v) := Lib.hid (ofM_v _ c (by rw [← hc]; unfold nowY; rw [if_neg (by omega), if_pos hn]))
  have Hcc := Lib.hid hc
  clear hc
  go_enter Try.func13, Try.ntmps13
  go_wp2_with fail
  go_loopw [6] (fun k wr => ∃ j : Nat, k = .int .i64 j ∧ j ≤ 3 ∧ Hid (∀ q, q < j → refK q c s = none) ∧ Below w.heap.size w wr) (fun k _ => (3 - intOf k).toNat)
  case atStart => exact ⟨0, rfl, by omega, Lib.hid (fun q hq => by omega), Below.refl _ _⟩
  case round =>
    obtain ⟨j, rfl, hj, hno, B⟩ := hrel
    by_cases hlt : j < 3
    · obtain ⟨x, hx⟩ : ∃ x, x = guessR s j c := ⟨_, rfl⟩
      have hxm : x.m ≤ 11 := by rw [hx]; exact guess_m s j c
      obtain ⟨Y, M, D, H, I, S', W⟩ := x
      have Hx := Lib.hid hx
      clear hx
      go_wp2_with fail
      refine (refOf_any 253402300799 (by omega) (by omega) _).mono ?_; rintro e w1 ⟨rfl, b1⟩
      rw [Hcy.out]
      simp only [D7.v]
      have hfy := fun w : World => field_year c ((ofM 253402300799).m + 1) (ofM 253402300799).d (ofM 253402300799).h (ofM 253402300799).i (ofM 253402300799).s (ofM 253402300799).w w
      go_wp2_with fail
      clear hfy
      refine (guess_any s j (by omega) c (by omega) (by omega) hs _).mono ?_; rintro e w2 ⟨rfl, b2⟩
      rw [← Hx.out]
      simp only [D7.v]
      have B2 := B.trans (Below.mono (b1.trans (b2.mono b1.size)) B.size)
      clear b1 b2 B
      go_wp2_with fail
      have X : Whole (w2.alloc (.cells #[.int .i64 Y, .int .i64 (M + 1), .int .i64 D, .int .i64 H, .int .i64 I, .int .i64 S', .int .i64 W] 33)) w2.heap.size 33 (C7 Y (M + 1) D H I S' W) := Whole.new w2 _ _
      have B3 := B2.alloc B2.size (.cells #[.int .i64 Y, .int .i64 (M + 1), .int .i64 D, .int .i64 H, .int .i64 I, .int .i64 S', .int .i64 W] 33)
      generalize w2.alloc (.cells #[.int .i64 Y, .int .i64 (M + 1), .int .i64 D, .int .i64 H, .int .i64 I, .int .i64 S', .int .i64 W] 33) = wx at X B3 ⊢
      refine (right_raw Y (M + 1) D H I S' W (by show M + 1 ≤ 12; have : M ≤ 11 := hxm; omega) _).mono ?_; rintro e w3 ⟨rfl, b3⟩
      have B4 := bt B3 b3
      clear B2 B3
      cases hk : rightB Y (M + 1) D H I S'
      · have Hn : Hid (∀ q, q < j + 1 → refK q c s = none) := Lib.hid (fun q hq => by
          rcases (by omega : q < j ∨ q = j) with h | rfl
          · exact hno.out q h
          · unfold refK
            rw [← Hx.out, if_neg]
            unfold okB
            rw [show rightB _ _ _ _ _ _ = false from hk]; simp)
        go_wp2_with fail
        go_roundw
        case rel => exact ⟨j + 1, by go_num, by omega, Hn, B4⟩
        case measure => simp [intOf]; omega
      · have ok : D7.Ok ⟨Y, M, D, H, I, S', W⟩ := (okB_iff _ hxm).1 hk
        have oa := of_at _ ok
        have Hok : Hid (okB ⟨Y, M, D, H, I, S', W⟩ = true) := Lib.hid hk
        obtain ⟨a, ha⟩ : ∃ a, D7.at_ ⟨Y, M, D, H, I, S', W⟩ = a := ⟨_, rfl⟩
        rw [ha] at oa
        have oa0 := oa.1
        have oa1 := oa.2.1
        clear oa
        have X3 := X.keep b3 X.lt
        clear X b3 hk
        have c0 := X3.at_ 0
        have c1 := X3.at_ 1
        have c2 := X3.at_ 2
        have c3 := X3.at_ 3
        have c4 := X3.at_ 4
        have c5 := X3.at_ 5
        have c6 := X3.at_ 6
        simp only [C7, List.getElem?_cons_zero, List.getElem?_cons_succ] at c0 c1 c2 c3 c4 c5 c6
        have Ok := Lib.hid ok
        have Ha := Lib.hid ha
        have Hxm := Lib.hid hxm
        clear X3 ok ha hxm
        go_wp2_with fail
        refine (refAt_any ⟨Y, M, D, H, I, S', W⟩ Ok.out _).mono ?_; rintro e w4 ⟨rfl, b4⟩
        have B5 := bt B4 b4
        clear c0 c1 c2 c3 c4 c5 c6 b4 B4
        rw [Ha.out]
        have Hr : Hid (refK j c s = if text7 j (ofM a) = s then some a else none) := Lib.hid (by
          unfold refK
          rw [← Hx.out, if_pos Hok.out, Ha.out])
        go_wp2_with fail
        refine (refOf_any a oa0 oa1 _).mono ?_; rintro e w5 ⟨rfl, b5⟩
        go_wp2_with fail
        refine (refTexts_at a oa0 oa1 j (by omega) _).mono ?_; rintro e w6 ⟨g, rfl, hc, b6⟩
        have B7 := bt (bt B5 b5) b6
        have j0 : (0 : Int) ≤ (j : Int) := by omega
        have j3 : (j : Int) < 3 := by omega
        cases heq : (text7 j (ofM a) == s)
        · have Hn : Hid (∀ q, q < j + 1 → refK q c s = none) := Lib.hid (fun q hq => by
            rcases (by omega : q < j ∨ q = j) with h | rfl
            · exact hno.out q h
            · rw [Hr.out, if_neg (by simpa using heq)])
          go_wp2_with fail
          go_roundw
          case rel => exact ⟨j + 1, by go_num, by omega, Hn, B7⟩
          case measure => simp [intOf]; omega
        · have Ha2 : Hid (firstK (fun k => refK k c s) = some a) := Lib.hid (by
            have hr : refK j c s = some a := by rw [Hr.out, if_pos (by simpa using heq)]
            unfold firstK
            rcases (by omega : j = 0 ∨ j = 1 ∨ j = 2) with rfl | rfl | rfl
            · simp only [hr]
            · simp only [hno.out 0 (by omega), hr]
            · simp only [hno.out 0 (by omega), hno.out 1 (by omega), hr])
          go_wp2_with fail
          go_ret2
          exact ⟨by rw [Hcc.out, Ha2.out]; rfl, B7⟩
    · obtain rfl : j = 3 := by omega
      have Ha : Hid (firstK (fun k => refK k c s) = none) := Lib.hid (by
        unfold firstK
        simp only [hno.out 0 (by omega), hno.out 1 (by omega), hno.out 2 (by omega)])
      go_wp2_with fail
      go_ret2
      exact ⟨by rw [Hcc.out, Ha.out]; rfl, B⟩
theorem refParse_any (s : List UInt8) (now : Int) (hs : s.length ≤ 10000) (w : World) :
    Calls Try.prog 13 #[.string (S s), .int .i64 now] w fun e w' => e = .returned (ansV (firstK fun k => refK k (nowY now) s)) ∧ Below w.heap.size w w' := by
  by_cases h0 : now < 0
  · exact refLoopN s now h0 hs w
  · by_cases h1 : 253402300799 < now
    · exact refLoopM s now h1 hs w
    · exact refLoop s now (by omega) (by omega) hs w
end Go.Proofs.Ytnaapoigmihjoaa
