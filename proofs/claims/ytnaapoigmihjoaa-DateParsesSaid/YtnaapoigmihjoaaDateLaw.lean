/- Layer 12: contracts of the laws' own functions. No condition. -/
import Derived.Test.YtnaapoigmihjoaaDateG
namespace Go.Proofs.Ytnaapoigmihjoaa
set_option linter.all false
open Go Go.RowKit

def wakeX : D7 := ⟨1994, 10, 6, 8, 49, 37, 3⟩
theorem wake_ok : wakeX.Ok := by refine ⟨?_, ?_, ?_, ?_, ?_, ?_, ?_, ?_, ?_, ?_, ?_, ?_⟩ <;> decide
theorem wake_of : ofM 784111777 = wakeX := by
  have h := (of_at wakeX wake_ok).2.2
  rw [show wakeX.at_ = 784111777 by decide] at h
  rw [h]; rfl
theorem year_2000 : nowY 946684800 = 2000 := by
  have h := (of_at ⟨2000, 0, 1, 0, 0, 0, 5⟩ (by refine ⟨?_, ?_, ?_, ?_, ?_, ?_, ?_, ?_, ?_, ?_, ?_, ?_⟩ <;> decide)).2.2
  rw [show D7.at_ ⟨2000, 0, 1, 0, 0, 0, 5⟩ = 946684800 by decide] at h
  have h2 : (ofM 946684800).y = 2000 := by rw [h]
  unfold nowY
  rw [if_neg (by omega), if_neg (by omega)]
  exact h2
def wakeS : List UInt8 := old7 wakeX
/-- The kinds' texts have lengths of their own. -/
theorem other_kind (k q : Nat) (hk : k ≤ 2) (hq : q ≤ 2) (hne : q ≠ k) (a : Int) (h0 : 0 ≤ a) (h1 : a ≤ 253402300799) (c : Int) (n0 : 1970 ≤ c) (n1 : c ≤ 9999) : progK q c (text7 k (ofM a)) = none := by
  cases h : progK q c (text7 k (ofM a)) with
  | none => rfl
  | some b =>
    exfalso
    obtain ⟨b0, b1, ht, _⟩ := (progK_iff q c n0 n1 _ b).1 h
    obtain ⟨oka, _, wa⟩ := at_of a h0 h1
    obtain ⟨okb, _, wb⟩ := at_of b b0 b1
    have la := congrArg List.length ht
    have xa : 0 ≤ (ofM a).w ∧ (ofM a).w ≤ 6 := by rw [← wa]; omega
    have xb : 0 ≤ (ofM b).w ∧ (ofM b).w ≤ 6 := by rw [← wb]; omega
    have l1 := own_len _ oka xa.1 xa.2
    have l2 := old_len _ oka
    have l3 := bare_len _ oka xa.1 xa.2
    have l4 := own_len _ okb xb.1 xb.2
    have l5 := old_len _ okb
    have l6 := bare_len _ okb xb.1 xb.2
    have n1 := longN_len' _ xa.1 xa.2
    have n2 := longN_len' _ xb.1 xb.2
    rcases (by omega : k = 0 ∨ k = 1 ∨ k = 2) with rfl | rfl | rfl <;> rcases (by omega : q = 0 ∨ q = 1 ∨ q = 2) with rfl | rfl | rfl
    · exact hne rfl
    · have : (own7 (ofM a)).length = (old7 (ofM b)).length := la
      omega
    · have : (own7 (ofM a)).length = (bare7 (ofM b)).length := la
      omega
    · have : (old7 (ofM a)).length = (own7 (ofM b)).length := la
      omega
    · exact hne rfl
    · have : (old7 (ofM a)).length = (bare7 (ofM b)).length := la
      omega
    · have : (bare7 (ofM a)).length = (own7 (ofM b)).length := la
      omega
    · have : (bare7 (ofM a)).length = (old7 (ofM b)).length := la
      omega
    · exact hne rfl
theorem first_own (a : Int) (h0 : 0 ≤ a) (h1 : a ≤ 253402300799) (now : Int) : (firstK fun k => progK k (nowY now) (own7 (ofM a))) = some a := by
  have hb := nowY_bd now
  have h := (progK_iff 0 (nowY now) hb.1 hb.2 (own7 (ofM a)) a).2 ⟨h0, h1, rfl, fun e => by cases e⟩
  simp only [firstK, h]
theorem first_bare (a : Int) (h0 : 0 ≤ a) (h1 : a ≤ 253402300799) (now : Int) : (firstK fun k => progK k (nowY now) (bare7 (ofM a))) = some a := by
  have hb := nowY_bd now
  have h := (progK_iff 2 (nowY now) hb.1 hb.2 (bare7 (ofM a)) a).2 ⟨h0, h1, rfl, fun e => by cases e⟩
  have e0 := other_kind 2 0 (by omega) (by omega) (by omega) a h0 h1 _ hb.1 hb.2
  have e1 := other_kind 2 1 (by omega) (by omega) (by omega) a h0 h1 _ hb.1 hb.2
  change progK 0 _ (bare7 (ofM a)) = none at e0
  change progK 1 _ (bare7 (ofM a)) = none at e1
  simp only [firstK, h, e0, e1]
theorem first_old (a : Int) (h0 : 0 ≤ a) (h1 : a ≤ 253402300799) (now : Int) (hy : yOf a = yearO (nowY now) (yOf a % 100)) : (firstK fun k => progK k (nowY now) (old7 (ofM a))) = some a := by
  have hb := nowY_bd now
  have h := (progK_iff 1 (nowY now) hb.1 hb.2 (old7 (ofM a)) a).2 ⟨h0, h1, rfl, fun _ => hy⟩
  have e0 := other_kind 1 0 (by omega) (by omega) (by omega) a h0 h1 _ hb.1 hb.2
  change progK 0 _ (old7 (ofM a)) = none at e0
  simp only [firstK, h, e0]
theorem first_old_no (a : Int) (h0 : 0 ≤ a) (h1 : a ≤ 253402300799) (now : Int) (hy : yOf a ≠ yearO (nowY now) (yOf a % 100)) : (firstK fun k => progK k (nowY now) (old7 (ofM a))) ≠ some a := by
  have hb := nowY_bd now
  have e0 := other_kind 1 0 (by omega) (by omega) (by omega) a h0 h1 _ hb.1 hb.2
  have e2 := other_kind 1 2 (by omega) (by omega) (by omega) a h0 h1 _ hb.1 hb.2
  change progK 0 _ (old7 (ofM a)) = none at e0
  change progK 2 _ (old7 (ofM a)) = none at e2
  cases h : progK 1 (nowY now) (old7 (ofM a)) with
  | none => simp only [firstK, e0, h, e2]; intro e; cases e
  | some b =>
    simp only [firstK, e0, h]
    intro e
    injection e with e
    subst e
    exact hy (((progK_iff 1 (nowY now) hb.1 hb.2 _ _).1 h).2.2.2 rfl)
theorem wake_first : (firstK fun k => progK k (nowY 946684800) wakeS) = some 784111777 := by
  have := first_old 784111777 (by omega) (by omega) 946684800 (by
    rw [year_2000]
    have : yOf 784111777 = 1994 := congrArg D7.y wake_of
    rw [this]; decide)
  rw [wake_of] at this
  exact this
theorem awake_any (w : World) : Calls Try.prog 8 #[] w fun e w' => e = .returned (.bool true) ∧ Below w.heap.size w w' := by
  have hp : printM 784111777 = [83, 117, 110, 44, 32, 48, 54, 32, 78, 111, 118, 32, 49, 57, 57, 52, 32, 48, 56, 58, 52, 57, 58, 51, 55, 32, 71, 77, 84] := by
    have : printM 784111777 = own7 (ofM 784111777) := by unfold printM; rw [if_neg (by omega)]; rfl
    rw [this, wake_of]; decide
  have hs : ({ data := #[83, 117, 110, 100, 97, 121, 44, 32, 48, 54, 45, 78, 111, 118, 45, 57, 52, 32, 48, 56, 58, 52, 57, 58, 51, 55, 32, 71, 77, 84] } : ByteArray) = S wakeS := by decide
  go_enter Try.func8, Try.ntmps8
  go_wp2_with fail
  try rw [hs]
  refine (Parse_any wakeS 946684800 (by decide) _).mono ?_; rintro e w1 ⟨rfl, b1⟩
  rw [wake_first]
  simp only [ansV]
  clear hs
  go_wp2_with fail
  refine (Print_any 784111777 _).mono ?_; rintro e w2 ⟨rfl, b2⟩
  rw [hp]
  go_wp2_with fail
  go_ret
  exact ⟨rfl, bt b1 b2⟩
def momLaw (n : Int) : Int := (if n < 0 then 0 - (n + 1) else n) % 253402300800
theorem momLaw_bd (n : Int) : 0 ≤ momLaw n ∧ momLaw n ≤ 253402300799 := by unfold momLaw; split <;> omega
theorem lawMoment_any (n : Int) (h0 : -9223372036854775808 ≤ n) (h1 : n ≤ 9223372036854775807) (w : World) :
    Calls Try.prog 9 #[.int .i64 n] w fun e w' => e = .returned (.int .i64 (momLaw n)) ∧ w = w' := by
  by_cases h : n < 0
  · have Hf : Hid (momLaw n = (0 - (n + 1)) % 253402300800) := Lib.hid (by unfold momLaw; rw [if_pos h])
    go_enter Try.func9, Try.ntmps9
    go_wp2
    go_ret
    exact ⟨ret_int (by rw [Hf.out, ← Int.neg_tmod, Int.tmod_eq_emod_of_nonneg (by omega)]; congr 1; omega), rfl⟩
  · have Hf : Hid (momLaw n = n % 253402300800) := Lib.hid (by unfold momLaw; rw [if_neg h])
    go_enter Try.func9, Try.ntmps9
    go_wp2
    go_ret
    exact ⟨ret_int (by rw [Hf.out]), rfl⟩
end Go.Proofs.Ytnaapoigmihjoaa
