/- Layer 12: the contracts of the program's Parse and of the document's. No condition. -/
import Derived.Test.YtnaapoigmihjoaaDateQ
import Derived.Test.YtnaapoigmihjoaaDateF
import Derived.Test.YtnaapoigmihjoaaDateX
import Derived.Test.YtnaapoigmihjoaaDateU
import Derived.Test.YtnaapoigmihjoaaDateP
namespace Go.Proofs.Ytnaapoigmihjoaa
set_option linter.all false
open Go Go.RowKit

/-- The year that a moment is taken for. -/
def nowY (now : Int) : Int := yOf (if now < 0 then 0 else if 253402300799 < now then 253402300799 else now)
def firstK (f : Nat → Option Int) : Option Int := match f 0 with | some a => some a | none => match f 1 with | some a => some a | none => f 2
def ansV (r : Option Int) : Value := match r with | some a => .tuple #[.int .i64 a, .int .i64 0] | none => .tuple #[.int .i64 0, .int .i64 10]
theorem nowY_bd (now : Int) : 1970 ≤ nowY now ∧ nowY now ≤ 9999 := by
  unfold nowY
  split
  · have := of_prop 0 (by omega) (by omega); exact ⟨this.1, this.2.1⟩
  · split
    · have := of_prop 253402300799 (by omega) (by omega); exact ⟨this.1, this.2.1⟩
    · have := of_prop now (by omega) (by omega); exact ⟨this.1, this.2.1⟩
theorem min_max (now : Int) : max 0 (min now 253402300799) = if now < 0 then 0 else if 253402300799 < now then 253402300799 else now := by split <;> (try split) <;> omega
set_option maxHeartbeats 3200000 in
theorem Parse_any (s : List UInt8) (now : Int) (hs : s.length ≤ 10000) (w : World) :
    Calls Try.prog 12 #[.string (S s), .int .i64 now] w fun e w' => e = .returned (ansV (firstK fun k => progK k (nowY now) s)) ∧ Below w.heap.size w w' := by
  obtain ⟨c, hc⟩ : ∃ c, nowY now = c := ⟨_, rfl⟩
  have hcb := nowY_bd now
  rw [hc] at hcb
  obtain ⟨t, ht⟩ : ∃ t, (if now < 0 then 0 else if 253402300799 < now then 253402300799 else now) = t := ⟨_, rfl⟩
  have ht2 := min_max now
  rw [ht] at ht2
  have htb : 0 ≤ t ∧ t ≤ 253402300799 := by rw [← ht]; split <;> (try split) <;> omega
  have Hc : Hid (yearM (t / 86400) = c) := Lib.hid (by rw [← hc]; unfold nowY yOf; rw [ht])
  have Hcc := Lib.hid hc
  clear hc ht
  go_enter Try.func12, Try.ntmps12
  go_wp2_with fail
  refine (year_any _ (by omega) (by omega) _).mono ?_; rintro e w' ⟨rfl, rfl⟩
  rw [Hc.out]
  have X0 : Whole (w.alloc (.cells #[.func (Fn.func 21) #[] #[], .func (Fn.func 22) #[] #[], .func (Fn.func 23) #[] #[]] 40)) w.heap.size 40 [.func (Fn.func 21) #[] #[], .func (Fn.func 22) #[] #[], .func (Fn.func 23) #[] #[]] := Whole.new w _ _
  have B0 : Below w.heap.size w (w.alloc (.cells #[.func (Fn.func 21) #[] #[], .func (Fn.func 22) #[] #[], .func (Fn.func 23) #[] #[]] 40)) := (Below.refl _ _).alloc (Nat.le_refl _) _
  go_wp2_with fail
  generalize w.alloc (.cells #[.func (Fn.func 21) #[] #[], .func (Fn.func 22) #[] #[], .func (Fn.func 23) #[] #[]] 40) = wa at X0 B0 ⊢
  go_loopw [21] (fun k wr => ∃ j : Nat, k = .int .i64 j ∧ j ≤ 3 ∧ Hid (∀ q, q < j → progK q c s = none) ∧ Below w.heap.size w wr ∧ Whole wr w.heap.size 40 [.func (Fn.func 21) #[] #[], .func (Fn.func 22) #[] #[], .func (Fn.func 23) #[] #[]]) (fun k _ => (3 - intOf k).toNat)
  case atStart => exact ⟨0, rfl, by omega, Lib.hid (fun q hq => by omega), B0, X0⟩
  case round =>
    obtain ⟨j, rfl, hj, hno, B, X⟩ := hrel
    clear X0 B0
    have P0 : Whole (wr.alloc (.cells #[.string (S s), .int .i64 0, .int .i64 0, .int .i64 0, .int .i64 0, .int .i64 0, .int .i64 0, .int .i64 0, .bool false] 45)) wr.heap.size 45 (start s).cells := Whole.new wr _ _
    have X1 := X.past (.cells #[.string (S s), .int .i64 0, .int .i64 0, .int .i64 0, .int .i64 0, .int .i64 0, .int .i64 0, .int .i64 0, .bool false] 45)
    have B1 := B.alloc B.size (.cells #[.string (S s), .int .i64 0, .int .i64 0, .int .i64 0, .int .i64 0, .int .i64 0, .int .i64 0, .int .i64 0, .bool false] 45)
    have hlt1 : w.heap.size < wr.heap.size := X.lt
    have hm : (start s).left.length ≤ maxLen := by show s.length ≤ _; unfold maxLen; omega
    have c0 : wr.cell? ⟨w.heap.size, 0, none⟩ = some (.func (Fn.func 21) #[] #[]) := X.at_ 0
    have c1 : wr.cell? ⟨w.heap.size, 1, none⟩ = some (.func (Fn.func 22) #[] #[]) := X.at_ 1
    have c2 : wr.cell? ⟨w.heap.size, 2, none⟩ = some (.func (Fn.func 23) #[] #[]) := X.at_ 2
    rcases (by omega : j = 0 ∨ j = 1 ∨ j = 2 ∨ j = 3) with rfl | rfl | rfl | rfl
    · go_wp2_with fail
      refine (own_any (start s) c hm _ _ P0).mono ?_; rintro e w2 ⟨rfl, P2, G2⟩
      have X2 := X1.grown G2 (by intro e; injection e with e; omega)
      have B2 := B1.trans (only_below G2 (by simp; omega) (by omega))
      have hfit := kind_fit 0 c hcb.1 hcb.2 (start s)
      obtain ⟨q, hq⟩ : ∃ q, q = ownP (start s) := ⟨_, rfl⟩
      have hk : kindP 0 c (start s) = q := hq.symm
      rw [hk] at hfit
      rw [← hq] at P2
      have Hk := Lib.hid hk
      clear hq hk c0 c1 c2 P0 X1 B1 G2 X B hm
      by_cases hn : momNo q
      · have Hn := Lib.hid hn
        clear hn
        have Hp : Hid (∀ i, i < 0 + 1 → progK i c s = none) := Lib.hid (fun i hi => by
          rcases (by omega : i < 0 ∨ i = 0) with h | rfl
          · exact hno.out i h
          · unfold progK; rw [Hk.out, if_pos (.inl Hn.out)])
        go_wp2_with fail
        refine (moment_all q hfit.1 hfit.2.1 hfit.2.2 _ _ P2).mono ?_; rintro e w3 ⟨me, n3, rfl⟩
        obtain rfl := me.1 Hn.out
        clear me
        go_wp2_with fail
        go_roundw
        case rel => exact ⟨0 + 1, rfl, by omega, Hp, Below.drewN B2 n3, X2.drawn n3⟩
        case measure => simp [intOf]
      · have Hn := Lib.hid hn
        clear hn
        cases hw : (dayOf q % 7 == q.week)
        · have Hp : Hid (∀ i, i < 0 + 1 → progK i c s = none) := Lib.hid (fun i hi => by
            rcases (by omega : i < 0 ∨ i = 0) with h | rfl
            · exact hno.out i h
            · unfold progK; rw [Hk.out, if_pos (.inr (by simpa using hw))])
          go_wp2_with fail
          refine (moment_all q hfit.1 hfit.2.1 hfit.2.2 _ _ P2).mono ?_; rintro e w3 ⟨me, n3, rfl⟩
          obtain rfl := me.2 Hn.out
          clear me
          rw [hw]
          go_wp2_with fail
          go_roundw
          case rel => exact ⟨0 + 1, rfl, by omega, Hp, Below.drewN B2 n3, X2.drawn n3⟩
          case measure => simp [intOf]
        · have Hp : Hid (progK 0 c s = some (momA q)) := Lib.hid (by
            unfold progK
            rw [Hk.out, if_neg]
            rintro (h | h)
            · exact Hn.out h
            · exact h (by simpa using hw))
          have Ha : Hid (firstK (fun k => progK k c s) = some (momA q)) := Lib.hid (by
            unfold firstK
            simp only [Hp.out])
          go_wp2_with fail
          refine (moment_all q hfit.1 hfit.2.1 hfit.2.2 _ _ P2).mono ?_; rintro e w3 ⟨me, n3, rfl⟩
          obtain rfl := me.2 Hn.out
          clear me
          rw [hw]
          go_wp2_with fail
          go_ret2
          exact ⟨by rw [Hcc.out, Ha.out]; rfl, Below.drewN B2 n3⟩
    · go_wp2_with fail
      refine (old_any (start s) c hcb.1 hcb.2 hm _ _ P0).mono ?_; rintro e w2 ⟨rfl, P2, G2⟩
      have X2 := X1.grown G2 (by intro e; injection e with e; omega)
      have B2 := B1.trans (only_below G2 (by simp; omega) (by omega))
      have hfit := kind_fit 1 c hcb.1 hcb.2 (start s)
      obtain ⟨q, hq⟩ : ∃ q, q = oldP (start s) c := ⟨_, rfl⟩
      have hk : kindP 1 c (start s) = q := hq.symm
      rw [hk] at hfit
      rw [← hq] at P2
      have Hk := Lib.hid hk
      clear hq hk c0 c1 c2 P0 X1 B1 G2 X B hm
      by_cases hn : momNo q
      · have Hn := Lib.hid hn
        clear hn
        have Hp : Hid (∀ i, i < 1 + 1 → progK i c s = none) := Lib.hid (fun i hi => by
          rcases (by omega : i < 1 ∨ i = 1) with h | rfl
          · exact hno.out i h
          · unfold progK; rw [Hk.out, if_pos (.inl Hn.out)])
        go_wp2_with fail
        refine (moment_all q hfit.1 hfit.2.1 hfit.2.2 _ _ P2).mono ?_; rintro e w3 ⟨me, n3, rfl⟩
        obtain rfl := me.1 Hn.out
        clear me
        go_wp2_with fail
        go_roundw
        case rel => exact ⟨1 + 1, rfl, by omega, Hp, Below.drewN B2 n3, X2.drawn n3⟩
        case measure => simp [intOf]
      · have Hn := Lib.hid hn
        clear hn
        cases hw : (dayOf q % 7 == q.week)
        · have Hp : Hid (∀ i, i < 1 + 1 → progK i c s = none) := Lib.hid (fun i hi => by
            rcases (by omega : i < 1 ∨ i = 1) with h | rfl
            · exact hno.out i h
            · unfold progK; rw [Hk.out, if_pos (.inr (by simpa using hw))])
          go_wp2_with fail
          refine (moment_all q hfit.1 hfit.2.1 hfit.2.2 _ _ P2).mono ?_; rintro e w3 ⟨me, n3, rfl⟩
          obtain rfl := me.2 Hn.out
          clear me
          rw [hw]
          go_wp2_with fail
          go_roundw
          case rel => exact ⟨1 + 1, rfl, by omega, Hp, Below.drewN B2 n3, X2.drawn n3⟩
          case measure => simp [intOf]
        · have Hp : Hid (progK 1 c s = some (momA q)) := Lib.hid (by
            unfold progK
            rw [Hk.out, if_neg]
            rintro (h | h)
            · exact Hn.out h
            · exact h (by simpa using hw))
          have Ha : Hid (firstK (fun k => progK k c s) = some (momA q)) := Lib.hid (by
            unfold firstK
            simp only [hno.out 0 (by omega), Hp.out])
          go_wp2_with fail
          refine (moment_all q hfit.1 hfit.2.1 hfit.2.2 _ _ P2).mono ?_; rintro e w3 ⟨me, n3, rfl⟩
          obtain rfl := me.2 Hn.out
          clear me
          rw [hw]
          go_wp2_with fail
          go_ret2
          exact ⟨by rw [Hcc.out, Ha.out]; rfl, Below.drewN B2 n3⟩
    · go_wp2_with fail
      refine (bare_any (start s) c hm _ _ P0).mono ?_; rintro e w2 ⟨rfl, P2, G2⟩
      have X2 := X1.grown G2 (by intro e; injection e with e; omega)
      have B2 := B1.trans (only_below G2 (by simp; omega) (by omega))
      have hfit := kind_fit 2 c hcb.1 hcb.2 (start s)
      obtain ⟨q, hq⟩ : ∃ q, q = bareP (start s) := ⟨_, rfl⟩
      have hk : kindP 2 c (start s) = q := hq.symm
      rw [hk] at hfit
      rw [← hq] at P2
      have Hk := Lib.hid hk
      clear hq hk c0 c1 c2 P0 X1 B1 G2 X B hm
      by_cases hn : momNo q
      · have Hn := Lib.hid hn
        clear hn
        have Hp : Hid (∀ i, i < 2 + 1 → progK i c s = none) := Lib.hid (fun i hi => by
          rcases (by omega : i < 2 ∨ i = 2) with h | rfl
          · exact hno.out i h
          · unfold progK; rw [Hk.out, if_pos (.inl Hn.out)])
        go_wp2_with fail
        refine (moment_all q hfit.1 hfit.2.1 hfit.2.2 _ _ P2).mono ?_; rintro e w3 ⟨me, n3, rfl⟩
        obtain rfl := me.1 Hn.out
        clear me
        go_wp2_with fail
        go_roundw
        case rel => exact ⟨2 + 1, rfl, by omega, Hp, Below.drewN B2 n3, X2.drawn n3⟩
        case measure => simp [intOf]
      · have Hn := Lib.hid hn
        clear hn
        cases hw : (dayOf q % 7 == q.week)
        · have Hp : Hid (∀ i, i < 2 + 1 → progK i c s = none) := Lib.hid (fun i hi => by
            rcases (by omega : i < 2 ∨ i = 2) with h | rfl
            · exact hno.out i h
            · unfold progK; rw [Hk.out, if_pos (.inr (by simpa using hw))])
          go_wp2_with fail
          refine (moment_all q hfit.1 hfit.2.1 hfit.2.2 _ _ P2).mono ?_; rintro e w3 ⟨me, n3, rfl⟩
          obtain rfl := me.2 Hn.out
          clear me
          rw [hw]
          go_wp2_with fail
          go_roundw
          case rel => exact ⟨2 + 1, rfl, by omega, Hp, Below.drewN B2 n3, X2.drawn n3⟩
          case measure => simp [intOf]
        · have Hp : Hid (progK 2 c s = some (momA q)) := Lib.hid (by
            unfold progK
            rw [Hk.out, if_neg]
            rintro (h | h)
            · exact Hn.out h
            · exact h (by simpa using hw))
          have Ha : Hid (firstK (fun k => progK k c s) = some (momA q)) := Lib.hid (by
            unfold firstK
            simp only [hno.out 0 (by omega), hno.out 1 (by omega), Hp.out])
          go_wp2_with fail
          refine (moment_all q hfit.1 hfit.2.1 hfit.2.2 _ _ P2).mono ?_; rintro e w3 ⟨me, n3, rfl⟩
          obtain rfl := me.2 Hn.out
          clear me
          rw [hw]
          go_wp2_with fail
          go_ret2
          exact ⟨by rw [Hcc.out, Ha.out]; rfl, Below.drewN B2 n3⟩
    · have Ha : Hid (firstK (fun k => progK k c s) = none) := Lib.hid (by
        unfold firstK
        simp only [hno.out 0 (by omega), hno.out 1 (by omega), hno.out 2 (by omega)])
      go_wp2_with fail
      go_ret2
      exact ⟨by rw [Hcc.out, Ha.out]; rfl, B⟩
end Go.Proofs.Ytnaapoigmihjoaa
