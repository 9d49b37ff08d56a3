/- Abstract states: code within a fence that lets all in (in a round, too); a round's world. No program, no condition. -/
import Derived.Test.YtigodfnckjidoaaAt
import Derived.TacticsIn
namespace Go.Proofs.Ytigodfnckjidoaa
set_option linter.all false
open Go Go.RowKit
/-- The fence that lets all in, in a round or not. -/
def Fw (r : Option Nat) : Fence := { Fence.wide with round := r }
theorem callsFw {r : Option Nat} {n : Nat} {P : Program} {f : FuncId} {args : Array Value} {w : World} {R : Ending → World → Prop} (h : Calls P f args w R) : CallsIn (Fw r) n P f args w R := by
  have h1 : CallsIn Fence.wide n P f args w R := callsIn_wide.2 h
  exact h1
theorem rowsFw {r : Option Nat} {n : Nat} {P : Program} {row : String} {args : Array Value} {w : World} {R : Value → World → Prop} (h : Rows P row args w R) : RowsIn (Fw r) n P row args w R := fun c cs _ => by
  obtain ⟨v, w', h1, h2⟩ := h c cs
  exact ⟨v, w', h1, (stepsIn_wide (P := P)).2 h2⟩
def noDefer (o : Oper) : Bool := match o.op with | .defer _ => false | _ => true
theorem wpFw {r : Option Nat} {P : Program} {o : Oper} {a : Act} {w : World} {K : Act → World → Prop} {Q : Exit → Act → World → Prop} (hd : noDefer o = true) (h : Oper.wp P o a w K Q) : Oper.wpIn (Fw r) 0 P o a w K Q := by
  refine ⟨fun _ _ => trivial, ?_⟩
  have he : o.semAt (Fw r).round a.eval = execOp a.eval o := Oper.semAt_eq _ _ _ fun c hc => by unfold noDefer at hd; rw [hc] at hd; cases hd
  rw [he]
  unfold Oper.wp at h
  generalize (execOp a.eval o).run P w = res at h
  cases res with
  | ok nx w' =>
    cases nx with
    | value v => exact h
    | skip => exact h
    | defer d => exact h
    | enter f args => exact ⟨(fun hh => by cases hh), callsFw h⟩
    | row row args => exact ⟨(fun hh => by cases hh), rowsFw h⟩
    | _ => exact h.elim
  | halt x w' => cases x <;> first | exact h | exact h.elim
section
variable {X : Cx} {Q : AX → Fm → AH → Prop} {fr : Fm} {ah : AH} {r : Option Nat}
def awY (r : Option Nat) (X : Cx) (c : Code) (Q : AX → Fm → AH → Prop) (fr : Fm) (ah : AH) : Prop := ∀ G w a, St X G w a fr ah → c.wpIn (Fw r) 0 X.P (Rel X Q) a w
theorem aw_ofY {c : Code} (h : awY none X c Q fr ah) : aw X c Q fr ah := fun G w a hS => wpIn_wide.1 (h G w a hS)
def awlY (r : Option Nat) (X : Cx) (ops : Array Oper) (K : Fm → AH → Prop) (Q : AX → Fm → AH → Prop) (os : List Oper) (fr : Fm) (ah : AH) : Prop :=
  ∀ G w a, St X G w a fr ah → ∀ R : Exit → Act → World → Prop, (∀ a w, Kont X K a w → R .normal a w) → (∀ c a w, Rel X Q (.panic c) a w → R (.panic c) a w) → wpListIn (Fw r) 0 X.P ops R os a w
theorem awlY_nil {ops : Array Oper} {K : Fm → AH → Prop} (h : K fr ah) : awlY r X ops K Q [] fr ah := fun G w a hS R hR _ => wpListIn_nil (hR a w ⟨G, fr, ah, hS, h⟩)
theorem awlY_step {ops : Array Oper} {K : Fm → AH → Prop} {o : Oper} {os : List Oper} {d : D} {upd : AH} {T : List Nat} (h : Step X ops o fr.at (look ah) d upd T) (hd : dstB X.nt o.dst = true) (hn : freshB upd T ah = true)
    (k : awlY r X ops K Q os (pushF fr o.dst d) (upd ++ ah)) (hnd : noDefer o = true := by rfl) : awlY r X ops K Q (o :: os) fr ah := fun G w a hS R hR hP => by
  have hst := h fr.at (look ah) (fun _ _ => rfl) (fun _ _ => rfl) (fun p hp hT => by
    unfold freshB at hn
    rw [List.all_eq_true] at hn
    have := hn p hp
    simp only [Bool.or_eq_true, List.contains_iff_mem, Option.isNone_iff_eq_none] at this
    rcases this with h | h
    · exact absurd h hT
    · exact h) G w a hS.ok hS.fr (fun a' w' => wpListIn (Fw r) 0 X.P ops R os a' w') R (fun G' w' u h1 h2 h3 => by
      refine k G' w' _ ⟨by rw [over_look] at h1; exact h1, ?_, ?_, ?_⟩ R hR hP
      · rw [pushF_at, ← over_look]
        refine (hS.fr.ext h2).put h3 fun t ht => ?_
        rw [hS.nt]
        rw [ht] at hd
        simpa [dstB] using hd
      · have : ∀ (dst : Option Tmp), (a.put dst u).tmps.size = a.tmps.size := fun dst => by cases dst <;> simp [Act.put]
        rw [this]; exact hS.nt
      · have : ∀ (dst : Option Tmp), (a.put dst u).defers = a.defers := fun dst => by cases dst <;> rfl
        rw [this]; exact hS.df.ext h2)
  unfold wpListIn
  by_cases hw : Region.wanted o (yielded ops a.tmps) = true
  · rw [if_pos hw] at hst ⊢; exact wpFw hnd hst
  · rw [if_neg hw] at hst ⊢; exact ⟨fun _ _ => trivial, hst⟩
/-- A call of yield: a round. -/
theorem awlY_yield {ops : Array Oper} {K : Fm → AH → Prop} {o : Oper} {os : List Oper} {d : D} {upd : AH} {x : Operand} {xs : Array Operand} {tys : Array TypeId} {l : Nat} {args : List D} (ho : o.op = .call { callee := .value x, args := xs, argTypes := tys }) (hg : o.guard = none) (hx : Ev fr.at x (.fn (.yield l) [] [])) (hy : EvL fr.at xs.toList args)
    (hR : ∀ G w us, Ok X G w (look ah) → RepDs G w (look ah) args us → ∃ fn tmps assign body, (Instr.yield l us.toArray).run X.P w = .ok (.round l fn tmps assign body) w ∧
      RoundIn Fence.wide 0 X.P l fn tmps assign body w (fun e w' => ∃ u, e = .returned u ∧ ∃ G', Ok X G' w' (look (upd ++ ah)) ∧ Ext G w (look ah) G' w' (look (upd ++ ah)) ∧ RepD G' w' (look (upd ++ ah)) d u))
    (hd : dstB X.nt o.dst = true) (k : awlY none X ops K Q os (pushF fr o.dst d) (upd ++ ah)) : awlY none X ops K Q (o :: os) fr ah := fun G w a hS R hR' hP => by
  have hA := hy.rep hS.fr (fun y hy t ht => rfl)
  have hfv := ev_at (o := o) hx (by simp [ho, Op.operands, Call.operands]) (fun _ _ => rfl) hS.fr
  obtain ⟨us, vs, hev, h1, h2⟩ := rep_fn hfv
  obtain rfl : us = [] := List.eq_nil_of_length_eq_zero h1.1
  obtain rfl : vs = [] := List.eq_nil_of_length_eq_zero h2.1
  obtain ⟨fn, tmps, assign, body, hyr, hround⟩ := hR G w _ hS.ok hA
  unfold wpListIn
  rw [if_pos (by simp [Region.wanted, hg])]
  refine ⟨fun _ _ => trivial, ?_⟩
  have he : o.semAt (Fw none).round a.eval = execOp a.eval o := rfl
  rw [he]
  have hrun : (execOp a.eval o).run X.P w = .ok (.round l fn tmps assign body) w := by
    rw [← hyr]
    have e1 : xs.map a.eval = (xs.toList.map a.eval).toArray := by rw [← Array.toList_map]
    simp [execOp, ho, resolve, hev, Deferred.ofValue, invoke, e1]
  rw [hrun]
  refine ⟨(fun hh => by cases hh), (hround : RoundIn (Fw none) 0 X.P l fn tmps assign body w _).mono fun e w' ⟨u, he, G', q1, q2, q3⟩ => ?_⟩
  subst he
  refine k G' w' _ ⟨q1, ?_, ?_, ?_⟩ R hR' hP
  · rw [pushF_at]
    refine (hS.fr.ext q2).put q3 fun t ht => ?_
    rw [hS.nt]
    rw [ht] at hd
    simpa [dstB] using hd
  · have : ∀ (dst : Option Tmp), (a.put dst u).tmps.size = a.tmps.size := fun dst => by cases dst <;> simp [Act.put]
    rw [this]; exact hS.nt
  · have : ∀ (dst : Option Tmp), (a.put dst u).defers = a.defers := fun dst => by cases dst <;> rfl
    rw [this]; exact hS.df.ext q2
theorem awY_region_last {id : Nat} {l : List Oper} (h : awlY r X l.toArray (Q .normal) Q l fr ah) : awY r X (.region id l.toArray false) Q fr ah := fun G w a hS =>
  wpIn_region_lit (h G w a hS _ (fun a w hk => hk) (fun c a w hp => hp))
theorem awY_region {id : Nat} {l : List Oper} {rest : Code} (h : ∀ K : Fm → AH → Prop, (∀ fr ah, awY r X rest Q fr ah → K fr ah) → awlY r X l.toArray K Q l fr ah) : awY r X (.seq (.region id l.toArray false) rest) Q fr ah := fun G w a hS =>
  wpIn_seq (wpIn_region_lit (h (fun fr ah => awY r X rest Q fr ah) (fun _ _ h => h) G w a hS _ (fun a w hk => by
    obtain ⟨G', fr', ah', h1, h2⟩ := hk
    exact h2 G' w a h1) (fun c a w hp => hp)))
end
end Go.Proofs.Ytigodfnckjidoaa
