/- Abstract states: a row settles within a region: an operation whose result is a view of a row hands back what it holds for good; the row begins anew. No program, no condition. -/
import Derived.Test.YtnjbfiejgiaibaaGreatDoorAu
import Derived.TacticsIn
namespace Go.Proofs.YtnjbfiejgiaibaaGreatDoor
set_option linter.all false
open Go Go.RowKit
section
variable {X : Cx} {G : Gh} {w : World} {m : Mem}
theorem Ok.settle (h : Ok X G w m) {id v n : Nat} {e : TypeId} {c : List (List V)} (hm : m id = some (.row v n e c)) : ∃ G2, Ok X G2 w (over [(id, .row (v + 1) n e [])] m) ∧ Ext G w m G2 w (over [(id, .row (v + 1) n e [])] m) ∧ ∀ u, RepD G w m (.view id v 0 c.length) u → RepD G2 w (over [(id, .row (v + 1) n e [])] m) (.v (.sl c)) u := by
  have hrow : RowAt G w id n e c := h.ob id _ hm
  have hidn : m id ≠ none := by rw [hm]; simp
  obtain ⟨k1, k2⟩ := h.step (G' := G.at_ id none 0) (w' := w) id (.row (v + 1) n e []) rfl (fun i hi => Gh.at_ne G _ _ hi) (fun g hg => by rw [Gh.at_μ] at hg; cases hg) (fun g _ _ => rfl) (Nat.le_refl _) rfl rfl rfl
    (fun o' ho' => by
      rw [hm] at ho'; injection ho' with ho'; subst ho'
      exact ⟨fun cs he => (by cases he), fun ver n' e' c' he => by injection he with a1 a2 a3 a4; subst a1 a2 a3 a4; exact ⟨v + 1, [], rfl, Nat.le_succ _, fun hh => by omega⟩⟩)
    (fun k => ⟨by simp, hrow.2.1, by simp, by rw [Gh.at_cap]; simp [maxLen], .inl ⟨Gh.at_μ _ _ _ _, Gh.at_cap _ _ _ _⟩⟩) (fun cs _ he => by cases he)
  let G1 : Gh := G.at_ id none 0
  let G2 : Gh := { G1 with S := fun g => G.S g ∨ G.μ id = some g }
  have e1 : ∀ m', Ext G1 w m' G2 w m' := fun m' => ⟨fun g hg => ⟨.inl hg, rfl⟩, fun _ cs h => ⟨cs, h, rfl⟩, fun _ ver _ _ c h => ⟨ver, c, h, Nat.le_refl _, fun _ => ⟨Nat.le_refl _, rfl, rfl⟩⟩, fun _ a l h => ⟨a, l, h, rfl⟩⟩
  have hne : ∀ i g, G1.μ i = some g → i ≠ id := fun i g hg he => by subst he; rw [Gh.at_μ] at hg; cases hg
  have hin : ∀ i, i ≠ id → over [(id, Ob.row (v + 1) n e [])] m i ≠ none → m i ≠ none := fun i hi hh => by
    rwa [over_ne (by simpa using fun he => hi he)] at hh
  have hμ : ∀ i, i ≠ id → G1.μ i = G.μ i := fun i hi => (Gh.at_ne G _ _ hi).1
  refine ⟨G2, ⟨fun i o ho => (k1.ob i o ho).ext (e1 _) rfl rfl fun _ _ => rfl, k1.inj, fun i g hi hg => ⟨fun hs => ?_, (k1.apart i g hi hg).2⟩, fun g hg => ?_, k1.keep, k1.os, k1.tape, k1.output, k1.size, fun g hg => .inl (k1.s0 g hg), fun g hg hk => ?_, k1.pin, k1.shp⟩, k2.trans (e1 _), fun u hu => ?_⟩
  · have hi2 := hne i g hg
    rcases hs with hs | hs
    · exact (k1.apart i g hi hg).1 hs
    · have hg' : G.μ i = some g := by rw [← hμ i hi2]; exact hg
      exact hi2 (h.inj i id g (hin i hi2 hi) hidn hg' hs)
  · rcases hg with hg | hg
    · exact k1.low g hg
    · exact (h.ob id _ hm).lt hg
  · rcases hg with hg | hg
    · exact k1.sk g hg hk
    · exact absurd hk (h.apart id g hidn hg).2
  · obtain ⟨v1, v2⟩ := rep_view hu hm
    have := repV_view (Z := G2.S) hrow v2 v1 (fun g hg => .inl hg) (fun g hg => .inr hg)
    rw [cut_all] at this
    exact .v _ _ this
/-- The same operation, its row settled. -/
theorem StepU.settle {o : Oper} {f : Nat → D} {id v n len : Nat} {e : TypeId} {c : List (List V)} {upd : AH} {T : List Nat} (h : StepU X o f m (.view id v 0 len) upd T) (hu : look upd id = some (.row v n e c) := by exact rfl) (hT : id ∈ T := by decide) (hl : len = c.length := by first | rfl | (simp; done)) : StepU X o f m (.v (.sl c)) ((id, .row (v + 1) n e []) :: upd) T := by
  subst hl
  intro f' m' hf hT' hn G w a hO hF K Q hK
  refine h f' m' hf hT' (fun p hp hpT => hn p (List.mem_cons_of_mem _ hp) hpT) G w a hO hF K Q fun G' w' u k1 k2 k3 => ?_
  have hm : over upd m' id = some (.row v n e c) := by unfold over; rw [hu]
  obtain ⟨G2, q1, q2, q3⟩ := k1.settle hm
  have ho : over [(id, Ob.row (v + 1) n e [])] (over upd m') = over ((id, Ob.row (v + 1) n e []) :: upd) m' := by
    funext i
    unfold over
    by_cases hi : id = i
    · subst hi; rw [look_cons_self, look_cons_self]
    · rw [look_cons_ne _ _ hi, look_cons_ne _ _ hi]; rfl
  rw [ho] at q1 q2 q3
  exact hK G2 w' u q1 (k2.trans q2) (q3 u k3)
end
end Go.Proofs.YtnjbfiejgiaibaaGreatDoor

/- Abstract states: code within a fence that lets all in (in a round, too); a round's world. No program, no condition. -/
namespace Go.Proofs.YtnjbfiejgiaibaaGreatDoor
set_option linter.all false
open Go Go.RowKit
/-- The fence that lets all in, in a round or not. -/
def Fw (r : Option Nat) : Fence := { Fence.wide with round := r }
theorem callsFw {r : Option Nat} {n : Nat} {P : Program} {f : FuncId} {args : Array Value} {w : World} {R : Ending → World → Prop} (h : Calls P f args w R) : CallsIn (Fw r) n P f args w R := by
  have h1 : CallsIn Fence.wide n P f args w R := callsIn_wide.2 h
  exact h1
theorem rowsFw {r : Option Nat} {n : Nat} {P : Program} {row : String} {args : Array Value} {w : World} {R : Value → World → Prop} (h : Rows P row args w R) : RowsIn (Fw r) n P row args w R := fun c cs _ => by
  obtain ⟨v, w', h1, h2⟩ := h c cs
  exact ⟨v, w', h1, (stepsIn_wide (P := P)).2 h2⟩
def noDefer (o : Oper) : Bool := match o.op with | .defer _ => false | _ => true
theorem wpFw {r : Option Nat} {P : Program} {o : Oper} {a : Act} {w : World} {K : Act → World → Prop} {Q : Exit → Act → World → Prop} (hd : noDefer o = true) (h : Oper.wp P o a w K Q) : Oper.wpIn (Fw r) 0 P o a w K Q := by
  refine ⟨fun _ _ => trivial, ?_⟩
  have he : o.semAt (Fw r).round a.eval = execOp a.eval o := Oper.semAt_eq _ _ _ fun c hc => by unfold noDefer at hd; rw [hc] at hd; cases hd
  rw [he]
  unfold Oper.wp at h
  generalize (execOp a.eval o).run P w = res at h
  cases res with
  | ok nx w' =>
    cases nx with
    | value v => exact h
    | skip => exact h
    | defer d => exact h
    | enter f args => exact ⟨(fun hh => by cases hh), callsFw h⟩
    | row row args => exact ⟨(fun hh => by cases hh), rowsFw h⟩
    | _ => exact h.elim
  | halt x w' => cases x <;> first | exact h | exact h.elim
section
variable {X : Cx} {Q : AX → Fm → AH → Prop} {fr : Fm} {ah : AH} {r : Option Nat}
def awY (r : Option Nat) (X : Cx) (c : Code) (Q : AX → Fm → AH → Prop) (fr : Fm) (ah : AH) : Prop := ∀ G w a, St X G w a fr ah → c.wpIn (Fw r) 0 X.P (Rel X Q) a w
theorem aw_ofY {c : Code} (h : awY none X c Q fr ah) : aw X c Q fr ah := fun G w a hS => wpIn_wide.1 (h G w a hS)
def awlY (r : Option Nat) (X : Cx) (ops : Array Oper) (K : Fm → AH → Prop) (Q : AX → Fm → AH → Prop) (os : List Oper) (fr : Fm) (ah : AH) : Prop :=
  ∀ G w a, St X G w a fr ah → ∀ R : Exit → Act → World → Prop, (∀ a w, Kont X K a w → R .normal a w) → (∀ c a w, Rel X Q (.panic c) a w → R (.panic c) a w) → wpListIn (Fw r) 0 X.P ops R os a w
theorem awlY_nil {ops : Array Oper} {K : Fm → AH → Prop} (h : K fr ah) : awlY r X ops K Q [] fr ah := fun G w a hS R hR _ => wpListIn_nil (hR a w ⟨G, fr, ah, hS, h⟩)
theorem awlY_step {ops : Array Oper} {K : Fm → AH → Prop} {o : Oper} {os : List Oper} {d : D} {upd : AH} {T : List Nat} (h : Step X ops o fr.at (look ah) d upd T) (hd : dstB X.nt o.dst = true) (hn : freshB upd T ah = true)
    (k : awlY r X ops K Q os (pushF fr o.dst d) (upd ++ ah)) (hnd : noDefer o = true := by rfl) : awlY r X ops K Q (o :: os) fr ah := fun G w a hS R hR hP => by
  have hst := h fr.at (look ah) (fun _ _ => rfl) (fun _ _ => rfl) (fun p hp hT => by
    unfold freshB at hn
    rw [List.all_eq_true] at hn
    have := hn p hp
    simp only [Bool.or_eq_true, List.contains_iff_mem, Option.isNone_iff_eq_none] at this
    rcases this with h | h
    · exact absurd h hT
    · exact h) G w a hS.ok hS.fr (fun a' w' => wpListIn (Fw r) 0 X.P ops R os a' w') R (fun G' w' u h1 h2 h3 => by
      refine k G' w' _ ⟨by rw [over_look] at h1; exact h1, ?_, ?_, ?_⟩ R hR hP
      · rw [pushF_at, ← over_look]
        refine (hS.fr.ext h2).put h3 fun t ht => ?_
        rw [hS.nt]
        rw [ht] at hd
        simpa [dstB] using hd
      · have : ∀ (dst : Option Tmp), (a.put dst u).tmps.size = a.tmps.size := fun dst => by cases dst <;> simp [Act.put]
        rw [this]; exact hS.nt
      · have : ∀ (dst : Option Tmp), (a.put dst u).defers = a.defers := fun dst => by cases dst <;> rfl
        rw [this]; exact hS.df.ext h2)
  unfold wpListIn
  by_cases hw : Region.wanted o (yielded ops a.tmps) = true
  · rw [if_pos hw] at hst ⊢; exact wpFw hnd hst
  · rw [if_neg hw] at hst ⊢; exact ⟨fun _ _ => trivial, hst⟩
/-- A call of yield: a round. -/
theorem awlY_yield {ops : Array Oper} {K : Fm → AH → Prop} {o : Oper} {os : List Oper} {d : D} {upd : AH} {x : Operand} {xs : Array Operand} {tys : Array TypeId} {l : Nat} {args : List D} (ho : o.op = .call { callee := .value x, args := xs, argTypes := tys }) (hg : o.guard = none) (hx : Ev fr.at x (.fn (.yield l) [] [])) (hy : EvL fr.at xs.toList args)
    (hR : ∀ G w us, Ok X G w (look ah) → RepDs G w (look ah) args us → ∃ fn tmps assign body, (Instr.yield l us.toArray).run X.P w = .ok (.round l fn tmps assign body) w ∧
      RoundIn Fence.wide 0 X.P l fn tmps assign body w (fun e w' => ∃ u, e = .returned u ∧ ∃ G', Ok X G' w' (look (upd ++ ah)) ∧ Ext G w (look ah) G' w' (look (upd ++ ah)) ∧ RepD G' w' (look (upd ++ ah)) d u))
    (hd : dstB X.nt o.dst = true) (k : awlY none X ops K Q os (pushF fr o.dst d) (upd ++ ah)) : awlY none X ops K Q (o :: os) fr ah := fun G w a hS R hR' hP => by
  have hA := hy.rep hS.fr (fun y hy t ht => rfl)
  have hfv := ev_at (o := o) hx (by simp [ho, Op.operands, Call.operands]) (fun _ _ => rfl) hS.fr
  obtain ⟨us, vs, hev, h1, h2⟩ := rep_fn hfv
  obtain rfl : us = [] := List.eq_nil_of_length_eq_zero h1.1
  obtain rfl : vs = [] := List.eq_nil_of_length_eq_zero h2.1
  obtain ⟨fn, tmps, assign, body, hyr, hround⟩ := hR G w _ hS.ok hA
  unfold wpListIn
  rw [if_pos (by simp [Region.wanted, hg])]
  refine ⟨fun _ _ => trivial, ?_⟩
  have he : o.semAt (Fw none).round a.eval = execOp a.eval o := rfl
  rw [he]
  have hrun : (execOp a.eval o).run X.P w = .ok (.round l fn tmps assign body) w := by
    rw [← hyr]
    have e1 : xs.map a.eval = (xs.toList.map a.eval).toArray := by rw [← Array.toList_map]
    simp [execOp, ho, resolve, hev, Deferred.ofValue, invoke, e1]
  rw [hrun]
  refine ⟨(fun hh => by cases hh), (hround : RoundIn (Fw none) 0 X.P l fn tmps assign body w _).mono fun e w' ⟨u, he, G', q1, q2, q3⟩ => ?_⟩
  subst he
  refine k G' w' _ ⟨q1, ?_, ?_, ?_⟩ R hR' hP
  · rw [pushF_at]
    refine (hS.fr.ext q2).put q3 fun t ht => ?_
    rw [hS.nt]
    rw [ht] at hd
    simpa [dstB] using hd
  · have : ∀ (dst : Option Tmp), (a.put dst u).tmps.size = a.tmps.size := fun dst => by cases dst <;> simp [Act.put]
    rw [this]; exact hS.nt
  · have : ∀ (dst : Option Tmp), (a.put dst u).defers = a.defers := fun dst => by cases dst <;> rfl
    rw [this]; exact hS.df.ext q2
theorem awY_region_last {id : Nat} {l : List Oper} (h : awlY r X l.toArray (Q .normal) Q l fr ah) : awY r X (.region id l.toArray false) Q fr ah := fun G w a hS =>
  wpIn_region_lit (h G w a hS _ (fun a w hk => hk) (fun c a w hp => hp))
theorem awY_region {id : Nat} {l : List Oper} {rest : Code} (h : ∀ K : Fm → AH → Prop, (∀ fr ah, awY r X rest Q fr ah → K fr ah) → awlY r X l.toArray K Q l fr ah) : awY r X (.seq (.region id l.toArray false) rest) Q fr ah := fun G w a hS =>
  wpIn_seq (wpIn_region_lit (h (fun fr ah => awY r X rest Q fr ah) (fun _ _ h => h) G w a hS _ (fun a w hk => by
    obtain ⟨G', fr', ah', h1, h2⟩ := hk
    exact h2 G' w a h1) (fun c a w hp => hp)))
end
end Go.Proofs.YtnjbfiejgiaibaaGreatDoor
