/- Layer 10: contracts of digits and bytes; the greater of two numbers; maps from texts to texts. No condition. -/
import Derived.Test.YthflfnehdlpmdaaDoorHdBToHdM
import Derived.Test.YthflfnehdlpmdaaDoorAu
import Derived.TacticsIn
namespace Go.Proofs.YthflfnehdlpmdaaDoor
set_option linter.all false
open Go Go.RowKit
theorem con_Decimal {l : List UInt8} (hl : l.length ≤ maxLen) : Con Tryd.prog 25 [.v (.str l)] [] 0 (.ret (.tup [.v (.int .i64 (numV 10 l)), .v (.int .i64 (numE 10 l))])) [] :=
  con_pure fun G w us _ hA => by
    obtain rfl := es1 hA
    refine (decimal_any (S l) w (by rw [S_size]; exact hl)).mono fun e w' ⟨he, hw⟩ => ?_
    subst hw
    exact ⟨_, he, fun m => by rw [S_toList]; exact .tup _ [.int .i64 (numV 10 l), .int .i64 (numE 10 l)] rfl (RepDs.cons (mk_int _ _) (.cons (mk_int _ _) .nil)).2, Below.refl _ _⟩
theorem ei2 {G : Gh} {w : World} {m : Mem} {k k' : IntKind} {n n' : Int} {us : List Value} (h : RepDs G w m [.v (.int k n), .v (.int k' n')] us) : us = [.int k n, .int k' n'] := by
  match us, h.1 with
  | [u, v], _ => rw [rep_int (h.2 0 _ u rfl rfl), rep_int (h.2 1 _ v rfl rfl)]
theorem con_rDigits {n : Int} (hn : n ≤ 9223372036854775807) : Con Tryd.prog 13 [.v (.int .i64 n), .v (.int .i64 10)] [] 0 (.ret (.v (.str (digs 10 n)))) [] :=
  con_pure fun G w us _ hA => by
    obtain rfl := ei2 hA
    refine (refDigits_all n hn 10 (.inl rfl) w).mono fun e w' ⟨he, hw⟩ => ?_
    exact ⟨_, he, fun m => mk_str _, hw⟩
end Go.Proofs.YthflfnehdlpmdaaDoor

/- Abstract states: a row settles within a region: an operation whose result is a view of a row hands back what it holds for good; the row begins anew. No program, no condition. -/
namespace Go.Proofs.YthflfnehdlpmdaaDoor
set_option linter.all false
open Go Go.RowKit
section
variable {X : Cx} {G : Gh} {w : World} {m : Mem}
theorem Ok.settle (h : Ok X G w m) {id v n : Nat} {e : TypeId} {c : List (List V)} (hm : m id = some (.row v n e c)) : ∃ G2, Ok X G2 w (over [(id, .row (v + 1) n e [])] m) ∧ Ext G w m G2 w (over [(id, .row (v + 1) n e [])] m) ∧ ∀ u, RepD G w m (.view id v 0 c.length) u → RepD G2 w (over [(id, .row (v + 1) n e [])] m) (.v (.sl c)) u := by
  have hrow : RowAt G w id n e c := h.ob id _ hm
  have hidn : m id ≠ none := by rw [hm]; simp
  obtain ⟨k1, k2⟩ := h.step (G' := G.at_ id none 0) (w' := w) id (.row (v + 1) n e []) rfl (fun i hi => Gh.at_ne G _ _ hi) (fun g hg => by rw [Gh.at_μ] at hg; cases hg) (fun g _ _ => rfl) (Nat.le_refl _) rfl rfl rfl
    (fun o' ho' => by
      rw [hm] at ho'; injection ho' with ho'; subst ho'
      exact ⟨fun cs he => (by cases he), fun ver n' e' c' he => by injection he with a1 a2 a3 a4; subst a1 a2 a3 a4; exact ⟨v + 1, [], rfl, Nat.le_succ _, fun hh => by omega⟩⟩)
    (fun k => ⟨by simp, hrow.2.1, by simp, by rw [Gh.at_cap]; simp [maxLen], .inl ⟨Gh.at_μ _ _ _ _, Gh.at_cap _ _ _ _⟩⟩) (fun cs _ he => by cases he)
  let G1 : Gh := G.at_ id none 0
  let G2 : Gh := { G1 with S := fun g => G.S g ∨ G.μ id = some g }
  have e1 : ∀ m', Ext G1 w m' G2 w m' := fun m' => ⟨fun g hg => ⟨.inl hg, rfl⟩, fun _ cs h => ⟨cs, h, rfl⟩, fun _ ver _ _ c h => ⟨ver, c, h, Nat.le_refl _, fun _ => ⟨Nat.le_refl _, rfl, rfl⟩⟩, fun _ a l h => ⟨a, l, h, rfl⟩⟩
  have hne : ∀ i g, G1.μ i = some g → i ≠ id := fun i g hg he => by subst he; rw [Gh.at_μ] at hg; cases hg
  have hin : ∀ i, i ≠ id → over [(id, Ob.row (v + 1) n e [])] m i ≠ none → m i ≠ none := fun i hi hh => by
    rwa [over_ne (by simpa using fun he => hi he)] at hh
  have hμ : ∀ i, i ≠ id → G1.μ i = G.μ i := fun i hi => (Gh.at_ne G _ _ hi).1
  refine ⟨G2, ⟨fun i o ho => (k1.ob i o ho).ext (e1 _) rfl rfl fun _ _ => rfl, k1.inj, fun i g hi hg => ⟨fun hs => ?_, (k1.apart i g hi hg).2⟩, fun g hg => ?_, k1.keep, k1.os, k1.tape, k1.output, k1.size, fun g hg => .inl (k1.s0 g hg), fun g hg hk => ?_, k1.pin, k1.shp⟩, k2.trans (e1 _), fun u hu => ?_⟩
  · have hi2 := hne i g hg
    rcases hs with hs | hs
    · exact (k1.apart i g hi hg).1 hs
    · have hg' : G.μ i = some g := by rw [← hμ i hi2]; exact hg
      exact hi2 (h.inj i id g (hin i hi2 hi) hidn hg' hs)
  · rcases hg with hg | hg
    · exact k1.low g hg
    · exact (h.ob id _ hm).lt hg
  · rcases hg with hg | hg
    · exact k1.sk g hg hk
    · exact absurd hk (h.apart id g hidn hg).2
  · obtain ⟨v1, v2⟩ := rep_view hu hm
    have := repV_view (Z := G2.S) hrow v2 v1 (fun g hg => .inl hg) (fun g hg => .inr hg)
    rw [cut_all] at this
    exact .v _ _ this
/-- The same operation, its row settled. -/
theorem StepU.settle {o : Oper} {f : Nat → D} {id v n len : Nat} {e : TypeId} {c : List (List V)} {upd : AH} {T : List Nat} (h : StepU X o f m (.view id v 0 len) upd T) (hu : look upd id = some (.row v n e c) := by exact rfl) (hT : id ∈ T := by decide) (hl : len = c.length := by first | rfl | (simp; done)) : StepU X o f m (.v (.sl c)) ((id, .row (v + 1) n e []) :: upd) T := by
  subst hl
  intro f' m' hf hT' hn G w a hO hF K Q hK
  refine h f' m' hf hT' (fun p hp hpT => hn p (List.mem_cons_of_mem _ hp) hpT) G w a hO hF K Q fun G' w' u k1 k2 k3 => ?_
  have hm : over upd m' id = some (.row v n e c) := by unfold over; rw [hu]
  obtain ⟨G2, q1, q2, q3⟩ := k1.settle hm
  have ho : over [(id, Ob.row (v + 1) n e [])] (over upd m') = over ((id, Ob.row (v + 1) n e []) :: upd) m' := by
    funext i
    unfold over
    by_cases hi : id = i
    · subst hi; rw [look_cons_self, look_cons_self]
    · rw [look_cons_ne _ _ hi, look_cons_ne _ _ hi]; rfl
  rw [ho] at q1 q2 q3
  exact hK G2 w' u q1 (k2.trans q2) (q3 u k3)
end
end Go.Proofs.YthflfnehdlpmdaaDoor

/- Layer 10: lists compared and measured. No condition. -/
namespace Go.Proofs.YthflfnehdlpmdaaDoor
set_option linter.all false
open Go Go.RowKit
set_option maxRecDepth 10000
set_option maxHeartbeats 4000000
end Go.Proofs.YthflfnehdlpmdaaDoor

/- Abstract states: code within a fence that lets all in (in a round, too); a round's world. No program, no condition. -/
namespace Go.Proofs.YthflfnehdlpmdaaDoor
set_option linter.all false
open Go Go.RowKit
section
variable {X : Cx} {Q : AX → Fm → AH → Prop} {fr : Fm} {ah : AH} {r : Option Nat}
end
end Go.Proofs.YthflfnehdlpmdaaDoor

/- Abstract states: a range over a function: one round; the statement. No program, no condition. -/
namespace Go.Proofs.YthflfnehdlpmdaaDoor
set_option linter.all false
open Go Go.RowKit
/-- Objects that hold what an abstract state speaks of. -/
def Obj.held (o : Obj) : Prop := (∃ cur e z, o = .cells cur e z) ∨ ∃ es c, o = .map es c
theorem kept_held {w w' : World} (h : ∀ (g : Nat) (ob : Obj), w.heap[g]? = some ob → Obj.held ob → w'.heap[g]? = some ob) : CellsKept w w' := fun a v hv => by
  unfold World.cell? at hv ⊢
  cases ho : w.heap[a.block]? with
  | none => rw [ho] at hv; simp at hv
  | some ob =>
    rw [ho] at hv
    have hc : Obj.held ob := by
      cases ob <;> first | exact .inl ⟨_, _, _, rfl⟩ | exact .inr ⟨_, _, rfl⟩ | (simp at hv; done)
    rw [h _ _ ho hc]; exact hv
/-- A state in another context, in a world that has kept what it speaks of. -/
theorem Ok.move {X Y : Cx} {G : Gh} {w w' : World} {m : Mem} (h : Ok X G w m) (hk : ∀ (g : Nat) (ob : Obj), w.heap[g]? = some ob → Obj.held ob → w'.heap[g]? = some ob) (hz : w.heap.size ≤ w'.heap.size)
    (hK : ∀ g, Y.K g → g < Y.w0.heap.size ∧ w'.heap[g]? = Y.w0.heap[g]?) (hap : ∀ i g, m i ≠ none → G.μ i = some g → ¬ Y.K g) (hos : w'.os = Y.w0.os) (htp : w'.tape = Y.w0.tape) (hou : w'.output = Y.w0.output) (hsz : Y.w0.heap.size ≤ w'.heap.size)
    (h0 : ∀ g, Y.S0 g → G.S g) (hsk : ∀ g, G.S g → Y.K g → Y.S0 g) (hpin : ∀ id o, id < Y.np → m id = some o → o.fixed = true → G.μ id = Y.pin id) (hsh : Shp Y.P Y.K Y.w0) : Ok Y G w' m := by
  have hc := kept_held hk
  refine ⟨fun id ob ho => ?_, h.inj, fun i g hi hg => ⟨(h.apart i g hi hg).1, hap i g hi hg⟩, fun g hg => Nat.lt_of_lt_of_le (h.low g hg) hz, hK, hos, htp, hou, hsz, h0, hsk, hpin, hsh⟩
  have h1 := h.ob id ob ho
  cases ob with
  | box cs =>
    obtain ⟨g, us, t, h2, h3, h4, h5⟩ := h1
    exact ⟨g, us, t, h2, hk _ _ h3 (.inl ⟨_, _, _, rfl⟩), h4, h5.1, fun i d u hd hu => (h5.2 i d u hd hu).cells hc⟩
  | row ver n e c =>
    obtain ⟨h2, h3, h4, h5, h6⟩ := h1
    refine ⟨h2, h3, h4, h5, ?_⟩
    rcases h6 with h6 | ⟨g, cur, us, fz, e0', hfz, h7, h8, h9, h10, h11⟩
    · exact .inl h6
    · exact .inr ⟨g, cur, us, fz, e0', hfz, h7, hk _ _ h8 (.inl ⟨_, _, _, rfl⟩), h9, h10, fun i j x hx => (h11 i j x hx).cells hc⟩
  | mp agg l =>
    obtain ⟨g, es, clk, h2, h3, h4, h5⟩ := h1
    refine ⟨g, es, clk, h2, hk _ _ h3 (.inr ⟨_, _, rfl⟩), h4, fun i x e hx he => ?_⟩
    obtain ⟨q1, us, q2, q3, q4, q5⟩ := h5 i x e hx he
    exact ⟨q1, us, q2, q3, q4, fun j y u hy hu => (q5 j y u hy hu).cells hc⟩
end Go.Proofs.YthflfnehdlpmdaaDoor
