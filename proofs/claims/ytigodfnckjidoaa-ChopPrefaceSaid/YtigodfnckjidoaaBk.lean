/- Abstract states: a part of a body that only reads, and what follows it, in one. No program, no condition. -/
import Derived.Test.YtigodfnckjidoaaBj
namespace Go.Proofs.Ytigodfnckjidoaa
set_option linter.all false
open Go Go.RowKit
def stillR (T : List Nat) (a : Act) (R : Prop) : AX → Fm → AH → Prop := fun e fr _ => match e with | .normal => SameAt T a fr ∧ R | _ => False
/-- A part of a body that only reads what was there. -/
theorem aw_still2 {X : Cx} {R : Prop} {Q : AX → Fm → AH → Prop} {c : Code} {fr fr1 : Fm} {ah : AH} (T : List Nat) (hT : ∀ t, look fr1 t ≠ none → t ∈ T) (hf : ∀ t d, look fr1 t = some d → look fr t = some d)
    (sub : ∀ (Y : Cx) G w a, St X G w a fr ah → Still Y X w a.defers → ∃ fr0, FrOk (gAll w) w (look []) fr0.at a ∧ aw Y c (stillR T a R) fr0 []) (k : R → Q .normal fr1 ah) : aw X c Q fr ah := fun G w a hS => by
  let Y : Cx := ⟨X.P, X.nt, w, fun k => k < w.heap.size, fun k => k < w.heap.size, 0, fun _ => none, a.defers⟩
  obtain ⟨fr0, h0, hw⟩ := sub Y G w a hS ⟨rfl, rfl, rfl, rfl, rfl, rfl, rfl⟩
  have hO : Ok Y (gAll w) w (look []) := ⟨fun i o h => (by cases h), fun i j k hi => absurd rfl hi, fun i k hi => absurd rfl hi, fun k hk => hk, fun k hk => ⟨hk, rfl⟩, rfl, rfl, rfl, Nat.le_refl _, fun k hk => hk, fun k hk _ => hk, fun i o hi => absurd hi (Nat.not_lt_zero _), hS.ok.shpw.mono fun k hk => Nat.lt_of_lt_of_le (hS.ok.keep k hk).1 hS.ok.size⟩
  refine wp_mono (hw (gAll w) w a ⟨hO, h0, hS.nt, DfOk.nil⟩) fun e a2 w2 q => ?_
  cases e with
  | normal =>
    obtain ⟨G2, fr2, ah2, hS2, hq⟩ := q
    have hk2 : ∀ g, g < w.heap.size → w2.heap[g]? = w.heap[g]? := fun g hg => (hS2.ok.keep g hg).2
    obtain ⟨g1, g2⟩ := hS.ok.grown hk2 hS2.ok.size hS2.ok.os hS2.ok.tape hS2.ok.output
    refine ⟨_, fr1, ah, ⟨g1, fun t => ?_, hS2.nt, ?_⟩, k hq.2⟩
    · unfold Fm.at
      cases ht : look fr1 t with
      | none => exact .any _
      | some d =>
        have h1 := hS2.fr t
        rw [Fm.at_eq (hq.1 t (hT t (by rw [ht]; simp)))] at h1
        rw [rep_lit h1]
        have h2 := hS.fr t
        rw [Fm.at_eq (hf t d ht)] at h2
        exact h2.ext g2
    · obtain ⟨Ds2, d1, d2, d3⟩ := hS2.df
      obtain ⟨Ds, e1, e2, e3⟩ := hS.df
      have d1 : a2.defers = Ds2.map mark ++ a.defers := d1
      refine ⟨Ds2 ++ Ds, by rw [d1, e1, List.map_append, List.append_assoc], ?_, fun D hD => ?_⟩
      · refine List.nodup_append.2 ⟨d2, e2, fun x hx y hy he => ?_⟩
        subst he
        have h1 := (d3 x hx).1
        have h2 := (e3 x hy).2.2
        have h1 : w.heap.size ≤ x := h1
        rw [Array.getElem?_eq_none h1] at h2; cases h2
      · rcases List.mem_append.1 hD with h | h
        · obtain ⟨a1, a2, a3⟩ := d3 D h
          have a1 : w.heap.size ≤ D := a1
          refine ⟨Nat.le_trans hS.ok.size a1, .inr ⟨a1, ?_⟩, a3⟩
          rcases Nat.lt_or_ge D w2.heap.size with h' | h'
          · exact h'
          · rw [Array.getElem?_eq_none h'] at a3; cases a3
        · obtain ⟨a1, a2, a3⟩ := e3 D h
          have hlt : D < w.heap.size := hS.ok.low D a2
          exact ⟨a1, .inl a2, (hk2 D hlt).trans a3⟩
  | exit id => obtain ⟨_, _, _, _, hq⟩ := q; exact hq.elim
  | goto l => obtain ⟨_, _, _, _, hq⟩ := q; exact hq.elim
  | ret => obtain ⟨_, _, _, _, hq⟩ := q; exact hq.elim
  | panic ch => obtain ⟨_, _, _, _, _, _, _, _, hq⟩ := q; exact hq.elim
  | outgrown => exact q
theorem look_keys {α : Type} : ∀ {fr : List (Nat × α)} {t : Nat}, look fr t ≠ none → t ∈ fr.map (·.1)
  | [], t, h => absurd rfl h
  | (k, d) :: r, t, h => by
    by_cases hk : k = t
    · subst hk; exact List.mem_cons_self
    · rw [look_cons_ne _ _ hk] at h; exact List.mem_cons_of_mem _ (look_keys h)
/-- A slot that is known exactly where a guard holds. -/
theorem weak_litC {Y X : Cx} {w : World} {ds : List Deferred} (h : Still Y X w ds) {t : Nat} {u : Value} {d : D} {b : Bool} {fr : Fm} {ah : AH} (hd : RepD (gAll w) w (look []) d u) : Weak Y ((t, .cond b (.v (.lit u))) :: fr) ah ((t, .cond b d) :: fr) ah := fun G2 w2 a hS => by
  refine ⟨G2, hS.ok, fun i => ?_, hS.nt, hS.df⟩
  by_cases hi : t = i
  · subst hi
    have h1 := hS.fr t
    rw [Fm.at_eq (look_cons_self _ _ _)] at h1 ⊢
    generalize a.tmps.getD t undef = z at h1
    cases h1 with
    | cond _ _ _ k k0 =>
      refine .cond _ _ _ (fun e => ?_) k0
      have h2 := rep_lit (k e)
      rw [h2]
      exact hd.ext (still_ext h hS.ok)
  · have h1 := hS.fr i
    unfold Fm.at at h1 ⊢
    rw [look_cons_ne _ _ hi] at h1 ⊢
    exact h1
theorem sameN {a : Act} {fr : Fm} : SameAt [] a fr := fun t h => by cases h
theorem sameC {a : Act} {fr : Fm} {t : Nat} {T : List Nat} (h : look fr t = some (.v (.lit (a.tmps.getD t undef)))) (k : SameAt T a fr) : SameAt (t :: T) a fr := fun i hi => by
  rcases List.mem_cons.1 hi with rfl | hi
  · exact h
  · exact k i hi
/-- What stands in a slot has one cell. -/
theorem fr_one {X : Cx} {G : Gh} {w : World} {a : Act} {fr : Fm} {ah : AH} (hS : St X G w a fr ah) (t : Nat) {d : D} (h : look fr t = some d) (hd : d.one = true) : (a.tmps.getD t undef).oneCell' = true := by
  have h1 := hS.fr t
  rw [Fm.at_eq h] at h1
  exact h1.one hd
end Go.Proofs.Ytigodfnckjidoaa
