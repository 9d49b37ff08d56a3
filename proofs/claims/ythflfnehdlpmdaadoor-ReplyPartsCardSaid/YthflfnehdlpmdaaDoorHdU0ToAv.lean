/- Layer 10: lists compared and measured. No condition. -/
import Derived.Test.YthflfnehdlpmdaaDoorOctDToAt
import Derived.TacticsIn
namespace Go.Proofs.YthflfnehdlpmdaaDoor
set_option linter.all false
open Go Go.RowKit
set_option maxRecDepth 10000
set_option maxHeartbeats 4000000
theorem eqF (f g : Fd) : eqXs f.vs g.vs = decide (f = g) := by
  rw [Bool.eq_iff_iff, decide_eq_true_iff]
  simp only [Fd.vs, eqXs, eqX, Bool.and_eq_true, beq_iff_eq, and_true]
  exact ⟨fun h => Fd.ext' h.1 h.2.1 h.2.2, fun h => by subst h; exact ⟨rfl, rfl, rfl⟩⟩
theorem take_eq_succ {a b : List Fd} {q : Nat} (ha : q < a.length) (hb : q < b.length) (h : a.take q = b.take q) (he : a[q] = b[q]) : a.take (q + 1) = b.take (q + 1) := by
  rw [take_succ' ha, take_succ' hb, h, he]
theorem con_Fields {a b : List Fd} (ha : a.length ≤ 4398046511104) (hb : b.length ≤ 4398046511104) : Con Tryd.prog 21 [.v (.sl (fdV a)), .v (.sl (fdV b))] [] 0 (.ret (.v (.bool (decide (a = b))))) [] := by
  have hfa := fdV_len a
  have hfb := fdV_len b
  refine con_of Tryd.func21 rfl (by show _ ≤ 26; simp) fun X Q hP hnt hnp hret hpan => ?_
  obtain ⟨P0, nt0, w0, K0, S0, np0, pin0, df0⟩ := X
  simp only at hP hnt hnp
  subst hP hnp
  obtain rfl : nt0 = 26 := hnt
  refine aw_region fun K1 hK1 => ?_
  refine aL z_assign ?_
  refine awl_nil (hK1 _ _ ?_)
  clear hK1 K1
  refine aw_seq fun K2 hK2 => ?_
  refine aw_region fun K3 hK3 => ?_
  refine aL z_move ?_
  first
    | refine aL (z_lenB Tryd.underlying26) ?_
    | refine aL (z_len Tryd.underlying26) ?_
    | refine aL (z_lenV Tryd.underlying26) ?_
  refine aL z_move ?_
  first
    | refine aL (z_lenB Tryd.underlying26) ?_
    | refine aL (z_len Tryd.underlying26) ?_
    | refine aL (z_lenV Tryd.underlying26) ?_
  refine aL z_neq ?_
  refine awl_nil (hK3 _ _ ?_)
  clear hK3 K3
  refine aC (fun r1 c1 => ?_) (fun r1 c1 => ?_)
  · refine aw_region fun K4 hK4 => ?_
    refine aL z_assign ?_
    refine awl_nil (hK4 _ _ ?_)
    clear hK4 K4
    refine aw_ret ?_
    refine (hret _ _ _ _ _ rfl (.tmp rfl .nil) rfl ?_ .nil rfl).1
    first
      | (have he : ¬ a = b := (fun h => by subst h; omega); rw [decide_eq_false he]; rfl)
      | (have he : ¬ a = b := (fun h => by have h2 := c3; rw [eqF] at h2; subst h; simp at h2); rw [decide_eq_false he]; rfl)
      | (have he : a = b := (by have hx : q = a.length := (by omega); subst hx; rw [List.take_length, List.take_of_length_le (by omega)] at ht; exact ht); rw [decide_eq_true he]; rfl)
  · refine aw_skip ?_
    refine hK2 _ _ ?_
    clear hK2
    refine aw_seq fun K5 hK5 => ?_
    refine aw_region fun K6 hK6 => ?_
    refine aL z_assign ?_
    refine awl_nil (hK6 _ _ ?_)
    clear hK6 K6
    refine aw_block ?_
    refine aw_loop (α := {x : Nat // x ≤ a.length ∧ a.take x = b.take x}) (fun x => ([(0, .v (.sl (fdV a))), (1, .v (.sl (fdV b))), (5, .v (.int .i64 (x.1 : Int)))], [])) (fun x => a.length - x.1) ⟨0, by omega, rfl⟩ ?_ ?_
    · dsimp only
      exact wK
    · rintro ⟨q, hq, ht⟩ K7 hK7
      dsimp only
      refine aw_seq fun K8 hK8 => ?_
      refine aw_region fun K9 hK9 => ?_
      refine aL z_move ?_
      refine aL z_move ?_
      first
        | refine aL (z_lenB Tryd.underlying26) ?_
        | refine aL (z_len Tryd.underlying26) ?_
        | refine aL (z_lenV Tryd.underlying26) ?_
      refine aL z_lss ?_
      refine awl_nil (hK9 _ _ ?_)
      clear hK9 K9
      refine aC (fun r2 c2 => ?_) (fun r2 c2 => ?_)
      · refine aw_skip ?_
        refine hK8 _ _ ?_
        clear hK8
        refine aw_seq fun K10 hK10 => ?_
        refine aw_block ?_
        refine aw_regionD mx_all (by kernel_rfl) fun K11 hK11 => ?_
        have hla : q < a.length := by omega
        have hlb : q < b.length := by omega
        have hi := fdV_get hla
        have hi2 := fdV_get hlb
        refine aD z_move ?_
        refine aD z_move ?_
        first
          | refine aD (z_indexAddr Tryd.underlying26 sz_47) ?_
          | refine aD (z_indexAddrV Tryd.underlying26 sz_47) ?_
        first
          | refine aD (z_load sz_47) ?_
          | refine aD (z_loadRef sz_47) ?_
          | refine aD (z_loadV sz_47) ?_
        refine aD z_move ?_
        refine aD z_move ?_
        first
          | refine aD (z_indexAddr Tryd.underlying26 sz_47) ?_
          | refine aD (z_indexAddrV Tryd.underlying26 sz_47) ?_
        first
          | refine aD (z_load sz_47) ?_
          | refine aD (z_loadRef sz_47) ?_
          | refine aD (z_loadV sz_47) ?_
        refine aD (z_neqA sk_47) ?_
        refine awd_nil (by kernel_rfl) (hK11 _ _ ?_)
        clear hK11 K11
        refine aC (fun r3 c3 => ?_) (fun r3 c3 => ?_)
        · refine aw_region fun K12 hK12 => ?_
          refine aL z_assign ?_
          refine awl_nil (hK12 _ _ ?_)
          clear hK12 K12
          refine aw_ret ?_
          refine (hret _ _ _ _ _ rfl (.tmp rfl .nil) rfl ?_ .nil rfl).1
          first
            | (have he : ¬ a = b := (fun h => by subst h; omega); rw [decide_eq_false he]; rfl)
            | (have he : ¬ a = b := (fun h => by have h2 := c3; rw [eqF] at h2; subst h; simp at h2); rw [decide_eq_false he]; rfl)
            | (have he : a = b := (by have hx : q = a.length := (by omega); subst hx; rw [List.take_length, List.take_of_length_le (by omega)] at ht; exact ht); rw [decide_eq_true he]; rfl)
        · refine aw_skip ?_
          refine hK10 _ _ ?_
          clear hK10
          refine aw_region_last ?_
          refine aL z_move ?_
          refine aL z_add ?_
          refine aL z_assign ?_
          refine awl_nil ?_
          have he : a[q] = b[q] := (by have h := c3; rw [eqF, decide_eq_true_iff] at h; exact h)
          refine hK7 _ _ ⟨q + 1, by omega, take_eq_succ hla hlb ht he⟩ (by dsimp only; omega) ?_
          dsimp only
          exact wK
      · refine aw_exit ?_
        refine hK5 _ _ ?_
        clear hK5
        refine aw_region fun K13 hK13 => ?_
        refine aL z_assign ?_
        refine awl_nil (hK13 _ _ ?_)
        clear hK13 K13
        refine aw_ret ?_
        refine (hret _ _ _ _ _ rfl (.tmp rfl .nil) rfl ?_ .nil rfl).1
        first
          | (have he : ¬ a = b := (fun h => by subst h; omega); rw [decide_eq_false he]; rfl)
          | (have he : ¬ a = b := (fun h => by have h2 := c3; rw [eqF] at h2; subst h; simp at h2); rw [decide_eq_false he]; rfl)
          | (have he : a = b := (by have hx : q = a.length := (by omega); subst hx; rw [List.take_length, List.take_of_length_le (by omega)] at ht; exact ht); rw [decide_eq_true he]; rfl)
end Go.Proofs.YthflfnehdlpmdaaDoor

/- Abstract states: code within a fence that lets all in (in a round, too); a round's world. No program, no condition. -/
namespace Go.Proofs.YthflfnehdlpmdaaDoor
set_option linter.all false
open Go Go.RowKit
section
variable {X : Cx} {Q : AX → Fm → AH → Prop} {fr : Fm} {ah : AH} {r : Option Nat}
end
end Go.Proofs.YthflfnehdlpmdaaDoor

/- Abstract states: a range over a function: one round; the statement. No program, no condition. -/
namespace Go.Proofs.YthflfnehdlpmdaaDoor
set_option linter.all false
open Go Go.RowKit
/-- Objects that hold what an abstract state speaks of. -/
def Obj.held (o : Obj) : Prop := (∃ cur e z, o = .cells cur e z) ∨ ∃ es c, o = .map es c
theorem kept_held {w w' : World} (h : ∀ (g : Nat) (ob : Obj), w.heap[g]? = some ob → Obj.held ob → w'.heap[g]? = some ob) : CellsKept w w' := fun a v hv => by
  unfold World.cell? at hv ⊢
  cases ho : w.heap[a.block]? with
  | none => rw [ho] at hv; simp at hv
  | some ob =>
    rw [ho] at hv
    have hc : Obj.held ob := by
      cases ob <;> first | exact .inl ⟨_, _, _, rfl⟩ | exact .inr ⟨_, _, rfl⟩ | (simp at hv; done)
    rw [h _ _ ho hc]; exact hv
/-- A state in another context, in a world that has kept what it speaks of. -/
theorem Ok.move {X Y : Cx} {G : Gh} {w w' : World} {m : Mem} (h : Ok X G w m) (hk : ∀ (g : Nat) (ob : Obj), w.heap[g]? = some ob → Obj.held ob → w'.heap[g]? = some ob) (hz : w.heap.size ≤ w'.heap.size)
    (hK : ∀ g, Y.K g → g < Y.w0.heap.size ∧ w'.heap[g]? = Y.w0.heap[g]?) (hap : ∀ i g, m i ≠ none → G.μ i = some g → ¬ Y.K g) (hos : w'.os = Y.w0.os) (htp : w'.tape = Y.w0.tape) (hou : w'.output = Y.w0.output) (hsz : Y.w0.heap.size ≤ w'.heap.size)
    (h0 : ∀ g, Y.S0 g → G.S g) (hsk : ∀ g, G.S g → Y.K g → Y.S0 g) (hpin : ∀ id o, id < Y.np → m id = some o → o.fixed = true → G.μ id = Y.pin id) (hsh : Shp Y.P Y.K Y.w0) : Ok Y G w' m := by
  have hc := kept_held hk
  refine ⟨fun id ob ho => ?_, h.inj, fun i g hi hg => ⟨(h.apart i g hi hg).1, hap i g hi hg⟩, fun g hg => Nat.lt_of_lt_of_le (h.low g hg) hz, hK, hos, htp, hou, hsz, h0, hsk, hpin, hsh⟩
  have h1 := h.ob id ob ho
  cases ob with
  | box cs =>
    obtain ⟨g, us, t, h2, h3, h4, h5⟩ := h1
    exact ⟨g, us, t, h2, hk _ _ h3 (.inl ⟨_, _, _, rfl⟩), h4, h5.1, fun i d u hd hu => (h5.2 i d u hd hu).cells hc⟩
  | row ver n e c =>
    obtain ⟨h2, h3, h4, h5, h6⟩ := h1
    refine ⟨h2, h3, h4, h5, ?_⟩
    rcases h6 with h6 | ⟨g, cur, us, fz, e0', hfz, h7, h8, h9, h10, h11⟩
    · exact .inl h6
    · exact .inr ⟨g, cur, us, fz, e0', hfz, h7, hk _ _ h8 (.inl ⟨_, _, _, rfl⟩), h9, h10, fun i j x hx => (h11 i j x hx).cells hc⟩
  | mp agg l =>
    obtain ⟨g, es, clk, h2, h3, h4, h5⟩ := h1
    refine ⟨g, es, clk, h2, hk _ _ h3 (.inr ⟨_, _, rfl⟩), h4, fun i x e hx he => ?_⟩
    obtain ⟨q1, us, q2, q3, q4, q5⟩ := h5 i x e hx he
    exact ⟨q1, us, q2, q3, q4, fun j y u hy hu => (q5 j y u hy hu).cells hc⟩
end Go.Proofs.YthflfnehdlpmdaaDoor
