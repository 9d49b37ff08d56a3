/- Layer 7: the items' function, run: a yield is a round. No condition. -/
import Derived.Test.YtigodfnckjidoaaChB
import Derived.Test.YtigodfnckjidoaaAz
namespace Go.Proofs.Ytigodfnckjidoaa
set_option linter.all false
open Go Go.RowKit
set_option maxRecDepth 10000
set_option maxHeartbeats 4000000
abbrev outB (n : Nat) : Ob := .box [.view 1 n 0 0]
/-- What a round finds, what it leaves: the list that is told. -/
abbrev rdPre (l : List Itm) : AH := [(0, .box [.view 1 0 0 l.length]), (1, .row 0 15 42 (itV l))]
abbrev rdPost (l : List Itm) : AH := [(0, .box [.view 1 1 0 l.length]), (1, .row 1 15 42 (itV l))]
/-- The round's code, walked. -/
def RoundC (l : Nat) (assign body : Code) : Prop := ∀ (i : Itm) (done : List Itm), done.length ≤ 1000000000 → ∀ X : Cx, X.P = Try.prog → X.nt = 56 → X.np = 2 →
  awY (some l) X assign (fun e fr ah => e = .normal ∧ ∀ X' : Cx, X'.P = Try.prog → X'.nt = 56 → X'.np = 2 → awY (some l) X' body (fun e fr ah => e = .normal ∧ KeepA ah (dom (rdPost (done ++ [i]))) (rdPost (done ++ [i]))) fr ah) [(35, .agg (i.vs.map .v)), (6, .ptr 0 0)] (rdPre done)
/-- The loop record, as it lies ahead of all rounds. -/
structure LoopAt (l g : Nat) (w : World) (assign body : Code) : Prop where
  at_ : ∃ rec : Loop, w.heap[l]? = some (.loop rec) ∧ rec.state = .ready ∧ rec.pending = none ∧ rec.tmps.size = 56 ∧ rec.tmps.getD 6 undef = .pointer (some ⟨g, 0, none⟩) ∧ rec.params = #[35] ∧ rec.assign = assign ∧ rec.body = body
theorem fold1 (tm : Array Value) (u : Value) : ((#[35] : Array Nat).zip [u].toArray).foldl (fun tmps (t, a) => tmps.setIfInBounds t a) tm = tm.setIfInBounds 35 u := by
  have h : (#[35] : Array Nat).zip [u].toArray = #[(35, u)] := Array.ext' (by simp)
  rw [h]; simp
theorem yld {X : Cx} {ah : AH} {l g : Nat} {assign body : Code} {i : Itm} {done : List Itm} (hP : X.P = Try.prog) (hnp : X.np = 4) (hL : LoopAt l g X.w0 assign body) (hK : X.K l) (hpin : X.pin 2 = some g) (hR : RoundC l assign body) (hd : done.length ≤ 1000000000)
    (hm2 : look ah 2 = some (.box [.view 3 0 0 done.length])) (hm3 : look ah 3 = some (.row 0 15 42 (itV done))) : ∀ G w us, Ok X G w (look ah) → RepDs G w (look ah) [.agg (i.vs.map .v)] us → ∃ fn tmps assign body, (Instr.yield l us.toArray).run X.P w = .ok (.round l fn tmps assign body) w ∧
      RoundIn Fence.wide 0 X.P l fn tmps assign body w (fun e w' => ∃ u, e = .returned u ∧ ∃ G', Ok X G' w' (look ([(2, .box [.view 3 1 0 (done ++ [i]).length]), (3, .row 1 15 42 (itV (done ++ [i])))] ++ ah)) ∧ Ext G w (look ah) G' w' (look ([(2, .box [.view 3 1 0 (done ++ [i]).length]), (3, .row 1 15 42 (itV (done ++ [i])))] ++ ah)) ∧ RepD G' w' (look ([(2, .box [.view 3 1 0 (done ++ [i]).length]), (3, .row 1 15 42 (itV (done ++ [i])))] ++ ah)) (.v (.bool true)) u) := by
  intro G w us hO hA
  obtain ⟨rec, hl, hst, hpe, hsz, h6, hps, has, hbo⟩ := hL.at_
  have hl' : w.heap[l]? = some (.loop rec) := (hO.keep l hK).2.trans hl
  have hg : G.μ 2 = some g := by rw [hO.pin 2 _ (by omega) hm2 rfl, hpin]
  obtain ⟨u, rfl⟩ : ∃ u, us = [u] := by
    have := hA.1
    match us, this with
    | [u], _ => exact ⟨u, rfl⟩
  have main := call_mainR (X := X) (w := w) (m := look ah) (us := [u]) (out := .ret (.v (.bool true))) (args := [.agg (i.vs.map .v)]) (pre := rdPre done) (post := rdPost (done ++ [i])) (np := 2)
    (Run := fun R => ∃ fn tmps assign body, (Instr.yield l [u].toArray).run X.P w = .ok (.round l fn tmps assign body) w ∧ RoundIn Fence.wide 0 X.P l fn tmps assign body w R)
    (fun R R' h hc => by
      obtain ⟨a, b, c, d, h1, h2⟩ := hc
      exact ⟨a, b, c, d, h1, h2.mono h⟩) [2, 3]
    (fun K H h1 h2 h3 h4 h5 hOk hAr => by
      refine round_run (nt := 56) (np := 2) (fr0 := [(35, .agg (i.vs.map .v)), (6, .ptr 0 0)]) (pre := rdPre done) (post := rdPost (done ++ [i])) hl' (h1 l hK) hst hpe (by rw [hps]; rfl) hOk (fun t => ?_) ?_ ?_
      · rw [hps]
        dsimp only
        rw [fold1]
        by_cases ht : t = 35
        · subst ht
          have e : (rec.tmps.setIfInBounds 35 u).getD 35 undef = u := by simp [hsz]
          rw [e]
          exact hAr.2 0 _ u rfl rfl
        · by_cases ht6 : t = 6
          · subst ht6
            have e : (rec.tmps.setIfInBounds 35 u).getD 6 undef = rec.tmps.getD 6 undef := by simp
            rw [e, h6]
            exact .ptr 0 0 g [.view 1 0 0 done.length] rfl (by rw [h4]; exact hg)
          · have e : Fm.at [(35, D.agg (i.vs.map .v)), (6, .ptr 0 0)] t = .any := by
              unfold Fm.at; rw [look_cons_ne _ _ (by omega), look_cons_ne _ _ (by omega)]; rfl
            rw [e]; exact .any _
      · rw [hps, fold1]
        simp [hsz]
      · intro X1 e1 e2 e3
        rw [has, hbo]
        have := hR i done hd X1 (e1.trans hP) e2 e3
        rw [hP]
        exact this)
    rfl (by rw [hnp]; rfl) hO (fun j o hj => by
      match j, hj with
      | 0, hj => injection hj with hj; subst hj; exact hm2
      | 1, hj => injection hj with hj; subst hj; exact hm3)
    (fun j h1 h2 => by
      match j, h1, h2 with
      | 0, _, h2 => cases h2
      | 1, _, h2 => cases h2) (preLive_of rfl) rfl hA
  obtain ⟨a, b, c, d, h1, h2⟩ := main
  refine ⟨a, b, c, d, h1, h2.mono fun e w' ⟨G', q1, q2, q3⟩ => ?_⟩
  rw [over_look] at q1 q2 q3
  cases e with
  | returned v => exact ⟨v, rfl, G', q1, q2, q3⟩
  | panicked c => exact q3.elim
  | outgrown => exact q3.elim
end Go.Proofs.Ytigodfnckjidoaa
