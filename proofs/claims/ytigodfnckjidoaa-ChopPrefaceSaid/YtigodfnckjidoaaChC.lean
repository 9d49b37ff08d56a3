/- Layer 7: the items' function, run: a yield is a round. No condition. -/
import Derived.Test.YtigodfnckjidoaaChA
import Derived.Test.YtigodfnckjidoaaAz
namespace Go.Proofs.Ytigodfnckjidoaa
set_option linter.all false
open Go Go.RowKit
set_option maxRecDepth 10000
set_option maxHeartbeats 4000000
abbrev outB (n : Nat) : Ob := .box [.view 1 n 0 0]
/-- What a round finds, what it leaves: the list that is told. -/
abbrev rdPre (l : List Itm) : AH := [(0, .box [.view 1 0 0 l.length]), (1, .row 0 15 42 (itV l))]
abbrev rdPost (l : List Itm) : AH := [(0, .box [.view 1 1 0 l.length]), (1, .row 1 15 42 (itV l))]
/-- The round's code, walked. -/
def RoundC (l : Nat) (assign body : Code) : Prop := ∀ (i : Itm) (done : List Itm), done.length ≤ 1000000000 → ∀ X : Cx, X.P = Try.prog → X.nt = 56 → X.np = 2 →
  awY (some l) X assign (fun e fr ah => e = .normal ∧ ∀ X' : Cx, X'.P = Try.prog → X'.nt = 56 → X'.np = 2 → awY (some l) X' body (fun e fr ah => e = .normal ∧ KeepA ah (dom (rdPost (done ++ [i]))) (rdPost (done ++ [i]))) fr ah) [(35, .agg (i.vs.map .v)), (6, .ptr 0 0)] (rdPre done)
/-- The loop record, as it lies ahead of all rounds. -/
structure LoopAt (l g : Nat) (w : World) (assign body : Code) : Prop where
  at_ : ∃ rec : Loop, w.heap[l]? = some (.loop rec) ∧ rec.state = .ready ∧ rec.pending = none ∧ rec.tmps.size = 56 ∧ rec.tmps.getD 6 undef = .pointer (some ⟨g, 0, none⟩) ∧ rec.params = #[35] ∧ rec.assign = assign ∧ rec.body = body
theorem fold1 (tm : Array Value) (u : Value) : ((#[35] : Array Nat).zip [u].toArray).foldl (fun tmps (t, a) => tmps.setIfInBounds t a) tm = tm.setIfInBounds 35 u := by
  have h : (#[35] : Array Nat).zip [u].toArray = #[(35, u)] := Array.ext' (by simp)
  rw [h]; simp
theorem yld {X : Cx} {ah : AH} {l g : Nat} {assign body : Code} {i : Itm} {done : List Itm} (hP : X.P = Try.prog) (hnp : X.np = 4) (hL : LoopAt l g X.w0 assign body) (hK : X.K l) (hpin : X.pin 2 = some g) (hR : RoundC l assign body) (hd : done.length ≤ 1000000000)
    (hm2 : look ah 2 = some (.box [.view 3 0 0 done.length])) (hm3 : look ah 3 = some (.row 0 15 42 (itV done))) : ∀ G w us, Ok X G w (look ah) → RepDs G w (look ah) [.agg (i.vs.map .v)] us → ∃ fn tmps assign body, (Instr.yield l us.toArray).run X.P w = .ok (.round l fn tmps assign body) w ∧
      RoundIn Fence.wide 0 X.P l fn tmps assign body w (fun e w' => ∃ u, e = .returned u ∧ ∃ G', Ok X G' w' (look ([(2, .box [.view 3 1 0 (done ++ [i]).length]), (3, .row 1 15 42 (itV (done ++ [i])))] ++ ah)) ∧ Ext G w (look ah) G' w' (look ([(2, .box [.view 3 1 0 (done ++ [i]).length]), (3, .row 1 15 42 (itV (done ++ [i])))] ++ ah)) ∧ RepD G' w' (look ([(2, .box [.view 3 1 0 (done ++ [i]).length]), (3, .row 1 15 42 (itV (done ++ [i])))] ++ ah)) (.v (.bool true)) u) := by
  intro G w us hO hA
  obtain ⟨rec, hl, hst, hpe, hsz, h6, hps, has, hbo⟩ := hL.at_
  have hl' : w.heap[l]? = some (.loop rec) := (hO.keep l hK).2.trans hl
  have hg : G.μ 2 = some g := by rw [hO.pin 2 _ (by omega) hm2 rfl, hpin]
  obtain ⟨u, rfl⟩ : ∃ u, us = [u] := by
    have := hA.1
    match us, this with
    | [u], _ => exact ⟨u, rfl⟩
  have main := call_mainR (X := X) (w := w) (m := look ah) (us := [u]) (out := .ret (.v (.bool true))) (args := [.agg (i.vs.map .v)]) (pre := rdPre done) (post := rdPost (done ++ [i])) (np := 2)
    (Run := fun R => ∃ fn tmps assign body, (Instr.yield l [u].toArray).run X.P w = .ok (.round l fn tmps assign body) w ∧ RoundIn Fence.wide 0 X.P l fn tmps assign body w R)
    (fun R R' h hc => by
      obtain ⟨a, b, c, d, h1, h2⟩ := hc
      exact ⟨a, b, c, d, h1, h2.mono h⟩) [2, 3]
    (fun K H h1 h2 h3 h4 h5 hOk hAr => by
      refine round_run (nt := 56) (np := 2) (fr0 := [(35, .agg (i.vs.map .v)), (6, .ptr 0 0)]) (pre := rdPre done) (post := rdPost (done ++ [i])) hl' (h1 l hK) hst hpe (by rw [hps]; rfl) hOk (fun t => ?_) ?_ ?_
      · rw [hps]
        dsimp only
        rw [fold1]
        by_cases ht : t = 35
        · subst ht
          have e : (rec.tmps.setIfInBounds 35 u).getD 35 undef = u := by simp [hsz]
          rw [e]
          exact hAr.2 0 _ u rfl rfl
        · by_cases ht6 : t = 6
          · subst ht6
            have e : (rec.tmps.setIfInBounds 35 u).getD 6 undef = rec.tmps.getD 6 undef := by simp
            rw [e, h6]
            exact .ptr 0 0 g [.view 1 0 0 done.length] rfl (by rw [h4]; exact hg)
          · have e : Fm.at [(35, D.agg (i.vs.map .v)), (6, .ptr 0 0)] t = .any := by
              unfold Fm.at; rw [look_cons_ne _ _ (by omega), look_cons_ne _ _ (by omega)]; rfl
            rw [e]; exact .any _
      · rw [hps, fold1]
        simp [hsz]
      · intro X1 e1 e2 e3
        rw [has, hbo]
        have := hR i done hd X1 (e1.trans hP) e2 e3
        rw [hP]
        exact this)
    rfl (by rw [hnp]; rfl) hO (fun j o hj => by
      match j, hj with
      | 0, hj => injection hj with hj; subst hj; exact hm2
      | 1, hj => injection hj with hj; subst hj; exact hm3)
    (fun j h1 h2 => by
      match j, h1, h2 with
      | 0, _, h2 => cases h2
      | 1, _, h2 => cases h2) (preLive_of rfl) rfl hA
  obtain ⟨a, b, c, d, h1, h2⟩ := main
  refine ⟨a, b, c, d, h1, h2.mono fun e w' ⟨G', q1, q2, q3⟩ => ?_⟩
  rw [over_look] at q1 q2 q3
  cases e with
  | returned v => exact ⟨v, rfl, G', q1, q2, q3⟩
  | panicked c => exact q3.elim
  | outgrown => exact q3.elim
end Go.Proofs.Ytigodfnckjidoaa
/- Layer 7: the items' function, walked. No condition. -/
namespace Go.Proofs.Ytigodfnckjidoaa
set_option linter.all false
open Go Go.RowKit
set_option maxRecDepth 10000
set_option maxHeartbeats 4000000
abbrev itPre (m p : Int) (b : List UInt8) : AH := [(0, .box (fd2 m p b false)), (1, .box [.ptr 0 0]), (2, .box [.view 3 0 0 0]), (3, .row 0 15 42 (itV []))]
abbrev itPost (m p : Int) (l : List Itm) (b : List UInt8) (o : Bool) : AH := [(0, .box (fd2 m p b o)), (1, .box [.ptr 0 0]), (2, .box [.view 3 1 0 l.length]), (3, .row 1 15 42 (itV l))]
theorem take_le (b : List UInt8) (m : Int) : (takeF b m).n ≤ b.length := by
  rcases take_kinds b m with h | ⟨x, h, -, -⟩ | ⟨-, h, -⟩
  · rw [h]; exact Nat.zero_le _
  · rw [h]; exact Nat.zero_le _
  · exact h
theorem noneT_eq (t : Took) : ((t.n : Int) == 0 && !t.x.is) = noneT t := by
  have : ((t.n : Int) == 0) = decide (t.n = 0) := by rw [Bool.eq_iff_iff]; simp
  rw [this]; rfl
theorem overT_eq (t : Took) : (!true || t.x.is && t.x.st == 0) = overT t := rfl
theorem run_items {m p : Int} {b : List UInt8} (hb : b.length ≤ 1000000000) {l g : Nat} {assign body : Code} {K : Nat → Prop} {H : Gh} {w : World} {us : List Value} (hc : RoundC l assign body) (hL : LoopAt l g w assign body) (hK : K l) (hμ : H.μ 2 = some g)
    (hO : Ok ⟨Try.prog, 0, w, K, H.S, 4, H.μ, []⟩ H w (look (itPre m p b))) (hA : RepDs H w (look (itPre m p b)) [.fn (.yield l) [] [], .ptr 1 0] us) {its : List Itm} {lf : List UInt8} {ov : Bool} (hI : itemsM m b = (its, lf, ov)) :
    Calls Try.prog 29 us.toArray w fun e w' => ∃ G', Ok ⟨Try.prog, 0, w, K, H.S, 4, H.μ, []⟩ G' w' (look (itPost m p its lf ov)) ∧ OutAt G' w' (look (itPost m p its lf ov)) (.ret (.tup [])) e := by
  refine run_of hO hA Try.func29 rfl (by show _ ≤ 57; simp) fun X Q hP hnt hnp hX hret hpan => ?_
  obtain ⟨P0, nt0, w0, K0, S0, np0, pin0, df0⟩ := X
  simp only at hP hnt hnp
  subst hP hnp
  obtain rfl : nt0 = 57 := hnt
  obtain ⟨x1, x2, x3, x4⟩ := hX
  simp only at x1 x2 x3 x4
  subst x1 x2 x3
  have hpin : pin0 2 = some g := by rw [x4]; exact hμ
  refine aw_block ?_
  refine aw_loop (α := {x : List Itm × List UInt8 // x.1 ++ (itemsM m x.2).1 = its ∧ (itemsM m x.2).2 = (lf, ov) ∧ x.2.length + 9 * x.1.length ≤ b.length}) (fun x => ([(0, .fn (.yield l) [] []), (1, .ptr 1 0)], [(0, .box (fd2 m p x.1.2 false)), (1, .box [.ptr 0 0]), (2, .box [.view 3 0 0 x.1.1.length]), (3, .row 0 15 42 (itV x.1.1))])) (fun x => x.1.2.length) ⟨([], b), by rw [hI]; exact ⟨rfl, rfl, by simp⟩⟩ ?_ ?_
  · dsimp only
    exact wK
  · rintro ⟨⟨done, bb⟩, hx1, hx2, hx3⟩ K1 hK1
    dsimp only
    dsimp only at hx1 hx2 hx3
    have hn := take_le bb m
    refine aw_block ?_
    refine aw_regionD mx_all (by kernel_rfl) fun K2 hK2 => ?_
    first
      | refine aD (z_load sz_27) ?_
      | refine aD (z_loadRef sz_27) ?_
      | refine aD (z_loadV sz_27) ?_
    refine aD z_nilCheck ?_
    first
      | refine aD (z_fieldAddr fo_54_2) ?_
      | refine aD (z_fieldRef fo_54_2) ?_
      | refine aD (z_fieldV fo_54_2) ?_
    first
      | refine aD (z_load sz_24) ?_
      | refine aD (z_loadRef sz_24) ?_
      | refine aD (z_loadV sz_24) ?_
    first
      | refine aD (z_load sz_27) ?_
      | refine aD (z_loadRef sz_27) ?_
      | refine aD (z_loadV sz_27) ?_
    refine aD z_nilCheck ?_
    first
      | refine aD (z_fieldAddr fo_54_0) ?_
      | refine aD (z_fieldRef fo_54_0) ?_
      | refine aD (z_fieldV fo_54_0) ?_
    first
      | refine aD (z_load sz_3) ?_
      | refine aD (z_loadRef sz_3) ?_
      | refine aD (z_loadV sz_3) ?_
    refine aD (z_call0 (eC (eC .nil)) en_30 (con_frTake (by omega))) ?_
    refine aD z_move ?_
    refine aD z_extract ?_
    refine aD z_extract ?_
    refine aD z_extract ?_
    refine aD (z_alloc 4 zc_40 zl_40) ?_
    refine aD (z_alloc 5 zc_37 zl_37) ?_
    refine aD (z_store sz_40) ?_
    refine aD z_assign ?_
    refine aD (z_store sz_37) ?_
    refine awd_nil (by kernel_rfl) (hK2 _ _ ?_)
    clear hK2 K2
    refine aw_seq fun K3 hK3 => ?_
    refine aw_region fun K4 hK4 => ?_
    refine aL z_move ?_
    refine aL z_eql ?_
    refine aL z_move ?_
    first
      | refine gL rfl rfl (ev_tmp rfl) (fun hg => z_fieldAddr fo_37_0) ?_
      | refine gL rfl rfl (ev_tmp rfl) (fun hg => z_fieldRef fo_37_0) ?_
      | refine gL rfl rfl (ev_tmp rfl) (fun hg => z_fieldV fo_37_0) ?_
      | refine hL rfl rfl (ev_tmp rfl) (fun hg => z_fieldAddr fo_37_0) ?_
      | refine hL rfl rfl (ev_tmp rfl) (fun hg => z_fieldRef fo_37_0) ?_
      | refine hL rfl rfl (ev_tmp rfl) (fun hg => z_fieldV fo_37_0) ?_
    first
      | refine gL rfl rfl (ev_tmp rfl) (fun hg => z_load sz_4) ?_
      | refine gL rfl rfl (ev_tmp rfl) (fun hg => z_loadRef sz_4) ?_
      | refine gL rfl rfl (ev_tmp rfl) (fun hg => z_loadV sz_4) ?_
      | refine hL rfl rfl (ev_tmp rfl) (fun hg => z_load sz_4) ?_
      | refine hL rfl rfl (ev_tmp rfl) (fun hg => z_loadRef sz_4) ?_
      | refine hL rfl rfl (ev_tmp rfl) (fun hg => z_loadV sz_4) ?_
    first
      | refine gL rfl rfl (ev_tmp rfl) (fun hg => z_not) ?_
      | refine hL rfl rfl (ev_tmp rfl) (fun hg => z_not) ?_
    refine aL z_and ?_
    refine awl_nil (hK4 _ _ ?_)
    clear hK4 K4
    refine aC (fun r1 c1 => ?_) (fun r1 c1 => ?_)
    · first
        | (have hh := r2
           have hN : noneT (takeF bb m) = false := (noneT_eq _).symm.trans r1
           have hV : overT (takeF bb m) = true := (overT_eq _).symm.trans r2
           have hO3 : ((takeF bb m).x.is && (takeF bb m).x.st == 0) = true := hV
           rw [hO3]
           rw [items_over hN hV] at hx1 hx2
           dsimp only at hx1 hx2
           injection hx2 with y1 y2
           subst hx1 y1 y2
           refine aw_weak (fr' := []) (ah' := itPost m p (done ++ [itT (takeF bb m)]) (bb.drop (takeF bb m).n) true) wK ?_)
        | (have hN : noneT (takeF bb m) = true := (noneT_eq _).symm.trans r1
           rw [items_none hN] at hx1 hx2
           dsimp only at hx1 hx2
           rw [List.append_nil] at hx1
           injection hx2 with y1 y2
           subst hx1 y1 y2
           refine aw_weak (fr' := []) (ah' := itPost m p done bb false) (Weak.trans (weak_rever 3 1 rfl) wK) ?_)
      refine aw_ret ?_
      refine (hret _ _ _ _ _ rfl .nil rfl ?_ (.box rfl rfl (.box rfl rfl (.box rfl rfl (.row rfl .nil)))) rfl).1
      rfl
    · refine aw_skip ?_
      refine hK3 _ _ ?_
      clear hK3
      refine aw_regionD mx_all (by kernel_rfl) fun K5 hK5 => ?_
      first
        | refine aD (z_load sz_27) ?_
        | refine aD (z_loadRef sz_27) ?_
        | refine aD (z_loadV sz_27) ?_
      first
        | refine aD (z_load sz_27) ?_
        | refine aD (z_loadRef sz_27) ?_
        | refine aD (z_loadV sz_27) ?_
      refine aD z_nilCheck ?_
      first
        | refine aD (z_fieldAddr fo_54_2) ?_
        | refine aD (z_fieldRef fo_54_2) ?_
        | refine aD (z_fieldV fo_54_2) ?_
      first
        | refine aD (z_load sz_24) ?_
        | refine aD (z_loadRef sz_24) ?_
        | refine aD (z_loadV sz_24) ?_
      refine aD z_move ?_
      refine aD (z_slice Try.underlying24 sz_5) ?_
      refine aD z_nilCheck ?_
      first
        | refine aD (z_fieldAddr fo_54_2) ?_
        | refine aD (z_fieldRef fo_54_2) ?_
        | refine aD (z_fieldV fo_54_2) ?_
      refine aD (z_store sz_24) ?_
      refine awd_nil (by kernel_rfl) (hK5 _ _ ?_)
      clear hK5 K5
      refine aw_region fun K6 hK6 => ?_
      first
        | refine aL (z_load sz_27) ?_
        | refine aL (z_loadRef sz_27) ?_
        | refine aL (z_loadV sz_27) ?_
      first
        | refine aL (z_fieldAddr fo_37_0) ?_
        | refine aL (z_fieldRef fo_37_0) ?_
        | refine aL (z_fieldV fo_37_0) ?_
      first
        | refine aL (z_load sz_4) ?_
        | refine aL (z_loadRef sz_4) ?_
        | refine aL (z_loadV sz_4) ?_
      refine aL z_move ?_
      first
        | refine gL rfl rfl (ev_tmp rfl) (fun hg => z_fieldAddr fo_37_2) ?_
        | refine gL rfl rfl (ev_tmp rfl) (fun hg => z_fieldRef fo_37_2) ?_
        | refine gL rfl rfl (ev_tmp rfl) (fun hg => z_fieldV fo_37_2) ?_
        | refine hL rfl rfl (ev_tmp rfl) (fun hg => z_fieldAddr fo_37_2) ?_
        | refine hL rfl rfl (ev_tmp rfl) (fun hg => z_fieldRef fo_37_2) ?_
        | refine hL rfl rfl (ev_tmp rfl) (fun hg => z_fieldV fo_37_2) ?_
      first
        | refine gL rfl rfl (ev_tmp rfl) (fun hg => z_load sz_3) ?_
        | refine gL rfl rfl (ev_tmp rfl) (fun hg => z_loadRef sz_3) ?_
        | refine gL rfl rfl (ev_tmp rfl) (fun hg => z_loadV sz_3) ?_
        | refine hL rfl rfl (ev_tmp rfl) (fun hg => z_load sz_3) ?_
        | refine hL rfl rfl (ev_tmp rfl) (fun hg => z_loadRef sz_3) ?_
        | refine hL rfl rfl (ev_tmp rfl) (fun hg => z_loadV sz_3) ?_
      first
        | refine gL rfl rfl (ev_tmp rfl) (fun hg => z_eql) ?_
        | refine hL rfl rfl (ev_tmp rfl) (fun hg => z_eql) ?_
      refine aL z_and ?_
      refine aL z_nilCheck ?_
      first
        | refine aL (z_fieldAddr fo_54_3) ?_
        | refine aL (z_fieldRef fo_54_3) ?_
        | refine aL (z_fieldV fo_54_3) ?_
      refine aL (z_store sz_4) ?_
      refine awl_nil (hK6 _ _ ?_)
      clear hK6 K6
      refine aw_regionY fun K7 hK7 => ?_
      refine aY z_move ?_
      first
        | refine aY (z_load sz_40) ?_
        | refine aY (z_loadRef sz_40) ?_
        | refine aY (z_loadV sz_40) ?_
      first
        | refine aY (z_load sz_37) ?_
        | refine aY (z_loadRef sz_37) ?_
        | refine aY (z_loadV sz_37) ?_
      refine aY (z_build (pC (pC .nil)) pl_42 zc_42 zl_42) ?_
      refine awlY_yield (upd := [(2, .box [.view 3 1 0 (done ++ [itT (takeF bb m)]).length]), (3, .row 1 15 42 (itV (done ++ [itT (takeF bb m)])))]) (d := .v (.bool true)) (args := [.agg ((itT (takeF bb m)).vs.map .v)]) rfl rfl (ev_tmp rfl) (.cons (ev_tmp rfl) .nil) (yld rfl rfl hL hK hpin hc (by omega) rfl rfl) rfl ?_
      refine aY z_not ?_
      refine aY z_move ?_
      first
        | refine gY rfl rfl (ev_tmp rfl) (fun hg => z_load sz_27) ?_
        | refine gY rfl rfl (ev_tmp rfl) (fun hg => z_loadRef sz_27) ?_
        | refine gY rfl rfl (ev_tmp rfl) (fun hg => z_loadV sz_27) ?_
      refine gY rfl rfl (ev_tmp rfl) (fun hg => z_nilCheck) ?_
      first
        | refine gY rfl rfl (ev_tmp rfl) (fun hg => z_fieldAddr fo_54_3) ?_
        | refine gY rfl rfl (ev_tmp rfl) (fun hg => z_fieldRef fo_54_3) ?_
        | refine gY rfl rfl (ev_tmp rfl) (fun hg => z_fieldV fo_54_3) ?_
      first
        | refine gY rfl rfl (ev_tmp rfl) (fun hg => z_load sz_4) ?_
        | refine gY rfl rfl (ev_tmp rfl) (fun hg => z_loadRef sz_4) ?_
        | refine gY rfl rfl (ev_tmp rfl) (fun hg => z_loadV sz_4) ?_
      refine aY z_or ?_
      refine awlY_nil (hK7 _ _ ?_)
      clear hK7 K7
      refine aC (fun r2 c2 => ?_) (fun r2 c2 => ?_)
      · first
          | (have hh := r2
             have hN : noneT (takeF bb m) = false := (noneT_eq _).symm.trans r1
             have hV : overT (takeF bb m) = true := (overT_eq _).symm.trans r2
             have hO3 : ((takeF bb m).x.is && (takeF bb m).x.st == 0) = true := hV
             rw [hO3]
             rw [items_over hN hV] at hx1 hx2
             dsimp only at hx1 hx2
             injection hx2 with y1 y2
             subst hx1 y1 y2
             refine aw_weak (fr' := []) (ah' := itPost m p (done ++ [itT (takeF bb m)]) (bb.drop (takeF bb m).n) true) wK ?_)
          | (have hN : noneT (takeF bb m) = true := (noneT_eq _).symm.trans r1
             rw [items_none hN] at hx1 hx2
             dsimp only at hx1 hx2
             rw [List.append_nil] at hx1
             injection hx2 with y1 y2
             subst hx1 y1 y2
             refine aw_weak (fr' := []) (ah' := itPost m p done bb false) (Weak.trans (weak_rever 3 1 rfl) wK) ?_)
        refine aw_ret ?_
        refine (hret _ _ _ _ _ rfl .nil rfl ?_ (.box rfl rfl (.box rfl rfl (.box rfl rfl (.row rfl .nil)))) rfl).1
        rfl
      · refine aw_skip ?_
        have hN : noneT (takeF bb m) = false := (noneT_eq _).symm.trans r1
        have hV : overT (takeF bb m) = false := (overT_eq _).symm.trans r2
        have hO3 : ((takeF bb m).x.is && (takeF bb m).x.st == 0) = false := hV
        rw [hO3]
        rw [items_on hN hV] at hx1 hx2
        dsimp only at hx1 hx2
        obtain ⟨h9, h10⟩ := take_on hN hV
        refine hK1 _ _ ⟨(done ++ [itT (takeF bb m)], bb.drop (takeF bb m).n), by simpa using hx1, hx2, by simp; omega⟩ (by simp; omega) ?_
        exact Weak.trans (weak_rever 3 0 rfl) wK
end Go.Proofs.Ytigodfnckjidoaa
