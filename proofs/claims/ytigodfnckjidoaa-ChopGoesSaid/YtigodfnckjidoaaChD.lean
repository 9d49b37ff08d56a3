/- Layer 7: the items' function, walked. No condition. -/
import Derived.Test.YtigodfnckjidoaaAzToChC
namespace Go.Proofs.Ytigodfnckjidoaa
set_option linter.all false
open Go Go.RowKit
set_option maxRecDepth 10000
set_option maxHeartbeats 4000000
abbrev itPre (m p : Int) (b : List UInt8) : AH := [(0, .box (fd2 m p b false)), (1, .box [.ptr 0 0]), (2, .box [.view 3 0 0 0]), (3, .row 0 15 42 (itV []))]
abbrev itPost (m p : Int) (l : List Itm) (b : List UInt8) (o : Bool) : AH := [(0, .box (fd2 m p b o)), (1, .box [.ptr 0 0]), (2, .box [.view 3 1 0 l.length]), (3, .row 1 15 42 (itV l))]
theorem take_le (b : List UInt8) (m : Int) : (takeF b m).n ≤ b.length := by
  rcases take_kinds b m with h | ⟨x, h, -, -⟩ | ⟨-, h, -⟩
  · rw [h]; exact Nat.zero_le _
  · rw [h]; exact Nat.zero_le _
  · exact h
theorem noneT_eq (t : Took) : ((t.n : Int) == 0 && !t.x.is) = noneT t := by
  have : ((t.n : Int) == 0) = decide (t.n = 0) := by rw [Bool.eq_iff_iff]; simp
  rw [this]; rfl
theorem overT_eq (t : Took) : (!true || t.x.is && t.x.st == 0) = overT t := rfl
theorem run_items {m p : Int} {b : List UInt8} (hb : b.length ≤ 1000000000) {l g : Nat} {assign body : Code} {K : Nat → Prop} {H : Gh} {w : World} {us : List Value} (hc : RoundC l assign body) (hL : LoopAt l g w assign body) (hK : K l) (hμ : H.μ 2 = some g)
    (hO : Ok ⟨Try.prog, 0, w, K, H.S, 4, H.μ, []⟩ H w (look (itPre m p b))) (hA : RepDs H w (look (itPre m p b)) [.fn (.yield l) [] [], .ptr 1 0] us) {its : List Itm} {lf : List UInt8} {ov : Bool} (hI : itemsM m b = (its, lf, ov)) :
    Calls Try.prog 29 us.toArray w fun e w' => ∃ G', Ok ⟨Try.prog, 0, w, K, H.S, 4, H.μ, []⟩ G' w' (look (itPost m p its lf ov)) ∧ OutAt G' w' (look (itPost m p its lf ov)) (.ret (.tup [])) e := by
  refine run_of hO hA Try.func29 rfl (by show _ ≤ 57; simp) fun X Q hP hnt hnp hX hret hpan => ?_
  obtain ⟨P0, nt0, w0, K0, S0, np0, pin0, df0⟩ := X
  simp only at hP hnt hnp
  subst hP hnp
  obtain rfl : nt0 = 57 := hnt
  obtain ⟨x1, x2, x3, x4⟩ := hX
  simp only at x1 x2 x3 x4
  subst x1 x2 x3
  have hpin : pin0 2 = some g := by rw [x4]; exact hμ
  refine aw_block ?_
  refine aw_loop (α := {x : List Itm × List UInt8 // x.1 ++ (itemsM m x.2).1 = its ∧ (itemsM m x.2).2 = (lf, ov) ∧ x.2.length + 9 * x.1.length ≤ b.length}) (fun x => ([(0, .fn (.yield l) [] []), (1, .ptr 1 0)], [(0, .box (fd2 m p x.1.2 false)), (1, .box [.ptr 0 0]), (2, .box [.view 3 0 0 x.1.1.length]), (3, .row 0 15 42 (itV x.1.1))])) (fun x => x.1.2.length) ⟨([], b), by rw [hI]; exact ⟨rfl, rfl, by simp⟩⟩ ?_ ?_
  · dsimp only
    exact wK
  · rintro ⟨⟨done, bb⟩, hx1, hx2, hx3⟩ K1 hK1
    dsimp only
    dsimp only at hx1 hx2 hx3
    have hn := take_le bb m
    refine aw_block ?_
    refine aw_regionD mx_all (by kernel_rfl) fun K2 hK2 => ?_
    first
      | refine aD (z_load sz_27) ?_
      | refine aD (z_loadRef sz_27) ?_
      | refine aD (z_loadV sz_27) ?_
    refine aD z_nilCheck ?_
    first
      | refine aD (z_fieldAddr fo_54_2) ?_
      | refine aD (z_fieldRef fo_54_2) ?_
      | refine aD (z_fieldV fo_54_2) ?_
    first
      | refine aD (z_load sz_24) ?_
      | refine aD (z_loadRef sz_24) ?_
      | refine aD (z_loadV sz_24) ?_
    first
      | refine aD (z_load sz_27) ?_
      | refine aD (z_loadRef sz_27) ?_
      | refine aD (z_loadV sz_27) ?_
    refine aD z_nilCheck ?_
    first
      | refine aD (z_fieldAddr fo_54_0) ?_
      | refine aD (z_fieldRef fo_54_0) ?_
      | refine aD (z_fieldV fo_54_0) ?_
    first
      | refine aD (z_load sz_3) ?_
      | refine aD (z_loadRef sz_3) ?_
      | refine aD (z_loadV sz_3) ?_
    refine aD (z_call0 (eC (eC .nil)) en_30 (con_frTake (by omega))) ?_
    refine aD z_move ?_
    refine aD z_extract ?_
    refine aD z_extract ?_
    refine aD z_extract ?_
    refine aD (z_alloc 4 zc_40 zl_40) ?_
    refine aD (z_alloc 5 zc_37 zl_37) ?_
    refine aD (z_store sz_40) ?_
    refine aD z_assign ?_
    refine aD (z_store sz_37) ?_
    refine awd_nil (by kernel_rfl) (hK2 _ _ ?_)
    clear hK2 K2
    refine aw_seq fun K3 hK3 => ?_
    refine aw_region fun K4 hK4 => ?_
    refine aL z_move ?_
    refine aL z_eql ?_
    refine aL z_move ?_
    first
      | refine gL rfl rfl (ev_tmp rfl) (fun hg => z_fieldAddr fo_37_0) ?_
      | refine gL rfl rfl (ev_tmp rfl) (fun hg => z_fieldRef fo_37_0) ?_
      | refine gL rfl rfl (ev_tmp rfl) (fun hg => z_fieldV fo_37_0) ?_
      | refine hL rfl rfl (ev_tmp rfl) (fun hg => z_fieldAddr fo_37_0) ?_
      | refine hL rfl rfl (ev_tmp rfl) (fun hg => z_fieldRef fo_37_0) ?_
      | refine hL rfl rfl (ev_tmp rfl) (fun hg => z_fieldV fo_37_0) ?_
    first
      | refine gL rfl rfl (ev_tmp rfl) (fun hg => z_load sz_4) ?_
      | refine gL rfl rfl (ev_tmp rfl) (fun hg => z_loadRef sz_4) ?_
      | refine gL rfl rfl (ev_tmp rfl) (fun hg => z_loadV sz_4) ?_
      | refine hL rfl rfl (ev_tmp rfl) (fun hg => z_load sz_4) ?_
      | refine hL rfl rfl (ev_tmp rfl) (fun hg => z_loadRef sz_4) ?_
      | refine hL rfl rfl (ev_tmp rfl) (fun hg => z_loadV sz_4) ?_
    first
      | refine gL rfl rfl (ev_tmp rfl) (fun hg => z_not) ?_
      | refine hL rfl rfl (ev_tmp rfl) (fun hg => z_not) ?_
    refine aL z_and ?_
    refine awl_nil (hK4 _ _ ?_)
    clear hK4 K4
    refine aC (fun r1 c1 => ?_) (fun r1 c1 => ?_)
    · first
        | (have hh := r2
           have hN : noneT (takeF bb m) = false := (noneT_eq _).symm.trans r1
           have hV : overT (takeF bb m) = true := (overT_eq _).symm.trans r2
           have hO3 : ((takeF bb m).x.is && (takeF bb m).x.st == 0) = true := hV
           rw [hO3]
           rw [items_over hN hV] at hx1 hx2
           dsimp only at hx1 hx2
           injection hx2 with y1 y2
           subst hx1 y1 y2
           refine aw_weak (fr' := []) (ah' := itPost m p (done ++ [itT (takeF bb m)]) (bb.drop (takeF bb m).n) true) wK ?_)
        | (have hN : noneT (takeF bb m) = true := (noneT_eq _).symm.trans r1
           rw [items_none hN] at hx1 hx2
           dsimp only at hx1 hx2
           rw [List.append_nil] at hx1
           injection hx2 with y1 y2
           subst hx1 y1 y2
           refine aw_weak (fr' := []) (ah' := itPost m p done bb false) (Weak.trans (weak_rever 3 1 rfl) wK) ?_)
      refine aw_ret ?_
      refine (hret _ _ _ _ _ rfl .nil rfl ?_ (.box rfl rfl (.box rfl rfl (.box rfl rfl (.row rfl .nil)))) rfl).1
      rfl
    · refine aw_skip ?_
      refine hK3 _ _ ?_
      clear hK3
      refine aw_regionD mx_all (by kernel_rfl) fun K5 hK5 => ?_
      first
        | refine aD (z_load sz_27) ?_
        | refine aD (z_loadRef sz_27) ?_
        | refine aD (z_loadV sz_27) ?_
      first
        | refine aD (z_load sz_27) ?_
        | refine aD (z_loadRef sz_27) ?_
        | refine aD (z_loadV sz_27) ?_
      refine aD z_nilCheck ?_
      first
        | refine aD (z_fieldAddr fo_54_2) ?_
        | refine aD (z_fieldRef fo_54_2) ?_
        | refine aD (z_fieldV fo_54_2) ?_
      first
        | refine aD (z_load sz_24) ?_
        | refine aD (z_loadRef sz_24) ?_
        | refine aD (z_loadV sz_24) ?_
      refine aD z_move ?_
      refine aD (z_slice Try.underlying24 sz_5) ?_
      refine aD z_nilCheck ?_
      first
        | refine aD (z_fieldAddr fo_54_2) ?_
        | refine aD (z_fieldRef fo_54_2) ?_
        | refine aD (z_fieldV fo_54_2) ?_
      refine aD (z_store sz_24) ?_
      refine awd_nil (by kernel_rfl) (hK5 _ _ ?_)
      clear hK5 K5
      refine aw_region fun K6 hK6 => ?_
      first
        | refine aL (z_load sz_27) ?_
        | refine aL (z_loadRef sz_27) ?_
        | refine aL (z_loadV sz_27) ?_
      first
        | refine aL (z_fieldAddr fo_37_0) ?_
        | refine aL (z_fieldRef fo_37_0) ?_
        | refine aL (z_fieldV fo_37_0) ?_
      first
        | refine aL (z_load sz_4) ?_
        | refine aL (z_loadRef sz_4) ?_
        | refine aL (z_loadV sz_4) ?_
      refine aL z_move ?_
      first
        | refine gL rfl rfl (ev_tmp rfl) (fun hg => z_fieldAddr fo_37_2) ?_
        | refine gL rfl rfl (ev_tmp rfl) (fun hg => z_fieldRef fo_37_2) ?_
        | refine gL rfl rfl (ev_tmp rfl) (fun hg => z_fieldV fo_37_2) ?_
        | refine hL rfl rfl (ev_tmp rfl) (fun hg => z_fieldAddr fo_37_2) ?_
        | refine hL rfl rfl (ev_tmp rfl) (fun hg => z_fieldRef fo_37_2) ?_
        | refine hL rfl rfl (ev_tmp rfl) (fun hg => z_fieldV fo_37_2) ?_
      first
        | refine gL rfl rfl (ev_tmp rfl) (fun hg => z_load sz_3) ?_
        | refine gL rfl rfl (ev_tmp rfl) (fun hg => z_loadRef sz_3) ?_
        | refine gL rfl rfl (ev_tmp rfl) (fun hg => z_loadV sz_3) ?_
        | refine hL rfl rfl (ev_tmp rfl) (fun hg => z_load sz_3) ?_
        | refine hL rfl rfl (ev_tmp rfl) (fun hg => z_loadRef sz_3) ?_
        | refine hL rfl rfl (ev_tmp rfl) (fun hg => z_loadV sz_3) ?_
      first
        | refine gL rfl rfl (ev_tmp rfl) (fun hg => z_eql) ?_
        | refine hL rfl rfl (ev_tmp rfl) (fun hg => z_eql) ?_
      refine aL z_and ?_
      refine aL z_nilCheck ?_
      first
        | refine aL (z_fieldAddr fo_54_3) ?_
        | refine aL (z_fieldRef fo_54_3) ?_
        | refine aL (z_fieldV fo_54_3) ?_
      refine aL (z_store sz_4) ?_
      refine awl_nil (hK6 _ _ ?_)
      clear hK6 K6
      refine aw_regionY fun K7 hK7 => ?_
      refine aY z_move ?_
      first
        | refine aY (z_load sz_40) ?_
        | refine aY (z_loadRef sz_40) ?_
        | refine aY (z_loadV sz_40) ?_
      first
        | refine aY (z_load sz_37) ?_
        | refine aY (z_loadRef sz_37) ?_
        | refine aY (z_loadV sz_37) ?_
      refine aY (z_build (pC (pC .nil)) pl_42 zc_42 zl_42) ?_
      refine awlY_yield (upd := [(2, .box [.view 3 1 0 (done ++ [itT (takeF bb m)]).length]), (3, .row 1 15 42 (itV (done ++ [itT (takeF bb m)])))]) (d := .v (.bool true)) (args := [.agg ((itT (takeF bb m)).vs.map .v)]) rfl rfl (ev_tmp rfl) (.cons (ev_tmp rfl) .nil) (yld rfl rfl hL hK hpin hc (by omega) rfl rfl) rfl ?_
      refine aY z_not ?_
      refine aY z_move ?_
      first
        | refine gY rfl rfl (ev_tmp rfl) (fun hg => z_load sz_27) ?_
        | refine gY rfl rfl (ev_tmp rfl) (fun hg => z_loadRef sz_27) ?_
        | refine gY rfl rfl (ev_tmp rfl) (fun hg => z_loadV sz_27) ?_
      refine gY rfl rfl (ev_tmp rfl) (fun hg => z_nilCheck) ?_
      first
        | refine gY rfl rfl (ev_tmp rfl) (fun hg => z_fieldAddr fo_54_3) ?_
        | refine gY rfl rfl (ev_tmp rfl) (fun hg => z_fieldRef fo_54_3) ?_
        | refine gY rfl rfl (ev_tmp rfl) (fun hg => z_fieldV fo_54_3) ?_
      first
        | refine gY rfl rfl (ev_tmp rfl) (fun hg => z_load sz_4) ?_
        | refine gY rfl rfl (ev_tmp rfl) (fun hg => z_loadRef sz_4) ?_
        | refine gY rfl rfl (ev_tmp rfl) (fun hg => z_loadV sz_4) ?_
      refine aY z_or ?_
      refine awlY_nil (hK7 _ _ ?_)
      clear hK7 K7
      refine aC (fun r2 c2 => ?_) (fun r2 c2 => ?_)
      · first
          | (have hh := r2
             have hN : noneT (takeF bb m) = false := (noneT_eq _).symm.trans r1
             have hV : overT (takeF bb m) = true := (overT_eq _).symm.trans r2
             have hO3 : ((takeF bb m).x.is && (takeF bb m).x.st == 0) = true := hV
             rw [hO3]
             rw [items_over hN hV] at hx1 hx2
             dsimp only at hx1 hx2
             injection hx2 with y1 y2
             subst hx1 y1 y2
             refine aw_weak (fr' := []) (ah' := itPost m p (done ++ [itT (takeF bb m)]) (bb.drop (takeF bb m).n) true) wK ?_)
          | (have hN : noneT (takeF bb m) = true := (noneT_eq _).symm.trans r1
             rw [items_none hN] at hx1 hx2
             dsimp only at hx1 hx2
             rw [List.append_nil] at hx1
             injection hx2 with y1 y2
             subst hx1 y1 y2
             refine aw_weak (fr' := []) (ah' := itPost m p done bb false) (Weak.trans (weak_rever 3 1 rfl) wK) ?_)
        refine aw_ret ?_
        refine (hret _ _ _ _ _ rfl .nil rfl ?_ (.box rfl rfl (.box rfl rfl (.box rfl rfl (.row rfl .nil)))) rfl).1
        rfl
      · refine aw_skip ?_
        have hN : noneT (takeF bb m) = false := (noneT_eq _).symm.trans r1
        have hV : overT (takeF bb m) = false := (overT_eq _).symm.trans r2
        have hO3 : ((takeF bb m).x.is && (takeF bb m).x.st == 0) = false := hV
        rw [hO3]
        rw [items_on hN hV] at hx1 hx2
        dsimp only at hx1 hx2
        obtain ⟨h9, h10⟩ := take_on hN hV
        refine hK1 _ _ ⟨(done ++ [itT (takeF bb m)], bb.drop (takeF bb m).n), by simpa using hx1, hx2, by simp; omega⟩ (by simp; omega) ?_
        exact Weak.trans (weak_rever 3 0 rfl) wK
end Go.Proofs.Ytigodfnckjidoaa
