/- Chapter 15: a call of what a parser waits for; the deferred closure. No condition but on lengths. -/
import Derived.Test.YthflfnehdlpmdaaDoorRpJ
namespace Go.Proofs.YthflfnehdlpmdaaDoor
set_option linter.all false
open Go Go.RowKit
set_option maxRecDepth 10000
set_option maxHeartbeats 4000000
theorem nil_sl {G : Gh} {w : World} {m : Mem} {u : Value} (h : RepD G w m NIL u) : RepD G w m (.v (.sl [])) u := by
  obtain rfl := rep_nil h
  exact .v _ _ (.nil none 0 (by decide))
section
variable {X : Cx} {f : Nat → D} {m : Mem} {dst : Option Tmp} {ty : TypeId} {ps : String} {af : Array Edge} {gd : Option (Nat × Bool)}
theorem z_neqN {x : Operand} {s t' : TypeId} {ms : Array (String × TypeId)} (hs : X.P.underlying s = some (.interface ms)) (hx : Ev f x (.v (.lit .nilIface)) := by exact ev_tmp rfl) :
    StepU X ⟨dst, .binOp .neq s x (.const .nilIface) t', ty, ps, af, gd⟩ f m (.v (.bool false)) [] [] :=
  stepU_pure fun f' m' hf _ G w a hO hF => by
    have h := rep_lit (ev_at hx (by simp [Op.operands]) hf hF)
    refine ⟨.bool false, ?_, mk_bool _⟩
    have hn : a.eval (.const .nilIface) = .nilIface := rfl
    have he : (Op.equal s .nilIface .nilIface).run X.P w = .ok true w := by
      have hd : Op.maxDepth = 9999 + 1 := rfl
      unfold Op.equal
      rw [hd]
      generalize 9999 = d
      rw [Op.equalIn, Sem.run_bind, run_underlying hs, Result.andThen_ok]
      rfl
    have hg : (eqGuard .neq s x (.const .nilIface) .nilIface .nilIface).run X.P w = .ok () w := by
      unfold eqGuard
      simp
    simp only [execOp, h, hn, Sem.run_bind, hg, Result.andThen_ok, binOp, he, Sem.run_pure]
    rfl
end
theorem agg_nilsl {G : Gh} {w : World} {m : Mem} (a b : List D) {u : Value} (h : RepD G w m (.agg (a ++ NIL :: b)) u) : RepD G w m (.agg (a ++ .v (.sl []) :: b)) u := by
  cases h with
  | agg _ us hlen h1 h =>
    refine .agg _ us (by simpa using hlen) h1 fun i d u hd hu => ?_
    by_cases hi : i = a.length
    · subst hi
      rw [List.getElem?_append_right (Nat.le_refl _), Nat.sub_self] at hd
      injection hd with hd
      subst hd
      exact nil_sl (h a.length NIL u (by rw [List.getElem?_append_right (Nat.le_refl _), Nat.sub_self]; rfl) hu)
    · refine h i d u ?_ hu
      rw [← hd]
      rcases Nat.lt_or_gt_of_ne hi with hlt | hgt
      · rw [List.getElem?_append_left hlt, List.getElem?_append_left hlt]
      · rw [List.getElem?_append_right (by omega), List.getElem?_append_right (by omega)]
        obtain ⟨j, hj⟩ : ∃ j, i - a.length = j + 1 := ⟨i - a.length - 1, by omega⟩
        rw [hj]; rfl
theorem ev_map {f : Nat → D} {x : Operand} {d d' : D} (h : ∀ (G : Gh) (w : World) (m : Mem) (u : Value), RepD G w m d u → RepD G w m d' u) (hx : Ev f x d) : Ev f x d' := fun f' hf G w m a hF => h _ _ _ _ (hx f' hf G w m a hF)
theorem con_next {s : Ps} {all : List UInt8} {at0 : Nat} {h : Hs} {R : Except Int Nx} (hok : s.ok) (he : s.ended = false) (ha : all.length ≤ 1000000000) (hat : at0 < all.length) (hdl : h.data.length ≤ 1000000000) (hR : nextM s h (all.drop at0) = R) :
    Con Tryd.prog s.k.fn [.ptr 0 0, .ptr 3 0] (rAH s 0 all (at0 : Int) h true) 4 (nxOut R) (nxPost all R) := by
  obtain ⟨c, r, hb⟩ : ∃ c r, all.drop at0 = c :: r := ⟨_, _, drop_at hat⟩
  cases hk : s.k with
  | first => exact con_first hk hok he ha hat hR
  | heads => exact con_heads hk hok he ha hat hR
  | chunk => exact con_chunk hk hok he ha hat hR
  | trailer => exact con_trailer hk hok he ha hat hR
  | data => exact con_data hk hok he ha hat hdl hR
  | counted => exact con_counted hk hok he ha hat hdl hR
  | all => exact con_all hk hok he ha hat hdl hR
  | behind =>
    rcases hok.beh hk with h0 | h1
    · exact con_behind0 hk he h0 ha hb hR
    · exact con_behind1 hk he h1 ha hb hR
theorem enters_knd (k : Knd) : entersB Tryd.prog k.fn = true := by cases k <;> kernel_rfl
theorem conD_idle : ConD Tryd.prog 20 [.any, .any, .any, .any] [] 0 .returning .returning [] := by
  refine conD_of (rv := .nilIface) Tryd.func20 rfl (by show _ ≤ 27; simp) (by decide) (by decide) rfl rfl rfl (.inl ⟨rfl, rfl, rfl⟩) fun X Q hP hnt hnp hret => ?_
  obtain ⟨P0, nt0, w0, K0, S0, np0, pin0, df0⟩ := X
  simp only at hP hnt hnp
  subst hP hnp
  obtain rfl : nt0 = 27 := hnt
  refine aw_region fun K1 hK1 => ?_
  refine aL z_move ?_
  refine aL (z_neqN Tryd.underlying20) ?_
  refine awl_nil (hK1 _ _ ?_)
  clear hK1 K1
  refine aC (fun r1 c1 => ?_) (fun r1 c1 => ?_)
  · exact absurd c1 (by decide)
  · refine aw_skip ?_
    exact (hret _ _ .nil).2
abbrev hs0 : Hs := ⟨false, 0, [], [], false⟩
abbrev deadC (v : Nat) : List D := panC (.v (.bool true)) (.view 1 v 0 0)
abbrev deadAH (v : Nat) : AH := [(0, .box (deadC v)), (1, rwB v []), (2, rwF v [])]
theorem conD_catch {x0 x1 x2 x3 x4 y0 z0 : D} {e : Int} : ConD Tryd.prog 20 [.ptr 0 0, .ptr 1 0, .ptr 2 0, .ptr 3 0] [(0, .box [.ptr 4 0]), (1, .box [x0, x1, x2, x3, x4]), (2, .box [y0]), (3, .box [z0]), (4, .box (panC .any .any)), (5, rwB 1 []), (6, rwF 1 [])] 7 (.panicking [{ v := fltV e, recovered := false }]) (.panicking [{ v := fltV e, recovered := true }])
    [(0, .box [.ptr 4 0]), (1, .box hs0.cs), (2, .box [.v (.int .i64 0)]), (3, .box [.v (.int .i64 e)]), (4, .box (panC (.v (.bool true)) (.view 5 2 0 0))), (5, rwB 2 []), (6, rwF 2 [])] := by
  refine conD_of (rv := fltV e) Tryd.func20 rfl (by show _ ≤ 27; simp) (by decide) (by decide) rfl rfl rfl (.inr ⟨rfl, rfl⟩) fun X Q hP hnt hnp hret => ?_
  obtain ⟨P0, nt0, w0, K0, S0, np0, pin0, df0⟩ := X
  simp only at hP hnt hnp
  subst hP hnp
  obtain rfl : nt0 = 27 := hnt
  refine aw_region fun K1 hK1 => ?_
  refine aL z_move ?_
  refine aL (z_neqI Tryd.underlying20) ?_
  refine awl_nil (hK1 _ _ ?_)
  clear hK1 K1
  refine aC (fun r1 c1 => ?_) (fun r1 c1 => ?_)
  · refine aw_region fun K2 hK2 => ?_
    refine aL z_move ?_
    refine aL (z_assert Tryd.underlying56) ?_
    refine aL z_move ?_
    refine aL z_extract ?_
    refine aL z_extract ?_
    refine aL (z_alloc 7 zc_56 zl_56) ?_
    refine aL (z_store sz_56) ?_
    refine aL z_assign ?_
    refine awl_nil (hK2 _ _ ?_)
    clear hK2 K2
    refine aw_seq fun K3 hK3 => ?_
    refine aw_region fun K4 hK4 => ?_
    refine aL z_move ?_
    refine aL z_not ?_
    refine awl_nil (hK4 _ _ ?_)
    clear hK4 K4
    refine aC (fun r2 c2 => ?_) (fun r2 c2 => ?_)
    · exact absurd c2 (by decide)
    · refine aw_skip ?_
      refine hK3 _ _ ?_
      clear hK3
      refine aw_region fun K5 hK5 => ?_
      refine aL (z_load sz_24) ?_
      refine aL (z_load sz_24) ?_
      refine aL z_nilCheck ?_
      refine aL (z_fieldAddr fo_54_8) ?_
      refine aL (z_store sz_4) ?_
      refine aL z_nilCheck ?_
      refine aL (z_fieldAddr fo_54_2) ?_
      refine aL (z_store sz_32) ?_
      refine awl_nil (hK5 _ _ ?_)
      clear hK5 K5
      refine aw_weak (weak_nilE 4 2 5 rfl rfl rfl rfl) (aw_weak (weak_rever 6 2 rfl) ?_)
      refine aw_regionD_last mx_all (by kernel_rfl) ?_
      refine aD (z_build .nil pl_28 zc_28 zl_28) ?_
      refine aD (z_fieldAddr fo_56_0) ?_
      refine aD (z_load sz_29) ?_
      refine aD (z_store sz_28 (hy := ev_map (fun G w m u h => agg_nilsl [.v (.bool false), .v (.int .i64 0)] [.v (.str []), .v (.bool false)] h) (ev_tmp rfl))) ?_
      refine aD (z_store sz_3) ?_
      refine aD (z_store sz_29) ?_
      refine awd_nil (by kernel_rfl) ?_
      exact (hret _ _ (.box rfl rfl (.box rfl rfl (.box rfl rfl (.box rfl rfl (.box rfl rfl (.row rfl (.row rfl .nil)))))))).2
  · exact absurd c1 (by decide)
end Go.Proofs.YthflfnehdlpmdaaDoor
