/- Layer 7: Take. No condition. -/
import Derived.Test.YtigodfnckjidoaaChC
namespace Go.Proofs.Ytigodfnckjidoaa
set_option linter.all false
open Go Go.RowKit
set_option maxRecDepth 10000
set_option maxHeartbeats 4000000
abbrev badI : Itm := ⟨Fr.nil, Flt.whole 1⟩
/-- What Take answers; the feed behind it. -/
def Fd7.take (f : Fd7) (b : List UInt8) : List Itm × Fd7 :=
  if f.over = true then ([], f) else match greetM f.pre b with
    | (k, none) => ([badI], ⟨f.most, k, f.left, true⟩)
    | (k, some r) => ((itemsM f.most (f.left ++ r)).1, ⟨f.most, k, if (itemsM f.most (f.left ++ r)).2.2 = true then [] else (itemsM f.most (f.left ++ r)).2.1, (itemsM f.most (f.left ++ r)).2.2⟩)
theorem greet_len : ∀ {b : List UInt8} {q k : Nat} {r : List UInt8}, greetM q b = (k, some r) → r.length ≤ b.length
  | [], q, k, r, h => by unfold greetM at h; injection h with _ h; injection h with h; subst h; exact Nat.le_refl _
  | a :: b, q, k, r, h => by
    unfold greetM at h
    split at h
    · split at h
      · have := greet_len h; simp; omega
      · injection h with _ h; cases h
    · injection h with _ h; injection h with h; subst h; exact Nat.le_refl _
theorem weak_one {X : Cx} {t : Nat} {ah : AH} {d d' : D} (hd : ∀ (G : Gh) (w : World) (m : Mem) (u : Value), RepD G w m d u → RepD G w m d' u) : Weak X [(t, d)] ah [(t, d')] ah := fun G w a hS => ⟨G, ⟨hS.ok, fun i => by
  by_cases h : t = i
  · subst h
    have := hS.fr t
    rw [Fm.at_eq (look_cons_self _ _ _)] at this ⊢
    exact hd _ _ _ _ this
  · have e : Fm.at [(t, d')] i = .any := by unfold Fm.at; rw [look_cons_ne _ _ h]; rfl
    rw [e]; exact .any _, hS.nt, hS.df⟩⟩
theorem agg_nilsl {G : Gh} {w : World} {m : Mem} (a b : List D) {u : Value} (h : RepD G w m (.agg (a ++ NIL :: b)) u) : RepD G w m (.agg (a ++ .v (.sl []) :: b)) u := by
  cases h with
  | agg _ us hlen h1 h =>
    refine .agg _ us (by simpa using hlen) h1 fun i d u hd hu => ?_
    by_cases hi : i = a.length
    · subst hi
      rw [List.getElem?_append_right (Nat.le_refl _), Nat.sub_self] at hd
      injection hd with hd
      subst hd
      exact nil_sl (h a.length NIL u (by rw [List.getElem?_append_right (Nat.le_refl _), Nat.sub_self]; rfl) hu)
    · refine h i d u ?_ hu
      rw [← hd]
      rcases Nat.lt_or_gt_of_ne hi with hlt | hgt
      · rw [List.getElem?_append_left hlt, List.getElem?_append_left hlt]
      · rw [List.getElem?_append_right (by omega), List.getElem?_append_right (by omega)]
        obtain ⟨j, hj⟩ : ∃ j, i - a.length = j + 1 := ⟨i - a.length - 1, by omega⟩
        rw [hj]; rfl
theorem weak_nilsl {X : Cx} {t : Nat} {ah : AH} : Weak X [(t, NIL)] ah [(t, .v (.sl []))] ah := fun G w a hS => ⟨G, ⟨hS.ok, fun i => by
  by_cases h : t = i
  · subst h
    have := hS.fr t
    rw [Fm.at_eq (look_cons_self _ _ _)] at this ⊢
    exact nil_sl this
  · have e : Fm.at [(t, D.v (.sl []))] i = .any := by unfold Fm.at; rw [look_cons_ne _ _ h]; rfl
    rw [e]; exact .any _, hS.nt, hS.df⟩⟩
theorem con_TakeN {b : List UInt8} : Con Try.prog 11 [.v (.lit (.pointer none)), .v (.sl (bs b))] [] 0 (.ret (.v (.sl (itV [])))) [] := by
  refine con_of Try.func11 rfl (by show _ ≤ 56; simp) fun X Q hP hnt hnp hret hpan => ?_
  obtain ⟨P0, nt0, w0, K0, S0, np0, pin0, df0⟩ := X
  simp only at hP hnt hnp
  subst hP hnp
  obtain rfl : nt0 = 56 := hnt
  refine aw_region fun K1 hK1 => ?_
  refine aL z_assign ?_
  refine awl_nil (hK1 _ _ ?_)
  clear hK1 K1
  refine aw_seq fun K2 hK2 => ?_
  refine aw_region fun K3 hK3 => ?_
  refine aL z_move ?_
  refine aL (z_call0 (eC .nil) en_15 (con_OverN)) ?_
  refine awl_nil (hK3 _ _ ?_)
  clear hK3 K3
  refine aC (fun r1 c1 => ?_) (fun r1 c1 => ?_)
  · refine aw_region fun K4 hK4 => ?_
    refine aL z_assign ?_
    refine awl_nil (hK4 _ _ ?_)
    clear hK4 K4
    refine aw_weak (fr' := [(4, NIL)]) (ah' := []) wK (aw_weak weak_nilsl ?_)
    refine aw_ret ?_
    refine (hret _ _ _ _ _ rfl (.tmp rfl .nil) rfl ?_ .nil rfl).1
    rfl
  · exact absurd c1 (by decide)
theorem con_Take1 {f : Fd7} {b : List UInt8} (v : Nat) (ho : f.over = true) : Con Try.prog 11 [.ptr 0 0, .v (.sl (bs b))] (f.ah v) 2 (.ret (.v (.sl (itV [])))) (f.ah (v + 1)) := by
  obtain ⟨m, p, l, ov⟩ := f
  simp only at ho
  subst ho
  refine con_of Try.func11 rfl (by show _ ≤ 56; simp) fun X Q hP hnt hnp hret hpan => ?_
  obtain ⟨P0, nt0, w0, K0, S0, np0, pin0, df0⟩ := X
  simp only at hP hnt hnp
  subst hP hnp
  obtain rfl : nt0 = 56 := hnt
  refine aw_weak (weak_upV 0 rfl) ?_
  refine aw_region fun K1 hK1 => ?_
  refine aL z_assign ?_
  refine awl_nil (hK1 _ _ ?_)
  clear hK1 K1
  refine aw_seq fun K2 hK2 => ?_
  refine aw_region fun K3 hK3 => ?_
  refine aL z_move ?_
  refine aL (z_callG [0, 1] (eC .nil) en_15 (con_Over (f := ⟨m, p, l, true⟩) 0) (pA (pA .nil))) ?_
  refine awl_nil (hK3 _ _ ?_)
  clear hK3 K3
  refine aC (fun r1 c1 => ?_) (fun r1 c1 => ?_)
  · refine aw_region fun K4 hK4 => ?_
    refine aL z_assign ?_
    refine awl_nil (hK4 _ _ ?_)
    clear hK4 K4
    refine aw_weak (fr' := [(4, NIL)]) (ah' := Fd7.ah ⟨m, p, l, true⟩ 1) wK (aw_weak weak_nilsl (aw_weak (weak_upV (v + 1) rfl) ?_))
    refine aw_ret ?_
    refine (hret _ _ _ _ _ rfl (.tmp rfl .nil) rfl ?_ (.box rfl rfl (.row rfl .nil)) rfl).1
    rfl
  · exact absurd c1 (by decide)
end Go.Proofs.Ytigodfnckjidoaa
/- Layer 7: Take, walked. No condition. -/
namespace Go.Proofs.Ytigodfnckjidoaa
set_option linter.all false
open Go Go.RowKit
set_option maxRecDepth 10000
set_option maxHeartbeats 4000000
abbrev badD : List D := [.v (.int .i64 0), .v (.int .i64 0), .v (.int .i64 0), .v (.str []), .v (.int .i64 0), NIL, .v (.int .i64 0), .v (.int .i64 0), .v (.int .i64 0), .v (.int .i64 0), .v (.int .i64 0), .v (.bool false), .v (.bool true), .v (.int .i64 1), .v (.int .i64 0)]
theorem con_Take2 {m : Int} {p : Nat} {l b : List UInt8} (v : Nat) (hp : p ≤ 24) (hb : b.length ≤ 1000000000) {k : Nat} (hg : greetM p b = (k, none)) : Con Try.prog 11 [.ptr 0 0, .v (.sl (bs b))] (Fd7.ah ⟨m, p, l, false⟩ v) 2 (.ret (.v (.sl (itV [badI])))) (Fd7.ah ⟨m, k, l, true⟩ (v + 1)) := by
  refine con_of Try.func11 rfl (by show _ ≤ 56; simp) fun X Q hP hnt hnp hret hpan => ?_
  obtain ⟨P0, nt0, w0, K0, S0, np0, pin0, df0⟩ := X
  simp only at hP hnt hnp
  subst hP hnp
  obtain rfl : nt0 = 56 := hnt
  refine aw_weak (weak_upV 0 rfl) ?_
  refine aw_region fun K1 hK1 => ?_
  refine aL z_assign ?_
  refine awl_nil (hK1 _ _ ?_)
  clear hK1 K1
  refine aw_seq fun K2 hK2 => ?_
  refine aw_region fun K3 hK3 => ?_
  refine aL z_move ?_
  refine aL (z_callG [0, 1] (eC .nil) en_15 (con_Over (f := ⟨m, p, l, false⟩) 0) (pA (pA .nil))) ?_
  refine awl_nil (hK3 _ _ ?_)
  clear hK3 K3
  refine aC (fun r1 c1 => ?_) (fun r1 c1 => ?_)
  · exact absurd c1 (by decide)
  · refine aw_skip ?_
    refine hK2 _ _ ?_
    clear hK2
    refine aw_region fun K4 hK4 => ?_
    refine aL z_move ?_
    refine aL z_move ?_
    refine aL (z_callG [0, 1] (eC (eC .nil)) en_19 (con_greet (m := m) (v := 1) (n := l.length) (l := l) hp (by omega) hg) (pA (pA .nil))) ?_
    refine aL z_move ?_
    refine aL z_extract ?_
    refine aL z_extract ?_
    refine aL z_assign ?_
    refine aL z_assign ?_
    refine awl_nil (hK4 _ _ ?_)
    clear hK4 K4
    refine aw_seq fun K5 hK5 => ?_
    refine aw_region fun K6 hK6 => ?_
    refine aL z_move ?_
    refine aL z_not ?_
    refine awl_nil (hK6 _ _ ?_)
    clear hK6 K6
    refine aC (fun r2 c2 => ?_) (fun r2 c2 => ?_)
    · refine aw_region fun K7 hK7 => ?_
      refine aL z_move ?_
      refine aL z_nilCheck ?_
      first
        | refine aL (z_fieldAddr fo_54_3) ?_
        | refine aL (z_fieldRef fo_54_3) ?_
        | refine aL (z_fieldV fo_54_3) ?_
      refine aL (z_store sz_4) ?_
      refine awl_nil (hK7 _ _ ?_)
      clear hK7 K7
      refine aw_region fun K8 hK8 => ?_
      refine aL (z_build (pC (pC .nil)) pl_37 zc_37 zl_37) ?_
      refine aL (z_build (pC .nil) pl_42 zc_42 zl_42) ?_
      refine awl_weak (fr' := [(22, .agg badD)]) (ah' := [(0, .box (fdC m (k : Int) 2 l.length true)), (1, rw1 2 l)]) wK ?_
      refine awl_weak (fr' := [(22, .agg (badI.vs.map .v))]) (ah' := [(0, .box (fdC m (k : Int) 2 l.length true)), (1, rw1 2 l)]) (weak_one fun G w mm u h => agg_nilsl [.v (.int .i64 0), .v (.int .i64 0), .v (.int .i64 0), .v (.str []), .v (.int .i64 0)] _ h) ?_
      refine aL (z_lits (pC .nil) Try.underlying29 sz_42 zc_42 zl_42 (c := [badI.vs])) ?_
      refine aL z_assign ?_
      refine awl_nil (hK8 _ _ ?_)
      clear hK8 K8
      refine aw_weak (fr' := [(4, .v (.sl (itV [badI])))]) (ah' := Fd7.ah ⟨m, k, l, true⟩ 2) wK (aw_weak (weak_upV (v + 1) rfl) ?_)
      refine aw_ret ?_
      refine (hret _ _ _ _ _ rfl (.tmp rfl .nil) rfl ?_ (.box rfl rfl (.row rfl .nil)) rfl).1
      rfl
    · exact absurd c2 (by decide)
end Go.Proofs.Ytigodfnckjidoaa
/- Layer 7: Take, walked: what is told. No condition. -/
namespace Go.Proofs.Ytigodfnckjidoaa
set_option linter.all false
open Go Go.RowKit
set_option maxRecDepth 10000
set_option maxHeartbeats 4000000
theorem con_Take3 {m : Int} {p : Nat} {l b : List UInt8} (v : Nat) (hp : p ≤ 24) (hb : l.length + b.length ≤ 1000000000) {k : Nat} {r : List UInt8} (hg : greetM p b = (k, some r)) {its : List Itm} {lf : List UInt8} {ov : Bool} (hI : itemsM m (l ++ r) = (its, lf, ov)) (hlf : lf.length ≤ 1000000000) {lf' : List UInt8} (hf : lf' = if ov = true then [] else lf) :
    Con Try.prog 11 [.ptr 0 0, .v (.sl (bs b))] (Fd7.ah ⟨m, p, l, false⟩ v) 2 (.ret (.v (.sl (itV its)))) (Fd7.ah ⟨m, k, lf', ov⟩ (v + 1)) := by
  have hr := greet_len hg
  have hlr : (l ++ r).length ≤ 1000000000 := by rw [List.length_append]; omega
  refine con_of Try.func11 rfl (by show _ ≤ 56; simp) fun X Q hP hnt hnp hret hpan => ?_
  obtain ⟨P0, nt0, w0, K0, S0, np0, pin0, df0⟩ := X
  simp only at hP hnt hnp
  subst hP hnp
  obtain rfl : nt0 = 56 := hnt
  refine aw_weak (weak_upV 0 rfl) ?_
  refine aw_region fun K1 hK1 => ?_
  refine aL z_assign ?_
  refine awl_nil (hK1 _ _ ?_)
  clear hK1 K1
  refine aw_seq fun K2 hK2 => ?_
  refine aw_region fun K3 hK3 => ?_
  refine aL z_move ?_
  refine aL (z_callG [0, 1] (eC .nil) en_15 (con_Over (f := ⟨m, p, l, false⟩) 0) (pA (pA .nil))) ?_
  refine awl_nil (hK3 _ _ ?_)
  clear hK3 K3
  refine aC (fun r1 c1 => ?_) (fun r1 c1 => ?_)
  · exact absurd c1 (by decide)
  · refine aw_skip ?_
    refine hK2 _ _ ?_
    clear hK2
    refine aw_region fun K4 hK4 => ?_
    refine aL z_move ?_
    refine aL z_move ?_
    refine aL (z_callG [0, 1] (eC (eC .nil)) en_19 (con_greet (m := m) (v := 1) (n := l.length) (l := l) hp (by omega) hg) (pA (pA .nil))) ?_
    refine aL z_move ?_
    refine aL z_extract ?_
    refine aL z_extract ?_
    refine aL z_assign ?_
    refine aL z_assign ?_
    refine awl_nil (hK4 _ _ ?_)
    clear hK4 K4
    refine aw_seq fun K5 hK5 => ?_
    refine aw_region fun K6 hK6 => ?_
    refine aL z_move ?_
    refine aL z_not ?_
    refine awl_nil (hK6 _ _ ?_)
    clear hK6 K6
    refine aC (fun r2 c2 => ?_) (fun r2 c2 => ?_)
    · exact absurd c2 (by decide)
    · refine aw_skip ?_
      refine hK5 _ _ ?_
      clear hK5
      refine aw_region fun K7 hK7 => ?_
      refine aL z_move ?_
      refine aL z_move ?_
      refine aL z_nilCheck ?_
      first
        | refine aL (z_fieldAddr fo_54_2) ?_
        | refine aL (z_fieldRef fo_54_2) ?_
        | refine aL (z_fieldV fo_54_2) ?_
      first
        | refine aL (z_load sz_24) ?_
        | refine aL (z_loadRef sz_24) ?_
        | refine aL (z_loadV sz_24) ?_
      refine aL z_move ?_
      refine aL (StepU.settle (z_app Try.underlying24 zi_5 (c' := bs (l ++ r)) (hc := by rw [List.take_of_length_le (by simp)]; simp))) ?_
      refine aL z_nilCheck ?_
      first
        | refine aL (z_fieldAddr fo_54_2) ?_
        | refine aL (z_fieldRef fo_54_2) ?_
        | refine aL (z_fieldV fo_54_2) ?_
      refine aL (z_store sz_24) ?_
      refine awl_nil (hK7 _ _ ?_)
      clear hK7 K7
      refine aw_region fun K8 hK8 => ?_
      refine aL (z_alloc 2 zc_29 zl_29) ?_
      refine awl_nil (hK8 _ _ ?_)
      clear hK8 K8
      refine aw_weak (weak_nilB 2 0 3 15 42 rfl rfl rfl (by decide) (by exact Nat.le_of_ble_eq_true rfl) rfl) ?_
      refine aw_seq fun K9 hK9 => ?_
      refine aw_region fun K10 hK10 => ?_
      refine aL z_move ?_
      refine aL (z_callG [0, 1, 4] (eC .nil) en_20 (con_items (m := m) (p := (k : Int)) (l := l ++ r) (ov := false)) (pA (pA .nil))) ?_
      refine awl_nil (hK10 _ _ ?_)
      clear hK10 K10
      refine aw_block ?_
      refine aw_rangeFunc (pre := itPre m (k : Int) (l ++ r)) (post := itPost m (k : Int) its lf ov) (np := 4) (cargs := [.ptr 1 0]) [0, 4, 2, 3] (ev_tmp rfl) en_29 (fun G w a hS w1 lp rec h1 h2 h3 h4 h5 h6 h7 K H us hKl hSK hHS hHm hOk hA => ?_) rfl (pA (pA (pA (pA .nil)))) rfl rfl (preLive_of rfl) rfl (fun i h1 h2 => by
        match i, h1, h2 with
        | 0, _, h2 => cases h2
        | 1, _, h2 => cases h2
        | 2, _, h2 => cases h2
        | 3, _, h2 => cases h2) ?_
      · obtain ⟨g, cs, hv, hm, -⟩ := rep_ptr (show RepD G w _ (.ptr 2 0) (a.tmps.getD 6 undef) from hS.fr 6)
        refine (run_items (us := Value.func (.yield lp) #[] #[] :: us) hlr ?_ ⟨⟨rec, h1, h2, h3, by rw [h4]; exact hS.nt, by rw [h4]; exact hv, h5, h6, h7⟩⟩ hKl (by rw [hHm]; exact hm) hOk (.cons (.fn (.yield lp) [] [] [] [] rfl rfl (fun _ _ _ h => by simp at h) (fun _ _ _ h => by simp at h)) hA) hI).mono fun e w' ⟨G', q1, q2⟩ => ⟨G', q1, ?_⟩
        · intro i done hd X e1 e2 e3
          obtain ⟨P1, nt1, w1', K1', S1', np1, pin1, df1⟩ := X
          simp only at e1 e2 e3
          subst e1 e2 e3
          refine awY_region_last ?_
          refine aY (z_alloc 5 zc_42 zl_42) ?_
          refine aY (z_store sz_42) ?_
          refine awlY_nil ⟨rfl, fun X' e1 e2 e3 => ?_⟩
          obtain ⟨P1, nt1, w1', K1', S1', np1, pin1, df1⟩ := X'
          simp only at e1 e2 e3
          subst e1 e2 e3
          refine awY_block (awY_region_last ?_)
          refine aY (z_load sz_29) ?_
          refine aY (z_load sz_42) ?_
          refine aY (z_lits (pC .nil) Try.underlying29 sz_42 zc_42 zl_42 (c := [i.vs])) ?_
          refine aY (z_app Try.underlying29 zi_42 (c' := itV (done ++ [i])) (hc := itV_snoc rfl)) ?_
          refine aY (z_store sz_29) ?_
          refine awlY_nil ⟨rfl, ?_⟩
          unfold rdPost
          rw [show (done ++ [i]).length = done.length + 1 by simp]
          exact .box rfl rfl (.row rfl .nil)
        · cases e with
          | returned v => exact .any _
          | panicked c => exact q2.elim
          | outgrown => exact q2.elim
      refine hK9 _ _ ?_
      clear hK9
      refine aw_seq fun K11 hK11 => ?_
      refine aw_region fun K12 hK12 => ?_
      refine awl_weak (fr' := [(0, .ptr 0 0), (6, .ptr 2 0)]) (ah' := [(0, .box (fd2 m (k : Int) lf ov)), (1, rw1 5 []), (2, .box [.view 3 1 0 its.length]), (3, .row 1 15 42 (itV its))]) wK ?_
      refine aL z_move ?_
      refine aL z_nilCheck ?_
      first
        | refine aL (z_fieldAddr fo_54_3) ?_
        | refine aL (z_fieldRef fo_54_3) ?_
        | refine aL (z_fieldV fo_54_3) ?_
      first
        | refine aL (z_load sz_4) ?_
        | refine aL (z_loadRef sz_4) ?_
        | refine aL (z_loadV sz_4) ?_
      refine awl_nil (hK12 _ _ ?_)
      clear hK12 K12
      refine aC (fun r3 c3 => ?_) (fun r3 c3 => ?_)
      · refine aw_region_last ?_
        refine aL z_move ?_
        refine aL z_nilCheck ?_
        first
          | refine aL (z_fieldAddr fo_54_2) ?_
          | refine aL (z_fieldRef fo_54_2) ?_
          | refine aL (z_fieldV fo_54_2) ?_
        refine aL (z_store sz_24) ?_
        refine awl_nil ?_
        refine hK11 _ _ ?_
        clear hK11
        refine aw_region fun K13 hK13 => ?_
        first
          | refine aL (z_load sz_29) ?_
          | refine aL (z_loadRef sz_29) ?_
          | refine aL (z_loadV sz_29) ?_
        refine aL z_assign ?_
        refine awl_nil (hK13 _ _ ?_)
        clear hK13 K13
        have hcut : cut 0 (0 + its.length) (itV its) = itV its := (by have := cut_all (itV its); rwa [itV_len] at this)
        first
          | (subst c3
             rw [if_pos rfl] at hf
             subst hf
             refine aw_weak (weak_nilE 0 2 1 rfl rfl rfl rfl) (aw_weak (weak_settle (fr' := [(4, .v (.sl (itV its)))]) (ah' := Fd7.ah ⟨m, k, [], true⟩ 6) 3 rfl (.box rfl rfl (.row rfl .nil)) rfl (.view rfl hcut .nil)) (aw_weak (weak_upV (v + 1) rfl) ?_)))
          | (subst c3
             rw [if_neg (by decide)] at hf
             subst hf
             refine aw_weak (fr' := [(4, .view 3 1 0 its.length)]) (ah' := [(0, .box (fdC m (k : Int) 7 lf'.length false)), (1, rw1 7 lf'), (3, .row 1 15 42 (itV its))]) wK (aw_weak (weak_settle (fr' := [(4, .v (.sl (itV its)))]) (ah' := Fd7.ah ⟨m, k, lf', false⟩ 7) 3 rfl (.box rfl rfl (.row rfl .nil)) rfl (.view rfl hcut .nil)) (aw_weak (weak_upV (v + 1) rfl) ?_)))
        refine aw_ret ?_
        refine (hret _ _ _ _ _ rfl (.tmp rfl .nil) rfl ?_ (.box rfl rfl (.row rfl .nil)) rfl).1
        rfl
      · refine aw_region_last ?_
        refine aL z_move ?_
        refine aL z_move ?_
        refine aL z_nilCheck ?_
        first
          | refine aL (z_fieldAddr fo_54_2) ?_
          | refine aL (z_fieldRef fo_54_2) ?_
          | refine aL (z_fieldV fo_54_2) ?_
        first
          | refine aL (z_load sz_24) ?_
          | refine aL (z_loadRef sz_24) ?_
          | refine aL (z_loadV sz_24) ?_
        refine aL (z_appE 1 Try.underlying24 zi_5) ?_
        refine aL z_nilCheck ?_
        first
          | refine aL (z_fieldAddr fo_54_2) ?_
          | refine aL (z_fieldRef fo_54_2) ?_
          | refine aL (z_fieldV fo_54_2) ?_
        refine aL (z_store sz_24) ?_
        refine awl_nil ?_
        refine hK11 _ _ ?_
        clear hK11
        refine aw_region fun K14 hK14 => ?_
        first
          | refine aL (z_load sz_29) ?_
          | refine aL (z_loadRef sz_29) ?_
          | refine aL (z_loadV sz_29) ?_
        refine aL z_assign ?_
        refine awl_nil (hK14 _ _ ?_)
        clear hK14 K14
        have hcut : cut 0 (0 + its.length) (itV its) = itV its := (by have := cut_all (itV its); rwa [itV_len] at this)
        first
          | (subst c3
             rw [if_pos rfl] at hf
             subst hf
             refine aw_weak (weak_nilE 0 2 1 rfl rfl rfl rfl) (aw_weak (weak_settle (fr' := [(4, .v (.sl (itV its)))]) (ah' := Fd7.ah ⟨m, k, [], true⟩ 6) 3 rfl (.box rfl rfl (.row rfl .nil)) rfl (.view rfl hcut .nil)) (aw_weak (weak_upV (v + 1) rfl) ?_)))
          | (subst c3
             rw [if_neg (by decide)] at hf
             subst hf
             refine aw_weak (fr' := [(4, .view 3 1 0 its.length)]) (ah' := [(0, .box (fdC m (k : Int) 7 lf'.length false)), (1, rw1 7 lf'), (3, .row 1 15 42 (itV its))]) wK (aw_weak (weak_settle (fr' := [(4, .v (.sl (itV its)))]) (ah' := Fd7.ah ⟨m, k, lf', false⟩ 7) 3 rfl (.box rfl rfl (.row rfl .nil)) rfl (.view rfl hcut .nil)) (aw_weak (weak_upV (v + 1) rfl) ?_)))
        refine aw_ret ?_
        refine (hret _ _ _ _ _ rfl (.tmp rfl .nil) rfl ?_ (.box rfl rfl (.row rfl .nil)) rfl).1
        rfl
end Go.Proofs.Ytigodfnckjidoaa
/- Layer 7: Take's contract, whole. No condition. -/
namespace Go.Proofs.Ytigodfnckjidoaa
set_option linter.all false
open Go Go.RowKit
set_option maxRecDepth 10000
set_option maxHeartbeats 4000000
theorem goF_left (m : Int) : ∀ (k : Nat) (b : List UInt8), (goF m k b).2.1.length ≤ b.length
  | 0, b => Nat.le_refl _
  | k + 1, b => by
    unfold goF
    split
    · exact Nat.le_refl _
    · split
      · show (b.drop _).length ≤ _; rw [List.length_drop]; omega
      · have := goF_left m k (b.drop (takeF b m).n)
        rw [List.length_drop] at this
        show (goF m k (b.drop (takeF b m).n)).2.1.length ≤ _; omega
theorem items_left (m : Int) (b : List UInt8) : (itemsM m b).2.1.length ≤ b.length := goF_left m _ b
theorem con_Take {f : Fd7} {b : List UInt8} (v : Nat) (hp : f.pre ≤ 24) (hb : f.left.length + b.length ≤ 1000000000) : Con Try.prog 11 [.ptr 0 0, .v (.sl (bs b))] (f.ah v) 2 (.ret (.v (.sl (itV (f.take b).1)))) ((f.take b).2.ah (v + 1)) := by
  by_cases ho : f.over = true
  · have e : f.take b = ([], f) := if_pos ho
    rw [e]; exact con_Take1 v ho
  · obtain ⟨m, p, l, ov⟩ := f
    have ho : ov = false := by simpa using ho
    subst ho
    cases hg : greetM p b with
    | mk k o =>
      cases o with
      | none =>
        have e : Fd7.take ⟨m, p, l, false⟩ b = ([badI], ⟨m, k, l, true⟩) := by
          unfold Fd7.take; rw [if_neg Bool.false_ne_true]; simp only [hg]
        rw [e]; exact con_Take2 v hp (by simp only at hb; omega) hg
      | some r =>
        have e : Fd7.take ⟨m, p, l, false⟩ b = ((itemsM m (l ++ r)).1, ⟨m, k, if (itemsM m (l ++ r)).2.2 = true then [] else (itemsM m (l ++ r)).2.1, (itemsM m (l ++ r)).2.2⟩) := by
          unfold Fd7.take; rw [if_neg Bool.false_ne_true]; simp only [hg]
        rw [e]
        have hr := greet_len hg
        have hl := items_left m (l ++ r)
        rw [List.length_append] at hl
        simp only at hb
        exact con_Take3 v hp hb hg (its := (itemsM m (l ++ r)).1) (lf := (itemsM m (l ++ r)).2.1) (ov := (itemsM m (l ++ r)).2.2) rfl (by omega) rfl
end Go.Proofs.Ytigodfnckjidoaa
