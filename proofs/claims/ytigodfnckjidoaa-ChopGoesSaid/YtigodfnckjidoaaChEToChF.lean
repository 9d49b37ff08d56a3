/- Layer 7: Take. No condition. -/
import Derived.Test.YtigodfnckjidoaaChD
namespace Go.Proofs.Ytigodfnckjidoaa
set_option linter.all false
open Go Go.RowKit
set_option maxRecDepth 10000
set_option maxHeartbeats 4000000
abbrev badI : Itm := ⟨Fr.nil, Flt.whole 1⟩
/-- What Take answers; the feed behind it. -/
def Fd7.take (f : Fd7) (b : List UInt8) : List Itm × Fd7 :=
  if f.over = true then ([], f) else match greetM f.pre b with
    | (k, none) => ([badI], ⟨f.most, k, f.left, true⟩)
    | (k, some r) => ((itemsM f.most (f.left ++ r)).1, ⟨f.most, k, if (itemsM f.most (f.left ++ r)).2.2 = true then [] else (itemsM f.most (f.left ++ r)).2.1, (itemsM f.most (f.left ++ r)).2.2⟩)
theorem greet_len : ∀ {b : List UInt8} {q k : Nat} {r : List UInt8}, greetM q b = (k, some r) → r.length ≤ b.length
  | [], q, k, r, h => by unfold greetM at h; injection h with _ h; injection h with h; subst h; exact Nat.le_refl _
  | a :: b, q, k, r, h => by
    unfold greetM at h
    split at h
    · split at h
      · have := greet_len h; simp; omega
      · injection h with _ h; cases h
    · injection h with _ h; injection h with h; subst h; exact Nat.le_refl _
theorem weak_one {X : Cx} {t : Nat} {ah : AH} {d d' : D} (hd : ∀ (G : Gh) (w : World) (m : Mem) (u : Value), RepD G w m d u → RepD G w m d' u) : Weak X [(t, d)] ah [(t, d')] ah := fun G w a hS => ⟨G, ⟨hS.ok, fun i => by
  by_cases h : t = i
  · subst h
    have := hS.fr t
    rw [Fm.at_eq (look_cons_self _ _ _)] at this ⊢
    exact hd _ _ _ _ this
  · have e : Fm.at [(t, d')] i = .any := by unfold Fm.at; rw [look_cons_ne _ _ h]; rfl
    rw [e]; exact .any _, hS.nt, hS.df⟩⟩
theorem agg_nilsl {G : Gh} {w : World} {m : Mem} (a b : List D) {u : Value} (h : RepD G w m (.agg (a ++ NIL :: b)) u) : RepD G w m (.agg (a ++ .v (.sl []) :: b)) u := by
  cases h with
  | agg _ us hlen h1 h =>
    refine .agg _ us (by simpa using hlen) h1 fun i d u hd hu => ?_
    by_cases hi : i = a.length
    · subst hi
      rw [List.getElem?_append_right (Nat.le_refl _), Nat.sub_self] at hd
      injection hd with hd
      subst hd
      exact nil_sl (h a.length NIL u (by rw [List.getElem?_append_right (Nat.le_refl _), Nat.sub_self]; rfl) hu)
    · refine h i d u ?_ hu
      rw [← hd]
      rcases Nat.lt_or_gt_of_ne hi with hlt | hgt
      · rw [List.getElem?_append_left hlt, List.getElem?_append_left hlt]
      · rw [List.getElem?_append_right (by omega), List.getElem?_append_right (by omega)]
        obtain ⟨j, hj⟩ : ∃ j, i - a.length = j + 1 := ⟨i - a.length - 1, by omega⟩
        rw [hj]; rfl
theorem weak_nilsl {X : Cx} {t : Nat} {ah : AH} : Weak X [(t, NIL)] ah [(t, .v (.sl []))] ah := fun G w a hS => ⟨G, ⟨hS.ok, fun i => by
  by_cases h : t = i
  · subst h
    have := hS.fr t
    rw [Fm.at_eq (look_cons_self _ _ _)] at this ⊢
    exact nil_sl this
  · have e : Fm.at [(t, D.v (.sl []))] i = .any := by unfold Fm.at; rw [look_cons_ne _ _ h]; rfl
    rw [e]; exact .any _, hS.nt, hS.df⟩⟩
theorem con_TakeN {b : List UInt8} : Con Try.prog 11 [.v (.lit (.pointer none)), .v (.sl (bs b))] [] 0 (.ret (.v (.sl (itV [])))) [] := by
  refine con_of Try.func11 rfl (by show _ ≤ 56; simp) fun X Q hP hnt hnp hret hpan => ?_
  obtain ⟨P0, nt0, w0, K0, S0, np0, pin0, df0⟩ := X
  simp only at hP hnt hnp
  subst hP hnp
  obtain rfl : nt0 = 56 := hnt
  refine aw_region fun K1 hK1 => ?_
  refine aL z_assign ?_
  refine awl_nil (hK1 _ _ ?_)
  clear hK1 K1
  refine aw_seq fun K2 hK2 => ?_
  refine aw_region fun K3 hK3 => ?_
  refine aL z_move ?_
  refine aL (z_call0 (eC .nil) en_15 (con_OverN)) ?_
  refine awl_nil (hK3 _ _ ?_)
  clear hK3 K3
  refine aC (fun r1 c1 => ?_) (fun r1 c1 => ?_)
  · refine aw_region fun K4 hK4 => ?_
    refine aL z_assign ?_
    refine awl_nil (hK4 _ _ ?_)
    clear hK4 K4
    refine aw_weak (fr' := [(4, NIL)]) (ah' := []) wK (aw_weak weak_nilsl ?_)
    refine aw_ret ?_
    refine (hret _ _ _ _ _ rfl (.tmp rfl .nil) rfl ?_ .nil rfl).1
    rfl
  · exact absurd c1 (by decide)
theorem con_Take1 {f : Fd7} {b : List UInt8} (v : Nat) (ho : f.over = true) : Con Try.prog 11 [.ptr 0 0, .v (.sl (bs b))] (f.ah v) 2 (.ret (.v (.sl (itV [])))) (f.ah (v + 1)) := by
  obtain ⟨m, p, l, ov⟩ := f
  simp only at ho
  subst ho
  refine con_of Try.func11 rfl (by show _ ≤ 56; simp) fun X Q hP hnt hnp hret hpan => ?_
  obtain ⟨P0, nt0, w0, K0, S0, np0, pin0, df0⟩ := X
  simp only at hP hnt hnp
  subst hP hnp
  obtain rfl : nt0 = 56 := hnt
  refine aw_weak (weak_upV 0 rfl) ?_
  refine aw_region fun K1 hK1 => ?_
  refine aL z_assign ?_
  refine awl_nil (hK1 _ _ ?_)
  clear hK1 K1
  refine aw_seq fun K2 hK2 => ?_
  refine aw_region fun K3 hK3 => ?_
  refine aL z_move ?_
  refine aL (z_callG [0, 1] (eC .nil) en_15 (con_Over (f := ⟨m, p, l, true⟩) 0) (pA (pA .nil))) ?_
  refine awl_nil (hK3 _ _ ?_)
  clear hK3 K3
  refine aC (fun r1 c1 => ?_) (fun r1 c1 => ?_)
  · refine aw_region fun K4 hK4 => ?_
    refine aL z_assign ?_
    refine awl_nil (hK4 _ _ ?_)
    clear hK4 K4
    refine aw_weak (fr' := [(4, NIL)]) (ah' := Fd7.ah ⟨m, p, l, true⟩ 1) wK (aw_weak weak_nilsl (aw_weak (weak_upV (v + 1) rfl) ?_))
    refine aw_ret ?_
    refine (hret _ _ _ _ _ rfl (.tmp rfl .nil) rfl ?_ (.box rfl rfl (.row rfl .nil)) rfl).1
    rfl
  · exact absurd c1 (by decide)
end Go.Proofs.Ytigodfnckjidoaa

/- Layer 7: Take, walked. No condition. -/
namespace Go.Proofs.Ytigodfnckjidoaa
set_option linter.all false
open Go Go.RowKit
set_option maxRecDepth 10000
set_option maxHeartbeats 4000000
abbrev badD : List D := [.v (.int .i64 0), .v (.int .i64 0), .v (.int .i64 0), .v (.str []), .v (.int .i64 0), NIL, .v (.int .i64 0), .v (.int .i64 0), .v (.int .i64 0), .v (.int .i64 0), .v (.int .i64 0), .v (.bool false), .v (.bool true), .v (.int .i64 1), .v (.int .i64 0)]
theorem con_Take2 {m : Int} {p : Nat} {l b : List UInt8} (v : Nat) (hp : p ≤ 24) (hb : b.length ≤ 1000000000) {k : Nat} (hg : greetM p b = (k, none)) : Con Try.prog 11 [.ptr 0 0, .v (.sl (bs b))] (Fd7.ah ⟨m, p, l, false⟩ v) 2 (.ret (.v (.sl (itV [badI])))) (Fd7.ah ⟨m, k, l, true⟩ (v + 1)) := by
  refine con_of Try.func11 rfl (by show _ ≤ 56; simp) fun X Q hP hnt hnp hret hpan => ?_
  obtain ⟨P0, nt0, w0, K0, S0, np0, pin0, df0⟩ := X
  simp only at hP hnt hnp
  subst hP hnp
  obtain rfl : nt0 = 56 := hnt
  refine aw_weak (weak_upV 0 rfl) ?_
  refine aw_region fun K1 hK1 => ?_
  refine aL z_assign ?_
  refine awl_nil (hK1 _ _ ?_)
  clear hK1 K1
  refine aw_seq fun K2 hK2 => ?_
  refine aw_region fun K3 hK3 => ?_
  refine aL z_move ?_
  refine aL (z_callG [0, 1] (eC .nil) en_15 (con_Over (f := ⟨m, p, l, false⟩) 0) (pA (pA .nil))) ?_
  refine awl_nil (hK3 _ _ ?_)
  clear hK3 K3
  refine aC (fun r1 c1 => ?_) (fun r1 c1 => ?_)
  · exact absurd c1 (by decide)
  · refine aw_skip ?_
    refine hK2 _ _ ?_
    clear hK2
    refine aw_region fun K4 hK4 => ?_
    refine aL z_move ?_
    refine aL z_move ?_
    refine aL (z_callG [0, 1] (eC (eC .nil)) en_19 (con_greet (m := m) (v := 1) (n := l.length) (l := l) hp (by omega) hg) (pA (pA .nil))) ?_
    refine aL z_move ?_
    refine aL z_extract ?_
    refine aL z_extract ?_
    refine aL z_assign ?_
    refine aL z_assign ?_
    refine awl_nil (hK4 _ _ ?_)
    clear hK4 K4
    refine aw_seq fun K5 hK5 => ?_
    refine aw_region fun K6 hK6 => ?_
    refine aL z_move ?_
    refine aL z_not ?_
    refine awl_nil (hK6 _ _ ?_)
    clear hK6 K6
    refine aC (fun r2 c2 => ?_) (fun r2 c2 => ?_)
    · refine aw_region fun K7 hK7 => ?_
      refine aL z_move ?_
      refine aL z_nilCheck ?_
      first
        | refine aL (z_fieldAddr fo_54_3) ?_
        | refine aL (z_fieldRef fo_54_3) ?_
        | refine aL (z_fieldV fo_54_3) ?_
      refine aL (z_store sz_4) ?_
      refine awl_nil (hK7 _ _ ?_)
      clear hK7 K7
      refine aw_region fun K8 hK8 => ?_
      refine aL (z_build (pC (pC .nil)) pl_37 zc_37 zl_37) ?_
      refine aL (z_build (pC .nil) pl_42 zc_42 zl_42) ?_
      refine awl_weak (fr' := [(22, .agg badD)]) (ah' := [(0, .box (fdC m (k : Int) 2 l.length true)), (1, rw1 2 l)]) wK ?_
      refine awl_weak (fr' := [(22, .agg (badI.vs.map .v))]) (ah' := [(0, .box (fdC m (k : Int) 2 l.length true)), (1, rw1 2 l)]) (weak_one fun G w mm u h => agg_nilsl [.v (.int .i64 0), .v (.int .i64 0), .v (.int .i64 0), .v (.str []), .v (.int .i64 0)] _ h) ?_
      refine aL (z_lits (pC .nil) Try.underlying29 sz_42 zc_42 zl_42 (c := [badI.vs])) ?_
      refine aL z_assign ?_
      refine awl_nil (hK8 _ _ ?_)
      clear hK8 K8
      refine aw_weak (fr' := [(4, .v (.sl (itV [badI])))]) (ah' := Fd7.ah ⟨m, k, l, true⟩ 2) wK (aw_weak (weak_upV (v + 1) rfl) ?_)
      refine aw_ret ?_
      refine (hret _ _ _ _ _ rfl (.tmp rfl .nil) rfl ?_ (.box rfl rfl (.row rfl .nil)) rfl).1
      rfl
    · exact absurd c2 (by decide)
end Go.Proofs.Ytigodfnckjidoaa
