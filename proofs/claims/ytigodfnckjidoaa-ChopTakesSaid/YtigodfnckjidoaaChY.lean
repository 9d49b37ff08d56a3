/- Layer 7: Take of bytes that are kept, and not settled: the caller may write them again. No condition. -/
import Derived.Test.YtigodfnckjidoaaChE
import Derived.Test.YtigodfnckjidoaaBj
namespace Go.Proofs.Ytigodfnckjidoaa
set_option linter.all false
open Go Go.RowKit
set_option maxRecDepth 10000
set_option maxHeartbeats 4000000
def gOutK (A : Option Addr) (cap n : Nat) (o : Option (List UInt8)) : D := match o with | none => .tup [NIL, .v (.bool false)] | some r => .tup [.v (.lit (skv A (n - r.length) n cap)), .v (.bool true)]
theorem run_greetK {m : Int} {p v n : Nat} {l b : List UInt8} (hp : p ≤ 24) (hb : b.length ≤ 1099511627776) {k : Nat} {o : Option (List UInt8)} (hg : greetM p b = (k, o)) : RunK Try.prog 19 (.ptr 0 0) b [(0, .box (fdC m (p : Int) v n false)), (1, rw1 v l)] [(0, .box (fdC m (k : Int) (v + 1) n false)), (1, rw1 (v + 1) l)] 2 (fun A cap => gOutK A cap b.length o) := by
  intro K H w us A cap hSK hO hKB hA
  have hk : ∀ Z : Cx, Z.K = K → Z.w0 = w → KB Z A b cap := fun Z e1 e2 => by unfold KB; rw [e1, e2]; exact hKB
  have hkl : b.length ≤ cap := hKB.1
  refine run_of hO hA Try.func19 rfl (by show _ ≤ 35; simp) fun X Q hP hnt hnp hX hret hpan => ?_
  obtain ⟨P0, nt0, w0, K0, S0, np0, pin0, df0⟩ := X
  simp only at hP hnt hnp
  subst hP hnp
  obtain rfl : nt0 = 35 := hnt
  obtain ⟨x1, x2, x3, x4⟩ := hX
  simp only at x1 x2 x3 x4
  subst x1 x2 x3
  refine aw_region fun K1 hK1 => ?_
  refine aL z_assign ?_
  refine aL z_assign ?_
  refine awl_nil (hK1 _ _ ?_)
  clear hK1 K1
  refine aw_seq fun K2 hK2 => ?_
  refine aw_block ?_
  refine aw_loop (α := {x : Nat × List UInt8 // greetM x.1 x.2 = (k, o) ∧ x.1 ≤ 24 ∧ x.2.length ≤ b.length ∧ b.drop (b.length - x.2.length) = x.2}) (fun x => ([(0, .ptr 0 0), (1, .v (.lit (skv A (b.length - x.1.2.length) b.length cap)))], [(0, .box (fdC m (x.1.1 : Int) v n false)), (1, rw1 v l)])) (fun x => x.1.2.length) ⟨(p, b), hg, hp, Nat.le_refl _, by rw [Nat.sub_self]; rfl⟩ ?_ ?_
  · dsimp only
    rw [Nat.sub_self]
    exact wK
  · rintro ⟨⟨q, bb⟩, hq, hk24, hl, hd⟩ K3 hK3
    dsimp only
    dsimp only at hq hk24 hl hd
    refine aw_seq fun K4 hK4 => ?_
    refine aw_region fun K5 hK5 => ?_
    refine aL z_move ?_
    refine aL z_nilCheck ?_
    first
      | refine aL (z_fieldAddr fo_54_1) ?_
      | refine aL (z_fieldRef fo_54_1) ?_
      | refine aL (z_fieldV fo_54_1) ?_
    first
      | refine aL (z_load sz_3) ?_
      | refine aL (z_loadRef sz_3) ?_
      | refine aL (z_loadV sz_3) ?_
    refine aL z_lss ?_
    refine aL z_move ?_
    first
      | refine gL rfl rfl (ev_tmp rfl) (fun hg => z_move) ?_
      | refine hL rfl rfl (ev_tmp rfl) (fun hg => z_move) ?_
    first
      | refine gL rfl rfl (ev_tmp rfl) (fun hg => z_lenK (i := b.length - bb.length) (n := b.length) (A := A) (cap := cap) (q := bb.length) Try.underlying24 (hq := by omega)) ?_
      | refine hL rfl rfl (ev_tmp rfl) (fun hg => z_lenK (i := b.length - bb.length) (n := b.length) (A := A) (cap := cap) (q := bb.length) Try.underlying24 (hq := by omega)) ?_
    first
      | refine gL rfl rfl (ev_tmp rfl) (fun hg => z_gtr) ?_
      | refine hL rfl rfl (ev_tmp rfl) (fun hg => z_gtr) ?_
    refine aL z_and ?_
    refine awl_nil (hK5 _ _ ?_)
    clear hK5 K5
    refine aC (fun r1 c1 => ?_) (fun r1 c1 => ?_)
    · refine aw_skip ?_
      refine hK4 _ _ ?_
      clear hK4
      refine aw_block ?_
      refine aw_seq fun K6 hK6 => ?_
      refine aw_regionD mx_all (by kernel_rfl) fun K7 hK7 => ?_
      obtain ⟨a, r, rfl⟩ : ∃ a r, bb = a :: r := by
        cases bb with
        | nil => simp at c1
        | cons a r => exact ⟨a, r, rfl⟩
      have hq24 : q < 24 := by have := c1.1; omega
      have hlc : (a :: r).length = r.length + 1 := rfl
      have hba : b[b.length - (a :: r).length]? = some a := by
        have h1 : (b.drop (b.length - (a :: r).length))[0]? = some a := by rw [hd]; rfl
        rwa [List.getElem?_drop, Nat.add_zero] at h1
      have hAn : A ≠ none := by
        rcases hKB.2.2 with ⟨h, _⟩ | ⟨g, h, _⟩
        · rw [h] at hba; cases hba
        · rw [h]; simp
      obtain ⟨z, hz⟩ : ∃ z, preL[q]? = some z := ⟨preL[q]'(by exact hq24), List.getElem?_eq_getElem _⟩
      refine aD z_move ?_
      refine aD (z_indexAddrK (i := b.length - (a :: r).length) (l := b) (cap := cap) (hk _ (by rfl) (by rfl)) Try.underlying24 sz_5 (by omega) hkl hAn) ?_
      refine aD (z_loadK (i := b.length - (a :: r).length) (l := b) (cap := cap) (hk _ (by rfl) (by rfl)) sz_5 hba) ?_
      refine aD z_move ?_
      refine aD z_nilCheck ?_
      first
        | refine aD (z_fieldAddr fo_54_1) ?_
        | refine aD (z_fieldRef fo_54_1) ?_
        | refine aD (z_fieldV fo_54_1) ?_
      first
        | refine aD (z_load sz_3) ?_
        | refine aD (z_loadRef sz_3) ?_
        | refine aD (z_loadV sz_3) ?_
      refine aD (z_indexS Try.underlying9) ?_
      refine aD z_neq ?_
      refine awd_nil (by kernel_rfl) (hK7 _ _ ?_)
      clear hK7 K7
      refine aC (fun r2 c2 => ?_) (fun r2 c2 => ?_)
      · refine aw_region fun K8 hK8 => ?_
        refine aL z_assign ?_
        refine aL z_assign ?_
        refine awl_nil (hK8 _ _ ?_)
        clear hK8 K8
        first
          | (have hh := hq24
             have hc : ¬ preL[q]? = some a := fun he => c2 (by rw [hz] at he; injection he with he; rw [he])
             have h2 : q = k ∧ none = o := greet_bad hq hq24 hc
             obtain ⟨e1, e2⟩ := h2
             subst e1; subst e2
             refine aw_weak (fr' := [(4, NIL), (5, .v (.bool false))]) (ah' := [(0, .box (fdC m (q : Int) v n false)), (1, rw1 v l)]) wK (aw_weak (weak_upV (v + 1) rfl) ?_))
          | (have hc : bb = [] ∨ 24 ≤ q := (by
               rcases c1 with h | h
               · right; omega
               · left; exact List.eq_nil_of_length_eq_zero (by omega))
             have h2 : q = k ∧ some bb = o := greet_end hq hc
             obtain ⟨e1, e2⟩ := h2
             subst e1; subst e2
             refine aw_weak (fr' := [(4, .v (.lit (skv A (b.length - bb.length) b.length cap))), (5, .v (.bool true))]) (ah' := [(0, .box (fdC m (q : Int) v n false)), (1, rw1 v l)]) wK (aw_weak (weak_upV (v + 1) rfl) ?_))
        refine aw_ret ?_
        refine (hret _ _ _ _ _ rfl (.tmp rfl (.tmp rfl .nil)) rfl ?_ (.box rfl rfl (.row rfl .nil)) rfl).1
        rfl
      · refine aw_skip ?_
        refine hK6 _ _ ?_
        clear hK6
        refine aw_region fun K9 hK9 => ?_
        refine aL z_move ?_
        refine aL z_nilCheck ?_
        first
          | refine aL (z_fieldAddr fo_54_1) ?_
          | refine aL (z_fieldRef fo_54_1) ?_
          | refine aL (z_fieldV fo_54_1) ?_
        first
          | refine aL (z_load sz_3) ?_
          | refine aL (z_loadRef sz_3) ?_
          | refine aL (z_loadV sz_3) ?_
        refine aL z_add ?_
        refine aL z_nilCheck ?_
        first
          | refine aL (z_fieldAddr fo_54_1) ?_
          | refine aL (z_fieldRef fo_54_1) ?_
          | refine aL (z_fieldV fo_54_1) ?_
        refine aL (z_store sz_3) ?_
        refine awl_nil (hK9 _ _ ?_)
        clear hK9 K9
        refine aw_region_last ?_
        refine aL z_move ?_
        refine aL (z_sliceK (i := b.length - (a :: r).length) (n := b.length) (cap := cap) (A := A) Try.underlying24 sz_5 (by omega) hkl) ?_
        refine aL z_assign ?_
        refine awl_nil ?_
        have e : z = a := UInt8.toNat_inj.1 (by omega)
        subst e
        have hl2 : r.length + 1 ≤ b.length := by simpa using hl
        have hd2 : b.drop (b.length - r.length) = r := by
          have h1 : b.drop (b.length - (r.length + 1) + 1) = r := by
            rw [← List.drop_drop, show b.length - (r.length + 1) = b.length - (z :: r).length from rfl, hd]; rfl
          rwa [show b.length - (r.length + 1) + 1 = b.length - r.length by omega] at h1
        refine hK3 _ _ ⟨(q + 1, r), greet_on hq hq24 hz, by omega, by dsimp only; omega, hd2⟩ (by simp) ?_
        have e1 : b.length - (z :: r).length + 1 = b.length - r.length := by rw [List.length_cons]; omega
        rw [e1]
        exact wK
    · refine aw_exit ?_
      refine hK2 _ _ ?_
      clear hK2
      refine aw_region fun K10 hK10 => ?_
      refine aL z_move ?_
      refine aL z_assign ?_
      refine aL z_assign ?_
      refine awl_nil (hK10 _ _ ?_)
      clear hK10 K10
      first
        | (have hh := hq24
           have hc : ¬ preL[q]? = some a := fun he => c2 (by rw [hz] at he; injection he with he; rw [he])
           have h2 : q = k ∧ none = o := greet_bad hq hq24 hc
           obtain ⟨e1, e2⟩ := h2
           subst e1; subst e2
           refine aw_weak (fr' := [(4, NIL), (5, .v (.bool false))]) (ah' := [(0, .box (fdC m (q : Int) v n false)), (1, rw1 v l)]) wK (aw_weak (weak_upV (v + 1) rfl) ?_))
        | (have hc : bb = [] ∨ 24 ≤ q := (by
             rcases c1 with h | h
             · right; omega
             · left; exact List.eq_nil_of_length_eq_zero (by omega))
           have h2 : q = k ∧ some bb = o := greet_end hq hc
           obtain ⟨e1, e2⟩ := h2
           subst e1; subst e2
           refine aw_weak (fr' := [(4, .v (.lit (skv A (b.length - bb.length) b.length cap))), (5, .v (.bool true))]) (ah' := [(0, .box (fdC m (q : Int) v n false)), (1, rw1 v l)]) wK (aw_weak (weak_upV (v + 1) rfl) ?_))
      refine aw_ret ?_
      refine (hret _ _ _ _ _ rfl (.tmp rfl (.tmp rfl .nil)) rfl ?_ (.box rfl rfl (.row rfl .nil)) rfl).1
      rfl
theorem greet_suf : ∀ {b : List UInt8} {q k : Nat} {r : List UInt8}, greetM q b = (k, some r) → b.drop (b.length - r.length) = r
  | [], q, k, r, h => by unfold greetM at h; injection h with _ h; injection h with h; subst h; rfl
  | a :: b, q, k, r, h => by
    have hl := greet_len h
    unfold greetM at h
    split at h
    · split at h
      · have h1 := greet_len h
        have h2 := greet_suf h
        rw [List.length_cons, show b.length + 1 - r.length = (b.length - r.length) + 1 by omega]
        exact h2
      · injection h with _ h; cases h
    · injection h with _ h; injection h with h; subst h; rw [Nat.sub_self]; rfl
theorem run_TakeK1 {f : Fd7} {b : List UInt8} (v : Nat) (ho : f.over = true) : RunK Try.prog 11 (.ptr 0 0) b (f.ah v) (f.ah (v + 1)) 2 (fun _ _ => (.v (.sl (itV [])))) := by
  obtain ⟨m, p, l, ov⟩ := f
  simp only at ho
  subst ho
  intro K H w us A cap hSK hO hKB hA
  have hk : ∀ Z : Cx, Z.K = K → Z.w0 = w → KB Z A b cap := fun Z e1 e2 => by unfold KB; rw [e1, e2]; exact hKB
  have hkl : b.length ≤ cap := hKB.1
  refine run_of hO hA Try.func11 rfl (by show _ ≤ 56; simp) fun X Q hP hnt hnp hX hret hpan => ?_
  obtain ⟨P0, nt0, w0, K0, S0, np0, pin0, df0⟩ := X
  simp only at hP hnt hnp
  subst hP hnp
  obtain rfl : nt0 = 56 := hnt
  obtain ⟨x1, x2, x3, x4⟩ := hX
  simp only at x1 x2 x3 x4
  subst x1 x2 x3
  refine aw_weak (weak_upV 0 rfl) ?_
  refine aw_region fun K1 hK1 => ?_
  refine aL z_assign ?_
  refine awl_nil (hK1 _ _ ?_)
  clear hK1 K1
  refine aw_seq fun K2 hK2 => ?_
  refine aw_region fun K3 hK3 => ?_
  refine aL z_move ?_
  refine aL (z_callG [0, 1] (eC .nil) en_15 (con_Over (f := ⟨m, p, l, true⟩) 0) (pA (pA .nil))) ?_
  refine awl_nil (hK3 _ _ ?_)
  clear hK3 K3
  refine aC (fun r1 c1 => ?_) (fun r1 c1 => ?_)
  · refine aw_region fun K4 hK4 => ?_
    refine aL z_assign ?_
    refine awl_nil (hK4 _ _ ?_)
    clear hK4 K4
    refine aw_weak (fr' := [(4, NIL)]) (ah' := Fd7.ah ⟨m, p, l, true⟩ 1) wK (aw_weak weak_nilsl (aw_weak (weak_upV (v + 1) rfl) ?_))
    refine aw_ret ?_
    refine (hret _ _ _ _ _ rfl (.tmp rfl .nil) rfl ?_ (.box rfl rfl (.row rfl .nil)) rfl).1
    rfl
  · exact absurd c1 (by decide)
theorem run_TakeK2 {m : Int} {p : Nat} {l b : List UInt8} (v : Nat) (hp : p ≤ 24) (hb : b.length ≤ 1000000000) {k : Nat} (hg : greetM p b = (k, none)) : RunK Try.prog 11 (.ptr 0 0) b (Fd7.ah ⟨m, p, l, false⟩ v) (Fd7.ah ⟨m, k, l, true⟩ (v + 1)) 2 (fun _ _ => (.v (.sl (itV [badI])))) := by
  intro K H w us A cap hSK hO hKB hA
  have hk : ∀ Z : Cx, Z.K = K → Z.w0 = w → KB Z A b cap := fun Z e1 e2 => by unfold KB; rw [e1, e2]; exact hKB
  have hkl : b.length ≤ cap := hKB.1
  refine run_of hO hA Try.func11 rfl (by show _ ≤ 56; simp) fun X Q hP hnt hnp hX hret hpan => ?_
  obtain ⟨P0, nt0, w0, K0, S0, np0, pin0, df0⟩ := X
  simp only at hP hnt hnp
  subst hP hnp
  obtain rfl : nt0 = 56 := hnt
  obtain ⟨x1, x2, x3, x4⟩ := hX
  simp only at x1 x2 x3 x4
  subst x1 x2 x3
  refine aw_weak (weak_upV 0 rfl) ?_
  refine aw_region fun K1 hK1 => ?_
  refine aL z_assign ?_
  refine awl_nil (hK1 _ _ ?_)
  clear hK1 K1
  refine aw_seq fun K2 hK2 => ?_
  refine aw_region fun K3 hK3 => ?_
  refine aL z_move ?_
  refine aL (z_callG [0, 1] (eC .nil) en_15 (con_Over (f := ⟨m, p, l, false⟩) 0) (pA (pA .nil))) ?_
  refine awl_nil (hK3 _ _ ?_)
  clear hK3 K3
  refine aC (fun r1 c1 => ?_) (fun r1 c1 => ?_)
  · exact absurd c1 (by decide)
  · refine aw_skip ?_
    refine hK2 _ _ ?_
    clear hK2
    refine aw_region fun K4 hK4 => ?_
    refine aL z_move ?_
    refine aL z_move ?_
    refine aL (z_callK [0, 1] (hk _ (by rfl) (by rfl)) en_19 (run_greetK (m := m) (v := 1) (n := l.length) (l := l) hp (by omega) hg) (pA (pA .nil))) ?_
    refine aL z_move ?_
    refine aL z_extract ?_
    refine aL z_extract ?_
    refine aL z_assign ?_
    refine aL z_assign ?_
    refine awl_nil (hK4 _ _ ?_)
    clear hK4 K4
    refine aw_seq fun K5 hK5 => ?_
    refine aw_region fun K6 hK6 => ?_
    refine aL z_move ?_
    refine aL z_not ?_
    refine awl_nil (hK6 _ _ ?_)
    clear hK6 K6
    refine aC (fun r2 c2 => ?_) (fun r2 c2 => ?_)
    · refine aw_region fun K7 hK7 => ?_
      refine aL z_move ?_
      refine aL z_nilCheck ?_
      first
        | refine aL (z_fieldAddr fo_54_3) ?_
        | refine aL (z_fieldRef fo_54_3) ?_
        | refine aL (z_fieldV fo_54_3) ?_
      refine aL (z_store sz_4) ?_
      refine awl_nil (hK7 _ _ ?_)
      clear hK7 K7
      refine aw_region fun K8 hK8 => ?_
      refine aL (z_build (pC (pC .nil)) pl_37 zc_37 zl_37) ?_
      refine aL (z_build (pC .nil) pl_42 zc_42 zl_42) ?_
      refine awl_weak (fr' := [(22, .agg badD)]) (ah' := [(0, .box (fdC m (k : Int) 2 l.length true)), (1, rw1 2 l)]) wK ?_
      refine awl_weak (fr' := [(22, .agg (badI.vs.map .v))]) (ah' := [(0, .box (fdC m (k : Int) 2 l.length true)), (1, rw1 2 l)]) (weak_one fun G w mm u h => agg_nilsl [.v (.int .i64 0), .v (.int .i64 0), .v (.int .i64 0), .v (.str []), .v (.int .i64 0)] _ h) ?_
      refine aL (z_lits (pC .nil) Try.underlying29 sz_42 zc_42 zl_42 (c := [badI.vs])) ?_
      refine aL z_assign ?_
      refine awl_nil (hK8 _ _ ?_)
      clear hK8 K8
      refine aw_weak (fr' := [(4, .v (.sl (itV [badI])))]) (ah' := Fd7.ah ⟨m, k, l, true⟩ 2) wK (aw_weak (weak_upV (v + 1) rfl) ?_)
      refine aw_ret ?_
      refine (hret _ _ _ _ _ rfl (.tmp rfl .nil) rfl ?_ (.box rfl rfl (.row rfl .nil)) rfl).1
      rfl
    · exact absurd c2 (by decide)
theorem run_TakeK3 {m : Int} {p : Nat} {l b : List UInt8} (v : Nat) (hp : p ≤ 24) (hb : l.length + b.length ≤ 1000000000) {k : Nat} {r : List UInt8} (hg : greetM p b = (k, some r)) {its : List Itm} {lf : List UInt8} {ov : Bool} (hI : itemsM m (l ++ r) = (its, lf, ov)) (hlf : lf.length ≤ 1000000000) {lf' : List UInt8} (hf : lf' = if ov = true then [] else lf) :
    RunK Try.prog 11 (.ptr 0 0) b (Fd7.ah ⟨m, p, l, false⟩ v) (Fd7.ah ⟨m, k, lf', ov⟩ (v + 1)) 2 (fun _ _ => (.v (.sl (itV its)))) := by
  have hr := greet_len hg
  have hlr : (l ++ r).length ≤ 1000000000 := by rw [List.length_append]; omega
  intro K H w us A cap hSK hO hKB hA
  have hk : ∀ Z : Cx, Z.K = K → Z.w0 = w → KB Z A b cap := fun Z e1 e2 => by unfold KB; rw [e1, e2]; exact hKB
  have hkl : b.length ≤ cap := hKB.1
  refine run_of hO hA Try.func11 rfl (by show _ ≤ 56; simp) fun X Q hP hnt hnp hX hret hpan => ?_
  obtain ⟨P0, nt0, w0, K0, S0, np0, pin0, df0⟩ := X
  simp only at hP hnt hnp
  subst hP hnp
  obtain rfl : nt0 = 56 := hnt
  obtain ⟨x1, x2, x3, x4⟩ := hX
  simp only at x1 x2 x3 x4
  subst x1 x2 x3
  refine aw_weak (weak_upV 0 rfl) ?_
  refine aw_region fun K1 hK1 => ?_
  refine aL z_assign ?_
  refine awl_nil (hK1 _ _ ?_)
  clear hK1 K1
  refine aw_seq fun K2 hK2 => ?_
  refine aw_region fun K3 hK3 => ?_
  refine aL z_move ?_
  refine aL (z_callG [0, 1] (eC .nil) en_15 (con_Over (f := ⟨m, p, l, false⟩) 0) (pA (pA .nil))) ?_
  refine awl_nil (hK3 _ _ ?_)
  clear hK3 K3
  refine aC (fun r1 c1 => ?_) (fun r1 c1 => ?_)
  · exact absurd c1 (by decide)
  · refine aw_skip ?_
    refine hK2 _ _ ?_
    clear hK2
    refine aw_region fun K4 hK4 => ?_
    refine aL z_move ?_
    refine aL z_move ?_
    refine aL (z_callK [0, 1] (hk _ (by rfl) (by rfl)) en_19 (run_greetK (m := m) (v := 1) (n := l.length) (l := l) hp (by omega) hg) (pA (pA .nil))) ?_
    refine aL z_move ?_
    refine aL z_extract ?_
    refine aL z_extract ?_
    refine aL z_assign ?_
    refine aL z_assign ?_
    refine awl_nil (hK4 _ _ ?_)
    clear hK4 K4
    refine aw_seq fun K5 hK5 => ?_
    refine aw_region fun K6 hK6 => ?_
    refine aL z_move ?_
    refine aL z_not ?_
    refine awl_nil (hK6 _ _ ?_)
    clear hK6 K6
    refine aC (fun r2 c2 => ?_) (fun r2 c2 => ?_)
    · exact absurd c2 (by decide)
    · refine aw_skip ?_
      refine hK5 _ _ ?_
      clear hK5
      refine aw_region fun K7 hK7 => ?_
      refine aL z_move ?_
      refine aL z_move ?_
      refine aL z_nilCheck ?_
      first
        | refine aL (z_fieldAddr fo_54_2) ?_
        | refine aL (z_fieldRef fo_54_2) ?_
        | refine aL (z_fieldV fo_54_2) ?_
      first
        | refine aL (z_load sz_24) ?_
        | refine aL (z_loadRef sz_24) ?_
        | refine aL (z_loadV sz_24) ?_
      refine aL z_move ?_
      refine aL (StepU.settle (z_appK (i := b.length - r.length) (l := b) (cap := cap) (A := A) (r := r) (hk _ (by rfl) (by rfl)) (by omega) (greet_suf hg) Try.underlying24 zi_5 (c' := bs (l ++ r)) (hc := by rw [List.take_of_length_le (by simp)]; simp [bs]))) ?_
      refine aL z_nilCheck ?_
      first
        | refine aL (z_fieldAddr fo_54_2) ?_
        | refine aL (z_fieldRef fo_54_2) ?_
        | refine aL (z_fieldV fo_54_2) ?_
      refine aL (z_store sz_24) ?_
      refine awl_nil (hK7 _ _ ?_)
      clear hK7 K7
      refine aw_region fun K8 hK8 => ?_
      refine aL (z_alloc 2 zc_29 zl_29) ?_
      refine awl_nil (hK8 _ _ ?_)
      clear hK8 K8
      refine aw_weak (weak_nilB 2 0 3 15 42 rfl rfl rfl (by decide) (by exact Nat.le_of_ble_eq_true rfl) rfl) ?_
      refine aw_seq fun K9 hK9 => ?_
      refine aw_region fun K10 hK10 => ?_
      refine aL z_move ?_
      refine aL (z_callG [0, 1, 4] (eC .nil) en_20 (con_items (m := m) (p := (k : Int)) (l := l ++ r) (ov := false)) (pA (pA .nil))) ?_
      refine awl_nil (hK10 _ _ ?_)
      clear hK10 K10
      refine aw_block ?_
      refine aw_rangeFunc (pre := itPre m (k : Int) (l ++ r)) (post := itPost m (k : Int) its lf ov) (np := 4) (cargs := [.ptr 1 0]) [0, 4, 2, 3] (ev_tmp rfl) en_29 (fun G w a hS w1 lp rec h1 h2 h3 h4 h5 h6 h7 K H us hKl hSK hHS hHm hOk hA => ?_) rfl (pA (pA (pA (pA .nil)))) rfl rfl (preLive_of rfl) rfl (fun i h1 h2 => by
        match i, h1, h2 with
        | 0, _, h2 => cases h2
        | 1, _, h2 => cases h2
        | 2, _, h2 => cases h2
        | 3, _, h2 => cases h2) ?_
      · obtain ⟨g, cs, hv, hm, -⟩ := rep_ptr (show RepD G w _ (.ptr 2 0) (a.tmps.getD 6 undef) from hS.fr 6)
        refine (run_items (us := Value.func (.yield lp) #[] #[] :: us) hlr ?_ ⟨⟨rec, h1, h2, h3, by rw [h4]; exact hS.nt, by rw [h4]; exact hv, h5, h6, h7⟩⟩ hKl (by rw [hHm]; exact hm) hOk (.cons (.fn (.yield lp) [] [] [] [] rfl rfl (fun _ _ _ h => by simp at h) (fun _ _ _ h => by simp at h)) hA) hI).mono fun e w' ⟨G', q1, q2⟩ => ⟨G', q1, ?_⟩
        · intro i done hd X e1 e2 e3
          obtain ⟨P1, nt1, w1', K1', S1', np1, pin1, df1⟩ := X
          simp only at e1 e2 e3
          subst e1 e2 e3
          refine awY_region_last ?_
          refine aY (z_alloc 5 zc_42 zl_42) ?_
          refine aY (z_store sz_42) ?_
          refine awlY_nil ⟨rfl, fun X' e1 e2 e3 => ?_⟩
          obtain ⟨P1, nt1, w1', K1', S1', np1, pin1, df1⟩ := X'
          simp only at e1 e2 e3
          subst e1 e2 e3
          refine awY_block (awY_region_last ?_)
          refine aY (z_load sz_29) ?_
          refine aY (z_load sz_42) ?_
          refine aY (z_lits (pC .nil) Try.underlying29 sz_42 zc_42 zl_42 (c := [i.vs])) ?_
          refine aY (z_app Try.underlying29 zi_42 (c' := itV (done ++ [i])) (hc := itV_snoc rfl)) ?_
          refine aY (z_store sz_29) ?_
          refine awlY_nil ⟨rfl, ?_⟩
          unfold rdPost
          rw [show (done ++ [i]).length = done.length + 1 by simp]
          exact .box rfl rfl (.row rfl .nil)
        · cases e with
          | returned v => exact .any _
          | panicked c => exact q2.elim
          | outgrown => exact q2.elim
      refine hK9 _ _ ?_
      clear hK9
      refine aw_seq fun K11 hK11 => ?_
      refine aw_region fun K12 hK12 => ?_
      refine awl_weak (fr' := [(0, .ptr 0 0), (6, .ptr 2 0)]) (ah' := [(0, .box (fd2 m (k : Int) lf ov)), (1, rw1 5 []), (2, .box [.view 3 1 0 its.length]), (3, .row 1 15 42 (itV its))]) wK ?_
      refine aL z_move ?_
      refine aL z_nilCheck ?_
      first
        | refine aL (z_fieldAddr fo_54_3) ?_
        | refine aL (z_fieldRef fo_54_3) ?_
        | refine aL (z_fieldV fo_54_3) ?_
      first
        | refine aL (z_load sz_4) ?_
        | refine aL (z_loadRef sz_4) ?_
        | refine aL (z_loadV sz_4) ?_
      refine awl_nil (hK12 _ _ ?_)
      clear hK12 K12
      refine aC (fun r3 c3 => ?_) (fun r3 c3 => ?_)
      · refine aw_region_last ?_
        refine aL z_move ?_
        refine aL z_nilCheck ?_
        first
          | refine aL (z_fieldAddr fo_54_2) ?_
          | refine aL (z_fieldRef fo_54_2) ?_
          | refine aL (z_fieldV fo_54_2) ?_
        refine aL (z_store sz_24) ?_
        refine awl_nil ?_
        refine hK11 _ _ ?_
        clear hK11
        refine aw_region fun K13 hK13 => ?_
        first
          | refine aL (z_load sz_29) ?_
          | refine aL (z_loadRef sz_29) ?_
          | refine aL (z_loadV sz_29) ?_
        refine aL z_assign ?_
        refine awl_nil (hK13 _ _ ?_)
        clear hK13 K13
        have hcut : cut 0 (0 + its.length) (itV its) = itV its := (by have := cut_all (itV its); rwa [itV_len] at this)
        first
          | (subst c3
             rw [if_pos rfl] at hf
             subst hf
             refine aw_weak (weak_nilE 0 2 1 rfl rfl rfl rfl) (aw_weak (weak_settle (fr' := [(4, .v (.sl (itV its)))]) (ah' := Fd7.ah ⟨m, k, [], true⟩ 6) 3 rfl (.box rfl rfl (.row rfl .nil)) rfl (.view rfl hcut .nil)) (aw_weak (weak_upV (v + 1) rfl) ?_)))
          | (subst c3
             rw [if_neg (by decide)] at hf
             subst hf
             refine aw_weak (fr' := [(4, .view 3 1 0 its.length)]) (ah' := [(0, .box (fdC m (k : Int) 7 lf'.length false)), (1, rw1 7 lf'), (3, .row 1 15 42 (itV its))]) wK (aw_weak (weak_settle (fr' := [(4, .v (.sl (itV its)))]) (ah' := Fd7.ah ⟨m, k, lf', false⟩ 7) 3 rfl (.box rfl rfl (.row rfl .nil)) rfl (.view rfl hcut .nil)) (aw_weak (weak_upV (v + 1) rfl) ?_)))
        refine aw_ret ?_
        refine (hret _ _ _ _ _ rfl (.tmp rfl .nil) rfl ?_ (.box rfl rfl (.row rfl .nil)) rfl).1
        rfl
      · refine aw_region_last ?_
        refine aL z_move ?_
        refine aL z_move ?_
        refine aL z_nilCheck ?_
        first
          | refine aL (z_fieldAddr fo_54_2) ?_
          | refine aL (z_fieldRef fo_54_2) ?_
          | refine aL (z_fieldV fo_54_2) ?_
        first
          | refine aL (z_load sz_24) ?_
          | refine aL (z_loadRef sz_24) ?_
          | refine aL (z_loadV sz_24) ?_
        refine aL (z_appE 1 Try.underlying24 zi_5) ?_
        refine aL z_nilCheck ?_
        first
          | refine aL (z_fieldAddr fo_54_2) ?_
          | refine aL (z_fieldRef fo_54_2) ?_
          | refine aL (z_fieldV fo_54_2) ?_
        refine aL (z_store sz_24) ?_
        refine awl_nil ?_
        refine hK11 _ _ ?_
        clear hK11
        refine aw_region fun K14 hK14 => ?_
        first
          | refine aL (z_load sz_29) ?_
          | refine aL (z_loadRef sz_29) ?_
          | refine aL (z_loadV sz_29) ?_
        refine aL z_assign ?_
        refine awl_nil (hK14 _ _ ?_)
        clear hK14 K14
        have hcut : cut 0 (0 + its.length) (itV its) = itV its := (by have := cut_all (itV its); rwa [itV_len] at this)
        first
          | (subst c3
             rw [if_pos rfl] at hf
             subst hf
             refine aw_weak (weak_nilE 0 2 1 rfl rfl rfl rfl) (aw_weak (weak_settle (fr' := [(4, .v (.sl (itV its)))]) (ah' := Fd7.ah ⟨m, k, [], true⟩ 6) 3 rfl (.box rfl rfl (.row rfl .nil)) rfl (.view rfl hcut .nil)) (aw_weak (weak_upV (v + 1) rfl) ?_)))
          | (subst c3
             rw [if_neg (by decide)] at hf
             subst hf
             refine aw_weak (fr' := [(4, .view 3 1 0 its.length)]) (ah' := [(0, .box (fdC m (k : Int) 7 lf'.length false)), (1, rw1 7 lf'), (3, .row 1 15 42 (itV its))]) wK (aw_weak (weak_settle (fr' := [(4, .v (.sl (itV its)))]) (ah' := Fd7.ah ⟨m, k, lf', false⟩ 7) 3 rfl (.box rfl rfl (.row rfl .nil)) rfl (.view rfl hcut .nil)) (aw_weak (weak_upV (v + 1) rfl) ?_)))
        refine aw_ret ?_
        refine (hret _ _ _ _ _ rfl (.tmp rfl .nil) rfl ?_ (.box rfl rfl (.row rfl .nil)) rfl).1
        rfl
theorem run_TakeK {f : Fd7} {b : List UInt8} (v : Nat) (hp : f.pre ≤ 24) (hb : f.left.length + b.length ≤ 1000000000) : RunK Try.prog 11 (.ptr 0 0) b (f.ah v) ((f.take b).2.ah (v + 1)) 2 (fun _ _ => (.v (.sl (itV (f.take b).1)))) := by
  by_cases ho : f.over = true
  · have e : f.take b = ([], f) := if_pos ho
    rw [e]; exact run_TakeK1 v ho
  · obtain ⟨m, p, l, ov⟩ := f
    have ho : ov = false := by simpa using ho
    subst ho
    cases hg : greetM p b with
    | mk k o =>
      cases o with
      | none =>
        have e : Fd7.take ⟨m, p, l, false⟩ b = ([badI], ⟨m, k, l, true⟩) := by
          unfold Fd7.take; rw [if_neg Bool.false_ne_true]; simp only [hg]
        rw [e]; exact run_TakeK2 v hp (by simp only at hb; omega) hg
      | some r =>
        have e : Fd7.take ⟨m, p, l, false⟩ b = ((itemsM m (l ++ r)).1, ⟨m, k, if (itemsM m (l ++ r)).2.2 = true then [] else (itemsM m (l ++ r)).2.1, (itemsM m (l ++ r)).2.2⟩) := by
          unfold Fd7.take; rw [if_neg Bool.false_ne_true]; simp only [hg]
        rw [e]
        have hr := greet_len hg
        have hl := items_left m (l ++ r)
        rw [List.length_append] at hl
        simp only at hb
        exact run_TakeK3 v hp hb hg (its := (itemsM m (l ++ r)).1) (lf := (itemsM m (l ++ r)).2.1) (ov := (itemsM m (l ++ r)).2.2) rfl (by omega) rfl
end Go.Proofs.Ytigodfnckjidoaa
