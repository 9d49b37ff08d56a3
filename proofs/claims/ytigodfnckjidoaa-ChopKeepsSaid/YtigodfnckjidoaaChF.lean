/- Layer 7: Take, walked. No condition. -/
import Derived.Test.YtigodfnckjidoaaChE
namespace Go.Proofs.Ytigodfnckjidoaa
set_option linter.all false
open Go Go.RowKit
set_option maxRecDepth 10000
set_option maxHeartbeats 4000000
abbrev badD : List D := [.v (.int .i64 0), .v (.int .i64 0), .v (.int .i64 0), .v (.str []), .v (.int .i64 0), NIL, .v (.int .i64 0), .v (.int .i64 0), .v (.int .i64 0), .v (.int .i64 0), .v (.int .i64 0), .v (.bool false), .v (.bool true), .v (.int .i64 1), .v (.int .i64 0)]
theorem con_Take2 {m : Int} {p : Nat} {l b : List UInt8} (v : Nat) (hp : p ≤ 24) (hb : b.length ≤ 1000000000) {k : Nat} (hg : greetM p b = (k, none)) : Con Try.prog 11 [.ptr 0 0, .v (.sl (bs b))] (Fd7.ah ⟨m, p, l, false⟩ v) 2 (.ret (.v (.sl (itV [badI])))) (Fd7.ah ⟨m, k, l, true⟩ (v + 1)) := by
  refine con_of Try.func11 rfl (by show _ ≤ 56; simp) fun X Q hP hnt hnp hret hpan => ?_
  obtain ⟨P0, nt0, w0, K0, S0, np0, pin0, df0⟩ := X
  simp only at hP hnt hnp
  subst hP hnp
  obtain rfl : nt0 = 56 := hnt
  refine aw_weak (weak_upV 0 rfl) ?_
  refine aw_region fun K1 hK1 => ?_
  refine aL z_assign ?_
  refine awl_nil (hK1 _ _ ?_)
  clear hK1 K1
  refine aw_seq fun K2 hK2 => ?_
  refine aw_region fun K3 hK3 => ?_
  refine aL z_move ?_
  refine aL (z_callG [0, 1] (eC .nil) en_15 (con_Over (f := ⟨m, p, l, false⟩) 0) (pA (pA .nil))) ?_
  refine awl_nil (hK3 _ _ ?_)
  clear hK3 K3
  refine aC (fun r1 c1 => ?_) (fun r1 c1 => ?_)
  · exact absurd c1 (by decide)
  · refine aw_skip ?_
    refine hK2 _ _ ?_
    clear hK2
    refine aw_region fun K4 hK4 => ?_
    refine aL z_move ?_
    refine aL z_move ?_
    refine aL (z_callG [0, 1] (eC (eC .nil)) en_19 (con_greet (m := m) (v := 1) (n := l.length) (l := l) hp (by omega) hg) (pA (pA .nil))) ?_
    refine aL z_move ?_
    refine aL z_extract ?_
    refine aL z_extract ?_
    refine aL z_assign ?_
    refine aL z_assign ?_
    refine awl_nil (hK4 _ _ ?_)
    clear hK4 K4
    refine aw_seq fun K5 hK5 => ?_
    refine aw_region fun K6 hK6 => ?_
    refine aL z_move ?_
    refine aL z_not ?_
    refine awl_nil (hK6 _ _ ?_)
    clear hK6 K6
    refine aC (fun r2 c2 => ?_) (fun r2 c2 => ?_)
    · refine aw_region fun K7 hK7 => ?_
      refine aL z_move ?_
      refine aL z_nilCheck ?_
      first
        | refine aL (z_fieldAddr fo_54_3) ?_
        | refine aL (z_fieldRef fo_54_3) ?_
        | refine aL (z_fieldV fo_54_3) ?_
      refine aL (z_store sz_4) ?_
      refine awl_nil (hK7 _ _ ?_)
      clear hK7 K7
      refine aw_region fun K8 hK8 => ?_
      refine aL (z_build (pC (pC .nil)) pl_37 zc_37 zl_37) ?_
      refine aL (z_build (pC .nil) pl_42 zc_42 zl_42) ?_
      refine awl_weak (fr' := [(22, .agg badD)]) (ah' := [(0, .box (fdC m (k : Int) 2 l.length true)), (1, rw1 2 l)]) wK ?_
      refine awl_weak (fr' := [(22, .agg (badI.vs.map .v))]) (ah' := [(0, .box (fdC m (k : Int) 2 l.length true)), (1, rw1 2 l)]) (weak_one fun G w mm u h => agg_nilsl [.v (.int .i64 0), .v (.int .i64 0), .v (.int .i64 0), .v (.str []), .v (.int .i64 0)] _ h) ?_
      refine aL (z_lits (pC .nil) Try.underlying29 sz_42 zc_42 zl_42 (c := [badI.vs])) ?_
      refine aL z_assign ?_
      refine awl_nil (hK8 _ _ ?_)
      clear hK8 K8
      refine aw_weak (fr' := [(4, .v (.sl (itV [badI])))]) (ah' := Fd7.ah ⟨m, k, l, true⟩ 2) wK (aw_weak (weak_upV (v + 1) rfl) ?_)
      refine aw_ret ?_
      refine (hret _ _ _ _ _ rfl (.tmp rfl .nil) rfl ?_ (.box rfl rfl (.row rfl .nil)) rfl).1
      rfl
    · exact absurd c2 (by decide)
end Go.Proofs.Ytigodfnckjidoaa
