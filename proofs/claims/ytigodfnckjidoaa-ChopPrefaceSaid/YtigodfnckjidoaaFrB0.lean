/- Layer 6: frames as abstract values; octets' contracts. No condition. -/
import Derived.Test.YtigodfnckjidoaaFa
import Derived.Test.YtigodfnckjidoaaOctT
import Derived.Test.YtigodfnckjidoaaFrM
namespace Go.Proofs.Ytigodfnckjidoaa
set_option linter.all false
open Go Go.RowKit

def setV (l : List (Int × Int)) : List (List V) := l.map fun s => [.int .i64 s.1, .int .i64 s.2]
abbrev Fr.cs (f : Fr) : List D :=
  [.v (.int .i64 f.ty), .v (.int .i64 f.fl), .v (.int .i64 f.st), .v (.str f.data), .v (.int .i64 f.pad), .v (.sl (setV f.sets)), .v (.int .i64 f.code), .v (.int .i64 f.last), .v (.int .i64 f.inc), .v (.int .i64 f.dep), .v (.int .i64 f.wt), .v (.bool f.sole)]
abbrev Flt.cs (x : Flt) : List D := [.v (.bool x.is), .v (.int .i64 x.code), .v (.int .i64 x.st)]
/-- A frame's cells, its settings in some form. -/
abbrev Fr.csX (f : Fr) (s : D) : List D :=
  [.v (.int .i64 f.ty), .v (.int .i64 f.fl), .v (.int .i64 f.st), .v (.str f.data), .v (.int .i64 f.pad), s, .v (.int .i64 f.code), .v (.int .i64 f.last), .v (.int .i64 f.inc), .v (.int .i64 f.dep), .v (.int .i64 f.wt), .v (.bool f.sole)]
theorem Fr.cs_X (f : Fr) : f.cs = f.csX (.v (.sl (setV f.sets))) := rfl
theorem ds1 {G : Gh} {w : World} {m : Mem} {d : D} {us : List Value} (h : RepDs G w m [d] us) : ∃ u, us = [u] ∧ RepD G w m d u := by
  match us, h.1 with
  | [u], _ => exact ⟨u, rfl, h.2 0 d u rfl rfl⟩
theorem ds2 {G : Gh} {w : World} {m : Mem} {d d' : D} {us : List Value} (h : RepDs G w m [d, d'] us) : ∃ u u', us = [u, u'] ∧ RepD G w m d u ∧ RepD G w m d' u' := by
  match us, h.1 with
  | [u, u'], _ => exact ⟨u, u', rfl, h.2 0 d u rfl rfl, h.2 1 d' u' rfl rfl⟩
theorem ds3 {G : Gh} {w : World} {m : Mem} {d d' d'' : D} {us : List Value} (h : RepDs G w m [d, d', d''] us) : ∃ u u' u'', us = [u, u', u''] ∧ RepD G w m d u ∧ RepD G w m d' u' ∧ RepD G w m d'' u'' := by
  match us, h.1 with
  | [u, u', u''], _ => exact ⟨u, u', u'', rfl, h.2 0 d u rfl rfl, h.2 1 d' u' rfl rfl, h.2 2 d'' u'' rfl rfl⟩
theorem rep_tup2 {G : Gh} {w : World} {m : Mem} {d d' : D} {u u' : Value} (h : RepD G w m d u) (h' : RepD G w m d' u') : RepD G w m (.tup [d, d']) (.tuple #[u, u']) :=
  .tup [d, d'] [u, u'] rfl (RepDs.cons h (.cons h' .nil)).2
theorem con_take {l : List UInt8} {p size : Int} (hp : p ≤ 9223372036854775807) : Con Try.prog 35 [.v (.sl (bs l)), .v (.int .i64 p), .v (.int .i64 size)] [] 0 (.ret (.tup [.v (.int .u32 (takeV l p size)), .v (.int .i64 (takeE l p size))])) [] :=
  con_pure fun G w us hl hA => by
    obtain ⟨u, u', u'', rfl, h1, h2, h3⟩ := ds3 hA
    obtain rfl := rep_int h2
    obtain rfl := rep_int h3
    obtain ⟨A, c, rfl, hc, hm, hr⟩ := rd_of (rep_sl h1) hl
    refine (take_any l A c hc hm p size hp w w.heap.size hr).mono fun e w' ⟨he, hw⟩ => ?_
    subst hw
    exact ⟨_, he, fun m => rep_tup2 (mk_int _ _) (mk_int _ _), Below.refl _ _⟩
theorem con_refTake {l : List UInt8} {p size : Int} (hp : p ≤ 9223372036854775807) : Con Try.prog 34 [.v (.sl (bs l)), .v (.int .i64 p), .v (.int .i64 size)] [] 0 (.ret (.tup [.v (.int .u32 (takeV l p size)), .v (.int .i64 (takeE l p size))])) [] :=
  con_pure fun G w us hl hA => by
    obtain ⟨u, u', u'', rfl, h1, h2, h3⟩ := ds3 hA
    obtain rfl := rep_int h2
    obtain rfl := rep_int h3
    obtain ⟨A, c, rfl, hc, hm, hr⟩ := rd_of (rep_sl h1) hl
    refine (reftake_any l A c hc hm p size hp w w.heap.size hr).mono fun e w' ⟨he, hw⟩ => ?_
    subst hw
    exact ⟨_, he, fun m => rep_tup2 (mk_int _ _) (mk_int _ _), Below.refl _ _⟩
theorem con_refPut {n : Nat} {size : Int} (hn : n < 4294967296) : Con Try.prog 23 [.v (.int .u32 n), .v (.int .i64 size)] [] 0 (.ret (.view 0 0 0 (putL n size).length)) [(0, .row 0 1 5 (bs (putL n size)))] :=
  con_bytes fun G w us hl hA => by
    obtain ⟨u, u', rfl, h1, h2⟩ := ds2 hA
    obtain rfl := rep_int h1
    obtain rfl := rep_int h2
    exact refput_any n hn size w
end Go.Proofs.Ytigodfnckjidoaa
