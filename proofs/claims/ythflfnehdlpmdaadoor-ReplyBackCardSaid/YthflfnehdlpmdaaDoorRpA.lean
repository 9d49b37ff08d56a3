/- Chapter 15: a parser's memory; fail; panics. No condition. -/
import Derived.Test.YthflfnehdlpmdaaDoorRpN
namespace Go.Proofs.YthflfnehdlpmdaaDoor
set_option linter.all false
open Go Go.RowKit
set_option maxRecDepth 10000
set_option maxHeartbeats 4000000
def Knd.fn : Knd → FuncId
  | .first => 19
  | .heads => 29
  | .chunk => 52
  | .data => 66
  | .behind => 75
  | .trailer => 67
  | .counted => 53
  | .all => 54
abbrev rwB (v : Nat) (l : List UInt8) : Ob := .row v 1 5 (bs l)
abbrev rwF (v : Nat) (fs : List Fd) : Ob := .row v 3 47 (fdV fs)
/-- Are the fields still gathered? -/
def Knd.isH : Knd → Bool
  | .heads => true
  | _ => false
abbrev Ps.fb (s : Ps) : Bool := !s.ended && s.k.isH
abbrev fsD (b : Bool) (u : Nat) (fs : List Fd) : D := match b with
  | true => .view 2 u 0 fs.length
  | false => .v (.sl (fdV fs))
abbrev fsR (b : Bool) (fs : List Fd) : List Fd := match b with
  | true => fs
  | false => []
/-- A parser's cells, a feed's. -/
abbrev Ps.csV (s : Ps) (b ov : Bool) (v u : Nat) : List D := [.v (.bool s.hd), .fn (.func s.k.fn) [.ptr 0 0] [], .view 1 v 0 s.ln.length, .v (.int .i64 s.st), .v (.bool s.old), fsD b u s.fs, .v (.int .i64 s.many), .v (.int .i64 s.need), .v (.bool ov), .v (.bool s.ended), .v (.bool s.toEnd)]
abbrev Hs.cs (h : Hs) : List D := [.v (.bool h.head), .v (.int .i64 h.st), .v (.sl (fdV h.fs)), .v (.str h.data), .v (.bool h.fin)]
abbrev feC (all : List UInt8) (at_ : Int) (h : Hs) (more : Bool) : List D := [.v (.sl (bs all)), .v (.int .i64 at_), .v (.bool h.head), .v (.int .i64 h.st), .v (.sl (fdV h.fs)), .v (.str h.data), .v (.bool h.fin), .v (.bool more)]
abbrev Ps.ahB (s : Ps) (b ov : Bool) (v : Nat) : AH := [(0, .box (s.csV b ov v v)), (1, rwB v s.ln), (2, rwF v (fsR b s.fs))]
abbrev Ps.ah (s : Ps) (v : Nat) : AH := s.ahB s.fb s.ended v
abbrev rAV (b : Bool) (s : Ps) (v u : Nat) (all : List UInt8) (at_ : Int) (h : Hs) (more : Bool) : AH := [(0, .box (s.csV b s.ended v u)), (1, rwB v s.ln), (2, rwF u (fsR b s.fs)), (3, .box (feC all at_ h more))]
abbrev rAB (b : Bool) (s : Ps) (v : Nat) (all : List UInt8) (at_ : Int) (h : Hs) (more : Bool) : AH := rAV b s v v all at_ h more
abbrev rAH (s : Ps) (v : Nat) (all : List UInt8) (at_ : Int) (h : Hs) (more : Bool) : AH := rAB s.fb s v all at_ h more
/-- What is panicked with. -/
abbrev fltV (e : Int) : Value := .iface 56 (.agg #[.int .i64 e])
abbrev panC (over : D) (ln : D) : List D := [.any, .any, ln, .any, .any, .any, .any, .any, over, .v (.bool false), .any]
abbrev panAH : AH := [(0, .box (panC .any .any)), (1, rwB 1 []), (2, rwF 1 []), (3, .box [.any, .any, .any, .any, .any, .any, .any, .any])]
inductive Anys : List D → List D → Prop
  | nil : Anys [] []
  | same (d : D) {a b : List D} (r : Anys a b) : Anys (d :: a) (d :: b)
  | any (d : D) {a b : List D} (r : Anys a b) : Anys (d :: a) (.any :: b)
theorem Anys.len {a b : List D} (h : Anys a b) : a.length = b.length := by induction h <;> simp_all
theorem Anys.rep {a b : List D} (h : Anys a b) {G : Gh} {w : World} {m : Mem} : ∀ {us : List Value}, RepDs G w m a us → RepDs G w m b us := by
  induction h with
  | nil => exact id
  | same d r ih =>
    intro us hu
    cases us with
    | nil => exact absurd hu.1 (by simp)
    | cons u us =>
      refine .cons (hu.2 0 d u rfl rfl) (ih ⟨by have := hu.1; simpa using this, fun i x y hx hy => hu.2 (i + 1) x y (by simpa using hx) (by simpa using hy)⟩)
  | any d r ih =>
    intro us hu
    cases us with
    | nil => exact absurd hu.1 (by simp)
    | cons u us =>
      refine .cons (.any u) (ih ⟨by have := hu.1; simpa using this, fun i x y hx hy => hu.2 (i + 1) x y (by simpa using hx) (by simpa using hy)⟩)
section
variable {X : Cx} {fr : Fm} {ah : AH}
theorem weak_anyB (b : Nat) {cs cs' : List D} (hb : look ah b = some (.box cs)) (h : Anys cs cs') : Weak X fr ah fr ((b, .box cs') :: ah) := fun G w a hS => by
  obtain ⟨g, us, t, b1, b2, b3, b4⟩ := hS.ok.ob b _ hb
  obtain ⟨k1, k2⟩ := hS.ok.setBox (cs' := cs') (w' := w) hb b1 us us t b2 b3 (h.rep b4) b2 (fun _ _ => rfl) rfl rfl rfl rfl
  rw [over_cons] at k1 k2
  exact ⟨_, k1, hS.fr.ext k2, hS.nt, hS.df.ext k2⟩
/-- Where it is panicked nothing is known but that the answer has not ended. -/
theorem weak_pan {a0 a1 a2 a3 a4 a5 a6 a7 a8 a10 b0 b1 b2 b3 b4 b5 b6 b7 : D} {v1 v2 : Nat} {c1 c2 : List (List V)} (h0 : look ah 0 = some (.box [a0, a1, a2, a3, a4, a5, a6, a7, a8, .v (.bool false), a10])) (h1 : look ah 1 = some (.row v1 1 5 c1)) (h2 : look ah 2 = some (.row v2 3 47 c2)) (h3 : look ah 3 = some (.box [b0, b1, b2, b3, b4, b5, b6, b7])) : Weak X fr ah [] panAH := by
  refine Weak.trans (weak_anyB 0 h0 (cs' := panC .any .any) (.any _ (.any _ (.any _ (.any _ (.any _ (.any _ (.any _ (.any _ (.any _ (.same _ (.any _ .nil)))))))))))) ?_
  refine Weak.trans (weak_anyB 3 (cs := [b0, b1, b2, b3, b4, b5, b6, b7]) (by rw [look_cons_ne _ _ (by decide)]; exact h3) (cs' := [.any, .any, .any, .any, .any, .any, .any, .any]) (.any _ (.any _ (.any _ (.any _ (.any _ (.any _ (.any _ (.any _ .nil))))))))) ?_
  refine Weak.trans (weak_anew 1 (v := v1) (n := 1) (e := 5) (c := c1) (by rw [look_cons_ne _ _ (by decide), look_cons_ne _ _ (by decide)]; exact h1)) ?_
  refine Weak.trans (weak_anew 2 (v := v2) (n := 3) (e := 47) (c := c2) (by rw [look_cons_ne _ _ (by decide), look_cons_ne _ _ (by decide), look_cons_ne _ _ (by decide)]; exact h2)) ?_
  refine Weak.trans (f2 := []) (a2 := [(0, .box (panC .any .any)), (1, .row (v1 + 1) 1 5 []), (2, .row (v2 + 1) 3 47 []), (3, .box [.any, .any, .any, .any, .any, .any, .any, .any])]) (weak_keep (.box rfl rfl (.row rfl (.row rfl (.box rfl rfl .nil)))) .nil) ?_
  exact Weak.trans (weak_rever 1 1 rfl) (weak_rever 2 1 rfl)
end
theorem con_fail {e : Int} : Con Tryd.prog 28 [.v (.int .i64 e)] [] 0 (.pan (.v (.lit (fltV e)))) [] := by
  refine con_of Tryd.func28 rfl (by show _ ≤ 5; simp) fun X Q hP hnt hnp hret hpan => ?_
  obtain ⟨P0, nt0, w0, K0, S0, np0, pin0, df0⟩ := X
  simp only at hP hnt hnp
  subst hP hnp
  obtain rfl : nt0 = 5 := hnt
  refine aw_region_last ?_
  refine aL z_move ?_
  refine aL (z_build (pC .nil) pl_56 zc_56 zl_56) ?_
  refine aL (z_iface Tryd.underlying56) ?_
  refine awl_panic ?_
  exact hpan _ _ _ rfl .nil rfl
end Go.Proofs.YthflfnehdlpmdaaDoor
