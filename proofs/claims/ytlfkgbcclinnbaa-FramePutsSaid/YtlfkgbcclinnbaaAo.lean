/- Abstract states: what an operation does to one, and how memory is made and written. No program, no condition. -/
import Derived.Test.YtlfkgbcclinnbaaAb
import Derived.Tactics
import Derived.Orders
import Derived.IntWalk
namespace Go.Proofs.Ytlfkgbcclinnbaa
set_option linter.all false
open Go Go.RowKit

abbrev Fm := List (Nat × D)
abbrev AH := List (Nat × Ob)
def look {α : Type} : List (Nat × α) → Nat → Option α
  | [], _ => none
  | (k, x) :: r, t => bif Nat.beq k t then some x else look r t
def Fm.at (fr : Fm) (t : Nat) : D := (look fr t).getD .any
def over (upd : AH) (m : Mem) : Mem := fun id => match look upd id with | some o => some o | none => m id
theorem look_cons_self {α : Type} (k : Nat) (x : α) (r : List (Nat × α)) : look ((k, x) :: r) k = some x := by simp [look]
theorem look_cons_ne {α : Type} {k t : Nat} (x : α) (r : List (Nat × α)) (h : k ≠ t) : look ((k, x) :: r) t = look r t := by
  have : Nat.beq k t = false := by
    cases h' : Nat.beq k t with
    | false => rfl
    | true => exact absurd (Nat.eq_of_beq_eq_true h') h
  simp [look, this]
theorem over_nil (m : Mem) : over [] m = m := rfl
theorem over_cons (id : Nat) (o : Ob) (r : AH) : over [(id, o)] (look r) = look ((id, o) :: r) := by
  funext i
  unfold over
  by_cases h : id = i
  · subst h; simp [look]
  · rw [look_cons_ne _ _ h, look_cons_ne _ _ h]; rfl
theorem over_append (a b : AH) (m : Mem) : over a (over b m) = over (a ++ b) m := by
  funext i
  induction a with
  | nil => rfl
  | cons x a ih =>
    obtain ⟨k, o⟩ := x
    unfold over at ih ⊢
    by_cases h : k = i
    · subst h; simp [look]
    · simp [look_cons_ne _ _ h, ih]
theorem over_look (a b : AH) : over a (look b) = look (a ++ b) := by
  funext i
  induction a with
  | nil => rfl
  | cons x a ih =>
    obtain ⟨k, o⟩ := x
    unfold over at ih ⊢
    by_cases h : k = i
    · subst h; simp [look]
    · simp [look_cons_ne _ _ h, ih]
def FrOk (G : Gh) (w : World) (m : Mem) (f : Nat → D) (a : Act) : Prop := ∀ t, RepD G w m (f t) (a.tmps.getD t undef)
theorem FrOk.ext {G G' : Gh} {w w' : World} {m m' : Mem} {f : Nat → D} {a : Act} (h : FrOk G w m f a) (k : Ext G w m G' w' m') : FrOk G' w' m' f a := fun t => (h t).ext k
def fput (f : Nat → D) (dst : Option Tmp) (d : D) : Nat → D := match dst with | some t => fun i => if i = t then d else f i | none => f
theorem FrOk.put {G : Gh} {w : World} {m : Mem} {f : Nat → D} {a : Act} {dst : Option Tmp} {d : D} {u : Value} (h : FrOk G w m f a) (hd : RepD G w m d u) (ht : ∀ t, dst = some t → t < a.tmps.size) : FrOk G w m (fput f dst d) (a.put dst u) := by
  cases dst with
  | none => exact h
  | some t =>
    have hlt := ht t rfl
    intro i
    by_cases hi : i = t
    · subst hi; simpa [fput, Act.put, hlt] using hd
    · have := h i
      simpa [fput, Act.put, hi, Array.getElem?_setIfInBounds_ne (Ne.symm hi)] using this
/-- What an operand is known to be. -/
def Ev (f : Nat → D) (x : Operand) (d : D) : Prop := ∀ f' : Nat → D, (∀ t, x = .tmp t → f' t = f t) → ∀ G w m a, FrOk G w m f' a → RepD G w m d (a.eval x)
theorem Fm.at_eq {fr : Fm} {t : Nat} {d : D} (h : look fr t = some d) : fr.at t = d := by unfold Fm.at; rw [h]; rfl
theorem ev_tmp {fr : Fm} {t : Nat} {d : D} (h : look fr t = some d) : Ev fr.at (.tmp t) d := fun f' hf G w m a hF => by
  have := hF t
  rwa [hf t rfl, Fm.at_eq h] at this
section
variable {f : Nat → D} {x : Operand}
theorem ev_int (k : IntKind) (n : Int) : Ev f (.const (.int k n)) (.v (.int k n)) := fun _ _ _ _ _ _ _ => .v _ _ (.int k n)
theorem ev_bool (b : Bool) : Ev f (.const (.bool b)) (.v (.bool b)) := fun _ _ _ _ _ _ _ => .v _ _ (.bool b)
theorem ev_str {s : ByteArray} {l : List UInt8} (h : s = S l) : Ev f (.const (.string s)) (.v (.str l)) := fun _ _ _ _ _ _ _ => by subst h; exact .v _ _ (.str l)
theorem ev_lit {v : Value} (h : v.oneCell' = true) : Ev f (.const v) (.v (.lit v)) := fun _ _ _ _ _ _ _ => .v _ _ (.lit v h)
theorem ev_func (g : FuncId) : Ev f (.func g) (.fn (.func g) [] []) := fun _ _ _ _ _ _ _ => .fn _ [] [] [] [] rfl rfl (fun _ _ _ h => by simp at h) (fun _ _ _ h => by simp at h)
theorem ev_cond {b : Bool} {d : D} (h : Ev f x (.cond b d)) (hb : b = true) : Ev f x d := fun f' hf G w m a hF => by
  have := h f' hf G w m a hF
  cases this with | cond _ _ _ h _ => exact h hb
theorem ev_nil (h : Ev f x (.v (.lit (.slice none 0 0)))) : Ev f x (.v (.sl [])) := fun f' hf G w m a hF => by
  have := h f' hf G w m a hF
  generalize a.eval x = u at this
  cases this with | v _ _ h => cases h with | lit _ _ => exact .v _ _ (.nil none 0 (by simp [maxLen]))
end
/-- What an operation does, of a state of which it sees its operands and the memories T. -/
def StepU (X : Cx) (o : Oper) (f : Nat → D) (m : Mem) (d : D) (upd : AH) (T : List Nat) : Prop :=
  ∀ (f' : Nat → D) (m' : Mem), (∀ t, .tmp t ∈ o.op.operands → f' t = f t) → (∀ id ∈ T, m' id = m id) → (∀ p ∈ upd, p.1 ∉ T → m' p.1 = none) →
    ∀ G w a, Ok X G w m' → FrOk G w m' f' a → ∀ (K : Act → World → Prop) (Q : Exit → Act → World → Prop),
      (∀ G' w' u, Ok X G' w' (over upd m') → Ext G w m' G' w' (over upd m') → RepD G' w' (over upd m') d u → K (a.put o.dst u) w') → Oper.wp X.P o a w K Q
section
variable {X : Cx} {o : Oper} {f : Nat → D} {m : Mem} {d : D} {T : List Nat}
theorem stepU_pure (h : ∀ (f' : Nat → D) (m' : Mem), (∀ t, .tmp t ∈ o.op.operands → f' t = f t) → (∀ id ∈ T, m' id = m id) → ∀ G w a, Ok X G w m' → FrOk G w m' f' a → ∃ u, (execOp a.eval o).run X.P w = .ok (.value u) w ∧ RepD G w m' d u) : StepU X o f m d [] T :=
  fun f' m' hf hm _ G w a hO hF K Q hK => by
    obtain ⟨u, h1, h2⟩ := h f' m' hf hm G w a hO hF
    unfold Oper.wp
    rw [h1]
    exact hK G w u hO Ext.refl h2
theorem ev_at {f' : Nat → D} {x : Operand} {G : Gh} {w : World} {m' : Mem} {a : Act} {d : D} (hx : Ev f x d) (hin : x ∈ o.op.operands) (hf : ∀ t, .tmp t ∈ o.op.operands → f' t = f t) (hF : FrOk G w m' f' a) : RepD G w m' d (a.eval x) :=
  hx f' (fun t ht => hf t (by subst ht; exact hin)) G w m' a hF
theorem stepU_move {x : Operand} (ho : o.op = .move x) (hx : Ev f x d) : StepU X o f m d [] [] :=
  stepU_pure fun f' m' hf _ G w a _ hF => ⟨a.eval x, by simp [execOp, ho], ev_at hx (by simp [ho, Op.operands]) hf hF⟩
theorem stepU_assign {x : Operand} (ho : o.op = .assign x) (hx : Ev f x d) : StepU X o f m d [] [] :=
  stepU_pure fun f' m' hf _ G w a _ hF => ⟨a.eval x, by simp [execOp, ho], ev_at hx (by simp [ho, Op.operands]) hf hF⟩
theorem rep_int {G : Gh} {w : World} {m : Mem} {k : IntKind} {n : Int} {u : Value} (h : RepD G w m (.v (.int k n)) u) : u = .int k n := by cases h with | v _ _ h => cases h; rfl
theorem rep_bool {G : Gh} {w : World} {m : Mem} {b : Bool} {u : Value} (h : RepD G w m (.v (.bool b)) u) : u = .bool b := by cases h with | v _ _ h => cases h; rfl
theorem rep_str {G : Gh} {w : World} {m : Mem} {l : List UInt8} {u : Value} (h : RepD G w m (.v (.str l)) u) : u = .string (S l) := by cases h with | v _ _ h => cases h; rfl
theorem rep_lit {G : Gh} {w : World} {m : Mem} {v u : Value} (h : RepD G w m (.v (.lit v)) u) : u = v := by cases h with | v _ _ h => cases h; rfl
theorem mk_int {G : Gh} {w : World} {m : Mem} (k : IntKind) (n : Int) : RepD G w m (.v (.int k n)) (.int k n) := .v _ _ (.int k n)
theorem mk_bool {G : Gh} {w : World} {m : Mem} (b : Bool) : RepD G w m (.v (.bool b)) (.bool b) := .v _ _ (.bool b)
theorem mk_str {G : Gh} {w : World} {m : Mem} (l : List UInt8) : RepD G w m (.v (.str l)) (.string (S l)) := .v _ _ (.str l)
/-- a && b -/
theorem stepU_and {c x y : Operand} {B C : Bool} (ho : o.op = .pick c x y) (hc : Ev f c (.v (.bool B))) (hx : B = true → Ev f x (.v (.bool C))) (hy : Ev f y (.v (.bool false))) : StepU X o f m (.v (.bool (B && C))) [] [] :=
  stepU_pure fun f' m' hf _ G w a _ hF => by
    have h1 := rep_bool (ev_at hc (by simp [ho, Op.operands]) hf hF)
    have h3 := rep_bool (ev_at hy (by simp [ho, Op.operands]) hf hF)
    refine ⟨.bool (B && C), ?_, mk_bool _⟩
    cases B with
    | false => simp [execOp, ho, h1, h3, asBool]
    | true =>
      have h2 := rep_bool (ev_at (hx rfl) (by simp [ho, Op.operands]) hf hF)
      simp [execOp, ho, h1, h2, asBool]
/-- a || b -/
theorem stepU_or {c x y : Operand} {B C : Bool} (ho : o.op = .pick c x y) (hc : Ev f c (.v (.bool B))) (hx : Ev f x (.v (.bool true))) (hy : B = false → Ev f y (.v (.bool C))) : StepU X o f m (.v (.bool (B || C))) [] [] :=
  stepU_pure fun f' m' hf _ G w a _ hF => by
    have h1 := rep_bool (ev_at hc (by simp [ho, Op.operands]) hf hF)
    have h3 := rep_bool (ev_at hx (by simp [ho, Op.operands]) hf hF)
    refine ⟨.bool (B || C), ?_, mk_bool _⟩
    cases B with
    | true => simp [execOp, ho, h1, h3, asBool]
    | false =>
      have h2 := rep_bool (ev_at (hy rfl) (by simp [ho, Op.operands]) hf hF)
      simp [execOp, ho, h1, h2, asBool]
theorem eqGuard_int {P : Program} {w : World} (op : BinOp) (t : TypeId) (x y : Operand) (k k' : IntKind) (a b : Int) : (eqGuard op t x y (.int k a) (.int k' b)).run P w = .ok () w := by
  unfold eqGuard; cases op <;> simp
theorem eqGuard_str {P : Program} {w : World} (op : BinOp) (t : TypeId) (x y : Operand) (a b : ByteArray) : (eqGuard op t x y (.string a) (.string b)).run P w = .ok () w := by
  unfold eqGuard; cases op <;> simp
theorem eqGuard_bool {P : Program} {w : World} (op : BinOp) (t : TypeId) (x y : Operand) (a b : Bool) : (eqGuard op t x y (.bool a) (.bool b)).run P w = .ok () w := by
  unfold eqGuard; cases op <;> simp
/-- Of two whole numbers. -/
theorem stepU_bin {op : BinOp} {t t' : TypeId} {x y : Operand} {k : IntKind} {p q : Int} {u : V} (ho : o.op = .binOp op t x y t') (hx : Ev f x (.v (.int k p))) (hy : Ev f y (.v (.int k q)))
    (h : ∀ P w, ∃ v, (binOp op t (.int k p) (.int k q)).run P w = .ok v w ∧ ∀ Z, RepV Z w u v) : StepU X o f m (.v u) [] [] :=
  stepU_pure fun f' m' hf _ G w a _ hF => by
    have h1 := rep_int (ev_at hx (by simp [ho, Op.operands]) hf hF)
    have h2 := rep_int (ev_at hy (by simp [ho, Op.operands]) hf hF)
    obtain ⟨v, h3, h4⟩ := h X.P w
    exact ⟨v, by simp [execOp, ho, h1, h2, eqGuard_int, h3], .v _ _ (h4 _)⟩
section
variable {t t' : TypeId} {x y : Operand} {k : IntKind} {p q r : Int}
theorem stepU_add (ho : o.op = .binOp .add t x y t') (hx : Ev f x (.v (.int k p))) (hy : Ev f y (.v (.int k q))) (hr : k.wrap (p + q) = r) : StepU X o f m (.v (.int k r)) [] [] :=
  stepU_bin ho hx hy fun P w => ⟨_, by simp [binOp, Op.intArith, hr], fun _ => .int _ _⟩
theorem stepU_sub (ho : o.op = .binOp .sub t x y t') (hx : Ev f x (.v (.int k p))) (hy : Ev f y (.v (.int k q))) (hr : k.wrap (p - q) = r) : StepU X o f m (.v (.int k r)) [] [] :=
  stepU_bin ho hx hy fun P w => ⟨_, by simp [binOp, Op.intArith, hr], fun _ => .int _ _⟩
theorem stepU_mul (ho : o.op = .binOp .mul t x y t') (hx : Ev f x (.v (.int k p))) (hy : Ev f y (.v (.int k q))) (hr : k.wrap (p * q) = r) : StepU X o f m (.v (.int k r)) [] [] :=
  stepU_bin ho hx hy fun P w => ⟨_, by simp [binOp, Op.intArith, hr], fun _ => .int _ _⟩
theorem stepU_quo (ho : o.op = .binOp .quo t x y t') (hx : Ev f x (.v (.int k p))) (hy : Ev f y (.v (.int k q))) (h0 : q ≠ 0) (hr : k.wrap (p.tdiv q) = r) : StepU X o f m (.v (.int k r)) [] [] :=
  stepU_bin ho hx hy fun P w => ⟨_, by simp [binOp, Op.intDiv, hr, h0], fun _ => .int _ _⟩
theorem stepU_rem (ho : o.op = .binOp .rem t x y t') (hx : Ev f x (.v (.int k p))) (hy : Ev f y (.v (.int k q))) (h0 : q ≠ 0) (hr : p.tmod q = r) : StepU X o f m (.v (.int k r)) [] [] :=
  stepU_bin ho hx hy fun P w => ⟨_, by simp [binOp, Op.intDiv, hr, h0], fun _ => .int _ _⟩
theorem stepU_band (ho : o.op = .binOp .and t x y t') (hx : Ev f x (.v (.int k p))) (hy : Ev f y (.v (.int k q))) (hr : k.wrap ((BitVec.ofInt k.bits p &&& BitVec.ofInt k.bits q).toNat) = r) : StepU X o f m (.v (.int k r)) [] [] :=
  stepU_bin ho hx hy fun P w => ⟨_, by simp only [binOp, ne_eq, not_true_eq_false, if_false, Op.intBits, Sem.run_pure, hr], fun _ => .int _ _⟩
theorem stepU_bor (ho : o.op = .binOp .or t x y t') (hx : Ev f x (.v (.int k p))) (hy : Ev f y (.v (.int k q))) (hr : k.wrap ((BitVec.ofInt k.bits p ||| BitVec.ofInt k.bits q).toNat) = r) : StepU X o f m (.v (.int k r)) [] [] :=
  stepU_bin ho hx hy fun P w => ⟨_, by simp only [binOp, ne_eq, not_true_eq_false, if_false, Op.intBits, Sem.run_pure, hr], fun _ => .int _ _⟩
theorem stepU_bxor (ho : o.op = .binOp .xor t x y t') (hx : Ev f x (.v (.int k p))) (hy : Ev f y (.v (.int k q))) (hr : k.wrap ((BitVec.ofInt k.bits p ^^^ BitVec.ofInt k.bits q).toNat) = r) : StepU X o f m (.v (.int k r)) [] [] :=
  stepU_bin ho hx hy fun P w => ⟨_, by simp only [binOp, ne_eq, not_true_eq_false, if_false, Op.intBits, Sem.run_pure, hr], fun _ => .int _ _⟩
theorem stepU_eql (ho : o.op = .binOp .eql t x y t') (hx : Ev f x (.v (.int k p))) (hy : Ev f y (.v (.int k q))) : StepU X o f m (.v (.bool (p == q))) [] [] :=
  stepU_bin ho hx hy fun P w => ⟨_, by simp [binOp, Op.intCmp], fun _ => .bool _⟩
theorem stepU_neq (ho : o.op = .binOp .neq t x y t') (hx : Ev f x (.v (.int k p))) (hy : Ev f y (.v (.int k q))) : StepU X o f m (.v (.bool (p != q))) [] [] :=
  stepU_bin ho hx hy fun P w => ⟨_, by simp [binOp, Op.intCmp], fun _ => .bool _⟩
theorem stepU_lss (ho : o.op = .binOp .lss t x y t') (hx : Ev f x (.v (.int k p))) (hy : Ev f y (.v (.int k q))) : StepU X o f m (.v (.bool (decide (p < q)))) [] [] :=
  stepU_bin ho hx hy fun P w => ⟨_, by simp [binOp, Op.intCmp], fun _ => .bool _⟩
theorem stepU_leq (ho : o.op = .binOp .leq t x y t') (hx : Ev f x (.v (.int k p))) (hy : Ev f y (.v (.int k q))) : StepU X o f m (.v (.bool (decide (p ≤ q)))) [] [] :=
  stepU_bin ho hx hy fun P w => ⟨_, by simp [binOp, Op.intCmp], fun _ => .bool _⟩
theorem stepU_gtr (ho : o.op = .binOp .gtr t x y t') (hx : Ev f x (.v (.int k p))) (hy : Ev f y (.v (.int k q))) : StepU X o f m (.v (.bool (decide (p > q)))) [] [] :=
  stepU_bin ho hx hy fun P w => ⟨_, by simp [binOp, Op.intCmp], fun _ => .bool _⟩
theorem stepU_geq (ho : o.op = .binOp .geq t x y t') (hx : Ev f x (.v (.int k p))) (hy : Ev f y (.v (.int k q))) : StepU X o f m (.v (.bool (decide (p ≥ q)))) [] [] :=
  stepU_bin ho hx hy fun P w => ⟨_, by simp [binOp, Op.intCmp], fun _ => .bool _⟩
end
end
end Go.Proofs.Ytlfkgbcclinnbaa
