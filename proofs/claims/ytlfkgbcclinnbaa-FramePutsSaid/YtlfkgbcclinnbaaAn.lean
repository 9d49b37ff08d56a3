/- Abstract states: a call that is given one's own box. No program, no condition. -/
import Derived.Test.YtlfkgbcclinnbaaAm
namespace Go.Proofs.Ytlfkgbcclinnbaa
set_option linter.all false
open Go Go.RowKit
attribute [simp] bs_cut bs_append
@[simp] theorem take_drop_len {α : Type} (l : List α) (k : Nat) : (l.drop k).take (l.length - k) = l.drop k := by rw [List.take_of_length_le (by simp)]
@[simp] theorem take_tail_len {α : Type} (l : List α) : l.tail.take (l.length - 1) = l.tail := by rw [List.take_of_length_le (by simp)]
mutual
theorem D.live_of (k : Nat → Bool) : ∀ d : D, d.live (fun _ => false) = true → d.live k = true
  | .v x, _ => rfl
  | .agg cs, h => by simp only [D.live] at h ⊢; exact D.lives_of k cs h
  | .tup cs, h => by simp only [D.live] at h ⊢; exact D.lives_of k cs h
  | .ptr id off, h => by simp [D.live] at h
  | .view id _ _ _, h => by simp [D.live] at h
  | .vptr id _ _ _, h => by simp [D.live] at h
  | .ref cs, _ => rfl
  | .fn f a b, h => by
    simp only [D.live, Bool.and_eq_true] at h ⊢
    exact ⟨D.lives_of k a h.1, D.lives_of k b h.2⟩
  | .cond b d, h => by simp only [D.live] at h ⊢; exact D.live_of k d h
  | .any, _ => rfl
theorem D.lives_of (k : Nat → Bool) : ∀ ds : List D, D.lives (fun _ => false) ds = true → D.lives k ds = true
  | [], _ => rfl
  | d :: ds, h => by
    simp only [D.lives, Bool.and_eq_true] at h ⊢
    exact ⟨D.live_of k d h.1, D.lives_of k ds h.2⟩
end
section
variable {X : Cx} {o : Oper} {f : Nat → D} {m : Mem} {d : D} {T : List Nat}
theorem stepU_lenB {x : Operand} {t e : TypeId} {l : List UInt8} (ho : o.op = .call { callee := .builtin .len, args := #[x], argTypes := #[t] }) (ht : X.P.underlying t = some (.slice e)) (hx : Ev f x (.v (.sl (bs l)))) : StepU X o f m (.v (.int .i64 (l.length : Int))) [] [] := by
  have := stepU_len (X := X) (m := m) ho ht hx
  rwa [bs_length] at this
theorem stepU_callB {g : FuncId} {xs : Array Operand} {tys : Array TypeId} {args : List D} {cs0 cs cs' : List D} (id : Nat) (ho : o.op = .call { callee := .value (.func g), args := xs, argTypes := tys }) (he : entersB X.P g = true)
    (hc : Con X.P g (.ptr 0 0 :: args) [(0, .box cs)] 1 (.ret d) [(0, .box cs')]) (hx : EvL f xs.toList (.ptr id 0 :: args)) (hm : m id = some (.box cs0)) (hcs : cs0 = cs) (ha : D.lives (fun _ => false) args = true) (h0 : D.lives (fun _ => false) cs = true)
    (h1 : D.lives (fun _ => false) cs' = true) (hd : d.live (fun _ => false) = true) : StepU X o f m d [(id, .box cs')] [id] := by
  subst hcs
  refine stepU_call [id] ho he hc ?_ (.cons ?_ .nil) rfl ?_ (fun i cs h => ?_) ?_ ?_ ?_
  · simp only [D.rens, D.ren, D.rens_dead _ _ ha]; exact hx
  · simp only [Ob.ren, D.rens_dead _ _ h0]; exact hm
  · simp [callB, keys, dom, look, Ob.goes]
  · by_cases hi : 0 = i
    · subst hi; rw [look_cons_self] at h; injection h with h; injection h with h; subst h; exact D.lives_of _ _ h0
    · rw [look_cons_ne _ _ hi] at h; cases h
  · simp only [D.lives, Bool.and_eq_true]; exact ⟨rfl, D.lives_of _ _ ha⟩
  · simp only [AH.ren, Ob.ren, D.rens_dead _ _ h1]; rfl
  · exact D.ren_dead _ _ hd
end
end Go.Proofs.Ytlfkgbcclinnbaa
