/- Layer 10: octets' contracts as abstract ones. No condition. -/
import Derived.Test.YtnjbfiejgiaibaaDoorFa
import Derived.Test.YtnjbfiejgiaibaaDoorOctC4
import Derived.Test.YtnjbfiejgiaibaaDoorOctD
import Derived.Test.YtnjbfiejgiaibaaDoorShelf
namespace Go.Proofs.YtnjbfiejgiaibaaDoor
set_option linter.all false
open Go Go.RowKit
theorem es1 {G : Gh} {w : World} {m : Mem} {l : List UInt8} {us : List Value} (h : RepDs G w m [.v (.str l)] us) : us = [.string (S l)] := by
  match us, h.1 with
  | [u], _ => rw [rep_str (h.2 0 _ u rfl rfl)]
theorem con_Token {l : List UInt8} (hl : l.length ≤ maxLen) : Con Tryd.prog 38 [.v (.str l)] [] 0 (.ret (.v (.bool (tokenM l)))) [] :=
  con_pure fun G w us _ hA => by
    obtain rfl := es1 hA
    refine (Token_any (S l) w (by rw [S_size]; exact hl)).mono fun e w' ⟨he, hw⟩ => ?_
    subst hw
    exact ⟨_, he, fun m => by rw [S_toList]; exact mk_bool _, Below.refl _ _⟩
theorem con_rToken {l : List UInt8} (hl : l.length ≤ maxLen) : Con Tryd.prog 45 [.v (.str l)] [] 0 (.ret (.v (.bool (tokenM l)))) [] :=
  con_pure fun G w us _ hA => by
    obtain rfl := es1 hA
    refine (refToken_any (S l) w (by rw [S_size]; exact hl)).mono fun e w' ⟨he, hw⟩ => ?_
    subst hw
    exact ⟨_, he, fun m => by rw [S_toList]; exact mk_bool _, Below.refl _ _⟩
theorem con_Value {l : List UInt8} (hl : l.length ≤ maxLen) : Con Tryd.prog 40 [.v (.str l)] [] 0 (.ret (.v (.bool (valueM l)))) [] :=
  con_pure fun G w us _ hA => by
    obtain rfl := es1 hA
    refine (Value_any (S l) w (by rw [S_size]; exact hl)).mono fun e w' ⟨he, hw⟩ => ?_
    exact ⟨_, he, fun m => by rw [S_toList]; exact mk_bool _, hw⟩
theorem con_rValue {l : List UInt8} (hl : l.length ≤ maxLen) : Con Tryd.prog 47 [.v (.str l)] [] 0 (.ret (.v (.bool (valueM l)))) [] :=
  con_pure fun G w us _ hA => by
    obtain rfl := es1 hA
    refine (refValue_any (S l) w (by rw [S_size]; exact hl)).mono fun e w' ⟨he, hw⟩ => ?_
    subst hw
    exact ⟨_, he, fun m => by rw [S_toList]; exact mk_bool _, Below.refl _ _⟩
theorem con_Lower {l : List UInt8} (hl : l.length ≤ 140737488351232) : Con Tryd.prog 48 [.v (.str l)] [] 0 (.ret (.v (.str (lowM l)))) [] :=
  con_pure fun G w us _ hA => by
    obtain rfl := es1 hA
    refine (Lower_any (S l) w (by rw [S_size]; exact hl)).mono fun e w' ⟨he, hw⟩ => ?_
    exact ⟨_, he, fun m => by rw [S_toList]; exact mk_str _, hw⟩
theorem con_rLower {l : List UInt8} (hl : l.length ≤ 140737488351232) : Con Tryd.prog 37 [.v (.str l)] [] 0 (.ret (.v (.str (lowM l)))) [] :=
  con_pure fun G w us _ hA => by
    obtain rfl := es1 hA
    refine (refLower_any (S l) w (by rw [S_size]; exact hl)).mono fun e w' ⟨he, hw⟩ => ?_
    exact ⟨_, he, fun m => by rw [S_toList]; exact mk_str _, hw⟩
theorem es2 {G : Gh} {w : World} {m : Mem} {l r : List UInt8} {us : List Value} (h : RepDs G w m [.v (.str l), .v (.str r)] us) : us = [.string (S l), .string (S r)] := by
  match us, h.1 with
  | [u, v], _ => rw [rep_str (h.2 0 _ u rfl rfl), rep_str (h.2 1 _ v rfl rfl)]
theorem con_SameO {l r : List UInt8} (hl : l.length ≤ 140737488351232) (hr : r.length ≤ 140737488351232) : Con Tryd.prog 64 [.v (.str l), .v (.str r)] [] 0 (.ret (.v (.bool (decide (lowM l = lowM r))))) [] :=
  con_pure fun G w us _ hA => by
    obtain rfl := es2 hA
    refine (Same_any (S l) (S r) w (by rw [S_size]; exact hl) (by rw [S_size]; exact hr)).mono fun e w' ⟨he, hw⟩ => ?_
    exact ⟨_, he, fun m => by rw [S_toList, S_toList]; exact mk_bool _, hw⟩
end Go.Proofs.YtnjbfiejgiaibaaDoor
