/- Layer 10: contracts of digits and bytes; the greater of two numbers; maps from texts to texts. No condition. -/
import Derived.Test.YtnjbfiejgiaibaaDoorHdB
import Derived.Test.YtnjbfiejgiaibaaDoorHdM
namespace Go.Proofs.YtnjbfiejgiaibaaDoor
set_option linter.all false
open Go Go.RowKit
theorem con_Decimal {l : List UInt8} (hl : l.length ≤ maxLen) : Con Tryd.prog 84 [.v (.str l)] [] 0 (.ret (.tup [.v (.int .i64 (numV 10 l)), .v (.int .i64 (numE 10 l))])) [] :=
  con_pure fun G w us _ hA => by
    obtain rfl := es1 hA
    refine (decimal_any (S l) w (by rw [S_size]; exact hl)).mono fun e w' ⟨he, hw⟩ => ?_
    subst hw
    exact ⟨_, he, fun m => by rw [S_toList]; exact .tup _ [.int .i64 (numV 10 l), .int .i64 (numE 10 l)] rfl (RepDs.cons (mk_int _ _) (.cons (mk_int _ _) .nil)).2, Below.refl _ _⟩
theorem ei1 {G : Gh} {w : World} {m : Mem} {k : IntKind} {n : Int} {us : List Value} (h : RepDs G w m [.v (.int k n)] us) : us = [.int k n] := by
  match us, h.1 with
  | [u], _ => rw [rep_int (h.2 0 _ u rfl rfl)]
theorem ei2 {G : Gh} {w : World} {m : Mem} {k k' : IntKind} {n n' : Int} {us : List Value} (h : RepDs G w m [.v (.int k n), .v (.int k' n')] us) : us = [.int k n, .int k' n'] := by
  match us, h.1 with
  | [u, v], _ => rw [rep_int (h.2 0 _ u rfl rfl), rep_int (h.2 1 _ v rfl rfl)]
theorem con_Digits {n : Int} (hn : n ≤ 9223372036854775807) : Con Tryd.prog 22 [.v (.int .i64 n)] [] 0 (.ret (.v (.str (digs 10 n)))) [] :=
  con_pure fun G w us _ hA => by
    obtain rfl := ei1 hA
    refine (octDigits_all n hn w).mono fun e w' ⟨he, hw⟩ => ?_
    exact ⟨_, he, fun m => mk_str _, hw⟩
theorem con_rDigits {n : Int} (hn : n ≤ 9223372036854775807) : Con Tryd.prog 26 [.v (.int .i64 n), .v (.int .i64 10)] [] 0 (.ret (.v (.str (digs 10 n)))) [] :=
  con_pure fun G w us _ hA => by
    obtain rfl := ei2 hA
    refine (refDigits_all n hn 10 (.inl rfl) w).mono fun e w' ⟨he, hw⟩ => ?_
    exact ⟨_, he, fun m => mk_str _, hw⟩
theorem esu {G : Gh} {w : World} {m : Mem} {k : IntKind} {n : Int} {l : List UInt8} {us : List Value} (h : RepDs G w m [.v (.str l), .v (.int k n)] us) : us = [.string (S l), .int k n] := by
  match us, h.1 with
  | [u, v], _ => rw [rep_str (h.2 0 _ u rfl rfl), rep_int (h.2 1 _ v rfl rfl)]
theorem con_IndexByte {l : List UInt8} {c : UInt8} : Con Tryd.prog 110 [.v (.str l), .v (.int .u8 (c.toNat : Int))] [] 0 (.ret (.v (.int .i64 (Lib.indexByte l c)))) [] :=
  con_pure fun G w us _ hA => by
    obtain rfl := esu hA
    refine (show Calls Tryd.prog 110 _ w _ from Any.strings_IndexByte Tryd.lays137 (S l) c.toNat w).mono fun e w' ⟨he, hw⟩ => ?_
    subst hw
    exact ⟨_, he, fun m => by rw [← Lib.toList_data, S_toList, show ((c.toNat : Int)).toNat.toUInt8 = c from by simp]; exact mk_int _ _, Below.refl _ _⟩
/-- A map from texts to structs of one text. -/
abbrev Wd := List (List UInt8 × List UInt8)
def wdV (m : Wd) : List (List UInt8 × List V) := m.map fun p => (p.1, [V.str p.2])
def lk (k : List UInt8) : Wd → Option (List UInt8)
  | [] => none
  | x :: r => if x.1 = k then some x.2 else lk k r
theorem lookM_wd (k : List UInt8) : ∀ m : Wd, lookM k (wdV m) = (lk k m).map fun s => [V.str s]
  | [] => rfl
  | x :: r => by
    simp only [wdV, List.map_cons, lookM, lk]
    by_cases h : x.1 = k
    · simp [h]
    · simp only [h, if_false]; exact lookM_wd k r
theorem lookM_get (k : List UInt8) (m : Wd) : ((lookM k (wdV m)).getD [V.str []]).map D.v = [.v (.str ((lk k m).getD []))] := by
  rw [lookM_wd]; cases lk k m <;> rfl
theorem look_wdT (k : List UInt8) (m : Wd) : (if true = true then D.tup [rd true (((lookM k (wdV m)).getD [V.str []]).map .v), .v (.bool (lookM k (wdV m)).isSome)] else rd true (((lookM k (wdV m)).getD [V.str []]).map .v)) = .tup [.agg [.v (.str ((lk k m).getD []))], .v (.bool (lk k m).isSome)] := by
  rw [if_pos rfl, lookM_get, lookM_wd, Option.isSome_map]; rfl
theorem look_wdF (k : List UInt8) (m : Wd) : (if false = true then D.tup [rd true (((lookM k (wdV m)).getD [V.str []]).map .v), .v (.bool (lookM k (wdV m)).isSome)] else rd true (((lookM k (wdV m)).getD [V.str []]).map .v)) = .agg [.v (.str ((lk k m).getD []))] := by
  rw [if_neg (by decide), lookM_get]; rfl
theorem put_wd {k v : List UInt8} : ∀ {m : Wd}, lk k m = none → putM k [V.str v] (wdV m) = wdV (m ++ [(k, v)])
  | [], _ => rfl
  | x :: r, h => by
    unfold lk at h
    split at h
    · cases h
    · rename_i hx
      have e : putM k [V.str v] (wdV (x :: r)) = (x.1, [V.str x.2]) :: putM k [V.str v] (wdV r) := by
        show putM k [V.str v] ((x.1, [V.str x.2]) :: wdV r) = _
        rw [putM, if_neg hx]
      rw [e, put_wd h]; rfl
theorem lk_none {k : List UInt8} : ∀ {m : Wd}, lk k m = none ↔ ∀ p ∈ m, ¬ p.1 = k
  | [] => by simp [lk]
  | x :: r => by
    unfold lk
    by_cases h : x.1 = k
    · simp [h]
    · rw [if_neg h, lk_none]; simp [h]
theorem lk_app (k : List UInt8) : ∀ (a b : Wd), lk k (a ++ b) = (lk k a).or (lk k b)
  | [], b => by simp [lk]
  | x :: a, b => by
    simp only [List.cons_append, lk]
    by_cases h : x.1 = k
    · simp [h]
    · simp only [h, if_false]; exact lk_app k a b
end Go.Proofs.YtnjbfiejgiaibaaDoor
