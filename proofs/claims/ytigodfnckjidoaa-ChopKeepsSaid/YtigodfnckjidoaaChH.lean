/- Layer 7: Take's contract, whole. No condition. -/
import Derived.Test.YtigodfnckjidoaaChG
namespace Go.Proofs.Ytigodfnckjidoaa
set_option linter.all false
open Go Go.RowKit
set_option maxRecDepth 10000
set_option maxHeartbeats 4000000
theorem goF_left (m : Int) : ∀ (k : Nat) (b : List UInt8), (goF m k b).2.1.length ≤ b.length
  | 0, b => Nat.le_refl _
  | k + 1, b => by
    unfold goF
    split
    · exact Nat.le_refl _
    · split
      · show (b.drop _).length ≤ _; rw [List.length_drop]; omega
      · have := goF_left m k (b.drop (takeF b m).n)
        rw [List.length_drop] at this
        show (goF m k (b.drop (takeF b m).n)).2.1.length ≤ _; omega
theorem items_left (m : Int) (b : List UInt8) : (itemsM m b).2.1.length ≤ b.length := goF_left m _ b
theorem con_Take {f : Fd7} {b : List UInt8} (v : Nat) (hp : f.pre ≤ 24) (hb : f.left.length + b.length ≤ 1000000000) : Con Try.prog 11 [.ptr 0 0, .v (.sl (bs b))] (f.ah v) 2 (.ret (.v (.sl (itV (f.take b).1)))) ((f.take b).2.ah (v + 1)) := by
  by_cases ho : f.over = true
  · have e : f.take b = ([], f) := if_pos ho
    rw [e]; exact con_Take1 v ho
  · obtain ⟨m, p, l, ov⟩ := f
    have ho : ov = false := by simpa using ho
    subst ho
    cases hg : greetM p b with
    | mk k o =>
      cases o with
      | none =>
        have e : Fd7.take ⟨m, p, l, false⟩ b = ([badI], ⟨m, k, l, true⟩) := by
          unfold Fd7.take; rw [if_neg Bool.false_ne_true]; simp only [hg]
        rw [e]; exact con_Take2 v hp (by simp only at hb; omega) hg
      | some r =>
        have e : Fd7.take ⟨m, p, l, false⟩ b = ((itemsM m (l ++ r)).1, ⟨m, k, if (itemsM m (l ++ r)).2.2 = true then [] else (itemsM m (l ++ r)).2.1, (itemsM m (l ++ r)).2.2⟩) := by
          unfold Fd7.take; rw [if_neg Bool.false_ne_true]; simp only [hg]
        rw [e]
        have hr := greet_len hg
        have hl := items_left m (l ++ r)
        rw [List.length_append] at hl
        simp only at hb
        exact con_Take3 v hp hb hg (its := (itemsM m (l ++ r)).1) (lf := (itemsM m (l ++ r)).2.1) (ov := (itemsM m (l ++ r)).2.2) rfl (by omega) rfl
end Go.Proofs.Ytigodfnckjidoaa
