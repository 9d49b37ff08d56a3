/- Layer 6: how a frame lies in memory; contracts of the small functions of the program's frame. No condition. -/
import Derived.Test.YtlfkgbcclinnbaaOctT
import Derived.Test.YtlfkgbcclinnbaaFrM
import Derived.Test.YtlfkgbcclinnbaaTyp
namespace Go.Proofs.Ytlfkgbcclinnbaa
set_option linter.all false
open Go Go.RowKit

abbrev I (n : Int) : Value := .int .i64 n
/-- The slice at A reads as these cells, all of it below block B. -/
def RdC (w : World) (B : Nat) (A : Option Addr) (cs : List Value) : Prop :=
  cs = [] ∨ ∃ g o, A = some ⟨g, o, none⟩ ∧ g < B ∧ ∀ i, (h : i < cs.length) → w.cell? ⟨g, o + i, none⟩ = some cs[i]
section
variable {w w' : World} {B B' : Nat} {A : Option Addr} {cs : List Value}
theorem RdC.keep (h : RdC w B A cs) (hb : Below B w w') : RdC w' B A cs := by
  rcases h with h | ⟨g, o, e, hg, hc⟩
  · exact .inl h
  · exact .inr ⟨g, o, e, hg, fun i hi => (hb.cell (p := ⟨g, o + i, none⟩) hg).trans (hc i hi)⟩
theorem RdC.more (h : RdC w B A cs) (hB : B ≤ B') : RdC w B' A cs := by
  rcases h with h | ⟨g, o, e, hg, hc⟩
  · exact .inl h
  · exact .inr ⟨g, o, e, by omega, hc⟩
theorem RdC.get (h : RdC w B A cs) (i : Nat) (hi : i < cs.length) : ∃ g o, A = some ⟨g, o, none⟩ ∧ g < B ∧ w.cell? ⟨g, o + i, none⟩ = some cs[i] := by
  rcases h with h | ⟨g, o, e, hg, hc⟩
  · subst h; simp at hi
  · exact ⟨g, o, e, hg, hc i hi⟩
theorem RdC.new (w : World) (t : TypeId) (cs : List Value) (hB : w.heap.size < B) : RdC (w.alloc (.cells cs.toArray t)) B (some ⟨w.heap.size, 0, none⟩) cs :=
  .inr ⟨w.heap.size, 0, rfl, hB, fun i hi => by rw [(Whole.new w t cs).at_, Nat.zero_add]; exact List.getElem?_eq_getElem hi⟩
end
theorem within_any (most : Int) (l : List Int) (A : Option Addr) (c : Nat) (hl : l.length ≤ 1000) (w : World) (B : Nat) (h : RdC w B A (l.map I)) :
    Calls Try.prog 36 #[I most, .slice A l.length c] w fun e w' => e = .returned (.bool (l.all fun n => inB n most)) ∧ w = w' := by
  go_enter Try.func36, Try.ntmps36
  go_wp2
  go_loop [9] (fun i => ∃ k : Nat, k ≤ l.length ∧ i = I k ∧ Hid (∀ j, (h : j < k) → (h' : j < l.length) → inB l[j] most = true)) (fun i => l.length - (intOf i).toNat)
  case atStart => exact ⟨0, Nat.zero_le _, rfl, Lib.hid (fun j h => by omega)⟩
  case round =>
    obtain ⟨k, hk, rfl, hn⟩ := hrel
    by_cases hlt : k < l.length
    · obtain ⟨g, o, rfl, hg, hcell⟩ := h.get k (by simpa using hlt)
      simp only [List.getElem_map] at hcell
      obtain ⟨x, hx⟩ : ∃ x, l[k] = x := ⟨_, rfl⟩
      rw [hx] at hcell
      have hbad : ¬ (0 ≤ x ∧ x ≤ most) → Hid ((l.all fun n => inB n most) = false) := fun hh => Lib.hid (by
        rw [List.all_eq_false]
        refine ⟨x, by rw [← hx]; exact List.getElem_mem _, ?_⟩
        simp only [inB, Bool.and_eq_true, decide_eq_true_eq]; exact hh)
      have Hx := Lib.hid hx
      clear hx
      by_cases h0 : x < 0
      · have Hf := hbad (by omega)
        clear hbad
        go_wp2
        go_ret
        exact ⟨ret_bool Hf.out.symm, rfl⟩
      · by_cases h1 : most < x
        · have Hf := hbad (by omega)
          clear hbad
          go_wp2
          go_ret
          exact ⟨ret_bool Hf.out.symm, rfl⟩
        · have Hn : Hid (∀ j, (h : j < k + 1) → (h' : j < l.length) → inB l[j] most = true) := Lib.hid (fun j hj hl => by
            rcases (by omega : j < k ∨ j = k) with e | rfl
            · exact hn.out j e hl
            · rw [Hx.out]; simp [inB]; omega)
          clear hbad
          go_wp2
          go_round
          case rel => exact ⟨k + 1, by omega, by go_num, Hn⟩
          case measure => simp [intOf]; omega
    · have Hf : Hid ((l.all fun n => inB n most) = true) := Lib.hid (by
        rw [List.all_eq_true]
        intro x hx
        obtain ⟨j, hj, rfl⟩ := List.getElem_of_mem hx
        exact hn.out j (by omega) hj)
      go_wp2
      go_ret
      exact ⟨ret_bool Hf.out.symm, rfl⟩
/-- A frame as a value. -/
abbrev Fr.v (f : Fr) (A : Option Addr) (c : Nat) : Value :=
  .agg #[I f.ty, I f.fl, I f.st, .string (S f.data), I f.pad, .slice A f.sets.length c, I f.code, I f.last, I f.inc, I f.dep, I f.wt, .bool f.sole]
def setC (l : List (Int × Int)) : List Value := l.flatMap fun s => [I s.1, I s.2]
set_option maxHeartbeats 800000 in
theorem empty_any (f : Fr) (A : Option Addr) (c : Nat) (hd : f.data.length ≤ 9223372036854775807) (hs : f.sets.length ≤ 9223372036854775807) (w : World) :
    Calls Try.prog 37 #[f.v A c] w fun e w' => e = .returned (.bool (emptyB f)) ∧ Below w.heap.size w w' := by
  obtain ⟨ty, fl, st, data, pad, sets, code, last, inc, dep, wt, sole⟩ := f
  have Hb : Hid (∀ b, (emptyB ⟨ty, fl, st, data, pad, sets, code, last, inc, dep, wt, sole⟩ = b) = ((decide (data = []) && decide (pad = 0) && decide (sets = []) && decide (code = 0) && decide (last = 0) && decide (inc = 0) && decide (dep = 0) && decide (wt = 0) && !sole) = b)) := Lib.hid (fun b => rfl)
  dsimp only at hd hs
  go_enter Try.func37, Try.ntmps37
  go_wp2
  all_goals
    go_ret
    exact ⟨ret_bool (by simp [emptyB, *]), (Below.refl _ _).alloc (Nat.le_refl _) _⟩
def nilA (f : Fr) (A : Option Addr) : Option Addr := if f.ty = 4 then none else A
def nilC (f : Fr) (c : Nat) : Nat := if f.ty = 4 then 0 else c
set_option maxHeartbeats 1600000 in
theorem bare_any (f : Fr) (A : Option Addr) (c : Nat) (h0 : 0 ≤ f.fl) (h1 : f.fl ≤ 255) (w : World) :
    Calls Try.prog 38 #[f.v A c] w fun e w' => e = .returned ((bareM f).v (nilA f A) (nilC f c)) ∧ Below w.heap.size w w' := by
  obtain ⟨ty, fl, st, data, pad, sets, code, last, inc, dep, wt, sole⟩ := f
  obtain ⟨b8, b32, _⟩ := bit_of fl h0 h1
  dsimp only at h0 h1
  by_cases t0 : ty = 0
  · subst t0
    cases e8 : bitB fl 8 <;> rw [e8] at b8 <;> simp only [if_true, if_false, Bool.false_eq_true] at b8
    · clear b32
      go_enter Try.func38, Try.ntmps38
      go_wp2
      exact bodyPost_ret (v := .agg #[I 0, I fl, I st, .string ⟨#[]⟩, I pad, .slice A sets.length c, I code, I last, I inc, I dep, I wt, .bool sole]) (by simp [results, Try.results38, go_sem]) rfl ⟨by simp [bareM, nilA, nilC, S, *], (by repeat (first | exact Below.refl _ _ | assumption | refine Below.alloc ?_ (by simp <;> omega) _ | refine Below.setCell ?_ (by simp <;> omega) _ | refine Below.drew ?_))⟩
    · clear b32
      go_enter Try.func38, Try.ntmps38
      go_wp2
      exact bodyPost_ret (v := .agg #[I 0, I fl, I st, .string ⟨#[]⟩, I 0, .slice A sets.length c, I code, I last, I inc, I dep, I wt, .bool sole]) (by simp [results, Try.results38, go_sem]) rfl ⟨by simp [bareM, nilA, nilC, S, *], (by repeat (first | exact Below.refl _ _ | assumption | refine Below.alloc ?_ (by simp <;> omega) _ | refine Below.setCell ?_ (by simp <;> omega) _ | refine Below.drew ?_))⟩
  by_cases t1 : ty = 1
  · subst t1
    clear t0
    cases e8 : bitB fl 8 <;> cases e32 : bitB fl 32 <;> rw [e8] at b8 <;> rw [e32] at b32 <;> simp only [if_true, if_false, Bool.false_eq_true] at b8 b32
    · go_enter Try.func38, Try.ntmps38
      go_wp2
      exact bodyPost_ret (v := .agg #[I 1, I fl, I st, .string ⟨#[]⟩, I pad, .slice A sets.length c, I code, I last, I inc, I dep, I wt, .bool sole]) (by simp [results, Try.results38, go_sem]) rfl ⟨by simp [bareM, nilA, nilC, S, *], (by repeat (first | exact Below.refl _ _ | assumption | refine Below.alloc ?_ (by simp <;> omega) _ | refine Below.setCell ?_ (by simp <;> omega) _ | refine Below.drew ?_))⟩
    · go_enter Try.func38, Try.ntmps38
      go_wp2
      exact bodyPost_ret (v := .agg #[I 1, I fl, I st, .string ⟨#[]⟩, I pad, .slice A sets.length c, I code, I last, I inc, I 0, I 0, .bool false]) (by simp [results, Try.results38, go_sem]) rfl ⟨by simp [bareM, nilA, nilC, S, *], (by repeat (first | exact Below.refl _ _ | assumption | refine Below.alloc ?_ (by simp <;> omega) _ | refine Below.setCell ?_ (by simp <;> omega) _ | refine Below.drew ?_))⟩
    · go_enter Try.func38, Try.ntmps38
      go_wp2
      exact bodyPost_ret (v := .agg #[I 1, I fl, I st, .string ⟨#[]⟩, I 0, .slice A sets.length c, I code, I last, I inc, I dep, I wt, .bool sole]) (by simp [results, Try.results38, go_sem]) rfl ⟨by simp [bareM, nilA, nilC, S, *], (by repeat (first | exact Below.refl _ _ | assumption | refine Below.alloc ?_ (by simp <;> omega) _ | refine Below.setCell ?_ (by simp <;> omega) _ | refine Below.drew ?_))⟩
    · go_enter Try.func38, Try.ntmps38
      go_wp2
      exact bodyPost_ret (v := .agg #[I 1, I fl, I st, .string ⟨#[]⟩, I 0, .slice A sets.length c, I code, I last, I inc, I 0, I 0, .bool false]) (by simp [results, Try.results38, go_sem]) rfl ⟨by simp [bareM, nilA, nilC, S, *], (by repeat (first | exact Below.refl _ _ | assumption | refine Below.alloc ?_ (by simp <;> omega) _ | refine Below.setCell ?_ (by simp <;> omega) _ | refine Below.drew ?_))⟩
  have b8' : ∃ r, bits .and .i64 fl 8 = r := ⟨_, rfl⟩
  clear b32 b8
  by_cases t2 : ty = 2
  · subst t2
    clear t0 t1
    go_enter Try.func38, Try.ntmps38
    go_wp2
    exact bodyPost_ret (v := .agg #[I 2, I fl, I st, .string (S data), I pad, .slice A sets.length c, I code, I last, I inc, I 0, I 0, .bool false]) (by simp [results, Try.results38, go_sem]) rfl ⟨by simp [bareM, nilA, nilC, S, *], (by repeat (first | exact Below.refl _ _ | assumption | refine Below.alloc ?_ (by simp <;> omega) _ | refine Below.setCell ?_ (by simp <;> omega) _ | refine Below.drew ?_))⟩
  by_cases t3 : ty = 3
  · subst t3
    clear t0 t1
    go_enter Try.func38, Try.ntmps38
    go_wp2
    exact bodyPost_ret (v := .agg #[I 3, I fl, I st, .string (S data), I pad, .slice A sets.length c, I 0, I last, I inc, I dep, I wt, .bool sole]) (by simp [results, Try.results38, go_sem]) rfl ⟨by simp [bareM, nilA, nilC, S, *], (by repeat (first | exact Below.refl _ _ | assumption | refine Below.alloc ?_ (by simp <;> omega) _ | refine Below.setCell ?_ (by simp <;> omega) _ | refine Below.drew ?_))⟩
  by_cases t4 : ty = 4
  · subst t4
    clear t0 t1
    go_enter Try.func38, Try.ntmps38
    go_wp2
    exact bodyPost_ret (v := .agg #[I 4, I fl, I st, .string (S data), I pad, .slice none 0 0, I code, I last, I inc, I dep, I wt, .bool sole]) (by simp [results, Try.results38, go_sem]) rfl ⟨by simp [bareM, nilA, nilC, S, *], (by repeat (first | exact Below.refl _ _ | assumption | refine Below.alloc ?_ (by simp <;> omega) _ | refine Below.setCell ?_ (by simp <;> omega) _ | refine Below.drew ?_))⟩
  by_cases t8 : ty = 8
  · subst t8
    clear t0 t1
    go_enter Try.func38, Try.ntmps38
    go_wp2
    exact bodyPost_ret (v := .agg #[I 8, I fl, I st, .string (S data), I pad, .slice A sets.length c, I code, I last, I 0, I dep, I wt, .bool sole]) (by simp [results, Try.results38, go_sem]) rfl ⟨by simp [bareM, nilA, nilC, S, *], (by repeat (first | exact Below.refl _ _ | assumption | refine Below.alloc ?_ (by simp <;> omega) _ | refine Below.setCell ?_ (by simp <;> omega) _ | refine Below.drew ?_))⟩
  by_cases t7 : ty = 7
  · subst t7
    clear t0 t1
    go_enter Try.func38, Try.ntmps38
    go_wp2
    exact bodyPost_ret (v := .agg #[I 7, I fl, I st, .string ⟨#[]⟩, I pad, .slice A sets.length c, I 0, I 0, I inc, I dep, I wt, .bool sole]) (by simp [results, Try.results38, go_sem]) rfl ⟨by simp [bareM, nilA, nilC, S, *], (by repeat (first | exact Below.refl _ _ | assumption | refine Below.alloc ?_ (by simp <;> omega) _ | refine Below.setCell ?_ (by simp <;> omega) _ | refine Below.drew ?_))⟩
  go_enter Try.func38, Try.ntmps38
  go_wp2
  exact bodyPost_ret (v := .agg #[I ty, I fl, I st, .string ⟨#[]⟩, I pad, .slice A sets.length c, I code, I last, I inc, I dep, I wt, .bool sole]) (by simp [results, Try.results38, go_sem]) rfl ⟨by simp [bareM, nilA, nilC, S, *], (by repeat (first | exact Below.refl _ _ | assumption | refine Below.alloc ?_ (by simp <;> omega) _ | refine Below.setCell ?_ (by simp <;> omega) _ | refine Below.drew ?_))⟩
end Go.Proofs.Ytlfkgbcclinnbaa
