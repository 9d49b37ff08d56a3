/- Layer 6: the document's fields. No condition. -/
import Derived.Test.YtigodfnckjidoaaFrRa
namespace Go.Proofs.Ytigodfnckjidoaa
set_option linter.all false
open Go Go.RowKit
set_option maxRecDepth 10000
set_option maxHeartbeats 4000000
def rA (f : Fr) (p : List UInt8) : Fr × List UInt8 := if f.ty ≤ 1 ∧ bitB f.fl 8 = true then ({ f with pad := ((p.getD 0 0).toNat : Int) }, p.drop 1) else (f, p)
def rB (f : Fr) (x : Fr × List UInt8) : Fr × List UInt8 := if f.ty = 2 ∨ f.ty = 1 ∧ bitB f.fl 32 = true then (placeM x.1 x.2, x.2.drop 5) else x
def rC (f : Fr) (x : Fr × List UInt8) : Fr × List UInt8 := if f.ty = 7 then ({ x.1 with last := lowM (at4 x.2 0), code := at4 x.2 4 }, x.2.drop 8) else x
def rD (f : Fr) (x : Fr × List UInt8) : Fr × List UInt8 := if f.ty = 3 then ({ x.1 with code := at4 x.2 0 }, []) else x
def rE (f : Fr) (x : Fr × List UInt8) : Fr × List UInt8 := if f.ty = 8 then ({ x.1 with inc := lowM (at4 x.2 0) }, []) else x
theorem rA_k (f : Fr) (p : List UInt8) : (rA f p).1.ty = f.ty ∧ (rA f p).1.fl = f.fl := by unfold rA; split <;> exact ⟨rfl, rfl⟩
theorem rB_k (f : Fr) (x : Fr × List UInt8) : (rB f x).1.ty = x.1.ty ∧ (rB f x).1.fl = x.1.fl := by unfold rB; split <;> exact ⟨rfl, rfl⟩
theorem rC_k (f : Fr) (x : Fr × List UInt8) : (rC f x).1.ty = x.1.ty := by unfold rC; split <;> rfl
theorem rD_k (f : Fr) (x : Fr × List UInt8) : (rD f x).1.ty = x.1.ty := by unfold rD; split <;> rfl
theorem rE_k (f : Fr) (x : Fr × List UInt8) : (rE f x).1.ty = x.1.ty := by unfold rE; split <;> rfl
theorem rA_l (f : Fr) (p : List UInt8) : (rA f p).2.length ≤ p.length ∧ (rA f p).1.sets = f.sets ∧ ((rA f p).1.pad = f.pad ∨ ∃ b : UInt8, (rA f p).1.pad = (b.toNat : Int)) := by
  unfold rA; split
  · exact ⟨by simp, rfl, .inr ⟨_, rfl⟩⟩
  · exact ⟨Nat.le_refl _, rfl, .inl rfl⟩
theorem rB_l (f : Fr) (x : Fr × List UInt8) : (rB f x).2.length ≤ x.2.length ∧ (rB f x).1.sets = x.1.sets ∧ (rB f x).1.pad = x.1.pad := by unfold rB; split <;> exact ⟨by simp, rfl, rfl⟩
theorem rC_l (f : Fr) (x : Fr × List UInt8) : (rC f x).2.length ≤ x.2.length ∧ (rC f x).1.sets = x.1.sets ∧ (rC f x).1.pad = x.1.pad := by unfold rC; split <;> exact ⟨by simp, rfl, rfl⟩
theorem rD_l (f : Fr) (x : Fr × List UInt8) : (rD f x).2.length ≤ x.2.length ∧ (rD f x).1.sets = x.1.sets ∧ (rD f x).1.pad = x.1.pad := by unfold rD; split <;> exact ⟨by simp, rfl, rfl⟩
theorem rE_l (f : Fr) (x : Fr × List UInt8) : (rE f x).2.length ≤ x.2.length ∧ (rE f x).1.sets = x.1.sets ∧ (rE f x).1.pad = x.1.pad := by unfold rE; split <;> exact ⟨by simp, rfl, rfl⟩
/-- What the document reads is what the program reads. -/
theorem ref_open {f : Fr} {p : List UInt8} (ht : 0 ≤ f.ty) (hd : f.data = []) (hp : f.pad = 0) (hm : missB f.ty f.fl p.length = false) (h4 : ¬ f.ty = 4) :
    openM f p = (if ((rE f (rD f (rC f (rB f (rA f p))))).2.length : Int) < (rE f (rD f (rC f (rB f (rA f p))))).1.pad then none else
      some { (rE f (rD f (rC f (rB f (rA f p))))).1 with data := (rE f (rD f (rC f (rB f (rA f p))))).2.take ((rE f (rD f (rC f (rB f (rA f p))))).2.length - (rE f (rD f (rC f (rB f (rA f p))))).1.pad.toNat) }) := by
  obtain ⟨ty, fl, st, data, pad, sets, code, last, inc, dep, wt, sole⟩ := f
  simp only at ht hd hp hm h4
  subst hd hp
  by_cases h0 : ty = 0
  · subst h0
    by_cases h8 : bitB fl 8 = true <;> simp [openM, rA, rB, rC, rD, rE, h8, placeM]
  by_cases h1 : ty = 1
  · subst h1
    by_cases h8 : bitB fl 8 = true <;> by_cases h32 : bitB fl 32 = true <;> simp [openM, rA, rB, rC, rD, rE, h8, h32, placeM]
  have hn : ¬ ty ≤ 1 := by omega
  by_cases h2 : ty = 2
  · subst h2
    have : p.length = 5 := by simp [missB] at hm; omega
    simp [openM, rA, rB, rC, rD, rE, placeM, this]
  by_cases h3 : ty = 3
  · subst h3; simp [openM, rA, rB, rC, rD, rE]
  by_cases h8 : ty = 8
  · subst h8; simp [openM, rA, rB, rC, rD, rE]
  by_cases h7 : ty = 7
  · subst h7; simp [openM, rA, rB, rC, rD, rE]
  simp [openM, rA, rB, rC, rD, rE, h0, h1, h2, h3, h4, h7, h8, hn]
theorem ref_left {f : Fr} {p : List UInt8} (ht : 0 ≤ f.ty) (hp : f.pad = 0) (hn : openM f p = none) : (rE f (rD f (rC f (rB f (rA f p))))).1 = openK f p := by
  have h01 : f.ty = 0 ∨ f.ty = 1 := by
    rw [openM_eq] at hn
    by_cases h : f.ty = 0 ∨ f.ty = 1
    · exact h
    · rw [if_neg h] at hn
      repeat' split at hn
      all_goals cases hn
  have e7 : ¬ f.ty = 7 := by omega
  have e3 : ¬ f.ty = 3 := by omega
  have e8 : ¬ f.ty = 8 := by omega
  unfold rE rD rC
  rw [if_neg e8, if_neg e3, if_neg e7]
  unfold rB
  by_cases h : f.ty = 1 ∧ bitB f.fl 32 = true
  · rw [if_pos (.inr h), openK_yes h]
    by_cases h8 : bitB f.fl 8 = true
    · simp only [rA, if_pos (show f.ty ≤ 1 ∧ bitB f.fl 8 = true from ⟨by omega, h8⟩), openG_yes h8, openQ_yes h8]
    · simp only [rA, if_neg (show ¬ (f.ty ≤ 1 ∧ bitB f.fl 8 = true) from fun h => h8 h.2), openG_no (by simpa using h8), openQ_no (show bitB f.fl 8 = false by simpa using h8)]
  · rw [if_neg (fun hh => by rcases hh with hh | hh; omega; exact h hh), openK_no h]
    by_cases h8 : bitB f.fl 8 = true
    · simp only [rA, if_pos (show f.ty ≤ 1 ∧ bitB f.fl 8 = true from ⟨by omega, h8⟩), openG_yes h8]
    · simp only [rA, if_neg (show ¬ (f.ty ≤ 1 ∧ bitB f.fl 8 = true) from fun h => h8 h.2), openG_no (show bitB f.fl 8 = false by simpa using h8)]
end Go.Proofs.Ytigodfnckjidoaa
