/- Layer 6: plain facts of what is written, and how a frame lies in memory. No condition. -/
import Derived.Test.YtigodfnckjidoaaFrX
import Derived.Test.YtigodfnckjidoaaTyp
import Derived.Test.YtigodfnckjidoaaOctToOctT
import Derived.Test.YtigodfnckjidoaaMem
import Derived.Deep.DeepCutAuto
namespace Go.Proofs.Ytigodfnckjidoaa
set_option linter.all false
open Go Go.RowKit
abbrev I (n : Int) : Value := .int .i64 n
/-- The slice at A reads as these cells, all of it below block B. -/
def RdC (w : World) (B : Nat) (A : Option Addr) (cs : List Value) : Prop :=
  cs = [] ∨ ∃ g o, A = some ⟨g, o, none⟩ ∧ g < B ∧ ∀ i, (h : i < cs.length) → w.cell? ⟨g, o + i, none⟩ = some cs[i]
section
variable {w w' : World} {B B' : Nat} {A : Option Addr} {cs : List Value}
theorem RdC.keep (h : RdC w B A cs) (hb : Below B w w') : RdC w' B A cs := by
  rcases h with h | ⟨g, o, e, hg, hc⟩
  · exact .inl h
  · exact .inr ⟨g, o, e, hg, fun i hi => (hb.cell (p := ⟨g, o + i, none⟩) hg).trans (hc i hi)⟩
theorem RdC.more (h : RdC w B A cs) (hB : B ≤ B') : RdC w B' A cs := by
  rcases h with h | ⟨g, o, e, hg, hc⟩
  · exact .inl h
  · exact .inr ⟨g, o, e, by omega, hc⟩
theorem RdC.get (h : RdC w B A cs) (i : Nat) (hi : i < cs.length) : ∃ g o, A = some ⟨g, o, none⟩ ∧ g < B ∧ w.cell? ⟨g, o + i, none⟩ = some cs[i] := by
  rcases h with h | ⟨g, o, e, hg, hc⟩
  · subst h; simp at hi
  · exact ⟨g, o, e, hg, hc i hi⟩
theorem RdC.new (w : World) (t : TypeId) (cs : List Value) (hB : w.heap.size < B) : RdC (w.alloc (.cells cs.toArray t)) B (some ⟨w.heap.size, 0, none⟩) cs :=
  .inr ⟨w.heap.size, 0, rfl, hB, fun i hi => by rw [(Whole.new w t cs).at_, Nat.zero_add]; exact List.getElem?_eq_getElem hi⟩
end
/-- A frame as a value. -/
abbrev Fr.v (f : Fr) (A : Option Addr) (c : Nat) : Value :=
  .agg #[I f.ty, I f.fl, I f.st, .string (S f.data), I f.pad, .slice A f.sets.length c, I f.code, I f.last, I f.inc, I f.dep, I f.wt, .bool f.sole]
def setC (l : List (Int × Int)) : List Value := l.flatMap fun s => [I s.1, I s.2]
theorem putL_of (n : Nat) (k : Nat) (h1 : 1 ≤ k) (h4 : k ≤ 4) : putL n (k : Int) = putB k n := by
  unfold putL; rw [if_neg (by omega)]; rfl
abbrev Fr.cells (f : Fr) (A : Option Addr) (c : Nat) : List Value :=
  [I f.ty, I f.fl, I f.st, .string (S f.data), I f.pad, .slice A f.sets.length c, I f.code, I f.last, I f.inc, I f.dep, I f.wt, .bool f.sole]
theorem u8_of (n : Int) (h0 : 0 ≤ n) (h1 : n ≤ 255) : Value.int .u8 n = U (UInt8.ofNat n.toNat) := by
  have : ((UInt8.ofNat n.toNat).toNat : Int) = n := by simp; omega
  rw [U, this]
/-- The high bit of four bytes. -/
theorem high_set (d : Nat) (h : d < 2147483648) : (putB 4 d).set 0 (UInt8.ofNat (d / 256 ^ 3 % 256 + 128)) = putB 4 (d + 2147483648) := by
  have e (i : Nat) (hi : i ≤ 2) : (d + 2147483648) / 256 ^ i % 256 = d / 256 ^ i % 256 := by
    rcases (by omega : i = 0 ∨ i = 1 ∨ i = 2) with rfl | rfl | rfl <;> omega
  have e3 : (d + 2147483648) / 256 ^ 3 % 256 = d / 256 ^ 3 % 256 + 128 := by omega
  show UInt8.ofNat (d / 256 ^ 3 % 256 + 128) :: putB 3 d = UInt8.ofNat ((d + 2147483648) / 256 ^ 3 % 256) :: putB 3 (d + 2147483648)
  rw [e3]
  simp only [putB, e 0 (by omega), e 1 (by omega), e 2 (by omega)]
theorem or128 (x : Nat) (h : x < 128) : bits .or .u8 (x : Int) 128 = ((x + 128 : Nat) : Int) := by
  have : ∀ k : Fin 128, bits .or .u8 (k.val : Int) 128 = ((k.val + 128 : Nat) : Int) := by decide +kernel
  exact this ⟨x, h⟩
/-- A byte of the call's own row is written. -/
theorem setC_len (l : List (Int × Int)) : (setC l).length = 2 * l.length := by
  induction l with
  | nil => rfl
  | cons s l ih => simp [setC] at ih ⊢; omega
theorem setC_at : ∀ (l : List (Int × Int)) (k : Nat) (h : k < l.length), (setC l)[2 * k]? = some (I l[k].1) ∧ (setC l)[2 * k + 1]? = some (I l[k].2)
  | s :: l, 0, _ => ⟨rfl, rfl⟩
  | s :: l, k + 1, h => by
    have := setC_at l k (by simpa using h)
    rw [show 2 * (k + 1) = 2 * k + 1 + 1 from by omega]
    simpa [setC] using this
theorem RdC.set {w : World} {B : Nat} {A : Option Addr} {l : List (Int × Int)} (h : RdC w B A (setC l)) (k : Nat) (hk : k < l.length) :
    ∃ g o, A = some ⟨g, o, none⟩ ∧ g < B ∧ w.cell? ⟨g, o + k * 2, none⟩ = some (I l[k].1) ∧ w.cell? ⟨g, o + k * 2 + 1, none⟩ = some (I l[k].2) := by
  rcases h with h | ⟨g, o, e, hg, hc⟩
  · have := setC_len l; rw [h] at this; simp at this; omega
  · have hl := setC_len l
    obtain ⟨h1, h2⟩ := setC_at l k hk
    refine ⟨g, o, e, hg, ?_, ?_⟩
    · rw [show o + k * 2 = o + 2 * k from by omega, hc (2 * k) (by omega)]
      rw [List.getElem?_eq_getElem (by omega)] at h1
      exact h1
    · rw [show o + k * 2 + 1 = o + (2 * k + 1) from by omega, hc (2 * k + 1) (by omega)]
      rw [List.getElem?_eq_getElem (by omega)] at h2
      exact h2
theorem may_facts (f : Fr) (h : rangesB f = true) : 0 ≤ f.ty ∧ f.ty ≤ 255 ∧ 0 ≤ f.fl ∧ f.fl ≤ 255 ∧ 0 ≤ f.pad ∧ f.pad ≤ 255 ∧ 0 ≤ f.wt ∧ f.wt ≤ 255 ∧ 0 ≤ f.st ∧ f.st ≤ 2147483647 ∧ 0 ≤ f.last ∧ f.last ≤ 2147483647 ∧ 0 ≤ f.dep ∧ f.dep ≤ 2147483647 ∧ 0 ≤ f.inc ∧ f.inc ≤ 2147483647 ∧ setsB f.sets = true ∧ 0 ≤ f.code ∧ f.code ≤ 4294967295 := by
  simp only [rangesB, inB, Bool.and_eq_true, decide_eq_true_eq] at h
  obtain ⟨⟨⟨⟨⟨⟨⟨⟨⟨⟨a1, a2⟩, b1, b2⟩, c1, c2⟩, d1, d2⟩, e1, e2⟩, f1, f2⟩, g1, g2⟩, h1, h2⟩, i⟩, j1, j2⟩ := h
  exact ⟨a1, a2, b1, b2, c1, c2, d1, d2, e1, e2, f1, f2, g1, g2, h1, h2, i, j1, j2⟩
theorem rdc_of {G : Gh} {w : World} {l : List (Int × Int)} {u : Value} (h : RepV G.S w (.sl (setV l)) u) (hl : ∀ g, G.S g → g < w.heap.size) : ∃ A c, u = .slice A l.length c ∧ l.length ≤ c ∧ c ≤ maxLen ∧ RdC w w.heap.size A (setC l) := by
  generalize hc : setV l = c at h
  cases h with
  | nil A cap hm =>
    obtain rfl : l = [] := by cases l <;> simp [setV] at hc ⊢
    exact ⟨A, cap, rfl, Nat.zero_le _, hm, .inl rfl⟩
  | sl _ g o n cap us hne hz hn hs hcap hm hcc hr =>
    subst hc
    have h2 : ∀ e ∈ setV l, e.length = 2 := by intro e he; obtain ⟨s, _, rfl⟩ := List.mem_map.1 he; rfl
    obtain rfl : n = 2 := by rw [← hs _ (List.getElem_mem hne)]; exact h2 _ (List.getElem_mem hne)
    have hln : (setV l).length = l.length := by simp [setV]
    refine ⟨_, cap, by rw [hln], by omega, hm, .inr ⟨g, o, rfl, hl g hz, fun i hi => ?_⟩⟩
    have hsl : (setC l).length = l.length * 2 := by rw [setC_len]; omega
    have hi2 : i / 2 < l.length := by omega
    have key : ∀ j, j < 2 → w.cell? ⟨g, o + (i / 2 * 2 + j), none⟩ = some (if j = 0 then I (l[i / 2]).1 else I (l[i / 2]).2) := fun j hj => by
      have he0 : elem? (setV l) (i / 2) j = some (if j = 0 then .int .i64 (l[i / 2]).1 else .int .i64 (l[i / 2]).2) := by
        rcases (by omega : j = 0 ∨ j = 1) with rfl | rfl <;> simp [elem?, setV, hi2]
      have h1 := hcc _ _ _ he0
      have h2 := hr _ _ _ he0
      rw [h1]
      generalize us (i / 2) j = v at h2
      rcases (by omega : j = 0 ∨ j = 1) with rfl | rfl <;> simp at h2 ⊢ <;> cases h2 <;> rfl
    have hk := key (i % 2) (Nat.mod_lt _ (by decide))
    rw [show i / 2 * 2 + i % 2 = i from by omega] at hk
    rw [hk]
    congr 1
    have fl : ∀ (l : List (Int × Int)) (i : Nat) (h : i < l.length * 2) (h' : i < (setC l).length), (setC l)[i] = if i % 2 = 0 then I (l[i / 2]'(by omega)).1 else I (l[i / 2]'(by omega)).2 := by
      intro l
      induction l with
      | nil => intro i h; simp at h
      | cons s l ih =>
        intro i h h'
        have e : setC (s :: l) = I s.1 :: I s.2 :: setC l := by simp [setC]
        match i with
        | 0 => simp [e]
        | 1 => simp [e]
        | i + 2 =>
          have := ih i (by simp at h; omega) (by rw [e] at h'; simp at h'; omega)
          simp only [e, List.getElem_cons_succ]
          rw [this]
          have e1 : (i + 2) % 2 = i % 2 := by omega
          have e2 : (i + 2) / 2 = i / 2 + 1 := by omega
          simp [e1, e2]
    exact (fl l i (by omega) hi).symm
theorem fr_of {G : Gh} {w : World} {m : Mem} {f : Fr} {u : Value} (h : RepD G w m (.agg f.cs) u) (hl : ∀ g, G.S g → g < w.heap.size) : ∃ A c, u = f.v A c ∧ RdC w w.heap.size A (setC f.sets) := by
  cases h with
  | agg _ us hlen h1 h =>
    match us, hlen with
    | [u0, u1, u2, u3, u4, u5, u6, u7, u8, u9, u10, u11], _ =>
      obtain rfl := rep_int (h 0 _ u0 rfl rfl)
      obtain rfl := rep_int (h 1 _ u1 rfl rfl)
      obtain rfl := rep_int (h 2 _ u2 rfl rfl)
      obtain rfl := rep_str (h 3 _ u3 rfl rfl)
      obtain rfl := rep_int (h 4 _ u4 rfl rfl)
      obtain ⟨A, c, rfl, _, _, hr⟩ := rdc_of (rep_sl (h 5 _ u5 rfl rfl)) hl
      obtain rfl := rep_int (h 6 _ u6 rfl rfl)
      obtain rfl := rep_int (h 7 _ u7 rfl rfl)
      obtain rfl := rep_int (h 8 _ u8 rfl rfl)
      obtain rfl := rep_int (h 9 _ u9 rfl rfl)
      obtain rfl := rep_int (h 10 _ u10 rfl rfl)
      obtain rfl := rep_bool (h 11 _ u11 rfl rfl)
      exact ⟨A, c, rfl, hr⟩
/-- A frame that is written. -/
theorem put_ok {f : Fr} (h : putE f = 0) : mayB f = true ∧ (payL f).length ≤ 16777215 ∧ putF f = headL f (payL f).length ++ payL f := by
  have h2 : putF f = headL f (payL f).length ++ payL f := by unfold putF; rw [if_pos h]
  unfold putE at h
  split at h
  · rename_i hm
    split at h
    · cases h
    · exact ⟨hm, by omega, h2⟩
  · cases h
theorem putF_bad {f : Fr} (h : ¬ putE f = 0) : putF f = [] := by unfold putF; rw [if_neg h]
theorem head_len (f : Fr) (n : Nat) : (headL f n).length = 9 := by simp [headL, putB_length]
theorem put_len {f : Fr} (h : putE f = 0) : (putF f).length = 9 + (payL f).length := by
  rw [(put_ok h).2.2]; simp [head_len]
theorem put_head {f : Fr} (h : putE f = 0) (r : List UInt8) : beN (((putF f) ++ r).take 3) = (payL f).length ∧ beN (((putF f).take 9).take 3) = (payL f).length := by
  obtain ⟨_, h2, h3⟩ := put_ok h
  have e : ∀ r, ((headL f (payL f).length ++ r)).take 3 = putB 3 (payL f).length := fun r => by
    unfold headL
    rw [List.append_assoc, List.append_assoc]
    exact List.take_left' (putB_length _ _)
  have e2 : beN (putB 3 (payL f).length) = (payL f).length := by
    rw [putB_val]
    exact Nat.mod_eq_of_lt (by omega)
  constructor
  · rw [h3, List.append_assoc, e, e2]
  · rw [h3, List.take_left' (head_len _ _)]
    have := e []
    rw [List.append_nil] at this
    rw [this, e2]
theorem take_same {b : List UInt8} {m m' : Int} (h : 9 ≤ (b.length : Int)) (h1 : (beN (b.take 3) : Int) ≤ m) (h2 : (beN (b.take 3) : Int) ≤ m') : takeF b m = takeF b m' := by
  by_cases h3 : 9 + (beN (b.take 3) : Int) ≤ (b.length : Int)
  · rw [takeF_0 h1 h3, takeF_0 h2 h3]
  · rw [takeF_3 h h1 (by omega), takeF_3 h h2 (by omega)]
end Go.Proofs.Ytigodfnckjidoaa
