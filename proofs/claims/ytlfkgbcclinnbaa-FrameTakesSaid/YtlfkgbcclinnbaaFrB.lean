/- Layer 6: frames as abstract values; the contracts that were proved over worlds. No condition. -/
import Derived.Test.YtlfkgbcclinnbaaAl
import Derived.Test.YtlfkgbcclinnbaaFa
import Derived.Test.YtlfkgbcclinnbaaFr6
namespace Go.Proofs.Ytlfkgbcclinnbaa
set_option linter.all false
open Go Go.RowKit

def setV (l : List (Int × Int)) : List (List V) := l.map fun s => [.int .i64 s.1, .int .i64 s.2]
def Fr.cs (f : Fr) : List D :=
  [.v (.int .i64 f.ty), .v (.int .i64 f.fl), .v (.int .i64 f.st), .v (.str f.data), .v (.int .i64 f.pad), .v (.sl (setV f.sets)), .v (.int .i64 f.code), .v (.int .i64 f.last), .v (.int .i64 f.inc), .v (.int .i64 f.dep), .v (.int .i64 f.wt), .v (.bool f.sole)]
def Flt.cs (x : Flt) : List D := [.v (.bool x.is), .v (.int .i64 x.code), .v (.int .i64 x.st)]
/-- A frame's cells, its settings in some form. -/
def Fr.csX (f : Fr) (s : D) : List D :=
  [.v (.int .i64 f.ty), .v (.int .i64 f.fl), .v (.int .i64 f.st), .v (.str f.data), .v (.int .i64 f.pad), s, .v (.int .i64 f.code), .v (.int .i64 f.last), .v (.int .i64 f.inc), .v (.int .i64 f.dep), .v (.int .i64 f.wt), .v (.bool f.sole)]
theorem Fr.cs_X (f : Fr) : f.cs = f.csX (.v (.sl (setV f.sets))) := rfl
theorem rdc_of {G : Gh} {w : World} {l : List (Int × Int)} {u : Value} (h : RepV G.S w (.sl (setV l)) u) (hl : ∀ g, G.S g → g < w.heap.size) : ∃ A c, u = .slice A l.length c ∧ l.length ≤ c ∧ c ≤ maxLen ∧ RdC w w.heap.size A (setC l) := by
  generalize hc : setV l = c at h
  cases h with
  | nil A cap hm =>
    obtain rfl : l = [] := by cases l <;> simp [setV] at hc ⊢
    exact ⟨A, cap, rfl, Nat.zero_le _, hm, .inl rfl⟩
  | sl _ g o n cap us hne hz hn hs hcap hm hcc hr =>
    subst hc
    have h2 : ∀ e ∈ setV l, e.length = 2 := by intro e he; obtain ⟨s, _, rfl⟩ := List.mem_map.1 he; rfl
    obtain rfl : n = 2 := by rw [← hs _ (List.getElem_mem hne)]; exact h2 _ (List.getElem_mem hne)
    have hln : (setV l).length = l.length := by simp [setV]
    refine ⟨_, cap, by rw [hln], by omega, hm, .inr ⟨g, o, rfl, hl g hz, fun i hi => ?_⟩⟩
    have hsl : (setC l).length = l.length * 2 := by rw [setC_len]; omega
    have hi2 : i / 2 < l.length := by omega
    have key : ∀ j, j < 2 → w.cell? ⟨g, o + (i / 2 * 2 + j), none⟩ = some (if j = 0 then I (l[i / 2]).1 else I (l[i / 2]).2) := fun j hj => by
      have he0 : elem? (setV l) (i / 2) j = some (if j = 0 then .int .i64 (l[i / 2]).1 else .int .i64 (l[i / 2]).2) := by
        rcases (by omega : j = 0 ∨ j = 1) with rfl | rfl <;> simp [elem?, setV, hi2]
      have h1 := hcc _ _ _ he0
      have h2 := hr _ _ _ he0
      rw [h1]
      generalize us (i / 2) j = v at h2
      rcases (by omega : j = 0 ∨ j = 1) with rfl | rfl <;> simp at h2 ⊢ <;> cases h2 <;> rfl
    have hk := key (i % 2) (Nat.mod_lt _ (by decide))
    rw [show i / 2 * 2 + i % 2 = i from by omega] at hk
    rw [hk]
    congr 1
    have fl : ∀ (l : List (Int × Int)) (i : Nat) (h : i < l.length * 2) (h' : i < (setC l).length), (setC l)[i] = if i % 2 = 0 then I (l[i / 2]'(by omega)).1 else I (l[i / 2]'(by omega)).2 := by
      intro l
      induction l with
      | nil => intro i h; simp at h
      | cons s l ih =>
        intro i h h'
        have e : setC (s :: l) = I s.1 :: I s.2 :: setC l := by simp [setC]
        match i with
        | 0 => simp [e]
        | 1 => simp [e]
        | i + 2 =>
          have := ih i (by simp at h; omega) (by rw [e] at h'; simp at h'; omega)
          simp only [e, List.getElem_cons_succ]
          rw [this]
          have e1 : (i + 2) % 2 = i % 2 := by omega
          have e2 : (i + 2) / 2 = i / 2 + 1 := by omega
          simp [e1, e2]
    exact (fl l i (by omega) hi).symm
theorem fr_of {G : Gh} {w : World} {m : Mem} {f : Fr} {u : Value} (h : RepD G w m (.agg f.cs) u) (hl : ∀ g, G.S g → g < w.heap.size) : ∃ A c, u = f.v A c ∧ RdC w w.heap.size A (setC f.sets) := by
  cases h with
  | agg _ us hlen h1 h =>
    match us, hlen with
    | [u0, u1, u2, u3, u4, u5, u6, u7, u8, u9, u10, u11], _ =>
      obtain rfl := rep_int (h 0 _ u0 rfl rfl)
      obtain rfl := rep_int (h 1 _ u1 rfl rfl)
      obtain rfl := rep_int (h 2 _ u2 rfl rfl)
      obtain rfl := rep_str (h 3 _ u3 rfl rfl)
      obtain rfl := rep_int (h 4 _ u4 rfl rfl)
      obtain ⟨A, c, rfl, _, _, hr⟩ := rdc_of (rep_sl (h 5 _ u5 rfl rfl)) hl
      obtain rfl := rep_int (h 6 _ u6 rfl rfl)
      obtain rfl := rep_int (h 7 _ u7 rfl rfl)
      obtain rfl := rep_int (h 8 _ u8 rfl rfl)
      obtain rfl := rep_int (h 9 _ u9 rfl rfl)
      obtain rfl := rep_int (h 10 _ u10 rfl rfl)
      obtain rfl := rep_bool (h 11 _ u11 rfl rfl)
      exact ⟨A, c, rfl, hr⟩
theorem ds1 {G : Gh} {w : World} {m : Mem} {d : D} {us : List Value} (h : RepDs G w m [d] us) : ∃ u, us = [u] ∧ RepD G w m d u := by
  match us, h.1 with
  | [u], _ => exact ⟨u, rfl, h.2 0 d u rfl rfl⟩
theorem ds2 {G : Gh} {w : World} {m : Mem} {d d' : D} {us : List Value} (h : RepDs G w m [d, d'] us) : ∃ u u', us = [u, u'] ∧ RepD G w m d u ∧ RepD G w m d' u' := by
  match us, h.1 with
  | [u, u'], _ => exact ⟨u, u', rfl, h.2 0 d u rfl rfl, h.2 1 d' u' rfl rfl⟩
theorem ds3 {G : Gh} {w : World} {m : Mem} {d d' d'' : D} {us : List Value} (h : RepDs G w m [d, d', d''] us) : ∃ u u' u'', us = [u, u', u''] ∧ RepD G w m d u ∧ RepD G w m d' u' ∧ RepD G w m d'' u'' := by
  match us, h.1 with
  | [u, u', u''], _ => exact ⟨u, u', u'', rfl, h.2 0 d u rfl rfl, h.2 1 d' u' rfl rfl, h.2 2 d'' u'' rfl rfl⟩
theorem rep_tup2 {G : Gh} {w : World} {m : Mem} {d d' : D} {u u' : Value} (h : RepD G w m d u) (h' : RepD G w m d' u') : RepD G w m (.tup [d, d']) (.tuple #[u, u']) :=
  .tup [d, d'] [u, u'] rfl (RepDs.cons h (.cons h' .nil)).2
theorem con_take {l : List UInt8} {p size : Int} (hp : p ≤ 9223372036854775807) : Con Try.prog 25 [.v (.sl (bs l)), .v (.int .i64 p), .v (.int .i64 size)] [] 0 (.ret (.tup [.v (.int .u32 (takeV l p size)), .v (.int .i64 (takeE l p size))])) [] :=
  con_pure fun G w us hl hA => by
    obtain ⟨u, u', u'', rfl, h1, h2, h3⟩ := ds3 hA
    obtain rfl := rep_int h2
    obtain rfl := rep_int h3
    obtain ⟨A, c, rfl, hc, hm, hr⟩ := rd_of (rep_sl h1) hl
    refine (take_any l A c hc hm p size hp w w.heap.size hr).mono fun e w' ⟨he, hw⟩ => ?_
    subst hw
    exact ⟨_, he, fun m => rep_tup2 (mk_int _ _) (mk_int _ _), Below.refl _ _⟩
theorem con_bytesEq {l r : List UInt8} : Con Try.prog 13 [.v (.sl (bs l)), .v (.sl (bs r))] [] 0 (.ret (.v (.bool (decide (l = r))))) [] :=
  con_pure fun G w us hl hA => by
    obtain ⟨u, u', rfl, h1, h2⟩ := ds2 hA
    obtain ⟨A, c, rfl, _, _, hr⟩ := rd_of (rep_sl h1) hl
    obtain ⟨A', c', rfl, _, _, hr'⟩ := rd_of (rep_sl h2) hl
    refine (bytes_any l r A A' c c' w w.heap.size hr hr').mono fun e w' ⟨he, hw⟩ => ?_
    subst hw
    exact ⟨_, he, fun m => mk_bool _, Below.refl _ _⟩
theorem con_refTake {l : List UInt8} {p size : Int} (hp : p ≤ 9223372036854775807) : Con Try.prog 45 [.v (.sl (bs l)), .v (.int .i64 p), .v (.int .i64 size)] [] 0 (.ret (.tup [.v (.int .u32 (takeV l p size)), .v (.int .i64 (takeE l p size))])) [] :=
  con_pure fun G w us hl hA => by
    obtain ⟨u, u', u'', rfl, h1, h2, h3⟩ := ds3 hA
    obtain rfl := rep_int h2
    obtain rfl := rep_int h3
    obtain ⟨A, c, rfl, hc, hm, hr⟩ := rd_of (rep_sl h1) hl
    refine (reftake_any l A c hc hm p size hp w w.heap.size hr).mono fun e w' ⟨he, hw⟩ => ?_
    subst hw
    exact ⟨_, he, fun m => rep_tup2 (mk_int _ _) (mk_int _ _), Below.refl _ _⟩
theorem con_put {n : Nat} {size : Int} (hn : n < 4294967296) : Con Try.prog 19 [.v (.int .u32 n), .v (.int .i64 size)] [] 0 (.ret (.view 0 0 0 (putL n size).length)) [(0, .row 0 1 5 (bs (putL n size)))] :=
  con_bytes fun G w us hl hA => by
    obtain ⟨u, u', rfl, h1, h2⟩ := ds2 hA
    obtain rfl := rep_int h1
    obtain rfl := rep_int h2
    exact put_any n hn size w
theorem con_refPut {n : Nat} {size : Int} (hn : n < 4294967296) : Con Try.prog 23 [.v (.int .u32 n), .v (.int .i64 size)] [] 0 (.ret (.view 0 0 0 (putL n size).length)) [(0, .row 0 1 5 (bs (putL n size)))] :=
  con_bytes fun G w us hl hA => by
    obtain ⟨u, u', rfl, h1, h2⟩ := ds2 hA
    obtain rfl := rep_int h1
    obtain rfl := rep_int h2
    exact refput_any n hn size w
theorem con_putFrame {f : Fr} (hd : f.data.length ≤ 1000000) (hn : f.sets.length ≤ 1000000) : Con Try.prog 11 [.agg f.cs] [] 0 (.ret (.tup [.view 0 0 0 (putF f).length, .v (.int .i64 (putE f))])) [(0, .row 0 1 5 (bs (putF f)))] :=
  con_bytesF (fun v => .tuple #[v, I (putE f)]) _ (fun G w m v h => rep_tup2 h (mk_int _ _)) fun G w us hl hA => by
    obtain ⟨u, rfl, h1⟩ := ds1 hA
    obtain ⟨A, c, rfl, hr⟩ := fr_of h1 hl
    exact put_frame f A c hd hn w hr
end Go.Proofs.Ytlfkgbcclinnbaa
