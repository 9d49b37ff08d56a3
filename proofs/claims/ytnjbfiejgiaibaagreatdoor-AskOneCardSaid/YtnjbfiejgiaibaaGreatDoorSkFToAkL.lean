/- Chapter 14: bytes.ContainsAny at a carriage return and a line feed; panics' values. No condition but on lengths. -/
import Derived.Test.YtnjbfiejgiaibaaGreatDoorSkE
import Derived.Test.YtnjbfiejgiaibaaGreatDoorBm
namespace Go.Proofs.YtnjbfiejgiaibaaGreatDoor
set_option linter.all false
open Go Go.RowKit
set_option maxRecDepth 10000
set_option maxHeartbeats 4000000
theorem con_ContainsAny {s : List UInt8} (hs : s.length ≤ 1099511627776) : Con Tryz.prog 50 [.v (.sl (bs s)), .v (.str [13, 10])] [] 0 (.ret (.v (.bool (!(noNL s))))) [] := by
  refine con_of Tryz.func50 rfl (by show _ ≤ 9; simp) fun X Q hP hnt hnp hret hpan => ?_
  obtain ⟨P0, nt0, w0, K0, S0, np0, pin0, df0⟩ := X
  simp only at hP hnt hnp
  subst hP hnp
  obtain rfl : nt0 = 9 := hnt
  refine aw_region fun K1 hK1 => ?_
  refine aL z_assign ?_
  refine awl_nil (hK1 _ _ ?_)
  clear hK1 K1
  refine aw_region fun K2 hK2 => ?_
  refine aL z_move ?_
  refine aL z_move ?_
  refine aL (z_call0 (eC (eC .nil)) en_78 (con_IndexAny hs)) ?_
  refine aL z_geq ?_
  refine aL z_assign ?_
  refine awl_nil (hK2 _ _ ?_)
  clear hK2 K2
  refine aw_ret ?_
  refine (hret _ _ _ _ _ rfl (.tmp rfl .nil) rfl ?_ .nil rfl).1
  rw [← ix_sign]; rfl
end Go.Proofs.YtnjbfiejgiaibaaGreatDoor

/- Chapter 14: plain models of a request's bytes: lines. No program, no condition. -/
namespace Go.Proofs.YtnjbfiejgiaibaaGreatDoor
set_option linter.all false
open Go Go.RowKit
set_option maxRecDepth 10000
/-- The line at the head of some bytes, and what lies behind it. -/
def lnM : List UInt8 → Except Int (List UInt8 × List UInt8)
  | [] => .error 12
  | c :: l => if c = 10 then .error 150 else if c = 13 then (if l.head? = none then .error 12 else if l.head? = some 10 then .ok ([], l.tail) else .error 150)
    else match lnM l with | .ok (s, r) => .ok (c :: s, r) | .error e => .error e
theorem index_cons (c : UInt8) (l p : List UInt8) : Lib.index (c :: l) p = if p.isPrefixOf (c :: l) then 0 else if Lib.index l p == -1 then -1 else Lib.index l p + 1 := by
  rw [Lib.index]
theorem pre_one (c a : UInt8) (l : List UInt8) : ([c] : List UInt8).isPrefixOf (a :: l) = (a == c) := by
  show ((c == a) && true) = (a == c)
  rw [Bool.and_true, Bool.eq_iff_iff, beq_iff_eq, beq_iff_eq]
  exact ⟨fun h => h.symm, fun h => h.symm⟩
theorem pre_crlf (c : UInt8) (l : List UInt8) : ([13, 10] : List UInt8).isPrefixOf (c :: l) = (c == 13 && (l.head? == some 10)) := by
  have e : ((13 : UInt8) == c) = (c == 13) := by
    rw [Bool.eq_iff_iff, beq_iff_eq, beq_iff_eq]
    exact ⟨fun h => h.symm, fun h => h.symm⟩
  cases l with
  | nil =>
    show ((13 == c) && false) = (c == 13 && false)
    rw [e]
  | cons d r =>
    have h := pre_one 10 d r
    show ((13 == c) && ([10] : List UInt8).isPrefixOf (d :: r)) = (c == 13 && (some d == some 10))
    rw [h, e]
    rfl
theorem index_nat {l p : List UInt8} (h : ¬ Lib.index l p = -1) : ∃ k : Nat, Lib.index l p = (k : Int) := ⟨(Lib.index l p).toNat, by have := Lib.index_ge l p; omega⟩
theorem isNL_or (c : UInt8) : isNL c = true ↔ c = 13 ∨ c = 10 := by unfold isNL; simp
theorem noNL_cons (c : UInt8) (l : List UInt8) : noNL (c :: l) = (!(isNL c) && noNL l) := by simp [noNL]
theorem noCR_cons {c : UInt8} {l : List UInt8} (h : l ≠ [] ∨ c ≠ 13) : noCR (c :: l) = c :: noCR l := by
  cases l with
  | nil =>
    have hc : c ≠ 13 := h.resolve_left (fun h => h rfl)
    unfold noCR
    rw [if_neg (by simpa using hc), if_neg (by simp)]
  | cons d r =>
    unfold noCR
    have e : (c :: d :: r).getLast? = (d :: r).getLast? := by simp [List.getLast?_cons_cons]
    rw [e]
    by_cases hd : (d :: r).getLast? = some 13
    · rw [if_pos hd, if_pos hd]; simp [List.take_succ_cons]
    · rw [if_neg hd, if_neg hd]
theorem ix_step {c : UInt8} {l : List UInt8} (h : ¬ (c = 13 ∧ l.head? = some 10)) : (Lib.index l [13, 10] = -1 → Lib.index (c :: l) [13, 10] = -1) ∧ ∀ k : Nat, Lib.index l [13, 10] = (k : Int) → Lib.index (c :: l) [13, 10] = ((k + 1 : Nat) : Int) := by
  have hp : ([13, 10] : List UInt8).isPrefixOf (c :: l) = false := by
    rw [pre_crlf, Bool.eq_false_iff]
    intro e
    rw [Bool.and_eq_true, beq_iff_eq, beq_iff_eq] at e
    exact h e
  refine ⟨fun hk => ?_, fun k hk => ?_⟩
  · rw [index_cons, hp, hk]; rfl
  · have hb : (((k : Nat) : Int) == -1) = false := by
      rw [beq_eq_false_iff_ne]; omega
    rw [index_cons, hp, hk]
    simp only [Bool.false_eq_true, if_false, hb]
    omega
theorem ix_hit (r : List UInt8) : Lib.index (13 :: 10 :: r) [13, 10] = 0 := by
  rw [index_cons, pre_crlf]; rfl
/-- What is said of an index that is known. -/
def lnI (b : List UInt8) (k : Int) : Except Int (List UInt8 × List UInt8) := if k = -1 then (if noNL (noCR b) = true then .error 12 else .error 150) else if noNL (b.take k.toNat) = true then .ok (b.take k.toNat, b.drop (k.toNat + 2)) else .error 150
theorem lnI_no {b : List UInt8} (h : noNL (noCR b) = true) : lnI b (-1) = .error 12 := by unfold lnI; rw [if_pos rfl, if_pos h]
theorem lnI_bad {b : List UInt8} (h : noNL (noCR b) = false) : lnI b (-1) = .error 150 := by unfold lnI; rw [if_pos rfl, if_neg (by rw [h]; decide)]
theorem lnI_at {b : List UInt8} {k : Nat} (h : noNL (b.take k) = true) : lnI b (k : Int) = .ok (b.take k, b.drop (k + 2)) := by
  unfold lnI; rw [if_neg (by omega), show ((k : Int)).toNat = k by omega, if_pos h]
theorem lnI_nl {b : List UInt8} {k : Nat} (h : noNL (b.take k) = false) : lnI b (k : Int) = .error 150 := by
  unfold lnI; rw [if_neg (by omega), show ((k : Int)).toNat = k by omega, if_neg (by rw [h]; decide)]
/-- What the program reads off: the first line feed behind a carriage return; what is amiss. -/
theorem ln_prog : ∀ b : List UInt8, lnM b = lnI b (Lib.index b [13, 10])
  | [] => rfl
  | c :: l => by
    have ih := ln_prog l
    have bad : isNL c = true → ¬ (c = 13 ∧ (l = [] ∨ l.head? = some 10)) → lnI (c :: l) (Lib.index (c :: l) [13, 10]) = .error 150 := fun hc hn => by
      obtain ⟨i1, i2⟩ := ix_step (c := c) (l := l) (fun h => hn ⟨h.1, .inr h.2⟩)
      by_cases hk : Lib.index l [13, 10] = -1
      · rw [i1 hk]
        have hq : l ≠ [] ∨ c ≠ 13 := by
          by_cases h13 : c = 13
          · left; intro e; exact hn ⟨h13, .inl e⟩
          · right; exact h13
        exact lnI_bad (by rw [noCR_cons hq, noNL_cons, hc]; rfl)
      · obtain ⟨k, hk2⟩ := index_nat hk
        rw [i2 k hk2]
        exact lnI_nl (by rw [List.take_succ_cons, noNL_cons, hc]; rfl)
    rw [lnM]
    by_cases h10 : c = 10
    · rw [if_pos h10]
      exact (bad ((isNL_or c).2 (.inr h10)) (fun h => by rw [h10] at h; exact absurd h.1 (by decide))).symm
    · rw [if_neg h10]
      by_cases h13 : c = 13
      · rw [if_pos h13]
        cases l with
        | nil => subst h13; rfl
        | cons d r =>
          rw [if_neg (show ¬ (d :: r).head? = none by simp)]
          by_cases hd : d = 10
          · subst hd h13
            rw [ix_hit]
            rfl
          · have hd2 : ¬ ((d :: r).head? = some (10 : UInt8)) := fun e => hd (by injection e)
            rw [if_neg hd2]
            exact (bad ((isNL_or c).2 (.inl h13)) (fun h => by
              rcases h.2 with h | h
              · cases h
              · exact hd2 h)).symm
      · rw [if_neg h13, ih]
        have hc : isNL c = false := by
          rw [Bool.eq_false_iff]; intro h; rcases (isNL_or c).1 h with h | h
          · exact h13 h
          · exact h10 h
        obtain ⟨i1, i2⟩ := ix_step (c := c) (l := l) (fun h => h13 h.1)
        by_cases hk : Lib.index l [13, 10] = -1
        · rw [hk, i1 hk]
          have e : noNL (noCR (c :: l)) = noNL (noCR l) := by rw [noCR_cons (.inr h13), noNL_cons, hc]; rfl
          cases hn : noNL (noCR l)
          · rw [lnI_bad hn, lnI_bad (e.trans hn)]
          · rw [lnI_no hn, lnI_no (e.trans hn)]
        · obtain ⟨k, hk2⟩ := index_nat hk
          rw [hk2, i2 k hk2]
          have e : noNL ((c :: l).take (k + 1)) = noNL (l.take k) := by rw [List.take_succ_cons, noNL_cons, hc]; rfl
          cases hn : noNL (l.take k)
          · rw [lnI_nl hn, lnI_nl (e.trans hn)]
          · rw [lnI_at hn, lnI_at (e.trans hn)]; rfl
theorem index_room {b : List UInt8} {k : Nat} (h : Lib.index b [13, 10] = (k : Int)) : k + 2 ≤ b.length := by
  induction b generalizing k with
  | nil => simp [Lib.index] at h
  | cons c l ih =>
    by_cases hp : c = 13 ∧ l.head? = some 10
    · obtain ⟨rfl, hl⟩ := hp
      cases l with
      | nil => cases hl
      | cons d r =>
        injection hl with hl; subst hl
        rw [ix_hit] at h
        simp; omega
    · obtain ⟨i1, i2⟩ := ix_step hp
      by_cases hk : Lib.index l [13, 10] = -1
      · rw [i1 hk] at h; omega
      · obtain ⟨j, hj⟩ := index_nat hk
        rw [i2 j hj] at h
        have := ih hj
        simp; omega
theorem ln_ok {b s r : List UInt8} (h : lnM b = .ok (s, r)) : Lib.index b [13, 10] = (s.length : Int) ∧ noNL s = true ∧ b.take s.length = s ∧ b.drop (s.length + 2) = r ∧ s.length + 2 ≤ b.length := by
  rw [ln_prog] at h
  unfold lnI at h
  split at h
  · split at h <;> cases h
  · rename_i hk
    obtain ⟨k, hk2⟩ := index_nat hk
    have hr := index_room hk2
    rw [hk2] at h
    rw [show ((k : Int)).toNat = k by omega] at h
    split at h
    · rename_i hn
      injection h with h
      injection h with h1 h2
      have hl : s.length = k := by rw [← h1, List.length_take]; omega
      rw [hl]
      exact ⟨hk2, by rw [← h1]; exact hn, h1, h2, hr⟩
    · cases h
theorem ln_err {b : List UInt8} {e : Int} (h : lnM b = .error e) : (Lib.index b [13, 10] = -1 ∧ e = if noNL (noCR b) = true then 12 else 150) ∨ ∃ k : Nat, Lib.index b [13, 10] = (k : Int) ∧ k + 2 ≤ b.length ∧ noNL (b.take k) = false ∧ e = 150 := by
  rw [ln_prog] at h
  unfold lnI at h
  split at h
  · rename_i hk
    refine .inl ⟨hk, ?_⟩
    split at h
    · rename_i hn; injection h with h; rw [if_pos hn, h]
    · rename_i hn; injection h with h; rw [if_neg hn, h]
  · rename_i hk
    obtain ⟨k, hk2⟩ := index_nat hk
    rw [hk2] at h
    rw [show ((k : Int)).toNat = k by omega] at h
    split at h
    · cases h
    · rename_i hn
      injection h with h
      exact .inr ⟨k, hk2, index_room hk2, by simpa using hn, h.symm⟩
/-- One byte within a text. -/
theorem index_one (c : UInt8) : ∀ s : List UInt8, Lib.index s [c] = if s.contains c = true then ((s.findIdx (· == c) : Nat) : Int) else -1
  | [] => rfl
  | a :: l => by
    rw [index_cons, index_one c l]
    have hp := pre_one c a l
    rw [hp, List.findIdx_cons]
    by_cases h : a = c
    · subst h; simp
    · have h2 : (a == c) = false := by simpa using h
      have h3 : (c == a) = false := by simpa using fun e => h e.symm
      rw [h2]
      simp only [Bool.false_eq_true, if_false, List.contains_cons, h3, Bool.false_or, cond_false]
      by_cases hc : l.contains c = true
      · rw [if_pos hc, if_pos hc]
        rw [if_neg (by simp)]
        rfl
      · rw [if_neg hc, if_neg hc]; rfl
theorem contains_one (c : UInt8) (s : List UInt8) : Lib.contains s [c] = s.contains c := by
  unfold Lib.contains
  rw [index_one]
  cases h : s.contains c
  · rw [if_neg (by decide)]; decide
  · rw [if_pos rfl]; simp
theorem contains_nl (s : List UInt8) : (Lib.contains s [13] || Lib.contains s [10]) = !noNL s := by
  rw [contains_one, contains_one]
  unfold noNL
  rw [Bool.not_not, Bool.eq_iff_iff]
  simp only [Bool.or_eq_true, List.contains_iff_mem, List.any_eq_true, isNL_or]
  constructor
  · rintro (h | h)
    · exact ⟨_, h, .inl rfl⟩
    · exact ⟨_, h, .inr rfl⟩
  · rintro ⟨x, h, rfl | rfl⟩
    · exact .inl h
    · exact .inr h
/-- What stands ahead of a byte, and behind it. -/
def cutAt (c : UInt8) : List UInt8 → List UInt8 × Option (List UInt8)
  | [] => ([], none)
  | x :: l => if x = c then ([], some l) else (x :: (cutAt c l).1, (cutAt c l).2)
theorem cutAt_index (c : UInt8) : ∀ s : List UInt8, (∀ m r, cutAt c s = (m, some r) → Lib.index s [c] = (m.length : Int) ∧ s.take m.length = m ∧ s.drop (m.length + 1) = r ∧ s = m ++ c :: r ∧ m.contains c = false) ∧ (∀ m, cutAt c s = (m, none) → Lib.index s [c] = -1 ∧ m = s ∧ s.contains c = false)
  | [] => ⟨fun m r h => by simp [cutAt] at h, fun m h => by simp [cutAt] at h; exact ⟨rfl, h, rfl⟩⟩
  | x :: l => by
    obtain ⟨ih1, ih2⟩ := cutAt_index c l
    have hp := pre_one c x l
    rw [index_cons, hp]
    by_cases h : x = c
    · subst h
      refine ⟨fun m r hm => ?_, fun m hm => ?_⟩
      · simp only [cutAt, if_true] at hm
        injection hm with h1 h2; injection h2 with h2; subst h1 h2
        simp
      · simp only [cutAt, if_true] at hm; injection hm with h1 h2; cases h2
    · have h2 : (x == c) = false := by simpa using h
      have h3 : (c == x) = false := by simpa using fun e => h e.symm
      rw [h2]
      simp only [cutAt, if_neg h, Bool.false_eq_true, if_false]
      cases hq : cutAt c l with
      | mk m0 o =>
        refine ⟨fun m r hm => ?_, fun m hm => ?_⟩
        · injection hm with e1 e2
          subst e1 e2
          obtain ⟨a1, a2, a3, a4, a5⟩ := ih1 m0 r hq
          rw [a1, if_neg (by simp)]
          refine ⟨by simp, by simp [a2], by simpa using a3, by simp [← a4], ?_⟩
          rw [List.contains_cons, h3, a5]; rfl
        · injection hm with e1 e2
          subst e1 e2
          obtain ⟨a1, a2, a3⟩ := ih2 m0 hq
          rw [a1]
          exact ⟨rfl, by rw [a2], by rw [List.contains_cons, h3, a3]; rfl⟩
theorem cut_one (c : UInt8) (s : List UInt8) : Lib.cut s [c] = match cutAt c s with | (m, some r) => (m, r, true) | (_, none) => (s, [], false) := by
  obtain ⟨h1, h2⟩ := cutAt_index c s
  unfold Lib.cut
  cases hq : cutAt c s with
  | mk m o =>
    cases o with
    | none => obtain ⟨a1, -, -⟩ := h2 m hq; rw [a1, if_neg (by decide)]
    | some r =>
      obtain ⟨a1, a2, a3, -, -⟩ := h1 m r hq
      rw [a1, if_pos (by omega), show ((m.length : Nat) : Int).toNat = m.length by omega, a2]
      simp [a3]
end Go.Proofs.YtnjbfiejgiaibaaGreatDoor
