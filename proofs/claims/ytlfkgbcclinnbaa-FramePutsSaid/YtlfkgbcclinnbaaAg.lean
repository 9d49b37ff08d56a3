/- Abstract states: a region that draws its order. No program, no condition. -/
import Derived.Test.YtlfkgbcclinnbaaAw
namespace Go.Proofs.Ytlfkgbcclinnbaa
set_option linter.all false
open Go Go.RowKit

def uniA (s : List Nat) (x : Nat) : List Nat := bif s.contains x then s else x :: s
/-- Of each operation those that come ahead of it in every order. -/
def ancGoA : List Oper → List (List Nat) → List (List Nat)
  | [], acc => acc
  | o :: os, acc => ancGoA os (acc ++ [(o.after.toList.flatMap fun e => bif Region.binds .any e then e.on :: acc.getD e.on [] else []).foldl uniA []])
def ancs (l : List Oper) : List (List Nat) := ancGoA l []
def backA : Nat → List Oper → Bool
  | _, [] => true
  | k, o :: os => (o.after.toList.all fun e => bif Region.binds .any e then Nat.blt e.on k else true) && backA (k + 1) os
theorem uniA_mem : ∀ (r s : List Nat) (x : Nat), x ∈ r.foldl uniA s → x ∈ s ∨ x ∈ r
  | [], s, x, h => .inl h
  | y :: r, s, x, h => by
    rcases uniA_mem r (uniA s y) x h with h1 | h1
    · unfold uniA at h1
      cases hc : s.contains y with
      | true => rw [hc] at h1; exact .inl h1
      | false =>
        rw [hc] at h1
        rcases List.mem_cons.1 h1 with rfl | h2
        · exact .inr List.mem_cons_self
        · exact .inl h2
    · exact .inr (List.mem_cons_of_mem _ h1)
theorem ancGoA_ok (L : Nat → Bool) : ∀ (os : List Oper) (acc : List (List Nat)), (∀ (j : Nat) (o : Oper), os[j]? = some o → L (acc.length + j) = true → ∀ e ∈ o.after.toList, Region.binds .any e = true → L e.on = true) →
    (∀ k, L k = true → ∀ i ∈ acc.getD k [], L i = true) → ∀ k, L k = true → ∀ i ∈ (ancGoA os acc).getD k [], L i = true
  | [], acc, _, h => h
  | o :: os, acc, hd, h => by
    refine ancGoA_ok L os _ (fun j x hj hL => ?_) (fun k hk i hi => ?_)
    · rw [List.length_append, List.length_singleton, show acc.length + 1 + j = acc.length + (j + 1) from by omega] at hL
      exact hd (j + 1) x (by simpa using hj) hL
    · rcases Nat.lt_trichotomy k acc.length with h1 | h1 | h1
      · refine h k hk i ?_
        rw [List.getD_eq_getElem?_getD, List.getElem?_append_left h1] at hi
        rwa [List.getD_eq_getElem?_getD]
      · subst h1
        rw [List.getD_eq_getElem?_getD, List.getElem?_append_right (Nat.le_refl _)] at hi
        simp only [Nat.sub_self, List.getElem?_cons_zero, Option.getD_some] at hi
        rcases uniA_mem _ _ _ hi with h2 | h2
        · cases h2
        · obtain ⟨e, he, h3⟩ := List.mem_flatMap.1 h2
          cases hb : Region.binds .any e with
          | true =>
            rw [hb] at h3
            have hL := hd 0 o rfl hk e he hb
            rcases List.mem_cons.1 h3 with rfl | h4
            · exact hL
            · exact h e.on hL i h4
          | false => rw [hb] at h3; cases h3
      · rw [List.getD_eq_getElem?_getD, List.getElem?_eq_none (by simp; omega)] at hi
        cases hi
theorem ancA_ok {l : List Oper} (L : Nat → Bool) (hd : ∀ (j : Nat) (o : Oper), l[j]? = some o → L j = true → ∀ e ∈ o.after.toList, Region.binds .any e = true → L e.on = true) (k : Nat) (hk : L k = true) (i : Nat) (hi : i ∈ (ancs l).getD k []) : L i = true :=
  ancGoA_ok L l [] (fun j o hj hL => hd j o hj (by simpa using hL)) (fun k _ i hi => by simp at hi) k hk i hi
/-- What an operation did in the text's order. -/
structure Efc where
  d : D
  upd : AH
  T : List Nat
def Efc.keys (e : Efc) : List Nat := e.upd.map (·.1)
def meets (a b : List Nat) : Bool := a.any fun x => b.contains x
/-- Two operations that may not change places. -/
def clash (ops : Array Oper) (x y : Oper × Efc) : Bool :=
  (match x.1.dst with | some t => (y.1.looksAt ops).contains t || y.1.dst == some t | none => false) || (match y.1.dst with | some t => (x.1.looksAt ops).contains t | none => false) ||
  meets x.2.keys (y.2.T ++ y.2.keys) || meets y.2.keys x.2.T
/-- Whatever clashes is ordered. -/
def calmGo (ops : Array Oper) (an : List (List Nat)) (xs : List (Oper × Efc)) : Nat → List (Oper × Efc) → Bool
  | _, [] => true
  | j, y :: ys => (xs.take j).zipIdx.all (fun (x, i) => !(clash ops x y) || (an.getD j []).contains i) && calmGo ops an xs (j + 1) ys
def calm (l : List Oper) (es : List Efc) : Bool := calmGo l.toArray (ancs l) (l.zip es) 0 (l.zip es)
theorem calmGo_at {ops : Array Oper} {an : List (List Nat)} {xs : List (Oper × Efc)} : ∀ (ys : List (Oper × Efc)) (k : Nat), calmGo ops an xs k ys = true → ∀ (j : Nat) y, ys[j]? = some y → ∀ (i : Nat) x, i < k + j → xs[i]? = some x → clash ops x y = true → i ∈ an.getD (k + j) []
  | [], k, _, j, y, h => by simp at h
  | z :: ys, k, h, j, y, hy => by
    simp only [calmGo, Bool.and_eq_true, List.all_eq_true] at h
    intro i x hi hx hc
    cases j with
    | zero =>
      simp at hy
      subst hy
      have := h.1 (x, i) (by
        rw [List.mem_zipIdx_iff_getElem?, List.getElem?_take_of_lt (by omega)]
        exact hx)
      simp only [hc, Bool.not_true, Bool.false_or, List.contains_iff_mem] at this
      exact this
    | succ j =>
      have := calmGo_at ys (k + 1) h.2 j y (by simpa using hy) i x (by omega) hx hc
      rwa [show k + 1 + j = k + (j + 1) from by omega] at this
/-- The state once the operations of L are done. -/
def frF (L : Nat → Bool) : Nat → List (Oper × Efc) → (Nat → D) → (Nat → D)
  | _, [], f => f
  | k, x :: r, f => frF L (k + 1) r (bif L k then fput f x.1.dst x.2.d else f)
def ahF (L : Nat → Bool) : Nat → List (Oper × Efc) → Mem → Mem
  | _, [], m => m
  | k, x :: r, m => ahF L (k + 1) r (bif L k then over x.2.upd m else m)
theorem fput_ne {f : Nat → D} {dst : Option Tmp} {d : D} {t : Nat} (h : dst ≠ some t) : fput f dst d t = f t := by
  cases dst with
  | none => rfl
  | some s => unfold fput; by_cases hs : t = s <;> simp_all
theorem over_ne {upd : AH} {m : Mem} {id : Nat} (h : id ∉ upd.map (·.1)) : over upd m id = m id := by
  unfold over
  have : look upd id = none := by
    induction upd with
    | nil => rfl
    | cons p r ih =>
      obtain ⟨k, o⟩ := p
      simp only [List.map_cons, List.mem_cons, not_or] at h
      rw [look_cons_ne _ _ (Ne.symm h.1)]
      exact ih h.2
  rw [this]
theorem over_in {upd : AH} {m m' : Mem} {id : Nat} (h : id ∈ upd.map (·.1)) : over upd m id = over upd m' id := by
  unfold over
  cases hl : look upd id with
  | some o => rfl
  | none =>
    exfalso
    induction upd with
    | nil => cases h
    | cons p r ih =>
      obtain ⟨k, o⟩ := p
      by_cases hk : k = id
      · subst hk; rw [look_cons_self] at hl; cases hl
      · rw [look_cons_ne _ _ hk] at hl
        simp only [List.map_cons, List.mem_cons] at h
        rcases h with h | h
        · exact absurd h.symm hk
        · exact ih h hl
/-- What two sets of operations agree on. -/
theorem frF_same {L L' : Nat → Bool} {t : Nat} : ∀ (r : List (Oper × Efc)) (k : Nat) (f f' : Nat → D), (∀ (i : Nat) x, r[i]? = some x → x.1.dst = some t → L (k + i) = L' (k + i)) → f t = f' t → frF L k r f t = frF L' k r f' t
  | [], k, f, f', _, h => h
  | x :: r, k, f, f', h, hf => by
    unfold frF
    refine frF_same r (k + 1) _ _ (fun i y hy hd => ?_) ?_
    · have := h (i + 1) y (by simpa using hy) hd
      rwa [show k + (i + 1) = k + 1 + i from by omega] at this
    · by_cases hd : x.1.dst = some t
      · have := h 0 x rfl hd
        rw [Nat.add_zero] at this
        rw [this]
        cases L' k with
        | true => simp [fput, hd]
        | false => exact hf
      · cases L k <;> cases L' k <;> simp only [cond_true, cond_false, fput_ne hd] <;> exact hf
theorem ahF_same {L L' : Nat → Bool} {id : Nat} : ∀ (r : List (Oper × Efc)) (k : Nat) (m m' : Mem), (∀ (i : Nat) x, r[i]? = some x → id ∈ x.2.keys → L (k + i) = L' (k + i)) → m id = m' id → ahF L k r m id = ahF L' k r m' id
  | [], k, m, m', _, h => h
  | x :: r, k, m, m', h, hf => by
    unfold ahF
    refine ahF_same r (k + 1) _ _ (fun i y hy hd => ?_) ?_
    · have := h (i + 1) y (by simpa using hy) hd
      rwa [show k + (i + 1) = k + 1 + i from by omega] at this
    · by_cases hd : id ∈ x.2.keys
      · have := h 0 x rfl hd
        rw [Nat.add_zero] at this
        rw [this]
        cases L' k with
        | true => exact over_in hd
        | false => exact hf
      · cases L k <;> cases L' k <;> simp only [cond_true, cond_false, over_ne hd] <;> exact hf
/-- One operation more, behind which none is done that writes what it writes. -/
theorem frF_put {L : Nat → Bool} {j : Nat} {y : Oper × Efc} : ∀ (r : List (Oper × Efc)) (k : Nat) (f : Nat → D), r[j]? = some y → L (k + j) = false → (∀ (i : Nat) x, j < i → r[i]? = some x → L (k + i) = true → ∀ t, y.1.dst = some t → x.1.dst ≠ some t) →
    frF (fun i => L i || Nat.beq i (k + j)) k r f = fput (frF L k r f) y.1.dst y.2.d := by
  intro r k f hj hL hd
  funext t
  by_cases ht : y.1.dst = some t
  · -- the slot that it writes
    have last : ∀ (r : List (Oper × Efc)) (k : Nat) (f : Nat → D) (j : Nat), r[j]? = some y → L (k + j) = false → (∀ (i : Nat) x, j < i → r[i]? = some x → L (k + i) = true → x.1.dst ≠ some t) → frF (fun i => L i || Nat.beq i (k + j)) k r f t = y.2.d := by
      intro r
      induction r with
      | nil => intro k f j h; simp at h
      | cons x r ih =>
        intro k f j h h0 hd2
        unfold frF
        cases j with
        | zero =>
          simp at h
          subst h
          rw [Nat.add_zero, Nat.beq_refl, Bool.or_true]
          have none_after : ∀ (r : List (Oper × Efc)) (k0 : Nat) (g : Nat → D) (M : Nat → Bool), (∀ (i : Nat) z, r[i]? = some z → M (k0 + i) = true → z.1.dst ≠ some t) → frF M k0 r g t = g t := by
            intro r
            induction r with
            | nil => intro _ _ _ _; rfl
            | cons z r ihr =>
              intro k0 g M hM
              unfold frF
              rw [ihr (k0 + 1) _ M (fun i y hy hm => hM (i + 1) y (by simpa using hy) (by rwa [show k0 + (i + 1) = k0 + 1 + i from by omega]))]
              cases hz : M k0 with
              | true => exact fput_ne (hM 0 z rfl (by rwa [Nat.add_zero]))
              | false => rfl
          rw [none_after r (k + 1) _ _ (fun i z hz hm => hd2 (i + 1) z (by omega) (by simpa using hz) (by
            simp only [Bool.or_eq_true] at hm
            rcases hm with hm | hm
            · rwa [show k + (i + 1) = k + 1 + i from by omega]
            · have := Nat.eq_of_beq_eq_true hm; omega))]
          show fput f x.1.dst x.2.d t = x.2.d
          unfold fput; rw [ht]; simp
        | succ j =>
          rw [show k + (j + 1) = k + 1 + j from by omega]
          exact ih (k + 1) _ j (by simpa using h) (by rwa [show k + 1 + j = k + (j + 1) from by omega]) (fun i z hi hz hm => hd2 (i + 1) z (by omega) (by simpa using hz) (by rwa [show k + (i + 1) = k + 1 + i from by omega]))
    rw [last r k f j hj hL (fun i x hi hx hm => hd i x hi hx hm t ht)]
    simp [fput, ht]
  · rw [fput_ne ht]
    refine frF_same r k f f (fun i x hx hdx => ?_) rfl
    by_cases hi : i = j
    · subst hi; rw [hx] at hj; injection hj with hj; subst hj; exact absurd hdx ht
    · have : Nat.beq (k + i) (k + j) = false := by
        cases h : Nat.beq (k + i) (k + j) with
        | false => rfl
        | true => have := Nat.eq_of_beq_eq_true h; omega
      simp [this]
theorem ahF_put {L : Nat → Bool} {j : Nat} {y : Oper × Efc} (r : List (Oper × Efc)) (k : Nat) (m : Mem) (hj : r[j]? = some y) (hL : L (k + j) = false) (hd : ∀ (i : Nat) x, j < i → r[i]? = some x → L (k + i) = true → ∀ id ∈ y.2.keys, id ∉ x.2.keys) :
    ahF (fun i => L i || Nat.beq i (k + j)) k r m = over y.2.upd (ahF L k r m) := by
  funext id
  by_cases ht : id ∈ y.2.keys
  · have last : ∀ (r : List (Oper × Efc)) (k : Nat) (m m' : Mem) (j : Nat), r[j]? = some y → L (k + j) = false → (∀ (i : Nat) x, j < i → r[i]? = some x → L (k + i) = true → id ∉ x.2.keys) → ahF (fun i => L i || Nat.beq i (k + j)) k r m id = over y.2.upd m' id := by
      intro r
      induction r with
      | nil => intro k m m' j h; simp at h
      | cons x r ih =>
        intro k m m' j h h0 hd2
        unfold ahF
        cases j with
        | zero =>
          simp at h
          subst h
          rw [Nat.add_zero, Nat.beq_refl, Bool.or_true]
          have none_after : ∀ (r : List (Oper × Efc)) (k0 : Nat) (g : Mem) (M : Nat → Bool), (∀ (i : Nat) z, r[i]? = some z → M (k0 + i) = true → id ∉ z.2.keys) → ahF M k0 r g id = g id := by
            intro r
            induction r with
            | nil => intro _ _ _ _; rfl
            | cons z r ihr =>
              intro k0 g M hM
              unfold ahF
              rw [ihr (k0 + 1) _ M (fun i y hy hm => hM (i + 1) y (by simpa using hy) (by rwa [show k0 + (i + 1) = k0 + 1 + i from by omega]))]
              cases hz : M k0 with
              | true => exact over_ne (hM 0 z rfl (by rwa [Nat.add_zero]))
              | false => rfl
          rw [none_after r (k + 1) _ _ (fun i z hz hm => hd2 (i + 1) z (by omega) (by simpa using hz) (by
            simp only [Bool.or_eq_true] at hm
            rcases hm with hm | hm
            · rwa [show k + (i + 1) = k + 1 + i from by omega]
            · have := Nat.eq_of_beq_eq_true hm; omega))]
          exact over_in ht
        | succ j =>
          rw [show k + (j + 1) = k + 1 + j from by omega]
          exact ih (k + 1) _ m' j (by simpa using h) (by rwa [show k + 1 + j = k + (j + 1) from by omega]) (fun i z hi hz hm => hd2 (i + 1) z (by omega) (by simpa using hz) (by rwa [show k + (i + 1) = k + 1 + i from by omega]))
    exact last r k m _ j hj hL (fun i x hi hx hm => hd i x hi hx hm id ht)
  · rw [over_ne ht]
    refine ahF_same r k m m (fun i x hx hdx => ?_) rfl
    by_cases hi : i = j
    · subst hi; rw [hx] at hj; injection hj with hj; subst hj; exact absurd hdx ht
    · have : Nat.beq (k + i) (k + j) = false := by
        cases h : Nat.beq (k + i) (k + j) with
        | false => rfl
        | true => have := Nat.eq_of_beq_eq_true h; omega
      simp [this]
theorem clash_l {ops : Array Oper} {x y : Oper × Efc} {t : Nat} (hx : x.1.dst = some t) (hy : t ∈ y.1.looksAt ops) : clash ops x y = true := by simp [clash, hx, hy]
theorem clash_r {ops : Array Oper} {x y : Oper × Efc} {t : Nat} (hy : y.1.dst = some t) (hx : t ∈ x.1.looksAt ops) : clash ops x y = true := by simp [clash, hy, hx]
theorem clash_d {ops : Array Oper} {x y : Oper × Efc} {t : Nat} (hx : x.1.dst = some t) (hy : y.1.dst = some t) : clash ops x y = true := by simp [clash, hx, hy]
theorem meets_of {a b : List Nat} {i : Nat} (ha : i ∈ a) (hb : i ∈ b) : meets a b = true := by
  unfold meets; rw [List.any_eq_true]; exact ⟨i, ha, by simpa using hb⟩
theorem clash_m {ops : Array Oper} {x y : Oper × Efc} {i : Nat} (hx : i ∈ x.2.keys) (hy : i ∈ y.2.T ∨ i ∈ y.2.keys) : clash ops x y = true := by
  have : meets x.2.keys (y.2.T ++ y.2.keys) = true := meets_of hx (List.mem_append.2 hy)
  simp [clash, this]
theorem clash_n {ops : Array Oper} {x y : Oper × Efc} {i : Nat} (hy : i ∈ y.2.keys) (hx : i ∈ x.2.T) : clash ops x y = true := by
  have : meets y.2.keys x.2.T = true := meets_of hy hx
  simp [clash, this]
theorem Ok.draw {X : Cx} {G : Gh} {w : World} {m : Mem} (h : Ok X G w m) (n : Nat) : Ok X G { w with drawn := n } m ∧ Ext G w m G { w with drawn := n } m := by
  have e : Ext G w m G { w with drawn := n } m := ⟨fun g hg => ⟨hg, rfl⟩, fun _ cs h => ⟨cs, h, rfl⟩, fun _ ver _ _ c h => ⟨ver, c, h, Nat.le_refl _, fun _ => ⟨Nat.le_refl _, rfl, rfl⟩⟩⟩
  exact ⟨⟨fun id o ho => (h.ob id o ho).ext e rfl rfl fun g _ => rfl, h.inj, h.apart, h.low, h.keep, h.os, h.tape, h.output, h.size, h.s0, h.sk, h.pin⟩, e⟩
theorem filter_less {p q : Nat → Bool} {j : Nat} : ∀ {l : List Nat}, l.Nodup → j ∈ l → p j = true → q j = false → (∀ k, q k = true → p k = true) → (l.filter q).length < (l.filter p).length
  | [], _, h, _, _, _ => by cases h
  | x :: l, hn, h, hp, hq, himp => by
    have le : ∀ l : List Nat, (l.filter q).length ≤ (l.filter p).length := fun l => by
      induction l with
      | nil => simp
      | cons y l ih =>
        by_cases hy : q y = true
        · rw [List.filter_cons_of_pos hy, List.filter_cons_of_pos (himp y hy)]; simp [ih]
        · rw [List.filter_cons_of_neg hy]
          by_cases hy' : p y = true
          · rw [List.filter_cons_of_pos hy']; simp; omega
          · rw [List.filter_cons_of_neg hy']; exact ih
    rcases List.mem_cons.1 h with rfl | h'
    · rw [List.filter_cons_of_pos hp, List.filter_cons_of_neg (by simp [hq])]
      have := le l
      simp; omega
    · have ih := filter_less (List.nodup_cons.1 hn).2 h' hp hq himp
      by_cases hy : q x = true
      · rw [List.filter_cons_of_pos hy, List.filter_cons_of_pos (himp x hy)]; simp; exact ih
      · rw [List.filter_cons_of_neg hy]
        by_cases hy' : p x = true
        · rw [List.filter_cons_of_pos hy']; simp; omega
        · rw [List.filter_cons_of_neg hy']; exact ih
theorem wp_drawn {X : Cx} {l : List Oper} {xs : List (Oper × Efc)} {f0 : Nat → D} {m0 : Mem} {Q : Exit → Act → World → Prop} (hxs : xs.map (·.1) = l) (hb : backA 0 l = true) (hc : calmGo l.toArray (ancs l) xs 0 xs = true)
    (hstep : ∀ (i : Nat) x, xs[i]? = some x → Step X l.toArray x.1 (frF (fun k => Nat.blt k i) 0 xs f0) (ahF (fun k => Nat.blt k i) 0 xs m0) x.2.d x.2.upd x.2.T ∧ (∀ t, x.1.dst = some t → t < X.nt) ∧ ∀ p ∈ x.2.upd, p.1 ∉ x.2.T → ahF (fun k => Nat.blt k i) 0 xs m0 p.1 = none)
    (fin : ∀ G w a, Ok X G w (ahF (fun _ => true) 0 xs m0) → FrOk G w (ahF (fun _ => true) 0 xs m0) (frF (fun _ => true) 0 xs f0) a → a.tmps.size = X.nt → a.defers = [] → Q .normal a w) :
    ∀ (fuel : Nat) (listed : Array Bool) (G : Gh) (w : World) (a : Act), listed.size = l.length → (∀ (j : Nat) (o : Oper), l[j]? = some o → listed.getD j false = true → ∀ e ∈ o.after.toList, Region.binds .any e = true → listed.getD e.on false = true) →
      Ok X G w (ahF (fun k => listed.getD k false) 0 xs m0) → FrOk G w (ahF (fun k => listed.getD k false) 0 xs m0) (frF (fun k => listed.getD k false) 0 xs f0) a → a.tmps.size = X.nt → a.defers = [] →
      ((List.range l.length).filter fun i => !listed.getD i false).length ≤ fuel → wpAny X.P .any l.toArray Q fuel listed a w := by
  have hlen : xs.length = l.length := by rw [← hxs]; simp
  have ats : ∀ (i : Nat) o, l[i]? = some o → ∃ e, xs[i]? = some (o, e) := fun i o ho => by
    have hi : i < xs.length := by rw [hlen]; exact (List.getElem?_eq_some_iff.1 ho).1
    refine ⟨xs[i].2, ?_⟩
    rw [List.getElem?_eq_getElem hi]
    have : (xs.map (·.1))[i]? = some o := by rw [hxs]; exact ho
    rw [List.getElem?_map, List.getElem?_eq_getElem hi] at this
    simp at this
    rw [← this]
  have inl : ∀ (i : Nat) x, xs[i]? = some x → i < l.length := fun i x hx => by rw [← hlen]; exact (List.getElem?_eq_some_iff.1 hx).1
  have over_all : ∀ (listed : Array Bool), listed.size = l.length → Region.ready .any l.toArray listed = [] → ∀ i, i < l.length → listed.getD i false = true := by
    intro listed hsz hr i
    induction i using Nat.strongRecOn with
    | ind i ih =>
      intro hi
      cases hcc : listed.getD i false with
      | true => rfl
      | false =>
        exfalso
        have hmem : i ∈ Region.ready .any l.toArray listed := by
          rw [mem_ready]
          refine ⟨by simpa [Array.getD, hsz, hi] using hcc, l[i], by simp [hi], fun e he hbd => ?_⟩
          have bk : ∀ (os : List Oper) (k j : Nat) (o : Oper), backA k os = true → os[j]? = some o → ∀ e ∈ o.after.toList, Region.binds .any e = true → e.on < k + j := by
            intro os
            induction os with
            | nil => intro k j o _ h; simp at h
            | cons x os ihx =>
              intro k j o hbk h e he hbd
              simp only [backA, Bool.and_eq_true, List.all_eq_true] at hbk
              cases j with
              | zero => simp at h; subst h; have := hbk.1 e he; rw [hbd] at this; simpa using this
              | succ j => have := ihx (k + 1) j o hbk.2 (by simpa using h) e he hbd; omega
          have hlt := bk l 0 i l[i] hb (by simp [hi]) e (by simpa using he) hbd
          exact ih e.on (by omega) (by omega)
        rw [hr] at hmem
        cases hmem
  have done : ∀ (listed : Array Bool) G w a, listed.size = l.length → Ok X G w (ahF (fun k => listed.getD k false) 0 xs m0) → FrOk G w (ahF (fun k => listed.getD k false) 0 xs m0) (frF (fun k => listed.getD k false) 0 xs f0) a → a.tmps.size = X.nt → a.defers = [] → Region.ready .any l.toArray listed = [] → Q .normal a w := by
    intro listed G w a hsz hO hF hn hdf hr
    have e1 : ahF (fun k => listed.getD k false) 0 xs m0 = ahF (fun _ => true) 0 xs m0 := funext fun id => ahF_same xs 0 m0 m0 (fun i x hx _ => by rw [Nat.zero_add]; exact over_all listed hsz hr i (inl i x hx)) rfl
    have e2 : frF (fun k => listed.getD k false) 0 xs f0 = frF (fun _ => true) 0 xs f0 := funext fun id => frF_same xs 0 f0 f0 (fun i x hx _ => by rw [Nat.zero_add]; exact over_all listed hsz hr i (inl i x hx)) rfl
    rw [e1] at hO hF
    rw [e2] at hF
    exact fin G w a hO hF hn hdf
  intro fuel
  induction fuel with
  | zero =>
    intro listed G w a hsz hcl hO hF hn hdf hf
    have hr : Region.ready .any l.toArray listed = [] := by
      cases hr : Region.ready .any l.toArray listed with
      | nil => rfl
      | cons i r =>
        exfalso
        have hi : i ∈ Region.ready .any l.toArray listed := by rw [hr]; exact List.mem_cons_self
        obtain ⟨h1, o, ho, _⟩ := mem_ready.1 hi
        have hlt : i < l.length := by
          rcases Nat.lt_or_ge i l.length with h2 | h2
          · exact h2
          · simp [List.getElem?_eq_none h2] at ho
        have : i ∈ (List.range l.length).filter fun i => !listed.getD i false := by
          rw [List.mem_filter]
          exact ⟨List.mem_range.2 hlt, by simp [Array.getD, hsz, hlt] at h1 ⊢; exact h1⟩
        rw [List.eq_nil_of_length_eq_zero (Nat.le_zero.1 hf)] at this
        cases this
    exact ⟨hr, done listed G w a hsz hO hF hn hdf hr⟩
  | succ fuel ih =>
    intro listed G w a hsz hcl hO hF hn hdf hf
    refine ⟨fun hr => done listed G w a hsz hO hF hn hdf hr, fun j hj => ?_⟩
    obtain ⟨hun, o, ho, hdep⟩ := mem_ready.1 hj
    have ho' : l[j]? = some o := by simpa using ho
    obtain ⟨e, hx⟩ := ats j o ho'
    have hlt : j < l.length := inl j _ hx
    have hjU : listed.getD j false = false := by simp [Array.getD, hsz, hlt] at hun ⊢; exact hun
    obtain ⟨hst, hdst, hfr⟩ := hstep j (o, e) hx
    have hcl' : ∀ (k : Nat) (ok : Oper), l[k]? = some ok → (listed.setIfInBounds j true).getD k false = true → ∀ ee ∈ ok.after.toList, Region.binds .any ee = true → (listed.setIfInBounds j true).getD ee.on false = true := by
      intro k ok hok hk ee he hbd
      refine getD_set_true ?_
      by_cases hkj : k = j
      · subst hkj
        rw [ho'] at hok; cases hok
        exact hdep ee (by simpa using he) hbd
      · rw [getD_set_ne false (Ne.symm hkj)] at hk
        exact hcl k ok hok hk ee he hbd
    have anc_in : ∀ i, i ∈ (ancs l).getD j [] → i ≠ j → listed.getD i false = true := fun i hi hne => by
      have := ancA_ok (fun q => (listed.setIfInBounds j true).getD q false) hcl' j (by simp [Array.getD, hsz, hlt]) i hi
      simp only [getD_set_ne false (Ne.symm hne)] at this
      exact this
    have anc_no : ∀ i, j ∈ (ancs l).getD i [] → listed.getD i false = false := fun i hi => by
      cases hcc : listed.getD i false with
      | false => rfl
      | true =>
        have := ancA_ok (fun q => listed.getD q false) hcl i hcc j hi
        simp only [hjU] at this; cases this
    have side : ∀ (i : Nat) x, xs[i]? = some x → (i < j → clash l.toArray x (o, e) = true) → (j < i → clash l.toArray (o, e) x = true) → listed.getD i false = Nat.blt i j := fun i x hxi h1 h2 => by
      rcases Nat.lt_trichotomy i j with h | h | h
      · have := calmGo_at xs 0 hc j (o, e) hx i x (by omega) hxi (h1 h)
        rw [Nat.zero_add] at this
        rw [anc_in i this (by omega)]
        exact (by simpa using h : Nat.blt i j = true).symm
      · subst h
        rw [hjU]
        cases hq : Nat.blt i i with
        | false => rfl
        | true => have : i < i := by simpa using hq
                  omega
      · have := calmGo_at xs 0 hc i x hxi j (o, e) (by omega) hx (h2 h)
        rw [Nat.zero_add] at this
        rw [anc_no i this]
        cases hq : Nat.blt i j with
        | false => rfl
        | true => have : i < j := by simpa using hq
                  omega
    have agF : ∀ t ∈ o.looksAt l.toArray, frF (fun k => listed.getD k false) 0 xs f0 t = frF (fun k => Nat.blt k j) 0 xs f0 t := fun t ht =>
      frF_same xs 0 f0 f0 (fun i x hxi hd => by rw [Nat.zero_add]; exact side i x hxi (fun _ => clash_l hd ht) (fun _ => clash_r hd ht)) rfl
    have agM : ∀ id, id ∈ e.T ∨ id ∈ e.keys → ahF (fun k => listed.getD k false) 0 xs m0 id = ahF (fun k => Nat.blt k j) 0 xs m0 id := fun id hid =>
      ahF_same xs 0 m0 m0 (fun i x hxi hd => by
        rw [Nat.zero_add]
        refine side i x hxi (fun _ => clash_m hd hid) (fun _ => ?_)
        rcases hid with h | h
        · exact clash_n hd h
        · exact clash_m h (.inr hd)) rfl
    have key := hst (frF (fun k => listed.getD k false) 0 xs f0) (ahF (fun k => listed.getD k false) 0 xs m0) agF (fun id hid => agM id (.inl hid))
      (fun p hp hT => by rw [agM p.1 (.inr (List.mem_map.2 ⟨p, hp, rfl⟩))]; exact hfr p hp hT) G w a hO hF
      (fun a' w' => wpAny X.P .any l.toArray Q fuel (listed.setIfInBounds j true) a' w') Q (fun G' w' u h1 h2 h3 => by
        have eL : (fun k => (listed.setIfInBounds j true).getD k false) = fun k => listed.getD k false || Nat.beq k (0 + j) := funext fun k => by
          by_cases hk : k = j
          · subst hk; rw [Nat.zero_add, Nat.beq_refl, Bool.or_true]; simp [Array.getD, hsz, hlt]
          · rw [getD_set_ne false (Ne.symm hk)]
            have : Nat.beq k (0 + j) = false := by
              cases h : Nat.beq k (0 + j) with
              | false => rfl
              | true => have := Nat.eq_of_beq_eq_true h; omega
            simp only [this, Bool.or_false]
        have eA := ahF_put (L := fun k => listed.getD k false) xs 0 m0 hx (by rw [Nat.zero_add]; exact hjU) (fun i x hij hxi hL id hid hid' => by
          rw [Nat.zero_add] at hL
          have := calmGo_at xs 0 hc i x hxi j (o, e) (by omega) hx (clash_m hid (.inr hid'))
          rw [Nat.zero_add] at this
          rw [anc_no i this] at hL; cases hL)
        have eF := frF_put (L := fun k => listed.getD k false) xs 0 f0 hx (by rw [Nat.zero_add]; exact hjU) (fun i x hij hxi hL t ht ht' => by
          rw [Nat.zero_add] at hL
          have := calmGo_at xs 0 hc i x hxi j (o, e) (by omega) hx (clash_d ht ht')
          rw [Nat.zero_add] at this
          rw [anc_no i this] at hL; cases hL)
        have hs : ∀ (dst : Option Tmp), (a.put dst u).tmps.size = a.tmps.size := fun dst => by cases dst <;> simp [Act.put]
        have hd : ∀ (dst : Option Tmp), (a.put dst u).defers = a.defers := fun dst => by cases dst <;> rfl
        refine ih (listed.setIfInBounds j true) G' w' (a.put o.dst u) (by simpa using hsz) hcl' (by rw [eL, eA]; exact h1) (by rw [eL, eA, eF]; exact (hF.ext h2).put h3 fun t ht => by rw [hn]; exact hdst t ht) (by rw [hs]; exact hn) (by rw [hd]; exact hdf) ?_
        -- one is left less
        have sub : ((List.range l.length).filter fun i => !(listed.setIfInBounds j true).getD i false).length < ((List.range l.length).filter fun i => !listed.getD i false).length :=
          filter_less (List.nodup_range) (List.mem_range.2 hlt) (by simp [hjU]) (by simp [Array.getD, hsz, hlt]) (fun k hk => by
            by_cases hkj : k = j
            · subst hkj; simp [Array.getD, hsz, hlt] at hk
            · rw [getD_set_ne false (Ne.symm hkj)] at hk; exact hk)
        omega)
    unfold wpOp
    simp only [ho]
    by_cases hw : Region.wanted o (yielded l.toArray a.tmps) = true
    · rw [if_pos hw] at key ⊢; exact .inl key
    · rw [if_neg hw] at key ⊢; exact key
theorem frF_append {L : Nat → Bool} : ∀ (xs ys : List (Oper × Efc)) (k : Nat) (f : Nat → D), frF L k (xs ++ ys) f = frF L (k + xs.length) ys (frF L k xs f)
  | [], ys, k, f => by simp [frF]
  | x :: xs, ys, k, f => by
    simp only [List.cons_append, frF, List.length_cons]
    rw [frF_append xs ys (k + 1), show k + 1 + xs.length = k + (xs.length + 1) from by omega]
theorem ahF_append {L : Nat → Bool} : ∀ (xs ys : List (Oper × Efc)) (k : Nat) (f : Mem), ahF L k (xs ++ ys) f = ahF L (k + xs.length) ys (ahF L k xs f)
  | [], ys, k, f => by simp [ahF]
  | x :: xs, ys, k, f => by
    simp only [List.cons_append, ahF, List.length_cons]
    rw [ahF_append xs ys (k + 1), show k + 1 + xs.length = k + (xs.length + 1) from by omega]
theorem frF_none {L : Nat → Bool} : ∀ (xs : List (Oper × Efc)) (k : Nat) (f : Nat → D), (∀ i, k ≤ i → L i = false) → frF L k xs f = f
  | [], _, _, _ => rfl
  | x :: xs, k, f, h => by simp only [frF, h k (Nat.le_refl _), cond_false]; exact frF_none xs (k + 1) f fun i hi => h i (by omega)
theorem ahF_none {L : Nat → Bool} : ∀ (xs : List (Oper × Efc)) (k : Nat) (f : Mem), (∀ i, k ≤ i → L i = false) → ahF L k xs f = f
  | [], _, _, _ => rfl
  | x :: xs, k, f, h => by simp only [ahF, h k (Nat.le_refl _), cond_false]; exact ahF_none xs (k + 1) f fun i hi => h i (by omega)
theorem frF_all {L : Nat → Bool} : ∀ (xs : List (Oper × Efc)) (k : Nat) (f : Nat → D), (∀ i, i < k + xs.length → L i = true) → frF L k xs f = frF (fun _ => true) k xs f
  | [], _, _, _ => rfl
  | x :: xs, k, f, h => by simp only [frF, h k (by simp), cond_true]; exact frF_all xs (k + 1) _ fun i hi => h i (by simp; omega)
theorem ahF_all {L : Nat → Bool} : ∀ (xs : List (Oper × Efc)) (k : Nat) (f : Mem), (∀ i, i < k + xs.length → L i = true) → ahF L k xs f = ahF (fun _ => true) k xs f
  | [], _, _, _ => rfl
  | x :: xs, k, f, h => by simp only [ahF, h k (by simp), cond_true]; exact ahF_all xs (k + 1) _ fun i hi => h i (by simp; omega)
theorem blt_f {i n : Nat} (h : n ≤ i) : Nat.blt i n = false := by
  cases hq : Nat.blt i n with
  | false => rfl
  | true => have : i < n := by simpa using hq
            omega
theorem frF_pre (xs ys : List (Oper × Efc)) (f : Nat → D) : frF (fun k => Nat.blt k xs.length) 0 (xs ++ ys) f = frF (fun _ => true) 0 xs f := by
  rw [frF_append, frF_none ys _ _ (fun i hi => blt_f (by omega)), frF_all xs 0 f (fun i hi => by simp; omega)]
theorem ahF_pre (xs ys : List (Oper × Efc)) (f : Mem) : ahF (fun k => Nat.blt k xs.length) 0 (xs ++ ys) f = ahF (fun _ => true) 0 xs f := by
  rw [ahF_append, ahF_none ys _ _ (fun i hi => blt_f (by omega)), ahF_all xs 0 f (fun i hi => by simp; omega)]
/-- Operations in the text's order, whose clashes are ordered: they may be drawn. -/
def awd (X : Cx) (l : List Oper) (K : Fm → AH → Prop) : List (Oper × Efc) → List Oper → Fm → AH → Prop
  | xs, [], fr, ah => calmGo l.toArray (ancs l) xs 0 xs = true ∧ K fr ah
  | xs, o :: os, fr, ah => ∃ d upd T, Step X l.toArray o fr.at (look ah) d upd T ∧ dstB X.nt o.dst = true ∧ freshB upd T ah = true ∧ awd X l K (xs ++ [(o, ⟨d, upd, T⟩)]) os (pushF fr o.dst d) (upd ++ ah)
section
variable {X : Cx} {l : List Oper} {K : Fm → AH → Prop} {xs : List (Oper × Efc)} {fr : Fm} {ah : AH}
theorem awd_nil (h : calmGo l.toArray (ancs l) xs 0 xs = true) (k : K fr ah) : awd X l K xs [] fr ah := ⟨h, k⟩
theorem awd_step {o : Oper} {os : List Oper} {d : D} {upd : AH} {T : List Nat} (h : Step X l.toArray o fr.at (look ah) d upd T) (hd : dstB X.nt o.dst = true) (hn : freshB upd T ah = true) (k : awd X l K (xs ++ [(o, ⟨d, upd, T⟩)]) os (pushF fr o.dst d) (upd ++ ah)) : awd X l K xs (o :: os) fr ah :=
  ⟨d, upd, T, h, hd, hn, k⟩
theorem awd_all {f0 : Nat → D} {m0 : Mem} : ∀ (os : List Oper) (xs : List (Oper × Efc)) (fr : Fm) (ah : AH), awd X l K xs os fr ah → fr.at = frF (fun _ => true) 0 xs f0 → look ah = ahF (fun _ => true) 0 xs m0 →
    ∃ rest : List (Oper × Efc), rest.map (·.1) = os ∧ calmGo l.toArray (ancs l) (xs ++ rest) 0 (xs ++ rest) = true ∧ (∃ fr' ah', K fr' ah' ∧ fr'.at = frF (fun _ => true) 0 (xs ++ rest) f0 ∧ look ah' = ahF (fun _ => true) 0 (xs ++ rest) m0) ∧
      ∀ (i : Nat) x, rest[i]? = some x → Step X l.toArray x.1 (frF (fun k => Nat.blt k (xs.length + i)) 0 (xs ++ rest) f0) (ahF (fun k => Nat.blt k (xs.length + i)) 0 (xs ++ rest) m0) x.2.d x.2.upd x.2.T ∧ (∀ t, x.1.dst = some t → t < X.nt) ∧
        ∀ p ∈ x.2.upd, p.1 ∉ x.2.T → ahF (fun k => Nat.blt k (xs.length + i)) 0 (xs ++ rest) m0 p.1 = none
  | [], xs, fr, ah, h, hf, hm => ⟨[], rfl, by rw [List.append_nil]; exact h.1, ⟨fr, ah, h.2, by rw [List.append_nil]; exact hf, by rw [List.append_nil]; exact hm⟩, fun i x hx => by simp at hx⟩
  | o :: os, xs, fr, ah, ⟨d, upd, T, h1, h2, h3, h4⟩, hf, hm => by
    obtain ⟨rest, r1, r2, r3, r4⟩ := awd_all os (xs ++ [(o, ⟨d, upd, T⟩)]) _ _ h4 (by
      rw [pushF_at, frF_append, ← hf]; rfl) (by
      rw [← over_look, ahF_append, ← hm]; rfl)
    have e : xs ++ [(o, (⟨d, upd, T⟩ : Efc))] ++ rest = xs ++ (o, ⟨d, upd, T⟩) :: rest := by simp
    rw [e] at r2 r3
    refine ⟨(o, ⟨d, upd, T⟩) :: rest, by simp [r1], r2, r3, fun i x hx => ?_⟩
    cases i with
    | zero =>
      simp at hx
      subst hx
      rw [Nat.add_zero, frF_pre, ahF_pre, ← hf, ← hm]
      refine ⟨h1, fun t ht => by rw [ht] at h2; simpa [dstB] using h2, fun p hp hT => ?_⟩
      unfold freshB at h3
      rw [List.all_eq_true] at h3
      have := h3 p hp
      simp only [Bool.or_eq_true, List.contains_iff_mem, Option.isNone_iff_eq_none] at this
      rcases this with h | h
      · exact absurd h hT
      · exact h
    | succ i =>
      have := r4 i x (by simpa using hx)
      rw [e] at this
      simp only [List.length_append, List.length_singleton] at this
      rwa [show xs.length + 1 + i = xs.length + (i + 1) from by omega] at this
theorem awd_wp {Q : Exit → Act → World → Prop} (hm : X.P.follows .mixedOrders = true) (hb : backA 0 l = true) (h : awd X l K [] l fr ah) {G : Gh} {w : World} {a : Act} (hS : St X G w a fr ah) (hK : ∀ a w, Kont X K a w → Q .normal a w) (id : Nat) : (Code.region id l.toArray true).wp X.P Q a w := by
  obtain ⟨xs, r1, r2, ⟨fr', ah', k1, k2, k3⟩, r4⟩ := awd_all (f0 := fr.at) (m0 := look ah) l [] fr ah h rfl rfl
  simp only [List.nil_append, List.length_nil, Nat.zero_add] at r2 k2 k3 r4
  obtain ⟨hO, hE⟩ := hS.ok.draw (w.drawn + 1)
  refine wp_region_any hm ?_
  have e1 : frF (fun k => (Array.replicate l.length false).getD k false) 0 xs fr.at = fr.at := frF_none xs 0 _ fun i _ => by simp [Array.getD]
  have e2 : ahF (fun k => (Array.replicate l.length false).getD k false) 0 xs (look ah) = look ah := ahF_none xs 0 _ fun i _ => by simp [Array.getD]
  have key := wp_drawn (Q := Q) r1 hb r2 r4 (fun G w a h1 h2 h3 h4 => by
    refine hK a w ⟨G, fr', ah', ⟨by rw [k3]; exact h1, by rw [k2, k3]; exact h2, h3, h4⟩, k1⟩) l.length (Array.replicate l.length false) G { w with drawn := w.drawn + 1 } a (by simp) (fun j o _ hj => by simp [Array.getD] at hj)
    (by rw [e2]; exact hO) (by rw [e1, e2]; exact hS.fr.ext hE) hS.nt hS.df (by have := List.length_filter_le (fun i => !(Array.replicate l.length false).getD i false) (List.range l.length); simpa using this)
  simpa using key
theorem aw_regionD {Q : AX → Fm → AH → Prop} {id : Nat} {rest : Code} (hm : X.P.follows .mixedOrders = true) (hb : backA 0 l = true) (h : ∀ K : Fm → AH → Prop, (∀ fr ah, aw X rest Q fr ah → K fr ah) → awd X l K [] l fr ah) : aw X (.seq (.region id l.toArray true) rest) Q fr ah := fun G w a hS =>
  wp_seq (awd_wp hm hb (h (fun fr ah => aw X rest Q fr ah) (fun _ _ h => h)) hS (fun a w hk => by
    obtain ⟨G, fr, ah, h1, h2⟩ := hk
    exact h2 G w a h1) id)
theorem aw_regionD_last {Q : AX → Fm → AH → Prop} {id : Nat} (hm : X.P.follows .mixedOrders = true) (hb : backA 0 l = true) (h : awd X l (Q .normal) [] l fr ah) : aw X (.region id l.toArray true) Q fr ah := fun G w a hS =>
  awd_wp hm hb h hS (fun a w hk => hk) id
end
end Go.Proofs.Ytlfkgbcclinnbaa
