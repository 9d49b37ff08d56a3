/- Abstract states: contracts that were proved over worlds, as contracts over abstract states; and the other way round. No program, no condition. -/
import Derived.Test.YtlfkgbcclinnbaaAk
import Derived.Test.YtlfkgbcclinnbaaMem
namespace Go.Proofs.Ytlfkgbcclinnbaa
set_option linter.all false
open Go Go.RowKit Go.Lib

theorem rd_of {G : Gh} {w : World} {l : List UInt8} {u : Value} (h : RepV G.S w (.sl (bs l)) u) (hl : ∀ g, G.S g → g < w.heap.size) : ∃ A c, u = .slice A l.length c ∧ l.length ≤ c ∧ c ≤ maxLen ∧ Rd w w.heap.size A l := by
  generalize hc : bs l = c at h
  cases h with
  | nil A cap hm =>
    obtain rfl : l = [] := by cases l <;> simp [bs] at hc ⊢
    exact ⟨A, cap, rfl, Nat.zero_le _, hm, .inl rfl⟩
  | sl _ g o n cap us hne hz hn hs hcap hm hcc hr =>
    subst hc
    obtain rfl : n = 1 := by rw [← hs _ (List.getElem_mem hne)]; exact bs_one l _ (List.getElem_mem hne)
    refine ⟨_, cap, by rw [bs_length], by simpa using hcap, hm, .inr ⟨g, o, rfl, hl g hz, fun i hi => ?_⟩⟩
    have he0 : elem? (bs l) i 0 = some (.int .u8 (l[i].toNat : Int)) := by simp [elem?, bs, hi]
    have h1 := hcc i 0 _ he0
    have h2 := hr i 0 _ he0
    generalize us i 0 = v at h1 h2
    cases h2
    rw [Nat.mul_one, Nat.add_zero] at h1
    exact h1
theorem of_rd {Z : Nat → Prop} {w : World} {B : Nat} {A : Option Addr} {l : List UInt8} {c : Nat} (h : Rd w B A l) (hZ : ∀ g, g < B → Z g) (hc : l.length ≤ c) (hm : c ≤ maxLen) : RepV Z w (.sl (bs l)) (.slice A l.length c) := by
  rcases h with rfl | ⟨g, o, rfl, hg, hcell⟩
  · exact .nil A c hm
  · rcases Nat.eq_zero_or_pos l.length with h0 | h0
    · obtain rfl := List.eq_nil_of_length_eq_zero h0
      exact .nil _ c hm
    · have := RepV.sl (Z := Z) (w := w) (bs l) g o 1 c (fun i _ => U (l.getD i 0)) (by simpa using h0) (hZ g hg) (by decide) (bs_one l) (by simpa using hc) hm (fun i j x hx => ?_) (fun i j x hx => ?_)
      · rw [bs_length] at this; exact this
      all_goals
        unfold elem? bs at hx
        rw [List.getElem?_map] at hx
        cases hli : l[i]? with
        | none => rw [hli] at hx; cases hx
        | some b =>
          rw [hli] at hx
          have hx' : [V.int .u8 (b.toNat : Int)][j]? = some x := hx
          cases j with
          | succ j => simp at hx'
          | zero =>
            simp at hx'
            subst hx'
            have hlt := (List.getElem?_eq_some_iff.1 hli).1
            have e : l[i] = b := (List.getElem?_eq_some_iff.1 hli).2
            have e2 : l.getD i 0 = b := by simp [hli]
            simp only [e2]
            first
              | (have := hcell i hlt; rw [e] at this; simpa using this)
              | exact .int _ _
/-- Below the heap's size nothing has changed. -/
theorem Ok.below {X : Cx} {G : Gh} {w w' : World} (h : Ok X G w (look [])) (hb : Below w.heap.size w w') : Ok X G w' (look []) := by
  refine ⟨fun id o ho => (by cases ho), fun i j g hi => absurd rfl hi, fun i g hi => absurd rfl hi, fun g hg => Nat.lt_of_lt_of_le (h.low g hg) hb.size, fun g hg => ⟨(h.keep g hg).1, (hb.block g (by have := (h.keep g hg).1; have := h.size; omega)).trans (h.keep g hg).2⟩, hb.os.trans h.os, hb.tape.trans h.tape, hb.output.trans h.output, Nat.le_trans h.size hb.size, h.s0, h.sk, fun id cs _ ho => (by cases ho)⟩
theorem con_pure {P : Program} {f : FuncId} {args : List D} {d : D} (h : ∀ (G : Gh) (w : World) (us : List Value), (∀ g, G.S g → g < w.heap.size) → RepDs G w (look []) args us → Calls P f us.toArray w fun e w' => ∃ v, e = .returned v ∧ (∀ (m : Mem), RepD G w' m d v) ∧ Below w.heap.size w w') : Con P f args [] 0 (.ret d) [] := by
  intro K G w us hSK hO hA
  refine (h G w us hO.low hA).mono fun e w' ⟨v, he, hd, hb⟩ => ?_
  subst he
  exact ⟨G, hO.below hb, hd _⟩
/-- One that makes a row of bytes. -/
theorem con_bytesF {P : Program} {f : FuncId} {args : List D} {e : TypeId} {l : List UInt8} (F : Value → Value) (dF : D) (hF : ∀ G w m v, RepD G w m (.view 0 0 0 l.length) v → RepD G w m dF (F v)) (h : ∀ (G : Gh) (w : World) (us : List Value), (∀ g, G.S g → g < w.heap.size) → RepDs G w (look []) args us → Calls P f us.toArray w fun en w' => (∃ v, en = .returned (F v) ∧ Own w' w.heap.size e v l) ∧ Below w.heap.size w w') :
    Con P f args [] 0 (.ret dF) [(0, .row 0 1 e (bs l))] := by
  intro K G w us hSK hO hA
  refine (h G w us hO.low hA).mono fun en w' ⟨⟨v, he, ho⟩, hb⟩ => ?_
  subst he
  have hO' := hO.below hb
  rcases ho.2 with ⟨rfl, h0⟩ | ⟨g, cap, cur, rfl, hg, hh, hc, hm, hs, ht⟩
  · obtain rfl : l = [] := List.eq_nil_of_length_eq_zero h0
    refine ⟨G.at_ 0 none 0, ?_, ?_⟩
    · refine ⟨fun id o hi => ?_, fun i j g hi hj h1 h2 => ?_, fun i g hi h1 => ?_, hO'.low, hO'.keep, hO'.os, hO'.tape, hO'.output, hO'.size, hO'.s0, hO'.sk, fun id cs hid _ => absurd hid (Nat.not_lt_zero _)⟩
      · by_cases h0 : 0 = id
        · subst h0
          rw [look_cons_self] at hi; injection hi with hi; subst hi
          exact ⟨by simp [bs], by decide, by simp [bs], by rw [Gh.at_cap]; simp [maxLen], .inl ⟨Gh.at_μ _ _ _ _, Gh.at_cap _ _ _ _⟩⟩
        · rw [look_cons_ne _ _ h0] at hi; cases hi
      · by_cases h0 : 0 = i
        · subst h0; rw [Gh.at_μ] at h1; cases h1
        · rw [look_cons_ne _ _ h0] at hi; exact absurd rfl hi
      · by_cases h0 : 0 = i
        · subst h0; rw [Gh.at_μ] at h1; cases h1
        · rw [look_cons_ne _ _ h0] at hi; exact absurd rfl hi
    · refine hF _ _ _ _ ?_
      exact .view 0 0 0 _ _ 0 1 e _ (look_cons_self _ _ _) (Nat.le_refl _) rfl fun _ => ⟨by simp, none, 0, rfl, by rw [Gh.at_cap], by simp, .inl (by rw [Gh.at_μ]; rfl)⟩
  · have hlt : g < w'.heap.size := (Array.getElem?_eq_some_iff.1 hh).1
    have hng : ¬ G.S g := fun hs => by have := hO.low g hs; omega
    have hnk : ¬ K g := fun hk => by have := (hO.keep g hk).1; simp only at this; omega
    refine ⟨G.at_ 0 (some g) cap, ?_, ?_⟩
    · refine ⟨fun id o hi => ?_, fun i j g' hi hj h1 h2 => ?_, fun i g' hi h1 => ?_, hO'.low, hO'.keep, hO'.os, hO'.tape, hO'.output, hO'.size, hO'.s0, hO'.sk, fun id cs hid _ => absurd hid (Nat.not_lt_zero _)⟩
      · by_cases h0 : 0 = id
        · subst h0
          rw [look_cons_self] at hi; injection hi with hi; subst hi
          have hel : ∀ i j x, elem? (bs l) i j = some x → cur[i * 1 + j]? = some (cur.getD (i * 1 + j) undef) ∧ RepV G.S w' x (cur.getD (i * 1 + j) undef) := fun i j x hx => by
            obtain ⟨v, h1, h2⟩ := bs_news l G.S w' i j x hx
            have hlt := (List.getElem?_eq_some_iff.1 h1).1
            have h3 : (cur.toList.take (l.length * 1))[i * 1 + j]? = some v := by rw [ht]; exact h1
            rw [List.getElem?_take_of_lt (by simpa using hlt)] at h3
            have h4 : cur[i * 1 + j]? = some v := by simpa using h3
            simp only [Array.getD_eq_getD_getElem?, h4, Option.getD_some]
            exact ⟨trivial, h2⟩
          exact ⟨bs_one l, by decide, by rw [Gh.at_cap, bs_length]; exact hc, by rw [Gh.at_cap]; exact hm, .inr ⟨g, cur, fun i j => cur.getD (i * 1 + j) undef, Gh.at_μ _ _ _ _, hh, by rw [Gh.at_cap]; exact hs, fun i j x hx => (hel i j x hx).1, fun i j x hx => (hel i j x hx).2⟩⟩
        · rw [look_cons_ne _ _ h0] at hi; cases hi
      · by_cases h0 : 0 = i
        · by_cases h0' : 0 = j
          · omega
          · rw [look_cons_ne _ _ h0'] at hj; exact absurd rfl hj
        · rw [look_cons_ne _ _ h0] at hi; exact absurd rfl hi
      · by_cases h0 : 0 = i
        · subst h0
          rw [Gh.at_μ] at h1; injection h1 with h1; subst h1
          exact ⟨hng, hnk⟩
        · rw [look_cons_ne _ _ h0] at hi; exact absurd rfl hi
    · refine hF _ _ _ _ ?_
      exact .view 0 0 0 _ _ 0 1 e _ (look_cons_self _ _ _) (Nat.le_refl _) rfl fun _ => ⟨by simp, some ⟨g, 0, none⟩, cap, rfl, by rw [Gh.at_cap]; omega, hc, .inl (by rw [Gh.at_μ]; simp)⟩
theorem con_bytes {P : Program} {f : FuncId} {args : List D} {e : TypeId} {l : List UInt8} (h : ∀ (G : Gh) (w : World) (us : List Value), (∀ g, G.S g → g < w.heap.size) → RepDs G w (look []) args us → Calls P f us.toArray w fun en w' => (∃ v, en = .returned v ∧ Own w' w.heap.size e v l) ∧ Below w.heap.size w w') :
    Con P f args [] 0 (.ret (.view 0 0 0 l.length)) [(0, .row 0 1 e (bs l))] := con_bytesF id _ (fun _ _ _ _ h => h) h
/-- A contract over worlds. -/
theorem Con.calls {P : Program} {f : FuncId} {args : List D} {d : D} (h : Con P f args [] 0 (.ret d) []) (w : World) (us : List Value) (hA : RepDs ⟨fun _ => none, fun _ => 0, fun g => g < w.heap.size⟩ w (look []) args us) : Calls P f us.toArray w fun e w' => ∃ v Z, e = .returned v ∧ RepD ⟨fun _ => none, fun _ => 0, Z⟩ w' (look []) d v ∧ Below w.heap.size w w' := by
  refine (h (fun g => g < w.heap.size) ⟨fun _ => none, fun _ => 0, fun g => g < w.heap.size⟩ w us (fun _ h => h) ⟨fun id o ho => (by cases ho), fun i j g hi => absurd rfl hi, fun i g hi => absurd rfl hi, fun g hg => hg, fun g hg => ⟨hg, rfl⟩, rfl, rfl, rfl, Nat.le_refl _, fun g hg => hg, fun g hg _ => hg, fun _ _ _ _ => rfl⟩ hA).mono fun e w' ⟨G', hO, ho⟩ => ?_
  cases e with
  | returned v =>
    refine ⟨v, G'.S, rfl, ?_, hO.os, hO.tape, hO.output, hO.size, fun g hg => (hO.keep g hg).2⟩
    have hr : RepD G' w' (look []) d v := ho
    have dead : ∀ (d : D) (v : Value), RepD G' w' (look []) d v → RepD ⟨fun _ => none, fun _ => 0, G'.S⟩ w' (look []) d v := by
      intro d v hr
      induction hr with
      | v x u h => exact .v x u h
      | agg cs us hl h1 h ih => exact .agg cs us hl h1 ih
      | tup ds us hl h ih => exact .tup ds us hl ih
      | ptr id off g cs h hg => cases h
      | view id ver off len u ver' n e c h hv h1 h2 => cases h
      | vptr id ver i j u ver' n e c h hv h1 h2 => cases h
      | ref cs g o us hz hc hr => exact .ref cs g o us hz hc hr
      | fn f first caps us vs hl hl' h h' ih ih' => exact .fn f first caps us vs hl hl' ih ih'
      | cond b d u h h0 ih => exact .cond b d u ih h0
      | any u => exact .any u
    exact dead d v hr
  | panicked c => exact ho.elim
  | outgrown => exact ho.elim
end Go.Proofs.Ytlfkgbcclinnbaa
