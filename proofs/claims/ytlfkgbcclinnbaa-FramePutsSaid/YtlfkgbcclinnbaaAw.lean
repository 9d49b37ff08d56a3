/- Abstract states: code walks. No program, no condition. -/
import Derived.Test.YtlfkgbcclinnbaaAp
namespace Go.Proofs.Ytlfkgbcclinnbaa
set_option linter.all false
open Go Go.RowKit

/-- How code ends. -/
inductive AX where
  | normal
  | exit (id : Nat)
  | goto (l : Nat)
  | ret
  | pan (d : D)
structure St (X : Cx) (G : Gh) (w : World) (a : Act) (fr : Fm) (ah : AH) : Prop where
  ok : Ok X G w (look ah)
  fr : FrOk G w (look ah) fr.at a
  nt : a.tmps.size = X.nt
  df : a.defers = []
def Kont (X : Cx) (K : Fm → AH → Prop) (a : Act) (w : World) : Prop := ∃ G fr ah, St X G w a fr ah ∧ K fr ah
def Rel (X : Cx) (Q : AX → Fm → AH → Prop) : Exit → Act → World → Prop
  | .normal, a, w => Kont X (Q .normal) a w
  | .exit id, a, w => Kont X (Q (.exit id)) a w
  | .goto l, a, w => Kont X (Q (.goto l)) a w
  | .ret, a, w => Kont X (Q .ret) a w
  | .panic chain, a, w => ∃ G fr ah d v, St X G w a fr ah ∧ chain = [{ v, recovered := false }] ∧ RepD G w (look ah) d v ∧ Q (.pan d) fr ah
  | .outgrown, _, _ => False
/-- The walk of code from an abstract state. -/
def aw (X : Cx) (c : Code) (Q : AX → Fm → AH → Prop) (fr : Fm) (ah : AH) : Prop := ∀ G w a, St X G w a fr ah → c.wp X.P (Rel X Q) a w
def thenQ (K : Fm → AH → Prop) (Q : AX → Fm → AH → Prop) : AX → Fm → AH → Prop := fun e => match e with | .normal => K | e => Q e
def blockQ (id : Nat) (Q : AX → Fm → AH → Prop) : AX → Fm → AH → Prop := fun e => match e with | .exit i => bif Nat.beq i id then Q .normal else Q (.exit i) | e => Q e
section
variable {X : Cx} {Q : AX → Fm → AH → Prop} {fr : Fm} {ah : AH}
theorem Kont.mono {K K' : Fm → AH → Prop} {a : Act} {w : World} (h : Kont X K a w) (hk : ∀ fr ah, K fr ah → K' fr ah) : Kont X K' a w := by
  obtain ⟨G, fr, ah, h1, h2⟩ := h
  exact ⟨G, fr, ah, h1, hk _ _ h2⟩
theorem rel_then {x : Code} {K : Fm → AH → Prop} {a : Act} {w : World} {R : Act → World → Prop} (hR : ∀ a w, Kont X K a w → R a w) (h : x.wp X.P (Rel X (thenQ K Q)) a w) : x.wp X.P (Exit.then R (Rel X Q)) a w :=
  wp_mono h fun e a w q => by
    cases e with
    | normal => exact hR a w q
    | exit id => exact q
    | goto l => exact q
    | ret => exact q
    | panic c => exact q
    | outgrown => exact q
theorem aw_seq {x y : Code} (h : ∀ K : Fm → AH → Prop, (∀ fr ah, aw X y Q fr ah → K fr ah) → aw X x (thenQ K Q) fr ah) : aw X (.seq x y) Q fr ah := fun G w a hS =>
  wp_seq (rel_then (K := fun fr ah => aw X y Q fr ah) (fun a w hk => by
    obtain ⟨G, fr, ah, h1, h2⟩ := hk
    exact h2 G w a h1) (h _ (fun _ _ h => h) G w a hS))
theorem aw_skip (h : Q .normal fr ah) : aw X .skip Q fr ah := fun G w a hS => wp_skip ⟨G, fr, ah, hS, h⟩
theorem aw_label {l : Nat} (h : Q .normal fr ah) : aw X (.label l) Q fr ah := fun G w a hS => wp_label ⟨G, fr, ah, hS, h⟩
theorem aw_exit {id : Nat} (h : Q (.exit id) fr ah) : aw X (.exit id) Q fr ah := fun G w a hS => wp_exit ⟨G, fr, ah, hS, h⟩
theorem aw_goto {id : Nat} (h : Q (.goto id) fr ah) : aw X (.goto id) Q fr ah := fun G w a hS => wp_goto ⟨G, fr, ah, hS, h⟩
theorem aw_ret (h : Q .ret fr ah) : aw X .ret Q fr ah := fun G w a hS => wp_ret ⟨G, fr, ah, hS, h⟩
theorem aw_cond {c : Operand} {x y : Code} {t : Bool} (hc : Ev fr.at c (.v (.bool t))) (h1 : t = true → aw X x Q fr ah) (h0 : t = false → aw X y Q fr ah) : aw X (.cond c x y) Q fr ah := fun G w a hS =>
  wp_cond_split (rep_bool (hc fr.at (fun _ _ => rfl) G w _ a hS.fr)) (fun h => h1 h G w a hS) (fun h => h0 h G w a hS)
theorem aw_condT {c : Operand} {x y : Code} {t : Bool} (hc : Ev fr.at c (.v (.bool t))) (ht : t = true) (h : aw X x Q fr ah) : aw X (.cond c x y) Q fr ah := aw_cond hc (fun _ => h) (fun h => by rw [ht] at h; cases h)
theorem aw_condF {c : Operand} {x y : Code} {t : Bool} (hc : Ev fr.at c (.v (.bool t))) (ht : t = false) (h : aw X y Q fr ah) : aw X (.cond c x y) Q fr ah := aw_cond hc (fun h => by rw [ht] at h; cases h) (fun _ => h)
theorem aw_block {id : Nat} {c : Code} (h : aw X c (blockQ id Q) fr ah) : aw X (.block id c) Q fr ah := fun G w a hS =>
  wp_block (wp_mono (h G w a hS) fun e a w q => by
    cases e with
    | normal => exact q
    | exit i =>
      by_cases hi : i = id
      · subst hi
        have q' : Kont X (blockQ i Q (.exit i)) a w := q
        have e : blockQ i Q (.exit i) = Q .normal := by show (bif Nat.beq i i then _ else _) = _; rw [Nat.beq_refl]; rfl
        rw [e] at q'
        show (if i = i then _ else _)
        rw [if_pos rfl]; exact q'
      · have q' : Kont X (blockQ id Q (.exit i)) a w := q
        have hb : Nat.beq i id = false := by
          cases h' : Nat.beq i id with
          | false => rfl
          | true => exact absurd (Nat.eq_of_beq_eq_true h') hi
        have e : blockQ id Q (.exit i) = Q (.exit i) := by show (bif Nat.beq i id then _ else _) = _; rw [hb]; rfl
        rw [e] at q'
        show (if i = id then _ else _)
        rw [if_neg hi]; exact q'
    | goto l => exact q
    | ret => exact q
    | panic c => exact q
    | outgrown => exact q)
/-- A state that says less. -/
def Weak (X : Cx) (fr : Fm) (ah : AH) (fr' : Fm) (ah' : AH) : Prop := ∀ G w a, St X G w a fr ah → ∃ G', St X G' w a fr' ah'
theorem aw_weak {c : Code} {fr' : Fm} {ah' : AH} (h : Weak X fr ah fr' ah') (k : aw X c Q fr' ah') : aw X c Q fr ah := fun G w a hS => by
  obtain ⟨G', h'⟩ := h G w a hS
  exact k G' w a h'
theorem Weak.refl : Weak X fr ah fr ah := fun G _ _ h => ⟨G, h⟩
theorem Weak.trans {f1 f2 f3 : Fm} {a1 a2 a3 : AH} (h : Weak X f1 a1 f2 a2) (k : Weak X f2 a2 f3 a3) : Weak X f1 a1 f3 a3 := fun G w a hS => by
  obtain ⟨G', h'⟩ := h G w a hS
  exact k G' w a h'
/-- A loop: its states at the head are st x. -/
theorem aw_loop {α : Type} {c : Code} (st : α → Fm × AH) (μ : α → Nat) (x0 : α) (h0 : Weak X fr ah (st x0).1 (st x0).2)
    (round : ∀ x (K : Fm → AH → Prop), (∀ fr ah y, μ y < μ x → Weak X fr ah (st y).1 (st y).2 → K fr ah) → aw X c (thenQ K Q) (st x).1 (st x).2) : aw X (.loop c) Q fr ah := by
  intro G w a hS b k cs
  have key : ∀ (n : Nat) (x : α), μ x = n → ∀ G w a, St X G w a (st x).1 (st x).2 → ∃ e a' w', Rel X Q e a' w' ∧ Arrives X.P (lone (b.at a (.code c :: .inLoop c :: k)) cs w) b k cs e a' w' := by
    intro n
    induction n using Nat.strongRecOn with
    | ind n ih =>
      intro x hx G w a hS
      obtain ⟨e, a₁, w₁, hq, harr⟩ := round x (fun fr ah => ∃ y, μ y < μ x ∧ Weak X fr ah (st y).1 (st y).2) (fun fr ah y h1 h2 => ⟨y, h1, h2⟩) G w a hS b (.inLoop c :: k) cs
      cases e with
      | normal =>
        obtain ⟨G1, fr1, ah1, hS1, y, hy, hw⟩ := hq
        obtain ⟨G2, hS2⟩ := hw G1 w₁ a₁ hS1
        obtain ⟨e₂, a₂, w₂, hq₂, harr₂⟩ := ih (μ y) (hx ▸ hy) y rfl G2 w₁ a₁ hS2
        exact ⟨e₂, a₂, w₂, hq₂, .of_steps (Steps.trans harr (.one step_inLoop)) harr₂⟩
      | exit id => exact ⟨Exit.exit id, a₁, w₁, hq, .pass (x := .inLoop c) rfl (fun _ _ => .inl (by simp)) harr⟩
      | goto l => exact ⟨Exit.goto l, a₁, w₁, hq, .pass (x := .inLoop c) rfl (fun _ _ => .inl (by simp)) harr⟩
      | ret => exact ⟨Exit.ret, a₁, w₁, hq, .pass (x := .inLoop c) rfl (fun _ _ => .inl (by simp)) harr⟩
      | panic ch => exact ⟨Exit.panic ch, a₁, w₁, hq, .pass (x := .inLoop c) rfl (fun _ _ => .inl (by simp)) harr⟩
      | outgrown => exact hq.elim
  obtain ⟨G', hS'⟩ := h0 G w a hS
  obtain ⟨e, a', w', hq, harr⟩ := key _ x0 rfl G' w a hS'
  exact ⟨e, a', w', hq, .of_steps (.one step_loop) harr⟩
/-- What an operation does, its guard thought of. -/
def Step (X : Cx) (ops : Array Oper) (o : Oper) (f : Nat → D) (m : Mem) (d : D) (upd : AH) (T : List Nat) : Prop :=
  ∀ (f' : Nat → D) (m' : Mem), (∀ t ∈ o.looksAt ops, f' t = f t) → (∀ id ∈ T, m' id = m id) → (∀ p ∈ upd, p.1 ∉ T → m' p.1 = none) →
    ∀ G w a, Ok X G w m' → FrOk G w m' f' a → ∀ (K : Act → World → Prop) (Q : Exit → Act → World → Prop),
      (∀ G' w' u, Ok X G' w' (over upd m') → Ext G w m' G' w' (over upd m') → RepD G' w' (over upd m') d u → K (a.put o.dst u) w') →
      if Region.wanted o (yielded ops a.tmps) = true then Oper.wp X.P o a w K Q else K (a.put o.dst undef) w
theorem looks_op {ops : Array Oper} {o : Oper} {t : Nat} (h : .tmp t ∈ o.op.operands) : t ∈ o.looksAt ops := by
  unfold Oper.looksAt
  exact List.mem_append_left _ (List.mem_filterMap.2 ⟨.tmp t, by simpa using h, rfl⟩)
section
variable {ops : Array Oper} {o : Oper} {f : Nat → D} {m : Mem} {d : D} {upd : AH} {T : List Nat}
theorem step_u (hg : o.guard = none) (h : StepU X o f m d upd T) : Step X ops o f m d upd T := fun f' m' hf hT hn G w a hO hF K Q hK => by
  rw [if_pos (by simp [Region.wanted, hg])]
  exact h f' m' (fun t ht => hf t (looks_op ht)) hT hn G w a hO hF K Q hK
theorem guard_at {j t : Nat} {b B : Bool} {f' : Nat → D} {G : Gh} {w : World} {m' : Mem} {a : Act} (hg : o.guard = some (j, b)) (hd : (ops[j]?).bind (·.dst) = some t) (ht : Ev f (.tmp t) (.v (.bool B))) (hf : ∀ t ∈ o.looksAt ops, f' t = f t) (hF : FrOk G w m' f' a) :
    Region.wanted o (yielded ops a.tmps) = (B == b) := by
  have h1 := rep_bool (ht f' (fun t' ht' => by
    injection ht' with ht'
    subst ht'
    exact hf _ (by unfold Oper.looksAt; rw [hg]; simp [hd])) G w m' a hF)
  have h2 : a.tmps[t]? = some (.bool B) := by
    have h3 : a.tmps.getD t undef = .bool B := h1
    rw [Array.getD_eq_getD_getElem?] at h3
    cases h4 : a.tmps[t]? with
    | none => rw [h4] at h3; simp [undef] at h3
    | some v => rw [h4] at h3; simp at h3; rw [h3]
  simp [Region.wanted, hg, yielded, hd, h2]
/-- A guarded operation that is wanted; that is not. -/
theorem step_yes {j t : Nat} {b : Bool} (hg : o.guard = some (j, b)) (hd : (ops[j]?).bind (·.dst) = some t) (ht : Ev f (.tmp t) (.v (.bool b))) (h : StepU X o f m d upd T) : Step X ops o f m d upd T := fun f' m' hf hT hn G w a hO hF K Q hK => by
  rw [if_pos (by rw [guard_at hg hd ht hf hF]; simp)]
  exact h f' m' (fun t ht => hf t (looks_op ht)) hT hn G w a hO hF K Q hK
theorem step_no {j t : Nat} {b B : Bool} (hg : o.guard = some (j, b)) (hd : (ops[j]?).bind (·.dst) = some t) (ht : Ev f (.tmp t) (.v (.bool B))) (hB : (B == b) = false) : Step X ops o f m .any [] [] := fun f' m' hf hT hn G w a hO hF K Q hK => by
  rw [if_neg (by rw [guard_at hg hd ht hf hF, hB]; simp)]
  exact hK G w undef hO Ext.refl (.any _)
/-- A guarded operation whose guard isn't known. -/
theorem step_if {j t : Nat} {b B : Bool} (hg : o.guard = some (j, b)) (hd : (ops[j]?).bind (·.dst) = some t) (ht : Ev f (.tmp t) (.v (.bool B))) (h : (B == b) = true → StepU X o f m d [] T) : Step X ops o f m (.cond (B == b) d) [] T := fun f' m' hf hT hn G w a hO hF K Q hK => by
  cases hB : (B == b) with
  | true =>
    rw [if_pos (by rw [guard_at hg hd ht hf hF, hB])]
    rw [hB] at hK
    exact h hB f' m' (fun t ht => hf t (looks_op ht)) hT (fun p hp => by simp at hp) G w a hO hF K Q (fun G' w' u h1 h2 h3 => hK G' w' u h1 h2 (.cond _ _ _ (fun _ => h3) (fun h => by cases h)))
  | false =>
    rw [if_neg (by rw [guard_at hg hd ht hf hF, hB]; simp)]
    rw [hB] at hK
    exact hK G w undef hO Ext.refl (.cond _ _ _ (fun h => by cases h) (fun _ => rfl))
theorem guard_if {j t : Nat} {b B C : Bool} {f' : Nat → D} {G : Gh} {w : World} {m' : Mem} {a : Act} (hg : o.guard = some (j, b)) (hd : (ops[j]?).bind (·.dst) = some t) (ht : Ev f (.tmp t) (.cond C (.v (.bool B)))) (hf : ∀ t ∈ o.looksAt ops, f' t = f t) (hF : FrOk G w m' f' a) :
    Region.wanted o (yielded ops a.tmps) = (C && (B == b)) := by
  have h1 := ht f' (fun t' ht' => by
    injection ht' with ht'
    subst ht'
    exact hf _ (by unfold Oper.looksAt; rw [hg]; simp [hd])) G w m' a hF
  generalize hu : a.eval (.tmp t) = u at h1
  cases h1 with
  | cond _ _ _ h h0 =>
    have h3 : a.tmps.getD t undef = u := hu
    rw [Array.getD_eq_getD_getElem?] at h3
    cases C with
    | true =>
      obtain rfl := rep_bool (h rfl)
      cases h4 : a.tmps[t]? with
      | none => rw [h4] at h3; simp [undef] at h3
      | some v => rw [h4] at h3; simp at h3; subst h3; simp [Region.wanted, hg, yielded, hd, h4]
    | false =>
      obtain rfl := h0 rfl
      cases h4 : a.tmps[t]? with
      | none => simp [Region.wanted, hg, yielded, hd, h4]
      | some v => rw [h4] at h3; simp at h3; subst h3; simp [Region.wanted, hg, yielded, hd, h4, undef]
/-- A guarded operation whose guard is itself guarded. -/
theorem step_if2 {j t : Nat} {b B C : Bool} (hg : o.guard = some (j, b)) (hd : (ops[j]?).bind (·.dst) = some t) (ht : Ev f (.tmp t) (.cond C (.v (.bool B)))) (h : (C && (B == b)) = true → StepU X o f m d [] T) : Step X ops o f m (.cond (C && (B == b)) d) [] T := fun f' m' hf hT hn G w a hO hF K Q hK => by
  cases hB : (C && (B == b)) with
  | true =>
    rw [if_pos (by rw [guard_if hg hd ht hf hF, hB])]
    rw [hB] at hK
    exact h hB f' m' (fun t ht => hf t (looks_op ht)) hT (fun p hp => by simp at hp) G w a hO hF K Q (fun G' w' u h1 h2 h3 => hK G' w' u h1 h2 (.cond _ _ _ (fun _ => h3) (fun h => by cases h)))
  | false =>
    rw [if_neg (by rw [guard_if hg hd ht hf hF, hB]; simp)]
    rw [hB] at hK
    exact hK G w undef hO Ext.refl (.cond _ _ _ (fun h => by cases h) (fun _ => rfl))
end
def pushF (fr : Fm) (dst : Option Tmp) (d : D) : Fm := match dst with | some t => (t, d) :: fr | none => fr
theorem pushF_at (fr : Fm) (dst : Option Tmp) (d : D) : (pushF fr dst d).at = fput fr.at dst d := by
  funext i
  cases dst with
  | none => rfl
  | some t =>
    unfold pushF fput Fm.at
    by_cases h : i = t
    · subst h; simp [look]
    · simp only [h, if_false]; rw [look_cons_ne _ _ (Ne.symm h)]
def freshB (upd : AH) (T : List Nat) (ah : AH) : Bool := upd.all fun p => T.contains p.1 || (look ah p.1).isNone
def dstB (nt : Nat) : Option Tmp → Bool
  | some t => Nat.blt t nt
  | none => true
/-- Operations in the text's order. -/
def awl (X : Cx) (ops : Array Oper) (K : Fm → AH → Prop) (Q : AX → Fm → AH → Prop) (os : List Oper) (fr : Fm) (ah : AH) : Prop :=
  ∀ G w a, St X G w a fr ah → ∀ R : Exit → Act → World → Prop, (∀ a w, Kont X K a w → R .normal a w) → (∀ c a w, Rel X Q (.panic c) a w → R (.panic c) a w) → wpList X.P ops R os a w
theorem awl_nil {ops : Array Oper} {K : Fm → AH → Prop} (h : K fr ah) : awl X ops K Q [] fr ah := fun G w a hS R hR _ => wpList_nil (hR a w ⟨G, fr, ah, hS, h⟩)
theorem awl_step {ops : Array Oper} {K : Fm → AH → Prop} {o : Oper} {os : List Oper} {d : D} {upd : AH} {T : List Nat} (h : Step X ops o fr.at (look ah) d upd T) (hd : dstB X.nt o.dst = true) (hn : freshB upd T ah = true)
    (k : awl X ops K Q os (pushF fr o.dst d) (upd ++ ah)) : awl X ops K Q (o :: os) fr ah := fun G w a hS R hR hP => by
  have hst := h fr.at (look ah) (fun _ _ => rfl) (fun _ _ => rfl) (fun p hp hT => by
    unfold freshB at hn
    rw [List.all_eq_true] at hn
    have := hn p hp
    simp only [Bool.or_eq_true, List.contains_iff_mem, Option.isNone_iff_eq_none] at this
    rcases this with h | h
    · exact absurd h hT
    · exact h) G w a hS.ok hS.fr (fun a' w' => wpList X.P ops R os a' w') R (fun G' w' u h1 h2 h3 => by
      refine k G' w' _ ⟨by rw [over_look] at h1; exact h1, ?_, ?_, ?_⟩ R hR hP
      · rw [pushF_at, ← over_look]
        refine (hS.fr.ext h2).put h3 fun t ht => ?_
        rw [hS.nt]
        rw [ht] at hd
        simpa [dstB] using hd
      · have : ∀ (dst : Option Tmp), (a.put dst u).tmps.size = a.tmps.size := fun dst => by cases dst <;> simp [Act.put]
        rw [this]; exact hS.nt
      · have : ∀ (dst : Option Tmp), (a.put dst u).defers = a.defers := fun dst => by cases dst <;> rfl
        rw [this]; exact hS.df)
  unfold wpList
  by_cases hw : Region.wanted o (yielded ops a.tmps) = true
  · rw [if_pos hw] at hst ⊢; exact .inl hst
  · rw [if_neg hw] at hst ⊢; exact hst
theorem aw_region {id : Nat} {l : List Oper} {rest : Code} (h : ∀ K : Fm → AH → Prop, (∀ fr ah, aw X rest Q fr ah → K fr ah) → awl X l.toArray K Q l fr ah) : aw X (.seq (.region id l.toArray false) rest) Q fr ah := fun G w a hS =>
  wp_seq (wp_region_lit (h (fun fr ah => aw X rest Q fr ah) (fun _ _ h => h) G w a hS _ (fun a w hk => by
    obtain ⟨G, fr, ah, h1, h2⟩ := hk
    exact h2 G w a h1) (fun _ _ _ h => h)))
theorem aw_region_last {id : Nat} {l : List Oper} (h : awl X l.toArray (Q .normal) Q l fr ah) : aw X (.region id l.toArray false) Q fr ah := fun G w a hS =>
  wp_region_lit (h G w a hS _ (fun _ _ h => h) (fun _ _ _ h => h))
end
end Go.Proofs.Ytlfkgbcclinnbaa
