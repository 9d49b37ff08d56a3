/- Abstract states: a block that lies beside the state and is kept for a while (an iterator); a range over a text. No program, no condition. -/
import Derived.Test.YtnjbfiejgiaibaaGreatDoorBeToSkA
import Derived.Test.YtnjbfiejgiaibaaGreatDoorArToBa
import Derived.Laws.RangeString
namespace Go.Proofs.YtnjbfiejgiaibaaGreatDoor
set_option linter.all false
open Go Go.RowKit
section
variable {X : Cx} {G G2 : Gh} {w w2 : World} {a a2 : Act} {fr fr2 : Fm} {ah ah2 : AH} {gi : Nat}
/-- A block that no one speaks of. -/
structure Aside (X : Cx) (G : Gh) (w : World) (ah : AH) (gi : Nat) : Prop where
  lt : gi < w.heap.size
  s : ¬ G.S gi
  μ : ∀ i, look ah i ≠ none → G.μ i ≠ some gi
  k : ¬ X.K gi
/-- The context in which it is kept. -/
def Cx.with (X : Cx) (G : Gh) (w : World) (gi : Nat) (ds : List Deferred) : Cx := ⟨X.P, X.nt, w, fun g => X.K g ∨ g = gi ∨ G.S g, G.S, X.np, X.pin, ds⟩
theorem St.enter (hS : St X G w a fr ah) (h : Aside X G w ah gi) : St (X.with G w gi a.defers) G w a fr ah := by
  have hXK : ∀ g, X.K g → g < w.heap.size := fun g hg => Nat.lt_of_lt_of_le (hS.ok.keep g hg).1 hS.ok.size
  refine ⟨⟨hS.ok.ob, hS.ok.inj, fun i g hi hg => ⟨(hS.ok.apart i g hi hg).1, fun hk => ?_⟩, hS.ok.low, fun g hg => ⟨?_, rfl⟩, rfl, rfl, rfl, Nat.le_refl _, fun g hg => hg, fun g hg _ => hg, hS.ok.pin, hS.ok.shpw.mono fun g hg => .inl hg⟩, hS.fr, hS.nt, DfOk.nil⟩
  · rcases hk with hk | rfl | hk
    · exact (hS.ok.apart i g hi hg).2 hk
    · exact h.μ i hi hg
    · exact (hS.ok.apart i g hi hg).1 hk
  · show g < w.heap.size
    rcases hg with hg | rfl | hg
    · exact hXK g hg
    · exact h.lt
    · exact hS.ok.low g hg
theorem St.leave (hS : St X G w a fr ah) (h : Aside X G w ah gi) (h2 : St (X.with G w gi a.defers) G2 w2 a2 fr2 ah2) : St X G2 w2 a2 fr2 ah2 ∧ Aside X G2 w2 ah2 gi ∧ w2.heap[gi]? = w.heap[gi]? := by
  have hk2 : ∀ g, X.K g → w2.heap[g]? = w.heap[g]? := fun g hg => (h2.ok.keep g (.inl hg)).2
  have hs2 : ∀ g, G.S g → w2.heap[g]? = w.heap[g]? := fun g hg => (h2.ok.keep g (.inr (.inr hg))).2
  have hgi : w2.heap[gi]? = w.heap[gi]? := (h2.ok.keep gi (.inr (.inl rfl))).2
  have hsz : w.heap.size ≤ w2.heap.size := h2.ok.size
  refine ⟨⟨⟨h2.ok.ob, h2.ok.inj, fun i g hi hg => ⟨(h2.ok.apart i g hi hg).1, fun hk => (h2.ok.apart i g hi hg).2 (.inl hk)⟩, h2.ok.low, fun g hg => ⟨(hS.ok.keep g hg).1, (hk2 g hg).trans (hS.ok.keep g hg).2⟩, ?_, ?_, ?_, Nat.le_trans hS.ok.size hsz, fun g hg => h2.ok.s0 g (hS.ok.s0 g hg), fun g hg hk => hS.ok.sk g (h2.ok.sk g hg (.inl hk)) hk, h2.ok.pin, hS.ok.shp⟩, h2.fr, h2.nt, ?_⟩, ⟨Nat.lt_of_lt_of_le h.lt hsz, fun hs => h.s (h2.ok.sk gi hs (.inr (.inl rfl))), fun i hi hg => (h2.ok.apart i gi hi hg).2 (.inr (.inl rfl)), h.k⟩, hgi⟩
  · exact (show w2.os = w.os from h2.ok.os).trans hS.ok.os
  · exact (show w2.tape = w.tape from h2.ok.tape).trans hS.ok.tape
  · exact (show w2.output = w.output from h2.ok.output).trans hS.ok.output
  · obtain ⟨Ds2, d1, d2, d3⟩ := h2.df
    obtain ⟨Ds, e1, e2, e3⟩ := hS.df
    have d1 : a2.defers = Ds2.map mark ++ a.defers := d1
    refine ⟨Ds2 ++ Ds, by rw [d1, e1, List.map_append, List.append_assoc], ?_, fun D hD => ?_⟩
    · refine List.nodup_append.2 ⟨d2, e2, fun x hx y hy he => ?_⟩
      subst he
      have h1 : w.heap.size ≤ x := (d3 x hx).1
      have h2 := (e3 x hy).2.2.1
      rw [Array.getElem?_eq_none h1] at h2; cases h2
    · rcases List.mem_append.1 hD with h | h
      · obtain ⟨a1, a2, a3, a4⟩ := d3 D h
        have a1 : w.heap.size ≤ D := a1
        exact ⟨Nat.le_trans hS.ok.size a1, a2, a3, a4⟩
      · obtain ⟨a1, a2, a3, a4⟩ := e3 D h
        exact ⟨a1, h2.ok.s0 D a2, (hs2 D a2).trans a3, a4⟩
/-- What a walk in that context comes to, seen from outside. -/
theorem rel_leave {Q : AX → Fm → AH → Prop} (hS : St X G w a fr ah) (h : Aside X G w ah gi) {e : Exit} (he : e ≠ .normal) (hq : Rel (X.with G w gi a.defers) Q e a2 w2) : Rel X Q e a2 w2 := by
  cases e with
  | normal => exact absurd rfl he
  | exit id => obtain ⟨G3, f3, h3, hs, q⟩ := hq; exact ⟨G3, f3, h3, (hS.leave h hs).1, q⟩
  | goto l => obtain ⟨G3, f3, h3, hs, q⟩ := hq; exact ⟨G3, f3, h3, (hS.leave h hs).1, q⟩
  | ret => obtain ⟨G3, f3, h3, hs, q⟩ := hq; exact ⟨G3, f3, h3, (hS.leave h hs).1, q⟩
  | panic ch => obtain ⟨G3, f3, h3, d, v, hs, q⟩ := hq; exact ⟨G3, f3, h3, d, v, (hS.leave h hs).1, q⟩
  | outgrown => exact hq
/-- A loop, by what is known at its head. -/
theorem wp_loopN {P : Program} {c : Code} {R : Exit → Act → World → Prop} (I : Nat → Act → World → Prop) (round : ∀ n a w, I n a w → c.wp P (Exit.then (fun a w => ∃ m, m < n ∧ I m a w) R) a w) (ho : ∀ a w, ¬ R .outgrown a w) : ∀ n a w, I n a w → (Code.loop c).wp P R a w := by
  intro n a w hI b k cs
  have key : ∀ n a w, I n a w → ∃ e a' w', R e a' w' ∧ Arrives P (lone (b.at a (.code c :: .inLoop c :: k)) cs w) b k cs e a' w' := by
    intro n
    induction n using Nat.strongRecOn with
    | ind n ih =>
      intro a w hI
      obtain ⟨e, a₁, w₁, hq, harr⟩ := round n a w hI b (.inLoop c :: k) cs
      cases e with
      | normal =>
        obtain ⟨m, hm, hI2⟩ := hq
        obtain ⟨e₂, a₂, w₂, hq₂, harr₂⟩ := ih m hm _ _ hI2
        exact ⟨e₂, a₂, w₂, hq₂, .of_steps (Steps.trans harr (.one step_inLoop)) harr₂⟩
      | exit id => exact ⟨Exit.exit id, a₁, w₁, hq, .pass (x := .inLoop c) rfl (fun _ _ => .inl (by simp)) harr⟩
      | goto l => exact ⟨Exit.goto l, a₁, w₁, hq, .pass (x := .inLoop c) rfl (fun _ _ => .inl (by simp)) harr⟩
      | ret => exact ⟨Exit.ret, a₁, w₁, hq, .pass (x := .inLoop c) rfl (fun _ _ => .inl (by simp)) harr⟩
      | panic ch => exact ⟨Exit.panic ch, a₁, w₁, hq, .pass (x := .inLoop c) rfl (fun _ _ => .inl (by simp)) harr⟩
      | outgrown => exact absurd hq (ho _ _)
  obtain ⟨e, a', w', hq, harr⟩ := key n a w hI
  exact ⟨e, a', w', hq, .of_steps (.one step_loop) harr⟩
theorem St.setAside (hS : St X G w a fr ah) (h : Aside X G w ah gi) {ob : Obj} (hl : w.heap[gi]? = some ob) (hn : ¬ Obj.held ob) (hd : ob ≠ .deferred (some [])) (o : Obj) : St X G (w.putObj gi o) a fr ah ∧ Aside X G (w.putObj gi o) ah gi ∧ (w.putObj gi o).heap[gi]? = some o := by
  have hkp := put_held hl hn o
  refine ⟨⟨hS.ok.move hkp (by simp) (fun g hg => ⟨(hS.ok.keep g hg).1, ?_⟩) (fun i g hi hg => (hS.ok.apart i g hi hg).2) hS.ok.os hS.ok.tape hS.ok.output (by rw [World.putObj_size]; exact hS.ok.size) hS.ok.s0 hS.ok.sk hS.ok.pin hS.ok.shp, fun t => (hS.fr t).cells (kept_held hkp), hS.nt, ?_⟩, ⟨by rw [World.putObj_size]; exact h.lt, h.s, h.μ, h.k⟩, World.putObj_heap_same h.lt⟩
  · rw [World.putObj_heap_other (show g ≠ gi from fun he => h.k (by rw [← he]; exact hg))]; exact (hS.ok.keep g hg).2
  · obtain ⟨Ds, e1, e2, e3⟩ := hS.df
    refine ⟨Ds, e1, e2, fun D hD => ?_⟩
    obtain ⟨a1, a2, a3, a4⟩ := e3 D hD
    exact ⟨a1, a2, (World.putObj_heap_other (show D ≠ gi from fun he => h.s (by rw [← he]; exact a2))).trans a3, a4⟩
theorem St.newAside (hS : St X G w a fr ah) (o : Obj) : St X G (w.alloc o) a fr ah ∧ Aside X G (w.alloc o) ah w.heap.size ∧ (w.alloc o).heap[w.heap.size]? = some o := by
  have hold : ∀ g, g < w.heap.size → (w.alloc o).heap[g]? = w.heap[g]? := fun g hg => Below.heap_alloc w o g hg
  have hkp : ∀ (g : Nat) (ob : Obj), w.heap[g]? = some ob → Obj.held ob → (w.alloc o).heap[g]? = some ob := fun g ob hg _ => (hold g (Array.getElem?_eq_some_iff.1 hg).1).trans hg
  have hXK : ∀ g, X.K g → g < w.heap.size := fun g hg => Nat.lt_of_lt_of_le (hS.ok.keep g hg).1 hS.ok.size
  refine ⟨⟨hS.ok.move hkp (by rw [World.size_alloc]; omega) (fun g hg => ⟨(hS.ok.keep g hg).1, (hold g (hXK g hg)).trans (hS.ok.keep g hg).2⟩) (fun i g hi hg => (hS.ok.apart i g hi hg).2) hS.ok.os hS.ok.tape hS.ok.output (by rw [World.size_alloc]; have := hS.ok.size; omega) hS.ok.s0 hS.ok.sk hS.ok.pin hS.ok.shp, fun t => (hS.fr t).cells (kept_held hkp), hS.nt, ?_⟩, ⟨by rw [World.size_alloc]; omega, fun hs => by have := hS.ok.low _ hs; omega, fun i hi hg => ?_, fun hk => by have := hXK _ hk; omega⟩, heap_alloc_new w o⟩
  · obtain ⟨Ds, e1, e2, e3⟩ := hS.df
    refine ⟨Ds, e1, e2, fun D hD => ?_⟩
    obtain ⟨a1, a2, a3, a4⟩ := e3 D hD
    exact ⟨a1, a2, (hold D (hS.ok.low D a2)).trans a3, a4⟩
  · cases ho : look ah i with
    | none => exact absurd ho hi
    | some o' => have := (hS.ok.ob i o' ho).lt hg; omega
/-- A block's body, outside of it. -/
theorem wp_blockQ {Q : AX → Fm → AH → Prop} {id : Nat} {c : Code} (h : c.wp X.P (Rel X (blockQ id Q)) a w) : (Code.block id c).wp X.P (Rel X Q) a w :=
  wp_block (wp_mono h fun e a w q => by
    cases e with
    | normal => exact q
    | exit i =>
      by_cases hi : i = id
      · subst hi
        have q' : Kont X (blockQ i Q (.exit i)) a w := q
        have e : blockQ i Q (.exit i) = Q .normal := by show (bif Nat.beq i i then _ else _) = _; rw [Nat.beq_refl]; rfl
        rw [e] at q'
        show (if i = i then _ else _)
        rw [if_pos rfl]; exact q'
      · have q' : Kont X (blockQ id Q (.exit i)) a w := q
        have hb : Nat.beq i id = false := by
          cases h' : Nat.beq i id with
          | false => rfl
          | true => exact absurd (Nat.eq_of_beq_eq_true h') hi
        have e : blockQ id Q (.exit i) = Q (.exit i) := by show (bif Nat.beq i id then _ else _) = _; rw [hb]; rfl
        rw [e] at q'
        show (if i = id then _ else _)
        rw [if_neg hi]; exact q'
    | goto l => exact q
    | ret => exact q
    | panic c => exact q
    | outgrown => exact q)
theorem run_next_at {P : Program} {s : List UInt8} {i : Nat} (ty : TypeId) (hl : w.heap[gi]? = some (.stringIter (S s) i)) (hi : i < s.length) (ha : (s[i]).toNat < 128) :
    (Instr.next (.pointer (some ⟨gi, 0, none⟩)) true ty).run P w = .ok (.tuple #[.bool true, .int .i64 (i : Int), .int .i32 ((s[i]).toNat : Int)]) (w.putObj gi (.stringIter (S s) (i + 1))) := by
  have h1 : i < (S s).size := by rw [S_size]; exact hi
  have e : (S s)[i]'h1 = s[i] := by simp [S]; rfl
  have hd := decode_ascii (S s) i h1 (by rw [e]; exact ha)
  rw [e] at hd
  simp only [Instr.next, getObj, setObj, Sem.run_bind, Sem.run, hl, Result.andThen, h1, if_true, hd]
  rfl
theorem run_next_over {P : Program} {s : List UInt8} {i : Nat} (ty : TypeId) (hl : w.heap[gi]? = some (.stringIter (S s) i)) (hi : ¬ i < s.length) :
    (Instr.next (.pointer (some ⟨gi, 0, none⟩)) true ty).run P w = .ok (.tuple #[.bool false]) w := by
  have h1 : ¬ i < (S s).size := by rw [S_size]; exact hi
  simp only [Instr.next, getObj, Sem.run_bind, Sem.run, hl, Result.andThen, h1, if_false]
  rfl
theorem eval_put {a : Act} {q : Nat} {v : Value} (h : q < a.tmps.size) : (a.put (some q) v).eval (.tmp q) = v := by simp [Act.put, Act.eval, h]
/-- for .. := range s, s a text of ASCII alone; what is known at the head is the same in each round. -/
theorem aw_rangeStr {Q : AX → Fm → AH → Prop} {s : List UInt8} {tx ti tn tk b r1 r2 : Nat} {y : Operand} {t ty1 ty2 ty3 ty4 : TypeId} {p1 p2 p3 p4 : String} {f1 f2 f3 f4 : Array Edge} {rest : Code} (inv : Fm) (iah : AH) (hs : ∀ (i : Nat) (h : i < s.length), (s[i]).toNat < 128) (ht : X.P.underlying t = some .string) (hy : Ev fr.at y (.v (.str s)))
    (hd : tx < X.nt ∧ ti < X.nt ∧ tn < X.nt ∧ tk < X.nt)
    (h0 : ∀ (Y : Cx) u, Y.P = X.P → Y.nt = X.nt → Y.np = X.np → Weak Y (pushF (pushF fr (some tx) (.v (.str s))) (some ti) (.v (.lit u))) ah ((ti, .v (.lit u)) :: inv) iah)
    (round : ∀ (Y : Cx) (u : Value) (i : Nat) (hi : i < s.length) (K : Fm → AH → Prop), Y.P = X.P → Y.nt = X.nt → Y.np = X.np → (∀ fr' ah', Weak Y fr' ah' ((ti, .v (.lit u)) :: inv) iah → K fr' ah') →
      aw Y rest (thenQ K (blockQ b Q)) (pushF (pushF ((ti, .v (.lit u)) :: inv) (some tn) (.tup [.v (.bool true), .v (.int .i64 (i : Int)), .v (.int .i32 ((s[i]).toNat : Int))])) (some tk) (.v (.bool true))) iah)
    (hend : ∀ u, Q .normal (pushF (pushF ((ti, .v (.lit u)) :: inv) (some tn) (.tup [.v (.bool false)])) (some tk) (.v (.bool false))) iah) :
    aw X (.seq (.region r1 #[⟨some tx, .move y, ty1, p1, f1, none⟩, ⟨some ti, .range t (.tmp tx), ty2, p2, f2, none⟩] false) (.block b (.loop (.seq (.region r2 #[⟨some tn, .next (.tmp ti) true, ty3, p3, f3, none⟩, ⟨some tk, .extract (.tmp tn) 0, ty4, p4, f4, none⟩] false) (.seq (.cond (.tmp tk) .skip (.exit b)) rest))))) Q fr ah := fun G w a hS => by
  obtain ⟨d1, d2, d3, d4⟩ := hd
  have e1 : a.eval y = .string (S s) := rep_str (hy fr.at (fun _ _ => rfl) G w _ a hS.fr)
  refine wp_seq (wp_region_lit (l := [⟨some tx, .move y, ty1, p1, f1, none⟩, ⟨some ti, .range t (.tmp tx), ty2, p2, f2, none⟩]) ?_)
  refine wpList_step fun K1 hK1 => ?_
  rw [if_pos (by simp [Region.wanted])]
  unfold Oper.wp
  rw [show (execOp a.eval ⟨some tx, .move y, ty1, p1, f1, none⟩).run X.P w = .ok (.value (.string (S s))) w from by simp [execOp, e1]]
  refine hK1 _ _ ?_
  have hS1 : St X G w (a.put (some tx) (.string (S s))) (pushF fr (some tx) (.v (.str s))) ah := ⟨hS.ok, by rw [pushF_at]; exact hS.fr.put (mk_str _) (fun q hq => by injection hq with hq; subst hq; rw [hS.nt]; exact d1), by rw [← hS.nt]; simp [Act.put], hS.df⟩
  generalize a.put (some tx) (.string (S s)) = a1 at hS1
  have e2 : a1.eval (.tmp tx) = .string (S s) := by
    have h8 := hS1.fr tx
    rw [pushF_at, show fput fr.at (some tx) (.v (.str s)) tx = .v (.str s) from if_pos rfl] at h8
    exact rep_str h8
  refine wpList_step fun K2 hK2 => ?_
  rw [if_pos (by simp [Region.wanted])]
  unfold Oper.wp
  rw [show (execOp a1.eval ⟨some ti, .range t (.tmp tx), ty2, p2, f2, none⟩).run X.P w = .ok (.value (.pointer (some ⟨w.heap.size, 0, none⟩))) (w.alloc (.stringIter (S s) 0)) from by
    simp only [execOp, e2, Sem.run_bind, run_range_string w t (S s) ht, Result.andThen_ok, Sem.run_pure]; rfl]
  refine hK2 _ _ (wpList_nil ?_)
  obtain ⟨hS2, hA2, hI2⟩ := hS1.newAside (.stringIter (S s) 0)
  obtain ⟨gi, hgi⟩ : ∃ gi, w.heap.size = gi := ⟨_, rfl⟩
  rw [hgi] at hA2 hI2 ⊢
  have hS3 : St X G (w.alloc (.stringIter (S s) 0)) (a1.put (some ti) (.pointer (some ⟨gi, 0, none⟩))) (pushF (pushF fr (some tx) (.v (.str s))) (some ti) (.v (.lit (.pointer (some ⟨gi, 0, none⟩))))) ah :=
    ⟨hS2.ok, by rw [pushF_at]; exact hS2.fr.put (.v _ _ (.lit _ rfl)) (fun q hq => by injection hq with hq; subst hq; rw [hS2.nt]; exact d2), by rw [← hS2.nt]; simp [Act.put], hS2.df⟩
  have hE := hS3.enter hA2
  obtain ⟨G4, hS4⟩ := h0 (X.with G (w.alloc (.stringIter (S s) 0)) gi (a1.put (some ti) (.pointer (some ⟨gi, 0, none⟩))).defers) _ rfl rfl rfl G _ _ hE
  obtain ⟨hS5, hA5, hI5⟩ := hS3.leave hA2 hS4
  have hI5 := hI5.trans hI2
  refine wp_blockQ (wp_loopN (fun n a w => ∃ G i, n = s.length - i ∧ St X G w a ((ti, .v (.lit (.pointer (some ⟨gi, 0, none⟩)))) :: inv) iah ∧ Aside X G w iah gi ∧ w.heap[gi]? = some (.stringIter (S s) i)) (fun n a w hI => ?_) (fun a w h => h) _ _ _ ⟨G4, 0, rfl, hS5, hA5, hI5⟩)
  obtain ⟨G6, i, rfl, hS6, hA6, hI6⟩ := hI
  have e6 : a.eval (.tmp ti) = .pointer (some ⟨gi, 0, none⟩) := by
    have h8 := hS6.fr ti
    rw [Fm.at_eq (look_cons_self _ _ _)] at h8
    exact rep_lit h8
  refine wp_seq (wp_region_lit (l := [⟨some tn, .next (.tmp ti) true, ty3, p3, f3, none⟩, ⟨some tk, .extract (.tmp tn) 0, ty4, p4, f4, none⟩]) ?_)
  refine wpList_step fun K3 hK3 => ?_
  rw [if_pos (by simp [Region.wanted])]
  unfold Oper.wp
  by_cases hi : i < s.length
  · have hr := run_next_at (P := X.P) ty3 hI6 hi (hs i hi)
    rw [show (execOp a.eval ⟨some tn, .next (.tmp ti) true, ty3, p3, f3, none⟩).run X.P w = .ok (.value (.tuple #[.bool true, .int .i64 (i : Int), .int .i32 ((s[i]).toNat : Int)])) (w.putObj gi (.stringIter (S s) (i + 1))) from by
      simp only [execOp, e6, Sem.run_bind, hr, Result.andThen_ok, Sem.run_pure]]
    refine hK3 _ _ ?_
    obtain ⟨hS7, hA7, hI7⟩ := hS6.setAside hA6 hI6 (by rintro (⟨_, _, _, h⟩ | ⟨_, _, h⟩) <;> cases h) (by intro h; cases h) (.stringIter (S s) (i + 1))
    have hS8 : St X G6 (w.putObj gi (.stringIter (S s) (i + 1))) (a.put (some tn) (.tuple #[.bool true, .int .i64 (i : Int), .int .i32 ((s[i]).toNat : Int)])) (pushF ((ti, .v (.lit (.pointer (some ⟨gi, 0, none⟩)))) :: inv) (some tn) (.tup [.v (.bool true), .v (.int .i64 (i : Int)), .v (.int .i32 ((s[i]).toNat : Int))])) iah :=
      ⟨hS7.ok, by rw [pushF_at]; exact hS7.fr.put (.tup _ [_, _, _] rfl (RepDs.cons (mk_bool _) (.cons (mk_int _ _) (.cons (mk_int _ _) .nil))).2) (fun q hq => by injection hq with hq; subst hq; rw [hS7.nt]; exact d3), by rw [← hS7.nt]; simp [Act.put], hS7.df⟩
    generalize hae : a.put (some tn) (.tuple #[.bool true, .int .i64 (i : Int), .int .i32 ((s[i]).toNat : Int)]) = a8 at hS8
    have e8 : a8.eval (.tmp tn) = .tuple #[.bool true, .int .i64 (i : Int), .int .i32 ((s[i]).toNat : Int)] := by
      rw [← hae]; exact eval_put (by rw [hS6.nt]; exact d3)
    refine wpList_step fun K4 hK4 => ?_
    rw [if_pos (by simp [Region.wanted])]
    unfold Oper.wp
    rw [show (execOp a8.eval ⟨some tk, .extract (.tmp tn) 0, ty4, p4, f4, none⟩).run X.P (w.putObj gi (.stringIter (S s) (i + 1))) = .ok (.value (.bool true)) (w.putObj gi (.stringIter (S s) (i + 1))) from by
      simp [execOp, e8, Instr.extract]]
    refine hK4 _ _ (wpList_nil ?_)
    have hS9 : St X G6 (w.putObj gi (.stringIter (S s) (i + 1))) (a8.put (some tk) (.bool true)) (pushF (pushF ((ti, .v (.lit (.pointer (some ⟨gi, 0, none⟩)))) :: inv) (some tn) (.tup [.v (.bool true), .v (.int .i64 (i : Int)), .v (.int .i32 ((s[i]).toNat : Int))])) (some tk) (.v (.bool true))) iah :=
      ⟨hS8.ok, by rw [pushF_at]; exact hS8.fr.put (mk_bool _) (fun q hq => by injection hq with hq; subst hq; rw [hS8.nt]; exact d4), by rw [← hS8.nt]; simp [Act.put], hS8.df⟩
    have e9 : (a8.put (some tk) (.bool true)).eval (.tmp tk) = .bool true := eval_put (by rw [hS8.nt]; exact d4)
    refine wp_seq (wp_cond_split e9 (fun _ => wp_skip ?_) (fun h => by cases h))
    have hE9 := hS9.enter hA7
    refine wp_mono (round (X.with G6 (w.putObj gi (.stringIter (S s) (i + 1))) gi (a8.put (some tk) (.bool true)).defers) (.pointer (some ⟨gi, 0, none⟩)) i hi (fun fr' ah' => Weak (X.with G6 (w.putObj gi (.stringIter (S s) (i + 1))) gi (a8.put (some tk) (.bool true)).defers) fr' ah' ((ti, .v (.lit (.pointer (some ⟨gi, 0, none⟩)))) :: inv) iah) rfl rfl rfl (fun _ _ h => h) G6 _ _ hE9) fun e a2 w2 q => ?_
    cases e with
    | normal =>
      obtain ⟨G3, f3, h3, q1, q2⟩ := q
      obtain ⟨G5, q5⟩ := q2 _ _ _ q1
      obtain ⟨l1, l2, l3⟩ := hS9.leave hA7 q5
      exact ⟨s.length - (i + 1), by omega, G5, i + 1, rfl, l1, l2, l3.trans hI7⟩
    | exit id => exact rel_leave hS9 hA7 (by intro h; cases h) (show Rel _ (blockQ b Q) (.exit id) a2 w2 from q)
    | goto l => exact rel_leave hS9 hA7 (by intro h; cases h) (show Rel _ (blockQ b Q) (.goto l) a2 w2 from q)
    | ret => exact rel_leave hS9 hA7 (by intro h; cases h) (show Rel _ (blockQ b Q) .ret a2 w2 from q)
    | panic c => exact rel_leave hS9 hA7 (by intro h; cases h) (show Rel _ (blockQ b Q) (.panic c) a2 w2 from q)
    | outgrown => exact q
  · have hr := run_next_over (P := X.P) ty3 hI6 hi
    rw [show (execOp a.eval ⟨some tn, .next (.tmp ti) true, ty3, p3, f3, none⟩).run X.P w = .ok (.value (.tuple #[.bool false])) w from by
      simp only [execOp, e6, Sem.run_bind, hr, Result.andThen_ok, Sem.run_pure]]
    refine hK3 _ _ ?_
    have hS8 : St X G6 w (a.put (some tn) (.tuple #[.bool false])) (pushF ((ti, .v (.lit (.pointer (some ⟨gi, 0, none⟩)))) :: inv) (some tn) (.tup [.v (.bool false)])) iah :=
      ⟨hS6.ok, by rw [pushF_at]; exact hS6.fr.put (.tup _ [_] rfl (RepDs.cons (mk_bool _) .nil).2) (fun q hq => by injection hq with hq; subst hq; rw [hS6.nt]; exact d3), by rw [← hS6.nt]; simp [Act.put], hS6.df⟩
    generalize hae : a.put (some tn) (.tuple #[.bool false]) = a8 at hS8
    have e8 : a8.eval (.tmp tn) = .tuple #[.bool false] := by
      rw [← hae]; exact eval_put (by rw [hS6.nt]; exact d3)
    refine wpList_step fun K4 hK4 => ?_
    rw [if_pos (by simp [Region.wanted])]
    unfold Oper.wp
    rw [show (execOp a8.eval ⟨some tk, .extract (.tmp tn) 0, ty4, p4, f4, none⟩).run X.P w = .ok (.value (.bool false)) w from by
      simp [execOp, e8, Instr.extract]]
    refine hK4 _ _ (wpList_nil ?_)
    have hS9 : St X G6 w (a8.put (some tk) (.bool false)) (pushF (pushF ((ti, .v (.lit (.pointer (some ⟨gi, 0, none⟩)))) :: inv) (some tn) (.tup [.v (.bool false)])) (some tk) (.v (.bool false))) iah :=
      ⟨hS8.ok, by rw [pushF_at]; exact hS8.fr.put (mk_bool _) (fun q hq => by injection hq with hq; subst hq; rw [hS8.nt]; exact d4), by rw [← hS8.nt]; simp [Act.put], hS8.df⟩
    have e9 : (a8.put (some tk) (.bool false)).eval (.tmp tk) = .bool false := eval_put (by rw [hS8.nt]; exact d4)
    refine wp_seq (wp_cond_split e9 (fun h => by cases h) (fun _ => wp_exit ?_))
    show Kont X (blockQ b Q (.exit b)) _ _
    have e : blockQ b Q (.exit b) = Q .normal := by show (bif Nat.beq b b then _ else _) = _; rw [Nat.beq_refl]; rfl
    rw [e]
    exact ⟨G6, _, _, hS9, hend _⟩
end
end Go.Proofs.YtnjbfiejgiaibaaGreatDoor
