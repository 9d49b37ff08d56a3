/- Abstract states: a call of the library that writes a text into a buffer of one's own. No program, no condition. -/
import Derived.Test.YtnjbfiejgiaibaaGreatDoorBf
namespace Go.Proofs.YtnjbfiejgiaibaaGreatDoor
set_option linter.all false
open Go Go.RowKit
/-- What the library's contract says of a text that is written. -/
def BufW (P : Program) (f : FuncId) (e : TypeId) : Prop := ∀ (T : TypeId) (B b : Nat) (cs : List Value) (s : ByteArray) (w : World), LibA.IsBuffer T (fun _ => none) e B b 0 cs w → B ≤ w.heap.size → (∀ v ∈ cs, v.oneCell' = true) → cs.length + s.size ≤ 140737488355328 →
  Calls P f #[.pointer (some ⟨b, 0, none⟩), .string s] w fun x w' => x = .returned (.tuple #[.int .i64 s.size, .nilIface]) ∧ LibA.IsBuffer T (fun _ => none) e B b 0 (cs ++ Lib.byteCells s.data.toList) w' ∧ Below B w w' ∧ Lib.OthersKept e (some b) w w'
theorem look2 {b r i : Nat} {x y o : Ob} (h : look [(b, x), (r, y)] i = some o) : (i = b ∧ o = x) ∨ (i = r ∧ o = y) := by
  rcases List.mem_cons.1 (look_mem h) with h | h
  · injection h with h1 h2; exact .inl ⟨h1, h2⟩
  · rw [List.mem_singleton] at h; injection h with h1 h2; exact .inr ⟨h1, h2⟩
theorem look2_b (b r : Nat) (x y : Ob) : look [(b, x), (r, y)] b = some x := look_cons_self _ _ _
theorem look2_r {b r : Nat} (h : b ≠ r) (x y : Ob) : look [(b, x), (r, y)] r = some y := by rw [look_cons_ne _ _ h]; exact look_cons_self _ _ _
theorem cells_eq {cs : List Value} {l : List UInt8} (hl : cs.length = l.length) (h : ∀ i (h : i < l.length), cs[i]? = some (.int .u8 (l[i].toNat : Int))) : cs = Lib.byteCells l := by
  refine List.ext_getElem? fun i => ?_
  rcases Nat.lt_or_ge i l.length with hi | hi
  · rw [h i hi]; simp [Lib.byteCells, hi]
  · rw [List.getElem?_eq_none (by omega), List.getElem?_eq_none (by rw [Lib.byteCells_length]; omega)]
theorem awl_callW {Y X : Cx} {w0 : World} {ds : List Deferred} (hY : Still Y X w0 ds) {ops : Array Oper} {K : Fm → AH → Prop} {Q : AX → Fm → AH → Prop} {os : List Oper} {fr : Fm} {dst : Option Tmp} {ty : TypeId} {ps : String} {af : Array Edge} {f : FuncId} {x y : Operand} {tys : Array TypeId} {b r v : Nat} {e : TypeId} {l s : List UInt8} {lr : Int} (hW : BufW Y.P f e) (he : entersB Y.P f = true) (hl : l.length + s.length ≤ 140737488355328)
    (k : ∀ lr', awl Y ops K Q os (pushF fr dst .any) [(b, .box [.view r (v + 1) 0 (l ++ s).length, .v (.int .i64 0), .v (.int .i8 lr')]), (r, .row (v + 1) 1 e (bs (l ++ s)))])
    (hbr : b ≠ r := by decide) (hek : e < MK := by decide) (hx : Ev fr.at x (.ptr b 0) := by exact ev_tmp rfl) (hy : Ev fr.at y (.v (.str s)) := by first | exact ev_tmp rfl | exact ev_str rfl) (hfr : fr.free = true := by exact rfl) (hd : dstB Y.nt dst = true := by exact rfl) :
    awl Y ops K Q (⟨dst, .call { callee := .value (.func f), args := #[x, y], argTypes := tys }, ty, ps, af, none⟩ :: os) fr [(b, .box [.view r v 0 l.length, .v (.int .i64 0), .v (.int .i8 lr)]), (r, .row v 1 e (bs l))] := by
  intro G w a hS R hR hP
  have hO := hS.ok
  have hmb := look2_b b r (.box [.view r v 0 l.length, .v (.int .i64 0), .v (.int .i8 lr)]) (.row v 1 e (bs l))
  have hmr := look2_r hbr (.box [.view r v 0 l.length, .v (.int .i64 0), .v (.int .i8 lr)]) (.row v 1 e (bs l))
  have hsz0 : w0.heap.size ≤ w.heap.size := by have := hO.size; rw [hY.w0] at this; exact this
  have hnK : ∀ i g, look [(b, Ob.box [.view r v 0 l.length, .v (.int .i64 0), .v (.int .i8 lr)]), (r, .row v 1 e (bs l))] i ≠ none → G.μ i = some g → w0.heap.size ≤ g := fun i g hi hg => by
    have := (hO.apart i g hi hg).2
    rw [hY.K] at this
    exact Nat.le_of_not_lt this
  obtain ⟨gb, us, t, b1, b2, b3, b4⟩ := hO.ob b _ hmb
  have hrow : RowAt G w r 1 e (bs l) := hO.ob r _ hmr
  match us, b4.1 with
  | [u0, u1, u2], _ =>
    have hv := rep_view (b4.2 0 _ u0 rfl rfl) hmr
    obtain rfl := rep_int (b4.2 1 _ u1 rfl rfl)
    obtain rfl := rep_int (b4.2 2 _ u2 rfl rfl)
    obtain ⟨xs, hownM, hxs, hblk⟩ := own_of_view (ver := v) hrow hv.2 (by rw [bs_length]; exact Nat.le_refl _)
    have hown := hownM.own hek
    have hxl : xs = Lib.byteCells l := cells_eq (by have := hown.1; omega) fun i hi => by
      have h1 : elem? (bs l) i 0 = some (.int .u8 (l[i].toNat : Int)) := by simp [elem?, bs, hi]
      obtain ⟨u, h2, h3⟩ := hxs i 0 _ hi h1
      rw [Nat.mul_one, Nat.add_zero] at h2
      rw [h2]
      cases h3; rfl
    subst hxl
    have hgb : w0.heap.size ≤ gb := hnK b gb (by rw [hmb]; simp) b1
    have hI : LibA.IsBuffer t (fun _ => none) e w0.heap.size gb 0 (Lib.byteCells l) w := by
      refine ⟨hgb, u0, lr, LibA.three_whole b2, ?_, fun hc => ?_⟩
      · rw [Lib.byteCells_length]
        obtain ⟨o1, o2⟩ := hown
        refine ⟨o1, ?_⟩
        rcases o2 with o2 | ⟨g, cap, cur, p1, p2, p3⟩
        · exact .inl o2
        · exact .inr ⟨g, cap, cur, p1, hnK r g (by rw [hmr]; simp) (hblk g (by rw [p1]; rfl)), p3⟩
      · exact hbr (hO.inj b r gb (by rw [hmb]; simp) (by rw [hmr]; simp) b1 (hblk gb hc))
    have hA1 : a.eval x = .pointer (some ⟨gb, 0, none⟩) := by
      have h1 : RepD G w (look [(b, Ob.box [.view r v 0 l.length, .v (.int .i64 0), .v (.int .i8 lr)]), (r, .row v 1 e (bs l))]) (.ptr b 0) (a.eval x) := hx fr.at (fun _ _ => rfl) G w _ a hS.fr
      obtain ⟨q, cs, e1, e2, e3⟩ := rep_ptr h1
      rw [b1] at e2; injection e2 with e2
      rw [e1, e2]
    have hA2 : a.eval y = .string (S s) := rep_str (hy fr.at (fun _ _ => rfl) G w _ a hS.fr)
    refine wpList_step fun K' hK' => ?_
    rw [if_pos (by simp [Region.wanted])]
    unfold Oper.wp
    rw [run_call_func rfl he, Oper.upon_enter]
    have hargs : (#[x, y] : Array Operand).map a.eval = #[.pointer (some ⟨gb, 0, none⟩), .string (S s)] := by simp [hA1, hA2]
    rw [hargs]
    refine (hW t w0.heap.size gb (Lib.byteCells l) (S s) w hI hsz0 (fun v hv => by obtain ⟨c, _, rfl⟩ := List.mem_map.1 hv; rfl) (by rw [Lib.byteCells_length, S_size]; exact hl)).mono fun ex w' ⟨hex, hI', hB', hK2⟩ => ?_
    subst hex
    refine hK' _ _ ?_
    rw [← Lib.toList_data, S_toList, ← Lib.byteCells_append] at hI'
    obtain ⟨-, v', lr', ⟨cs, c0, c1, c2, c3, c4⟩, own', ne'⟩ := hI'
    have hcs : cs.toList = [v', .int .i64 0, .int .i8 lr'] := by
      refine List.ext_getElem? fun i => ?_
      rw [Array.getElem?_toList]
      match i with
      | 0 => exact c1
      | 1 => exact c2
      | 2 => exact c3
      | i + 3 => rw [c4 (i + 3) (.inr (by omega))]; rfl
    have hcs' : cs = [v', .int .i64 0, .int .i8 lr'].toArray := by rw [← hcs]
    obtain ⟨cap', hcap', hmx, hv1, hvA⟩ : ∃ cap', (l ++ s).length ≤ cap' ∧ cap' ≤ maxLen ∧ v'.oneCell' = true ∧ ((v'.ownBlock = none ∧ cap' = 0 ∧ v' = .slice none (l ++ s).length 0) ∨ ∃ g cur, v'.ownBlock = some g ∧ w0.heap.size ≤ g ∧ v' = .slice (some ⟨g, 0, none⟩) (l ++ s).length cap' ∧ w'.heap[g]? = some (.cells cur e (0, 0)) ∧ cur.size = cap' * 1 ∧ cur.toList.take (l ++ s).length = Lib.byteCells (l ++ s)) := by
      rw [Lib.byteCells_length] at own'
      rcases own'.2 with ⟨p1, p2⟩ | ⟨g, cap, cur, p1, p2, p3, p4, p5, p6, p7⟩
      · subst p1
        exact ⟨0, by omega, by simp [maxLen], rfl, .inl ⟨rfl, rfl, by rw [p2]⟩⟩
      · subst p1
        exact ⟨cap, p4, p5, rfl, .inr ⟨g, cur, rfl, p2, rfl, p3, p6, by rw [Nat.mul_one] at p7; exact p7⟩⟩
    let G' : Gh := ⟨fun i => if i = r then v'.ownBlock else if i = b then some gb else none, fun i => if i = r then cap' else 0, fun g => g < w0.heap.size ∨ (G.S g ∧ ∃ o, w.heap[g]? = some o ∧ ∀ c q fz, o ≠ .cells c q fz)⟩
    have hG'r : G'.μ r = v'.ownBlock := if_pos rfl
    have hG'b : G'.μ b = some gb := by show (if b = r then _ else if b = b then _ else _) = _; rw [if_neg hbr, if_pos rfl]
    have hxm : ExtM G (look [(b, Ob.box [.view r v 0 l.length, .v (.int .i64 0), .v (.int .i8 lr)]), (r, .row v 1 e (bs l))]) G' (look [(b, Ob.box [.view r (v + 1) 0 (l ++ s).length, .v (.int .i64 0), .v (.int .i8 lr')]), (r, .row (v + 1) 1 e (bs (l ++ s)))]) := by
      refine ⟨fun i cs h => ?_, fun i ver n e' c h => ?_, fun i a' l' h => ?_⟩
      · rcases look2 h with ⟨rfl, h9⟩ | ⟨rfl, h9⟩
        · exact ⟨_, look2_b _ _ _ _, by rw [hG'b, b1]⟩
        · cases h9
      · rcases look2 h with ⟨rfl, h9⟩ | ⟨rfl, h9⟩
        · cases h9
        · injection h9 with a1 a2 a3 a4; subst a1 a2 a3 a4
          exact ⟨_, _, look2_r hbr _ _, Nat.le_succ _, fun hh => by omega⟩
      · rcases look2 h with ⟨rfl, h9⟩ | ⟨rfl, h9⟩ <;> cases h9
    have hrep0 : RowAt G' w' r 1 e (bs (l ++ s)) := by
      refine ⟨bs_one _, by decide, by rw [bs_length]; show _ ≤ (if r = r then cap' else 0); rw [if_pos rfl]; exact hcap', by show (if r = r then cap' else 0) ≤ _; rw [if_pos rfl]; exact hmx, ?_⟩
      rcases hvA with ⟨p1, p2, p3⟩ | ⟨g, cur, p1, p2, p3, p4, p5, p6⟩
      · exact .inl ⟨by rw [hG'r]; exact p1, by show (if r = r then cap' else 0) = 0; rw [if_pos rfl]; exact p2⟩
      · refine .inr ⟨g, cur, fun i j => .int .u8 (((l ++ s).getD i 0).toNat : Int), (0, 0), e, .rfl, by rw [hG'r]; exact p1, p4, by show _ = (if r = r then cap' else 0) * 1; rw [if_pos rfl]; exact p5, fun i j y' hy' => ?_, fun i j y' hy' => ?_⟩
        all_goals
          have hy2 : ∃ c, (l ++ s)[i]? = some c ∧ j = 0 ∧ y' = .int .u8 (c.toNat : Int) := by
            unfold elem? bs at hy'
            rw [List.getElem?_map] at hy'
            cases hc : (l ++ s)[i]? with
            | none => rw [hc] at hy'; cases hy'
            | some c =>
              rw [hc] at hy'
              match j, hy' with
              | 0, hy' => injection hy' with hy'; exact ⟨c, rfl, rfl, hy'.symm⟩
              | j + 1, hy' => simp at hy'
          obtain ⟨c, hc, rfl, rfl⟩ := hy2
          have hgd : (l ++ s).getD i 0 = c := by rw [List.getD_eq_getElem?_getD, hc]; rfl
        · show cur[i * 1 + 0]? = some (.int .u8 (((l ++ s).getD i 0).toNat : Int))
          rw [hgd, Nat.mul_one, Nat.add_zero, ← Array.getElem?_toList]
          have hlt := (List.getElem?_eq_some_iff.1 hc).1
          have h5 : (cur.toList.take (l ++ s).length)[i]? = (Lib.byteCells (l ++ s))[i]? := by rw [p6]
          rw [List.getElem?_take_of_lt hlt] at h5
          rw [h5]; simp only [Lib.byteCells, List.getElem?_map, hc]; rfl
        · show RepV _ _ _ (.int .u8 (((l ++ s).getD i 0).toNat : Int)); rw [hgd]; exact .int _ _
    refine k lr' G' w' _ ⟨⟨fun i o ho => ?_, fun i j g hi hj h1 h2 => ?_, fun i g hi hg => ?_, fun g hg => ?_, fun g hg => ?_, ?_, ?_, ?_, ?_, fun g hg => ?_, fun g hg hk => ?_, fun i o hi => absurd hi (by rw [hY.np]; exact Nat.not_lt_zero _), hO.shp⟩, ?_, ?_, ?_⟩ R hR hP
    · rcases look2 ho with ⟨rfl, rfl⟩ | ⟨rfl, rfl⟩
      · refine ⟨gb, [v', .int .i64 0, .int .i8 lr'], t, hG'b, by rw [← hcs']; exact c0, fun u hu => ?_, ?_⟩
        · rcases List.mem_cons.1 hu with rfl | hu
          · exact hv1
          · rcases List.mem_cons.1 hu with rfl | hu
            · rfl
            · rw [List.mem_singleton] at hu; subst hu; rfl
        · refine .cons (.view r (v + 1) 0 (l ++ s).length v' (v + 1) 1 e _ (look2_r hbr _ _) (Nat.le_refl _) hv1 fun _ => ⟨by rw [bs_length]; omega, ?_⟩) (.cons (mk_int _ _) (.cons (mk_int _ _) ⟨rfl, fun i d u h => by simp at h⟩))
          rcases hvA with ⟨p1, p2, p3⟩ | ⟨g, cur, p1, p2, p3, p4, p5, p6⟩
          · exact ⟨none, 0, by rw [p3], by show 0 + 0 = (if r = r then cap' else 0); rw [if_pos rfl]; omega, by omega, .inl (by rw [hG'r, p1]; rfl)⟩
          · exact ⟨_, cap', p3, by show 0 + cap' = (if r = r then cap' else 0); rw [if_pos rfl]; omega, hcap', .inl (by rw [hG'r, p1]; simp)⟩
      · exact hrep0
    · have hib : ∀ i, look [(b, Ob.box [.view r (v + 1) 0 (l ++ s).length, .v (.int .i64 0), .v (.int .i8 lr')]), (r, .row (v + 1) 1 e (bs (l ++ s)))] i ≠ none → i = b ∨ i = r := fun i hi => by
        cases h : look [(b, Ob.box [.view r (v + 1) 0 (l ++ s).length, .v (.int .i64 0), .v (.int .i8 lr')]), (r, .row (v + 1) 1 e (bs (l ++ s)))] i with
        | none => exact absurd h hi
        | some o => rcases look2 h with ⟨h, _⟩ | ⟨h, _⟩ <;> simp [h]
      rcases hib i hi with rfl | rfl <;> rcases hib j hj with rfl | rfl
      · rfl
      · rw [hG'b] at h1; rw [hG'r] at h2; injection h1 with h1; subst h1; exact absurd h2 ne'
      · rw [hG'b] at h2; rw [hG'r] at h1; injection h2 with h2; subst h2; exact absurd h1 ne'
      · rfl
    · have hge : w0.heap.size ≤ g ∧ ∃ c q, w'.heap[g]? = some (.cells c q (0, 0)) := by
        have hib : i = b ∨ i = r := by
          cases h : look [(b, Ob.box [.view r (v + 1) 0 (l ++ s).length, .v (.int .i64 0), .v (.int .i8 lr')]), (r, .row (v + 1) 1 e (bs (l ++ s)))] i with
          | none => exact absurd h hi
          | some o => rcases look2 h with ⟨h, _⟩ | ⟨h, _⟩ <;> simp [h]
        rcases hib with rfl | rfl
        · rw [hG'b] at hg; injection hg with hg; subst hg; exact ⟨hgb, _, _, c0⟩
        · rw [hG'r] at hg
          rcases hvA with ⟨p1, p2, p3⟩ | ⟨g', cur, p1, p2, p3, p4, p5, p6⟩
          · rw [p1] at hg; cases hg
          · rw [p1] at hg; injection hg with hg; subst hg; exact ⟨p2, _, _, p4⟩
      obtain ⟨h1, c, q, h2⟩ := hge
      refine ⟨fun hs => ?_, fun hk => ?_⟩
      · rcases hs with hs | ⟨hs, o, h3, h4⟩
        · omega
        · have hgb' : some g ≠ some gb := fun hh => by
            injection hh with hh; subst hh
            rw [b2] at h3; injection h3 with h3; exact h4 _ _ _ h3.symm
          have := hK2 g o h3 hgb' (fun c fz => h4 c e fz)
          rw [h2] at this; injection this with this; exact h4 _ _ _ this.symm
      · rw [hY.K] at hk; exact absurd h1 (Nat.not_le_of_lt hk)
    · rcases hg with hg | ⟨hg, _⟩
      · exact Nat.lt_of_lt_of_le hg (Nat.le_trans hsz0 hB'.size)
      · exact Nat.lt_of_lt_of_le (hO.low g hg) hB'.size
    · obtain ⟨k1, k2⟩ := hO.keep g hg
      rw [hY.K] at hg
      exact ⟨k1, (hB'.block g hg).trans k2⟩
    · exact hB'.os.trans hO.os
    · exact hB'.tape.trans hO.tape
    · exact hB'.output.trans hO.output
    · exact Nat.le_trans hO.size hB'.size
    · rw [hY.S0] at hg; exact .inl hg
    · rw [hY.K] at hk; rw [hY.S0]; exact hk
    · have h1 : FrOk G' w' _ fr.at a := fun t => (hS.fr t).free hxm (Fm.free_at hfr t)
      have h2 := h1.put (dst := dst) (d := .any) (u := .tuple #[.int .i64 (S s).size, .nilIface]) (.any _) (fun t ht => by
        rw [hS.nt]; rw [ht] at hd; simpa [dstB] using hd)
      rw [pushF_at]; exact h2
    · rw [← hS.nt]; cases dst <;> simp [Act.put]
    · obtain ⟨Ds, e1, e2, e3⟩ := hS.df
      refine ⟨Ds, by cases dst <;> exact e1, e2, fun D hD => ?_⟩
      obtain ⟨a1, a2, a3, a4⟩ := e3 D hD
      have hne : some D ≠ some gb := fun hh => by injection hh with hh; subst hh; rw [b2] at a3; injection a3 with a3; cases a3
      exact ⟨a1, .inr ⟨a2, _, a3, fun c q fz h => by cases h⟩, hK2 D _ a3 hne (fun c fz h => by cases h), a4⟩
/-- A slot that is known exactly, taken for what it was when all was held. -/
theorem stepU_lit {Y X : Cx} {w0 : World} {ds : List Deferred} (hY : Still Y X w0 ds) {o : Oper} {f : Nat → D} {m : Mem} {d d' : D} {u : Value} {upd : AH} {T : List Nat} (t : Nat) (hR : RepD (gAll w0) w0 (look []) d u) (h : StepU Y o (fput f (some t) d) m d' upd T) (ht : .tmp t ∈ o.op.operands := by simp [Op.operands, Call.operands]) (hft : f t = .v (.lit u) := by exact rfl) : StepU Y o f m d' upd T :=
  fun f' m' hf hT hn G w a hO hF K Q hK => by
    refine h (fput f' (some t) d) m' (fun i hi => ?_) hT hn G w a hO (fun i => ?_) K Q hK
    · show (if i = t then d else f' i) = if i = t then d else f i
      split
      · rfl
      · exact hf i hi
    · show RepD G w m' (if i = t then d else f' i) _
      split
      · rename_i hi
        subst hi
        have h1 := hF i
        rw [hf i ht, hft] at h1
        rw [rep_lit h1]
        exact hR.ext (still_ext hY hO)
      · exact hF i
theorem ev_fput {f : Nat → D} {t : Nat} {d : D} : Ev (fput f (some t) d) (.tmp t) d := fun f' hf G w m a hF => by
  have h1 := hF t
  rw [hf t rfl] at h1
  have e : fput f (some t) d t = d := if_pos rfl
  rw [e] at h1
  exact h1
theorem ev_fput_ne {f : Nat → D} {t t' : Nat} {d d' : D} (hn : t' ≠ t) (h : ∀ f0 : Nat → D, f0 t' = f t' → Ev f0 (.tmp t') d') : Ev (fput f (some t) d) (.tmp t') d' := h _ (if_neg hn)
theorem free_row {i v n : Nat} {e : TypeId} (l : List UInt8) : AH.free [(i, .row v n e (bs l))] = true := by
  show ((bs l).all (fun x => x.all V.free) && true) = true
  rw [Bool.and_true, List.all_eq_true]
  intro x hx
  obtain ⟨c, _, rfl⟩ := List.mem_map.1 hx
  rfl
end Go.Proofs.YtnjbfiejgiaibaaGreatDoor
