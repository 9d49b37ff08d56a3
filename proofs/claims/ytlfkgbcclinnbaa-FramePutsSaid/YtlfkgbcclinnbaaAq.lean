/- Abstract states: structs compared; a contract that says less. No program, no condition. -/
import Derived.Test.YtlfkgbcclinnbaaAn
import Derived.ChangeKeysEq
namespace Go.Proofs.Ytlfkgbcclinnbaa
set_option linter.all false
open Go Go.RowKit
/-- The kinds of one-cell fields. -/
inductive Kd where
  | int (k : IntKind)
  | bool
  | str
def kdOf (P : Program) (t : TypeId) : Option Kd := match P.underlying t with
  | some (.int k) => some (.int k)
  | some .bool => some .bool
  | some .string => some .str
  | _ => none
def kdsGo (P : Program) : Nat → List Field → Option (List Kd)
  | _, [] => some []
  | k, f :: fs => if Nat.beq f.offset k && f.name != "_" then (match kdOf P f.type, kdsGo P (k + 1) fs with | some d, some ds => some (d :: ds) | _, _ => none) else none
def structK (P : Program) (t : TypeId) : Option (List Kd) := match P.underlying t with
  | some (.struct fs) => if P.stoodInHeld t || P.eqGuardType P.depth t then none else kdsGo P 0 fs.toList
  | _ => none
def Kd.fits : Kd → V → Bool
  | .int k, .int k' _ => decide (k = k')
  | .bool, .bool _ => true
  | .str, .str _ => true
  | _, _ => false
def fitsB : List Kd → List V → Bool
  | [], [] => true
  | k :: ks, x :: xs => k.fits x && fitsB ks xs
  | _, _ => false
def eqX : V → V → Bool
  | .int _ a, .int _ b => a == b
  | .bool a, .bool b => a == b
  | .str a, .str b => a == b
  | _, _ => false
def eqXs : List V → List V → Bool
  | x :: xs, y :: ys => eqX x y && eqXs xs ys
  | _, _ => true
def pureD : D → Option V
  | .v x => some x
  | _ => none
def pures : List D → Option (List V)
  | [] => some []
  | d :: ds => match pureD d, pures ds with | some x, some xs => some (x :: xs) | _, _ => none
theorem pures_at : ∀ {ds : List D} {xs : List V}, pures ds = some xs → ds = xs.map .v
  | [], xs, h => by simp [pures] at h; subst h; rfl
  | d :: ds, xs, h => by
    cases d <;> simp only [pures, pureD] at h <;> try (cases h; done)
    cases h2 : pures ds with
    | none => rw [h2] at h; cases h
    | some ys => rw [h2] at h; injection h with h; subst h; rw [pures_at h2]; rfl
section
variable {P : Program} (w : World)
theorem kd_eq {G : Gh} {m : Mem} {d : Nat} {t : TypeId} {k : Kd} {x y : V} {u v : Value} (hk : kdOf P t = some k) (hx : k.fits x = true) (hy : k.fits y = true) (hu : RepD G w m (.v x) u) (hv : RepD G w m (.v y) v) : (Op.equalIn (d + 1) t u v).run P w = .ok (eqX x y) w ∧ P.plainKey t = true := by
  unfold kdOf at hk
  cases hd : P.underlying t with
  | none => rw [hd] at hk; cases hk
  | some ty =>
    rw [hd] at hk
    cases ty <;> simp only at hk <;> try (cases hk; done)
    · injection hk with hk; subst hk
      cases x <;> simp [Kd.fits] at hx
      cases y <;> simp [Kd.fits] at hy
      obtain rfl := rep_bool hu
      obtain rfl := rep_bool hv
      exact ⟨run_equalIn_bool w d t _ _ hd, by simp [Program.plainKey, hd]⟩
    · injection hk with hk; subst hk
      cases x <;> simp [Kd.fits] at hx
      cases y <;> simp [Kd.fits] at hy
      subst hx hy
      obtain rfl := rep_int hu
      obtain rfl := rep_int hv
      exact ⟨run_equalIn_int w d t _ _ _ _ hd, by simp [Program.plainKey, hd]⟩
    · injection hk with hk; subst hk
      cases x <;> simp [Kd.fits] at hx
      cases y <;> simp [Kd.fits] at hy
      have h1 := rep_str hu
      have h2 := rep_str hv
      subst h1 h2
      refine ⟨?_, by simp [Program.plainKey, hd]⟩
      rw [run_equalIn_string w d t _ _ hd]
      simp [eqX, S_toList]
theorem kds_eq {G : Gh} {m : Mem} {d : Nat} (us vs : List Value) : ∀ (fs : List Field) (k : Nat) (ks : List Kd) (xs ys : List V), kdsGo P k fs = some ks → fitsB ks xs = true → fitsB ks ys = true → us.length = k + xs.length → vs.length = k + ys.length →
    (∀ i x u, xs[i]? = some x → us[k + i]? = some u → RepD G w m (.v x) u) → (∀ i x u, ys[i]? = some x → vs[k + i]? = some u → RepD G w m (.v x) u) → (Op.eqFields (d + 1) us.toArray vs.toArray fs).run P w = .ok (eqXs xs ys) w
  | [], k, ks, xs, ys, hk, h1, h2, _, _, _, _ => by
    simp only [kdsGo] at hk; injection hk with hk; subst hk
    cases xs <;> simp [fitsB] at h1
    simp [Op.eqFields, eqXs]
  | f :: fs, k, ks, xs, ys, hk, h1, h2, hl, hl2, hx, hy => by
    simp only [kdsGo] at hk
    split at hk
    · rename_i hc
      simp only [Bool.and_eq_true, bne_iff_ne, ne_eq] at hc
      have ho : f.offset = k := Nat.eq_of_beq_eq_true hc.1
      cases hd : kdOf P f.type with
      | none => rw [hd] at hk; cases hk
      | some kd =>
        cases hg : kdsGo P (k + 1) fs with
        | none => rw [hd, hg] at hk; cases hk
        | some ks' =>
          rw [hd, hg] at hk; injection hk with hk; subst hk
          cases xs with
          | nil => simp [fitsB] at h1
          | cons x xs =>
            cases ys with
            | nil => simp [fitsB] at h2
            | cons y ys =>
              simp only [fitsB, Bool.and_eq_true] at h1 h2
              simp only [List.length_cons] at hl hl2
              have e1 : us[k]? = some (us[k]'(by omega)) := List.getElem?_eq_getElem (by omega)
              have e2 : vs[k]? = some (vs[k]'(by omega)) := List.getElem?_eq_getElem (by omega)
              obtain ⟨q1, q2⟩ := kd_eq (P := P) w (d := d) hd h1.1 h2.1 (hx 0 x _ rfl e1) (hy 0 y _ rfl e2)
              have p1 : (part f.type us.toArray f.offset).run P w = .ok (us[k]'(by omega)) w := run_part_plain w q2 (by rw [ho, List.getElem?_toArray]; exact e1)
              have p2 : (part f.type vs.toArray f.offset).run P w = .ok (vs[k]'(by omega)) w := run_part_plain w q2 (by rw [ho, List.getElem?_toArray]; exact e2)
              have ih := kds_eq (d := d) us vs fs (k + 1) ks' xs ys hg h1.2 h2.2 (by omega) (by omega) (fun i z u h h' => hx (i + 1) z u (by simpa using h) (by rw [← h']; congr 1; omega)) (fun i z u h h' => hy (i + 1) z u (by simpa using h) (by rw [← h']; congr 1; omega))
              simp only [Op.eqFields, hc.2, ne_eq, not_false_eq_true, if_true, Sem.run_bind, p1, p2, q1, Result.andThen_ok]
              cases he : eqX x y
              · simp [eqXs, he]
              · simp [eqXs, he, ih]
    · cases hk
end
section
variable {X : Cx} {o : Oper} {f : Nat → D} {m : Mem} {d : D} {T : List Nat}
theorem rep_aggV {G : Gh} {w : World} {m : Mem} {ds : List D} {xs : List V} {u : Value} (hp : pures ds = some xs) (h : RepD G w m (.agg ds) u) : ∃ us : List Value, u = .agg us.toArray ∧ us.length = xs.length ∧ ∀ (i : Nat) x v, xs[i]? = some x → us[i]? = some v → RepD G w m (.v x) v := by
  obtain rfl := pures_at hp
  cases h with
  | agg _ us hlen h1 h => exact ⟨us, rfl, by simpa using hlen, fun i x v hx hv => h i (.v x) v (by simp [hx]) hv⟩
theorem run_eqA {G : Gh} {w : World} {t : TypeId} {ks : List Kd} {ds es : List D} {xs ys : List V} {u v : Value} (ht : structK X.P t = some ks) (hp : pures ds = some xs) (hq : pures es = some ys) (h1 : fitsB ks xs = true) (h2 : fitsB ks ys = true) (hu : RepD G w m (.agg ds) u) (hv : RepD G w m (.agg es) v) :
    ∃ us vs : Array Value, u = .agg us ∧ v = .agg vs ∧ (Op.equalIn 10000 t (.agg us) (.agg vs)).run X.P w = .ok (eqXs xs ys) w ∧ X.P.eqGuardType X.P.depth t = false := by
  obtain ⟨us, rfl, l1, r1⟩ := rep_aggV hp hu
  obtain ⟨vs, rfl, l2, r2⟩ := rep_aggV hq hv
  unfold structK at ht
  cases hd : X.P.underlying t with
  | none => rw [hd] at ht; cases ht
  | some ty =>
    rw [hd] at ht
    cases ty <;> simp only at ht <;> try (cases ht; done)
    rename_i fs
    split at ht
    · cases ht
    · rename_i hc
      simp only [Bool.or_eq_true, not_or, Bool.not_eq_true] at hc
      have hfs : X.P.fieldsOf t = fs := by simp [Program.fieldsOf, hd]
      refine ⟨us.toArray, vs.toArray, rfl, rfl, ?_, hc.2⟩
      rw [show (10000 : Nat) = 9999 + 1 from rfl, run_equalIn_struct w 9999 t _ _ (by rw [hfs]; exact hd) hc.1, hfs]
      exact kds_eq (d := 9998) w us vs fs.toList 0 ks xs ys ht h1 h2 (by omega) (by omega) (fun i x v hx hv => r1 i x v hx (by simpa using hv)) (fun i x v hx hv => r2 i x v hx (by simpa using hv))
theorem stepU_eqlA {t t' : TypeId} {x y : Operand} {ks : List Kd} {ds es : List D} {xs ys : List V} (ho : o.op = .binOp .eql t x y t') (ht : structK X.P t = some ks) (hx : Ev f x (.agg ds)) (hy : Ev f y (.agg es)) (hp : pures ds = some xs) (hq : pures es = some ys) (h1 : fitsB ks xs = true) (h2 : fitsB ks ys = true) : StepU X o f m (.v (.bool (eqXs xs ys))) [] [] :=
  stepU_pure fun f' m' hf _ G w a _ hF => by
    obtain ⟨us, vs, e1, e2, h, hg⟩ := run_eqA (X := X) ht hp hq h1 h2 (ev_at hx (by simp [ho, Op.operands]) hf hF) (ev_at hy (by simp [ho, Op.operands]) hf hF)
    refine ⟨_, ?_, mk_bool _⟩
    simp only [execOp, ho, e1, e2, Sem.run_bind, run_eqGuard_agg w .eql t x y us vs hg, Result.andThen_ok, run_eql_struct, h, Sem.run_pure]
theorem stepU_neqA {t t' : TypeId} {x y : Operand} {ks : List Kd} {ds es : List D} {xs ys : List V} (ho : o.op = .binOp .neq t x y t') (ht : structK X.P t = some ks) (hx : Ev f x (.agg ds)) (hy : Ev f y (.agg es)) (hp : pures ds = some xs) (hq : pures es = some ys) (h1 : fitsB ks xs = true) (h2 : fitsB ks ys = true) : StepU X o f m (.v (.bool (!eqXs xs ys))) [] [] :=
  stepU_pure fun f' m' hf _ G w a _ hF => by
    obtain ⟨us, vs, e1, e2, h, hg⟩ := run_eqA (X := X) ht hp hq h1 h2 (ev_at hx (by simp [ho, Op.operands]) hf hF) (ev_at hy (by simp [ho, Op.operands]) hf hF)
    refine ⟨_, ?_, mk_bool _⟩
    simp only [execOp, ho, e1, e2, Sem.run_bind, run_eqGuard_agg w .neq t x y us vs hg, Result.andThen_ok, run_neq_struct, h, Sem.run_pure]
end
/-- A contract that says less. -/
theorem con_weak {P : Program} {g : FuncId} {args : List D} {pre post post' : AH} {np : Nat} {d d' : D} (h : Con P g args pre np (.ret d) post) (hw : ∀ X : Cx, X.np = np → Weak X [(0, d)] post [(0, d')] post') : Con P g args pre np (.ret d') post' := by
  intro K G w us hSK hO hA
  refine (h K G w us hSK hO hA).mono fun e w' ⟨G', hO', ho⟩ => ?_
  cases e with
  | returned v =>
    have hd : RepD G' w' (look post) d v := ho
    let X : Cx := ⟨P, 1, w, K, G.S, np, G.μ⟩
    have hO1 : Ok X G' w' (look post) := ⟨hO'.ob, hO'.inj, hO'.apart, hO'.low, hO'.keep, hO'.os, hO'.tape, hO'.output, hO'.size, hO'.s0, hO'.sk, hO'.pin⟩
    have hF : FrOk G' w' (look post) (Fm.at [(0, d)]) { tmps := #[v], defers := [] } := fun t => by
      by_cases ht : 0 = t
      · subst ht
        rw [Fm.at_eq (look_cons_self _ _ _)]
        exact hd
      · unfold Fm.at
        rw [look_cons_ne _ _ ht]
        exact .any _
    obtain ⟨G2, h1, h2, _, _⟩ := hw X rfl G' w' { tmps := #[v], defers := [] } ⟨hO1, hF, rfl, rfl⟩
    refine ⟨G2, ⟨h1.ob, h1.inj, h1.apart, h1.low, h1.keep, h1.os, h1.tape, h1.output, h1.size, h1.s0, h1.sk, h1.pin⟩, ?_⟩
    have := h2 0
    rw [Fm.at_eq (look_cons_self _ _ _)] at this
    exact this
  | _ => cases ho
end Go.Proofs.Ytlfkgbcclinnbaa
