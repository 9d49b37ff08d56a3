/- Layer 7: plain models: items of bytes. No program, no condition. -/
import Derived.Test.YtigodfnckjidoaaFrW
import Derived.Test.YtigodfnckjidoaaFrX
import Derived.Test.YtigodfnckjidoaaAv
import Derived.Test.YtigodfnckjidoaaAtToAr
import Derived.Laws.Pointers
namespace Go.Proofs.Ytigodfnckjidoaa
set_option linter.all false
open Go Go.RowKit
/-- What is taken: nothing; a fault of the connection; an item that takes bytes. -/
theorem take_kinds (b : List UInt8) (m : Int) : takeF b m = ⟨Fr.nil, 0, Flt.no⟩ ∨ (∃ x, takeF b m = ⟨Fr.nil, 0, x⟩ ∧ x.is = true ∧ x.st = 0) ∨ (9 ≤ (takeF b m).n ∧ (takeF b m).n ≤ b.length ∧ ((takeF b m).x = Flt.no ∨ (takeF b m).x.is = true ∧ ¬ (takeF b m).x.st = 0)) := by
  unfold takeF
  by_cases h0 : b.length < 9
  · rw [if_pos h0]; exact .inl rfl
  rw [if_neg h0]
  dsimp only
  by_cases h1 : m < (beN (b.take 3) : Int)
  · rw [if_pos h1]; exact .inr (.inl ⟨_, rfl, rfl, rfl⟩)
  rw [if_neg h1]
  by_cases h2 : b.length < 9 + beN (b.take 3)
  · rw [if_pos h2]; exact .inl rfl
  rw [if_neg h2]
  by_cases h3 : misB ((b.getD 3 0).toNat : Int) (lowM (at4 b 5)) = true
  · rw [if_pos h3]; exact .inr (.inl ⟨_, rfl, rfl, rfl⟩)
  rw [if_neg h3]
  by_cases h4 : missB ((b.getD 3 0).toNat : Int) ((b.getD 4 0).toNat : Int) (beN (b.take 3) : Int) = true
  · rw [if_pos h4]
    by_cases h5 : ((b.getD 3 0).toNat : Int) = 2
    · rw [if_pos h5]
      refine .inr (.inr ⟨by dsimp only; omega, by dsimp only; omega, .inr ⟨rfl, fun he => h3 ?_⟩⟩)
      have he : lowM (at4 b 5) = 0 := he
      rw [h5, he]; rfl
    · rw [if_neg h5]; exact .inr (.inl ⟨_, rfl, rfl, rfl⟩)
  rw [if_neg h4]
  cases h6 : openM { Fr.nil with ty := ((b.getD 3 0).toNat : Int), fl := ((b.getD 4 0).toNat : Int), st := lowM (at4 b 5) } ((b.drop 9).take (beN (b.take 3))) with
  | none => exact .inr (.inl ⟨_, rfl, rfl, rfl⟩)
  | some f =>
    dsimp only
    by_cases h7 : ((b.getD 3 0).toNat : Int) = 8 ∧ f.inc = 0
    · rw [if_pos h7]
      by_cases h8 : lowM (at4 b 5) ≠ 0
      · rw [if_pos h8]; exact .inr (.inr ⟨by dsimp only; omega, by dsimp only; omega, .inr ⟨rfl, h8⟩⟩)
      · rw [if_neg h8]; exact .inr (.inl ⟨_, rfl, rfl, rfl⟩)
    · rw [if_neg h7]
      by_cases h8 : (unfitM f.sets).is = true
      · rw [if_pos h8]
        have hst : ∀ l : List (Int × Int), (unfitM l).st = 0 := fun l => by
          induction l with
          | nil => rfl
          | cons s r ih => unfold unfitM; split; rfl; exact ih
        exact .inr (.inl ⟨_, rfl, h8, hst _⟩)
      · rw [if_neg h8]; exact .inr (.inr ⟨by dsimp only; omega, by dsimp only; omega, .inl rfl⟩)
/-- An item. -/
structure Itm where
  f : Fr
  x : Flt
abbrev Itm.vs (i : Itm) : List V := [.int .i64 i.f.ty, .int .i64 i.f.fl, .int .i64 i.f.st, .str i.f.data, .int .i64 i.f.pad, .sl (setV i.f.sets), .int .i64 i.f.code, .int .i64 i.f.last, .int .i64 i.f.inc, .int .i64 i.f.dep, .int .i64 i.f.wt, .bool i.f.sole, .bool i.x.is, .int .i64 i.x.code, .int .i64 i.x.st]
def itV (l : List Itm) : List (List V) := l.map Itm.vs
@[simp] theorem itV_len (l : List Itm) : (itV l).length = l.length := by simp [itV]
theorem itV_get {l : List Itm} {i : Nat} (h : i < l.length) : (itV l)[i]? = some (l[i]).vs := by simp [itV, h]
theorem itV_one (l : List Itm) : ∀ e ∈ itV l, e.length = 15 := by intro e he; obtain ⟨f, _, rfl⟩ := List.mem_map.1 he; rfl
theorem itV_app (a b : List Itm) : itV a ++ itV b = itV (a ++ b) := by simp [itV]
theorem itV_snoc {a : List Itm} {i : Itm} {n : Nat} (h : n = a.length) : (itV a).take n ++ [i.vs] = itV (a ++ [i]) := by
  rw [List.take_of_length_le (by rw [itV_len]; omega), ← itV_app]; rfl
theorem itV_join {a b : List Itm} {n : Nat} (h : n = a.length) : (itV a).take n ++ itV b = itV (a ++ b) := by
  rw [List.take_of_length_le (by rw [itV_len]; omega), ← itV_app]
/-- Is nothing whole there? Is the connection at fault? -/
def noneT (t : Took) : Bool := decide (t.n = 0) && !t.x.is
def overT (t : Took) : Bool := t.x.is && decide (t.x.st = 0)
abbrev itT (t : Took) : Itm := ⟨t.f, t.x⟩
/-- The items of bytes, what is left, is it over? -/
def goF (m : Int) : Nat → List UInt8 → List Itm × List UInt8 × Bool
  | 0, b => ([], b, false)
  | k + 1, b => if noneT (takeF b m) = true then ([], b, false) else if overT (takeF b m) = true then ([itT (takeF b m)], b.drop (takeF b m).n, true) else
      (itT (takeF b m) :: (goF m k (b.drop (takeF b m).n)).1, (goF m k (b.drop (takeF b m).n)).2)
theorem take_on {b : List UInt8} {m : Int} (h1 : noneT (takeF b m) = false) (h2 : overT (takeF b m) = false) : 9 ≤ (takeF b m).n ∧ (takeF b m).n ≤ b.length := by
  rcases take_kinds b m with h | ⟨x, h, hx, hs⟩ | ⟨h, h', -⟩
  · rw [h] at h1; cases h1
  · rw [h] at h2; simp [overT, hx, hs] at h2
  · exact ⟨h, h'⟩
theorem goF_fuel (m : Int) : ∀ (k j : Nat) (b : List UInt8), b.length < k → b.length < j → goF m k b = goF m j b
  | 0, _, _, h, _ => by omega
  | _, 0, _, _, h => by omega
  | k + 1, j + 1, b, h1, h2 => by
    unfold goF
    by_cases hn : noneT (takeF b m) = true
    · rw [if_pos hn, if_pos hn]
    · rw [if_neg hn, if_neg hn]
      by_cases ho : overT (takeF b m) = true
      · rw [if_pos ho, if_pos ho]
      · rw [if_neg ho, if_neg ho]
        obtain ⟨h9, h10⟩ := take_on (by simpa using hn) (by simpa using ho)
        rw [goF_fuel m k j (b.drop (takeF b m).n) (by rw [List.length_drop]; omega) (by rw [List.length_drop]; omega)]
def itemsM (m : Int) (b : List UInt8) : List Itm × List UInt8 × Bool := goF m (b.length + 1) b
theorem items_none {m : Int} {b : List UInt8} (h : noneT (takeF b m) = true) : itemsM m b = ([], b, false) := by unfold itemsM goF; rw [if_pos h]
theorem items_over {m : Int} {b : List UInt8} (h1 : noneT (takeF b m) = false) (h : overT (takeF b m) = true) : itemsM m b = ([itT (takeF b m)], b.drop (takeF b m).n, true) := by unfold itemsM goF; rw [if_neg (by simp [h1]), if_pos h]
theorem items_on {m : Int} {b : List UInt8} (h1 : noneT (takeF b m) = false) (h2 : overT (takeF b m) = false) : itemsM m b = (itT (takeF b m) :: (itemsM m (b.drop (takeF b m).n)).1, (itemsM m (b.drop (takeF b m).n)).2) := by
  obtain ⟨h9, h10⟩ := take_on h1 h2
  have e : itemsM m (b.drop (takeF b m).n) = goF m b.length (b.drop (takeF b m).n) := goF_fuel m _ _ _ (by omega) (by rw [List.length_drop]; omega)
  rw [e]
  show goF m (b.length + 1) b = _
  rw [goF, if_neg (by simp [h1]), if_neg (by simp [h2])]
/-- The preface: how far it is right, what is left behind it. -/
def preL : List UInt8 := [80, 82, 73, 32, 42, 32, 72, 84, 84, 80, 47, 50, 46, 48, 13, 10, 13, 10, 83, 77, 13, 10, 13, 10]
def greetM : Nat → List UInt8 → Nat × Option (List UInt8)
  | k, [] => (k, some [])
  | k, a :: b => if k < 24 then (if preL[k]? = some a then greetM (k + 1) b else (k, none)) else (k, some (a :: b))
/-- A feed. -/
structure Fd7 where
  most : Int
  pre : Nat
  left : List UInt8
  over : Bool
end Go.Proofs.Ytigodfnckjidoaa

/- Abstract states: a pointer beside nil; append(nil, x...) onto a row that is there (it begins anew). No program, no condition. -/
namespace Go.Proofs.Ytigodfnckjidoaa
set_option linter.all false
open Go Go.RowKit Go.Lib
section
variable {X : Cx} {o : Oper} {f : Nat → D} {m : Mem}
theorem eqGuard_ptr {P : Program} {w : World} (op : BinOp) (t : TypeId) (x y : Operand) (a b : Option Addr) : (eqGuard op t x y (.pointer a) (.pointer b)).run P w = .ok () w := by
  unfold eqGuard; cases op <;> simp
theorem ptr_pointee {P : Program} {t e : TypeId} (h : P.underlying t = some (.pointer e)) : P.underlying t = some (.pointer (P.pointee t)) := by
  unfold Program.pointee; rw [h]
theorem stepU_eqlP {t t' e : TypeId} {x y : Operand} {id off : Nat} (ho : o.op = .binOp .eql t x y t') (ht : X.P.underlying t = some (.pointer e)) (hx : Ev f x (.ptr id off)) (hy : Ev f y (.v (.lit (.pointer none)))) : StepU X o f m (.v (.bool false)) [] [] :=
  stepU_pure fun f' m' hf _ G w a _ hF => by
    obtain ⟨g, cs, h1, _, _⟩ := rep_ptr (ev_at hx (by simp [ho, Op.operands]) hf hF)
    have h2 := rep_lit (ev_at hy (by simp [ho, Op.operands]) hf hF)
    refine ⟨_, ?_, mk_bool _⟩
    simp only [execOp, ho, h1, h2, Sem.run_bind, eqGuard_ptr, Result.andThen_ok, run_eql_pointer_nil w t _ (ptr_pointee ht), Sem.run_pure]
    rfl
theorem stepU_eqlPN {t t' e : TypeId} {x y : Operand} (ho : o.op = .binOp .eql t x y t') (ht : X.P.underlying t = some (.pointer e)) (hx : Ev f x (.v (.lit (.pointer none)))) (hy : Ev f y (.v (.lit (.pointer none)))) : StepU X o f m (.v (.bool true)) [] [] :=
  stepU_pure fun f' m' hf _ G w a _ hF => by
    have h1 := rep_lit (ev_at hx (by simp [ho, Op.operands]) hf hF)
    have h2 := rep_lit (ev_at hy (by simp [ho, Op.operands]) hf hF)
    refine ⟨_, ?_, mk_bool _⟩
    simp only [execOp, ho, h1, h2, Sem.run_bind, eqGuard_ptr, Result.andThen_ok, run_eql_pointer_nil w t _ (ptr_pointee ht), Sem.run_pure]
    rfl
theorem z_eqlP {dst : Option Tmp} {ty : TypeId} {ps : String} {af : Array Edge} {gd : Option (Nat × Bool)} {t t' e : TypeId} {x y : Operand} {id off : Nat} (ht : X.P.underlying t = some (.pointer e)) (hx : Ev f x (.ptr id off) := by exact ev_tmp rfl) (hy : Ev f y (.v (.lit (.pointer none))) := by first | exact ev_tmp rfl | exact ev_lit rfl) : StepU X ⟨dst, .binOp .eql t x y t', ty, ps, af, gd⟩ f m (.v (.bool false)) [] [] := stepU_eqlP (ho := rfl) (ht := ht) (hx := hx) (hy := hy)
theorem z_eqlPN {dst : Option Tmp} {ty : TypeId} {ps : String} {af : Array Edge} {gd : Option (Nat × Bool)} {t t' e : TypeId} {x y : Operand} (ht : X.P.underlying t = some (.pointer e)) (hx : Ev f x (.v (.lit (.pointer none))) := by first | exact ev_tmp rfl | exact ev_lit rfl) (hy : Ev f y (.v (.lit (.pointer none))) := by first | exact ev_tmp rfl | exact ev_lit rfl) : StepU X ⟨dst, .binOp .eql t x y t', ty, ps, af, gd⟩ f m (.v (.bool true)) [] [] := stepU_eqlPN (ho := rfl) (ht := ht) (hx := hx) (hy := hy)
end
section
variable {X : Cx} {G : Gh} {w w' : World} {m : Mem}
/-- A row begins anew, of nothing. -/
theorem Ok.anew (h : Ok X G w m) {id v n : Nat} {e : TypeId} {c : List (List V)} (hm : m id = some (.row v n e c)) : Ok X (G.at_ id none 0) w (over [(id, .row (v + 1) n e [])] m) ∧ Ext G w m (G.at_ id none 0) w (over [(id, .row (v + 1) n e [])] m) :=
  h.step (G' := G.at_ id none 0) (w' := w) id (.row (v + 1) n e []) rfl (fun i hi => Gh.at_ne G _ _ hi) (fun g hg => by rw [Gh.at_μ] at hg; cases hg) (fun g _ _ => rfl) (Nat.le_refl _) rfl rfl rfl
    (fun o' ho' => by
      rw [hm] at ho'; injection ho' with ho'; subst ho'
      exact ⟨fun cs he => (by cases he), fun ver n' e' c' he => by injection he with a1 a2 a3 a4; subst a1 a2 a3 a4; exact ⟨v + 1, [], rfl, Nat.le_succ _, fun hh => by omega⟩⟩)
    (fun k => ⟨by simp, (show RowAt G w id n e c from h.ob id _ hm).2.1, by simp, by rw [Gh.at_cap]; simp [maxLen], .inl ⟨Gh.at_μ _ _ _ _, Gh.at_cap _ _ _ _⟩⟩) (fun cs _ he => by cases he)
theorem Ok.growE (h : Ok X G w m) {id v n : Nat} {e : TypeId} {c c2 : List (List V)} {v' : Value} {news : List Value} (hm : m id = some (.row v n e c)) (hs : ∀ e ∈ c2, e.length = n) (hn : 0 < n) (hr : ∀ i j x, elem? c2 i j = some x → ∃ v, news[i * n + j]? = some v ∧ RepV G.S w x v)
    (hown : w'.ownsRow 0 e n v' (0 + c2.length) ([] ++ news)) (hg : w.grownBy w' none) (hbk : v'.ownBlock = none ∨ v'.ownBlock = some w.heap.size) :
    ∃ G', Ok X G' w' (over [(id, .row (v + 2) n e c2)] m) ∧ Ext G w m G' w' (over [(id, .row (v + 2) n e c2)] m) ∧ RepD G' w' (over [(id, .row (v + 2) n e c2)] m) (.view id (v + 2) 0 c2.length) v' := by
  obtain ⟨n1, n2⟩ := h.anew hm
  obtain ⟨G', k1, k2, k3⟩ := n1.grow (id := id) (ver := v + 1) (len := 0) (c := []) (c2 := c2) (u := .slice none 0 0) (v' := v') (xs := []) (news := news) over_at (by simp) (fun i j x hi => by omega) (by simp) (fun g hg => by simp [Value.ownBlock] at hg) hs hn
    (fun i j x hx => by
      obtain ⟨v, h1, h2⟩ := hr i j x hx
      exact ⟨v, h1, h2⟩) hown hg hbk hown
  rw [over_over] at k1 k2 k3
  simp only [List.take_nil, List.nil_append, Nat.zero_add] at k1 k2 k3
  exact ⟨G', k1, n2.trans k2, k3⟩
end
section
variable {X : Cx} {o : Oper} {f : Nat → D} {m : Mem}
/-- append(nil, x...), x a slice that will not change, onto a row that is there. -/
theorem stepU_appE {x y : Operand} {t e : TypeId} {n b v : Nat} {c c2 : List (List V)} (id : Nat) (hm : m id = some (.row v n e c)) (ho : o.op = .call { callee := .builtin .append, args := #[x, y], argTypes := #[t, t] }) (ht : X.P.underlying t = some (.slice e)) (hi : infoB X.P e = some (n, b)) (hx : Ev f x (.v (.lit (.slice none 0 0)))) (hy : Ev f y (.v (.sl c2))) (hs : ∀ e ∈ c2, e.length = n)
    (hb : c2.length * b ≤ 140737488355328 ∧ c2.length ≤ 140737488355328) : StepU X o f m (.view id (v + 2) 0 c2.length) [(id, .row (v + 2) n e c2)] [id] :=
  fun f' m' hf hT hnew G w a hO hF K Q hK => by
    have hu := rep_nil (ev_at hx (by simp [ho, Op.operands, Call.operands]) hf hF)
    have hsrc := rep_sl (ev_at hy (by simp [ho, Op.operands, Call.operands]) hf hF)
    obtain ⟨i, z, i1, i2, i3, i4, i5, i6⟩ := infoB_at hi
    obtain ⟨A, cap, hv, hne⟩ := src_sl hsrc hs i6
    have hid : m' id = some (.row v n e c) := (hT id (by simp)).trans hm
    unfold Oper.wp
    rcases Nat.eq_zero_or_pos c2.length with h0 | h0
    · obtain rfl := List.eq_nil_of_length_eq_zero h0
      rw [run_app ho hu hv (run_append_none ht i1 (own_nil w e i.size) A cap)]
      obtain ⟨G', k1, k2, k3⟩ := hO.growE (c2 := []) (news := []) hid (by simp) i6 (fun i j x h => by simp [elem?] at h) (own_nil w e n) (World.grownBy.refl w _) (.inl rfl)
      exact hK _ _ _ k1 k2 k3
    · obtain ⟨p, rfl, news, n1, n2, n3, n4⟩ := hne h0
      obtain ⟨v', w', r1, r2, r3, _, r5⟩ := run_append_own_at (P := X.P) w 0 t o.type e i z n b ht i1 i2 i3 i4 i5 i6 (.slice none 0 0) 0 [] (own_nil w e n) p c2.length cap news n1 n2 n3 (by simp [maxLen]; omega) (by simpa using hb.1) (Nat.zero_le _)
      rw [run_app ho hu hv r1]
      obtain ⟨G', k1, k2, k3⟩ := hO.growE hid hs i6 n4 r2 r3 r5
      exact hK _ _ _ k1 k2 k3
theorem z_appE {dst : Option Tmp} {ty : TypeId} {ps : String} {af : Array Edge} {gd : Option (Nat × Bool)} {x y : Operand} {t e : TypeId} {n b v : Nat} {c c2 : List (List V)} (id : Nat) (ht : X.P.underlying t = some (.slice e)) (hi : infoB X.P e = some (n, b)) (hm : m id = some (.row v n e c) := by exact rfl) (hx : Ev f x (.v (.lit (.slice none 0 0))) := by first | exact ev_tmp rfl | exact ev_lit rfl) (hy : Ev f y (.v (.sl c2)) := by first | exact ev_tmp rfl | exact ev_nil (ev_tmp rfl)) (hs : ∀ e ∈ c2, e.length = n := by first | exact bs_one _ | assumption | (simp; done)) (hb : c2.length * b ≤ 140737488355328 ∧ c2.length ≤ 140737488355328 := by first | decide | omega | (simp; done) | (simp; omega)) : StepU X ⟨dst, .call { callee := .builtin .append, args := #[x, y], argTypes := #[t, t] }, ty, ps, af, gd⟩ f m (.view id (v + 2) 0 c2.length) [(id, .row (v + 2) n e c2)] [id] :=
  stepU_appE (id := id) (hm := hm) (ho := rfl) (ht := ht) (hi := hi) (hx := hx) (hy := hy) (hs := hs) (hb := hb)
end
section
variable {X : Cx} {fr : Fm} {ah : AH}
/-- A variable's nil is a row that is there, begun anew, of nothing. -/
theorem weak_nilE (b i id : Nat) {v n : Nat} {e : TypeId} {c : List (List V)} {cs cs' : List D} (hb : look ah b = some (.box cs)) (hi : cs[i]? = some (.v (.lit (.slice none 0 0)))) (hc : cs.set i (.view id (v + 1) 0 0) = cs') (hid : look ah id = some (.row v n e c)) :
    Weak X fr ah fr ((b, .box cs') :: (id, .row (v + 1) n e []) :: ah) := fun G w a hS => by
  subst hc
  obtain ⟨h1, h2⟩ := hS.ok.anew hid
  have h3 : RepD (G.at_ id none 0) w (over [(id, .row (v + 1) n e [])] (look ah)) (.view id (v + 1) 0 0) (.slice none 0 0) := .view id (v + 1) 0 0 _ (v + 1) n e [] over_at (Nat.le_refl _) rfl fun _ => ⟨by simp, none, 0, rfl, by rw [Gh.at_cap], by omega, .inl (by rw [Gh.at_μ]; rfl)⟩
  rw [over_cons] at h1 h2 h3
  have hne : id ≠ b := fun he => by subst he; rw [hid] at hb; cases hb
  have hb' : look ((id, Ob.row (v + 1) n e []) :: ah) b = some (.box cs) := by rw [look_cons_ne _ _ hne]; exact hb
  obtain ⟨g, us, t, b1, b2, b3, b4⟩ := h1.ob b _ hb'
  have hlt : i < us.length := by rw [b4.1]; exact (List.getElem?_eq_some_iff.1 hi).1
  have hui : us[i] = .slice none 0 0 := rep_lit (b4.2 i _ us[i] hi (List.getElem?_eq_getElem hlt))
  obtain ⟨k1, k2⟩ := h1.setBox (cs' := cs.set i (.view id (v + 1) 0 0)) (w' := w) hb' b1 us us t b2 b3 ⟨by simp [b4.1], fun j d u hd hu => by
      rw [List.getElem?_set] at hd
      by_cases hj : i = j
      · subst hj
        rw [List.getElem?_eq_getElem hlt, hui] at hu
        injection hu with hu
        subst hu
        rw [if_pos rfl] at hd
        split at hd
        · injection hd with hd; subst hd; exact h3
        · cases hd
      · rw [if_neg hj] at hd; exact b4.2 j d u hd hu⟩ b2 (fun _ _ => rfl) rfl rfl rfl rfl
  rw [over_cons] at k1 k2
  exact ⟨_, k1, (hS.fr.ext h2).ext k2, hS.nt, (hS.df.ext h2).ext k2⟩
end
end Go.Proofs.Ytigodfnckjidoaa
