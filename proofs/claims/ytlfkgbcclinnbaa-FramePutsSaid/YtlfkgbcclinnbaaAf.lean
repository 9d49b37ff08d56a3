/- Abstract states: more operations. No program, no condition. -/
import Derived.Test.YtlfkgbcclinnbaaAe
import Derived.Test.YtlfkgbcclinnbaaAg
import Derived.Laws.Small
import Derived.Lib.AppendStr
namespace Go.Proofs.Ytlfkgbcclinnbaa
set_option linter.all false
open Go Go.RowKit
theorem i64_wrap {n : Int} (h : -9223372036854775808 ≤ n) (k : n ≤ 9223372036854775807) : IntKind.i64.wrap n = n := IntWalk.i64_in n ⟨h, k⟩
theorem u8_wrap {n : Int} (h : 0 ≤ n) (k : n ≤ 255) : IntKind.u8.wrap n = n := IntWalk.u8_in n ⟨h, k⟩
theorem u16_wrap {n : Int} (h : 0 ≤ n) (k : n ≤ 65535) : IntKind.u16.wrap n = n := IntWalk.u16_in n ⟨h, k⟩
theorem u32_wrap {n : Int} (h : 0 ≤ n) (k : n ≤ 4294967295) : IntKind.u32.wrap n = n := IntWalk.u32_in n ⟨h, k⟩
theorem wrap_byte (b : UInt8) : IntKind.i64.wrap (b.toNat : Int) = (b.toNat : Int) := by
  have := b.toNat_lt
  exact i64_wrap (by omega) (by omega)
/-- Bytes as a slice's elements. -/
def bs (l : List UInt8) : List (List V) := l.map fun b => [V.int .u8 (b.toNat : Int)]
@[simp] theorem bs_length (l : List UInt8) : (bs l).length = l.length := by simp [bs]
theorem bs_get {l : List UInt8} {i : Nat} {b : UInt8} (h : l[i]? = some b) : (bs l)[i]? = some [V.int .u8 (b.toNat : Int)] := by simp [bs, h]
theorem bs_one (l : List UInt8) : ∀ e ∈ bs l, e.length = 1 := by intro e he; obtain ⟨b, _, rfl⟩ := List.mem_map.1 he; rfl
theorem bs_cut (lo hi : Nat) (l : List UInt8) : cut lo hi (bs l) = bs ((l.drop lo).take (hi - lo)) := by simp [cut, bs, List.map_take, List.map_drop]
theorem bs_append (a b : List UInt8) : bs a ++ bs b = bs (a ++ b) := by simp [bs]
section
variable {f : Nat → D} {x : Operand}
theorem ev_condT {b : Bool} {d : D} (h : Ev f x (.cond (b == true) d)) (hb : b = true) : Ev f x d := ev_cond h (by rw [hb]; rfl)
theorem ev_condF {b : Bool} {d : D} (h : Ev f x (.cond (b == false) d)) (hb : b = false) : Ev f x d := ev_cond h (by rw [hb]; rfl)
theorem ev_nilB (h : Ev f x (.v (.lit (.slice none 0 0)))) : Ev f x (.v (.sl (bs []))) := ev_nil h
end
section
variable {X : Cx} {o : Oper} {f : Nat → D} {m : Mem} {d : D} {T : List Nat}
theorem stepU_not {t : TypeId} {x : Operand} {b : Bool} (ho : o.op = .unOp .not t x) (hx : Ev f x (.v (.bool b))) : StepU X o f m (.v (.bool (!b))) [] [] :=
  stepU_pure fun f' m' hf _ G w a _ hF => by
    have h := rep_bool (ev_at hx (by simp [ho, Op.operands]) hf hF)
    exact ⟨_, by simp [execOp, ho, h, Op.unary], mk_bool _⟩
theorem stepU_neg {t : TypeId} {x : Operand} {k : IntKind} {p r : Int} (ho : o.op = .unOp .neg t x) (hx : Ev f x (.v (.int k p))) (hr : k.wrap (0 - p) = r) : StepU X o f m (.v (.int k r)) [] [] :=
  stepU_pure fun f' m' hf _ G w a _ hF => by
    have h := rep_int (ev_at hx (by simp [ho, Op.operands]) hf hF)
    refine ⟨.int k r, ?_, mk_int _ _⟩
    simp only [execOp, ho, h, Op.unary, Op.intArith, Sem.run_bind, Sem.run_pure, Result.andThen_ok, hr]
theorem stepU_shl {t t' : TypeId} {x y : Operand} {k k' : IntKind} {p q r : Int} (ho : o.op = .binOp .shl t x y t') (hx : Ev f x (.v (.int k p))) (hy : Ev f y (.v (.int k' q))) (h0 : 0 ≤ q) (hr : k.wrap (p * 2 ^ (min q.toNat k.bits)) = r) : StepU X o f m (.v (.int k r)) [] [] :=
  stepU_pure fun f' m' hf _ G w a _ hF => by
    have h1 := rep_int (ev_at hx (by simp [ho, Op.operands]) hf hF)
    have h2 := rep_int (ev_at hy (by simp [ho, Op.operands]) hf hF)
    refine ⟨.int k r, ?_, mk_int _ _⟩
    simp only [execOp, ho, h1, h2, Sem.run_bind, eqGuard_int, Result.andThen_ok, binOp, Op.shift, Sem.run_pure, hr]
    rw [if_neg (by omega)]; simp [hr]
theorem stepU_shr {t t' : TypeId} {x y : Operand} {k k' : IntKind} {p q r : Int} (ho : o.op = .binOp .shr t x y t') (hx : Ev f x (.v (.int k p))) (hy : Ev f y (.v (.int k' q))) (h0 : 0 ≤ q) (hr : p.fdiv (2 ^ (min q.toNat k.bits)) = r) : StepU X o f m (.v (.int k r)) [] [] :=
  stepU_pure fun f' m' hf _ G w a _ hF => by
    have h1 := rep_int (ev_at hx (by simp [ho, Op.operands]) hf hF)
    have h2 := rep_int (ev_at hy (by simp [ho, Op.operands]) hf hF)
    refine ⟨.int k r, ?_, mk_int _ _⟩
    simp only [execOp, ho, h1, h2, Sem.run_bind, eqGuard_int, Result.andThen_ok, binOp, Op.shift, Sem.run_pure, hr]
    rw [if_neg (by omega)]; simp [hr]
theorem stepU_extract {x : Operand} {i : Nat} {ds : List D} (ho : o.op = .extract x i) (hx : Ev f x (.tup ds)) (hd : ds[i]? = some d) : StepU X o f m d [] [] :=
  stepU_pure fun f' m' hf _ G w a _ hF => by
    have h := ev_at hx (by simp [ho, Op.operands]) hf hF
    generalize hu : a.eval x = u at h
    cases h with
    | tup _ us hl h =>
      have hi : i < us.length := by rw [hl]; exact (List.getElem?_eq_some_iff.1 hd).1
      exact ⟨us[i], by simp [execOp, ho, hu, Instr.extract, hi], h i d _ hd (List.getElem?_eq_getElem hi)⟩
theorem stepU_conv {s t : TypeId} {x : Operand} {k k' : IntKind} {p r : Int} (ho : o.op = .convert s t x) (ht : X.P.underlying t = some (.int k')) (hs : ∃ ds, X.P.underlying s = some ds) (hx : Ev f x (.v (.int k p))) (hr : k'.wrap p = r) : StepU X o f m (.v (.int k' r)) [] [] :=
  stepU_pure fun f' m' hf _ G w a _ hF => by
    have h := rep_int (ev_at hx (by simp [ho, Op.operands]) hf hF)
    obtain ⟨ds, hs⟩ := hs
    refine ⟨.int k' r, ?_, mk_int _ _⟩
    simp only [execOp, ho, h, convert, Sem.run_bind, run_underlying hs, run_underlying ht, Result.andThen_ok, Conv.intToInt, Sem.run_pure, hr]
theorem stepU_convSS {s t : TypeId} {x : Operand} {l : List UInt8} (ho : o.op = .convert s t x) (hs : X.P.underlying s = some .string) (ht : X.P.underlying t = some .string) (hx : Ev f x (.v (.str l))) : StepU X o f m (.v (.str l)) [] [] :=
  stepU_pure fun f' m' hf _ G w a _ hF => by
    have h := rep_str (ev_at hx (by simp [ho, Op.operands]) hf hF)
    refine ⟨_, ?_, mk_str l⟩
    simp only [execOp, ho, h, convert, Sem.run_bind, run_underlying hs, run_underlying ht, Result.andThen_ok, Sem.run_pure]
/-- string(b) -/
theorem stepU_convS {s t e : TypeId} {x : Operand} {l : List UInt8} (ho : o.op = .convert s t x) (hs : X.P.underlying s = some (.slice e)) (he : X.P.underlying e = some (.int .u8)) (ht : X.P.underlying t = some .string) (hx : Ev f x (.v (.sl (bs l)))) : StepU X o f m (.v (.str l)) [] [] :=
  stepU_pure fun f' m' hf _ G w a _ hF => by
    have h := rep_sl (ev_at hx (by simp [ho, Op.operands]) hf hF)
    generalize hu : a.eval x = u at h
    refine ⟨.string (S l), ?_, mk_str l⟩
    have key : (convert s t u).run X.P w = .ok (.string (S l)) w := by
      generalize hc : bs l = c at h
      cases h with
      | nil A cap hm =>
        have : l = [] := by cases l <;> simp [bs] at hc ⊢
        subst this
        rcases A with _ | A
        · exact run_convert_bytes_nil w s e hs he 0 cap t ht
        · rw [run_convert_bytes_string w s t e _ _ cap hs he ht]
          exact run_bytesToString w A 0 cap [] (by simpa using run_loadCells_list (P := X.P) w A [] (fun j v hj => by simp at hj))
      | sl _ g q n cap us hne hz hn hss hcap hm hcc hr =>
        subst hc
        have hn1 : n = 1 := by rw [← hss _ (List.getElem_mem hne)]; exact bs_one l _ (List.getElem_mem hne)
        subst hn1
        have hcell : ∀ i, i < l.length → w.cell? ⟨g, q + i, none⟩ = some (.int .u8 ((l.map fun b => (b.toNat : Int)).getD i 0)) := fun i hi => by
          have he0 : elem? (bs l) i 0 = some (.int .u8 (l[i].toNat : Int)) := by simp [elem?, bs, hi]
          have h1 := hcc i 0 _ he0
          have h2 := hr i 0 _ he0
          generalize us i 0 = v at h1 h2
          cases h2
          rw [Nat.mul_one, Nat.add_zero] at h1
          rw [h1]; simp [hi]
        have := run_convert_bytes_arg w s e hs he g q l.length cap (l.map fun b => (b.toNat : Int)) (by simp) hcell t ht
        rw [bs_length, this]
        simp [strOfNums, S, Function.comp_def]
    simp only [execOp, ho, hu, Sem.run_bind, key, Result.andThen_ok, Sem.run_pure]
/-- a + b of texts -/
theorem stepU_addS {t t' : TypeId} {x y : Operand} {l r : List UInt8} (ho : o.op = .binOp .add t x y t') (hx : Ev f x (.v (.str l))) (hy : Ev f y (.v (.str r))) (hn : l.length + r.length ≤ 9223372036854775807) : StepU X o f m (.v (.str (l ++ r))) [] [] :=
  stepU_pure fun f' m' hf _ G w a _ hF => by
    have h1 := rep_str (ev_at hx (by simp [ho, Op.operands]) hf hF)
    have h2 := rep_str (ev_at hy (by simp [ho, Op.operands]) hf hF)
    refine ⟨.string (S (l ++ r)), ?_, mk_str _⟩
    have h3 : S l ++ S r = S (l ++ r) := by apply ba_ext; simp [ByteArray.toList_eq, S]
    simp only [execOp, ho, h1, h2, Sem.run_bind, eqGuard_str, Result.andThen_ok, binOp, run_string_add_sum w (S l) (S r) (by rw [S_size, S_size]; exact hn), h3, Sem.run_pure]
theorem stepU_eqlS {t t' : TypeId} {x y : Operand} {l r : List UInt8} (ho : o.op = .binOp .eql t x y t') (hx : Ev f x (.v (.str l))) (hy : Ev f y (.v (.str r))) : StepU X o f m (.v (.bool (l == r))) [] [] :=
  stepU_pure fun f' m' hf _ G w a _ hF => by
    have h1 := rep_str (ev_at hx (by simp [ho, Op.operands]) hf hF)
    have h2 := rep_str (ev_at hy (by simp [ho, Op.operands]) hf hF)
    refine ⟨_, ?_, mk_bool _⟩
    simp only [execOp, ho, h1, h2, Sem.run_bind, eqGuard_str, Result.andThen_ok, binOp, Op.stringOp, S_toList, Sem.run_pure]
theorem stepU_neqS {t t' : TypeId} {x y : Operand} {l r : List UInt8} (ho : o.op = .binOp .neq t x y t') (hx : Ev f x (.v (.str l))) (hy : Ev f y (.v (.str r))) : StepU X o f m (.v (.bool (!(l == r)))) [] [] :=
  stepU_pure fun f' m' hf _ G w a _ hF => by
    have h1 := rep_str (ev_at hx (by simp [ho, Op.operands]) hf hF)
    have h2 := rep_str (ev_at hy (by simp [ho, Op.operands]) hf hF)
    refine ⟨_, ?_, mk_bool _⟩
    simp only [execOp, ho, h1, h2, Sem.run_bind, eqGuard_str, Result.andThen_ok, binOp, Op.stringOp, S_toList, Sem.run_pure]
theorem stepU_eqlB {t t' : TypeId} {x y : Operand} {l r : Bool} (ho : o.op = .binOp .eql t x y t') (ht : X.P.underlying t = some .bool) (hx : Ev f x (.v (.bool l))) (hy : Ev f y (.v (.bool r))) : StepU X o f m (.v (.bool (l == r))) [] [] :=
  stepU_pure fun f' m' hf _ G w a _ hF => by
    have h1 := rep_bool (ev_at hx (by simp [ho, Op.operands]) hf hF)
    have h2 := rep_bool (ev_at hy (by simp [ho, Op.operands]) hf hF)
    refine ⟨_, ?_, mk_bool _⟩
    simp only [execOp, ho, h1, h2, Sem.run_bind, eqGuard_bool, Result.andThen_ok, run_eql_bool w t l r ht, Sem.run_pure]
theorem stepU_neqB {t t' : TypeId} {x y : Operand} {l r : Bool} (ho : o.op = .binOp .neq t x y t') (ht : X.P.underlying t = some .bool) (hx : Ev f x (.v (.bool l))) (hy : Ev f y (.v (.bool r))) : StepU X o f m (.v (.bool (!(l == r)))) [] [] :=
  stepU_pure fun f' m' hf _ G w a _ hF => by
    have h1 := rep_bool (ev_at hx (by simp [ho, Op.operands]) hf hF)
    have h2 := rep_bool (ev_at hy (by simp [ho, Op.operands]) hf hF)
    refine ⟨_, ?_, mk_bool _⟩
    simp only [execOp, ho, h1, h2, Sem.run_bind, eqGuard_bool, Result.andThen_ok, run_neq_bool w t l r ht, Sem.run_pure]
/-- s[lo:hi] of a text -/
theorem stepU_sliceS {x : Operand} {lo hi : Option Operand} {t : TypeId} {l : List UInt8} {i j : Option Nat} (ho : o.op = .slice t x lo hi none) (ht : X.P.underlying t = some .string) (hx : Ev f x (.v (.str l))) (hlo : EvO f lo i) (hhi : EvO f hi j)
    (h1 : i.getD 0 ≤ j.getD l.length) (h2 : j.getD l.length ≤ l.length) {l' : List UInt8} (hc : (l.drop (i.getD 0)).take (j.getD l.length - i.getD 0) = l') : StepU X o f m (.v (.str l')) [] [] :=
  stepU_pure fun f' m' hf _ G w a _ hF => by
    subst hc
    have hr := rep_str (ev_at hx (by simp [ho, Op.operands]) hf hF)
    obtain ⟨k1, e1⟩ := hlo.at hF (fun t ht => hf t (by subst ht; simp [ho, Op.operands]))
    obtain ⟨k2, e2⟩ := hhi.at hF (fun t ht => hf t (by subst ht; simp [ho, Op.operands]))
    refine ⟨_, ?_, mk_str _⟩
    have hb := run_bounds (P := X.P) (w := w) false (S l).size (S l).size i j k1 k2 (by rw [S_size]; exact h1) (by rw [S_size]; exact h2)
    have hx : (S l).extract (i.getD 0) (j.getD (S l).size) = S ((l.drop (i.getD 0)).take (j.getD l.length - i.getD 0)) := by
      apply ba_ext
      rw [S_size, S_toList, ByteArray.toList_eq]
      simp [S, List.extract_eq_drop_take]
    simp only [execOp, ho, hr, e1, e2, Instr.sliceAt, Sem.run_bind, run_underlying ht, Result.andThen_ok, Instr.slice, Option.map_none, Option.isSome_none, Bool.false_eq_true, if_false, hb, hx, Sem.run_pure]
end
end Go.Proofs.Ytlfkgbcclinnbaa
