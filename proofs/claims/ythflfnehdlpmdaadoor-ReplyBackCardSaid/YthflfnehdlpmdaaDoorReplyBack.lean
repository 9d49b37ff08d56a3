/- The law ReplyBack, joined: an answer that is written with a length, in chunks, or to the connection's end, is heard as it was. No condition. -/
import Derived.Test.YthflfnehdlpmdaaDoorCards
import Derived.Test.YthflfnehdlpmdaaDoorTie
import Derived.Test.YthflfnehdlpmdaaDoorRpOdToRpSh
import Derived.Test.YthflfnehdlpmdaaDoorMemToGl
import Derived.Deep.DeepHandedRow
import Derived.Lib.LaidTab
namespace Go.Proofs.YthflfnehdlpmdaaDoor.replyBack
set_option linter.all false
set_option maxRecDepth 100000
open Go Go.RowKit
open Go.ChangeShapes Go.WideShapes Go.ChangeAt
open Go.ChangeMaps (open_string shut_string)
theorem walk (W : World) (hsp : Shp Tryd.prog (fun g => g < W.heap.size) W) (q : Md) (us : Array Value) (h : RepD (g0 W) W (look []) (.agg q.cs) (.agg us) ∧ q.fits) (a : Int) (wa : (Lit.int .u8 a).wf = true) : Calls Tryd.prog 6 #[.agg us, .int .u8 a] W fun e w' => e = .returned (.bool true) ∧ Below W.heap.size W w' := by
  have h1 : (decide ((0 : Int) ≤ a) && decide (a ≤ 255)) = true := wa
  rw [Bool.and_eq_true, decide_eq_true_eq, decide_eq_true_eq] at h1
  have h0 : 0 ≤ a ∧ a ≤ 255 := h1
  have e1 : a = ((UInt8.ofNat a.toNat).toNat : Int) := by
    have : (UInt8.ofNat a.toNat).toNat = a.toNat := by simp; omega
    rw [this, Int.toNat_of_nonneg h0.1]
  rw [e1]
  refine ((con_ReplyBack (st := q.st) (body := q.body) (cuts := q.cuts) (how := UInt8.ofNat a.toNat) (by have := h.2.1; unfold maxLen; omega) (by have := h.2.2; unfold maxLen; omega)).calls W [.agg us, .int .u8 ((UInt8.ofNat a.toNat).toNat : Int)] (.cons h.1 (.cons (mk_int _ _) .nil)) hsp).mono fun e w' ⟨v, Z, he, hr, hb⟩ => ?_
  obtain rfl := rep_bool hr
  exact ⟨he, hb⟩
def firstCells : Array Value := (Go.Pinned.utf8FirstZ.map fun (n : Nat) => Value.int .u8 (n : Int)).toArray
def rangeCells : Array Value := (([128, 191, 160, 191, 128, 159, 144, 191, 128, 143] ++ List.replicate 22 0 : List Int).map (Value.int .u8)).toArray
theorem contract (H : Type) (enc : TypeId × Value → H) (W : World) (base : Nat) (args : Array Value) (ds gs : List (DataW H)) (before : List MemPlace)
    (hval : ∀ (j : Nat) t v, Tryd.f6.params[j]? = some t → args[j]? = some v → Value.okWide Tryd.prog W .any base t v)
    (hsz : (DataW.weightsEach Tryd.prog (Tryd.f6.params.toList ++ Rows.replyBackSpec.plain.varTypes Tryd.prog) (ds ++ gs)).all (· ≤ reachBytes) = true)
    (hW : DataW.Whole enc Tryd.prog Tryd.f6.params.toList Rows.replyBackSpec.vars false W args.toList ds gs before) (hsp : Shp Tryd.prog (fun g => g < W.heap.size) W) :
    Calls Tryd.prog 6 args W fun e W' => ∃ v, e = .returned v ∧ Rows.replyBackSpec.post enc Tryd.prog Tryd.f6 false true false false W args v W' := by
  have hW' := hW
  obtain ⟨p, q, hA0, hV, rfl, _, _⟩ := hW
  have hA : DataW.TrodAll enc Tryd.prog W 0 (fun _ => true) true Tryd.f6.params.toList args.toList ds p := hA0
  rw [Tryd.params6] at hA hval hsz
  obtain ⟨v0, vs0, d0, ds0, p0, q0, hargs, rfl, rfl, h0, r0⟩ := trodAll_cons hA
  obtain ⟨v1, vs1, d1, ds1, p1, q1, rfl, rfl, rfl, h1, r1⟩ := trodAll_cons r0
  obtain ⟨rfl, rfl, rfl⟩ := trodAll_nil r1
  obtain rfl : args = #[v0, v1] := by cases args; simp_all
  obtain ⟨rfl, rfl⟩ := trodVars_none hV
  have k0 := h0
  have lt0 : ∀ x ∈ p0, x.block < W.heap.size := by obtain ⟨m, hm⟩ := k0; exact DataW.trod_lt m _ _ _ hm
  have z0 : ∀ n ∈ DataW.weights Tryd.prog 45 d0, n ≤ reachBytes := fun n hn => by simpa using List.all_eq_true.1 hsz _ (DataW.weights_mem_each (j := 0) (t := 45) rfl rfl n hn)
  obtain ⟨a0_0, a0_1, rfl, w0⟩ := open_made Tryd.underlying45  (hval 0 45 v0 rfl rfl) h0 z0
  obtain ⟨a1, rfl, rfl, rfl, w1⟩ := open_int Tryd.underlying5 (hval 1 5 v1 rfl rfl) h1
  clear hA0
  refine (walk W hsp a0_0 a0_1 w0 a1 w1).mono fun e W' ⟨he, bel⟩ => ?_
  subst he
  exact ⟨_, rfl, _, _, _, [], _, [], hW', trodAll_mk1 (shut_bool Tryd.underlying4 _), (trodAll_cons_mk (Below.trod laidOut (by kernel_rfl) (of_decide_eq_true (by kernel_rfl)) k0 bel lt0) (trodAll_cons_mk (shut_int Tryd.underlying5 w1) trodAll_mk0)), rfl, bel.frame _, fun h => by cases h⟩
noncomputable def laidWorld (os : Os) : World := { World.holding Tryd.prog os ⟨#[], #[], []⟩ with heap := (((World.holding Tryd.prog os ⟨#[], #[], []⟩).heap.modify 1 fun | .cells _ t frozen => .cells (firstCells) t frozen | o => o).modify 2 fun | .cells _ t frozen => .cells (rangeCells) t frozen | o => o) }
theorem laid_met (os : Os) : laidMet Tryd.prog Rows.replyBackRow.laid ((laidWorld os).forCall (fun _ _ => 0) ⟨#[], #[Value.agg #[.int .i64 0,.string ByteArray.empty,.slice none 0 0], Value.int .u8 0], []⟩).memory := laidMet_of_run' 8 (by kernel_rfl) (by kernel_rfl)
theorem reads (os : Os) {H : Type} (enc : TypeId × Value → H) : ∃ places, DataW.whole enc Tryd.prog ((laidWorld os).forCall (fun _ _ => 0) ⟨#[], #[Value.agg #[.int .i64 0,.string ByteArray.empty,.slice none 0 0], Value.int .u8 0], []⟩).memory Tryd.f6.params.toList Rows.replyBackSpec.vars false #[Value.agg #[.int .i64 0,.string ByteArray.empty,.slice none 0 0], Value.int .u8 0].toList 8 = some ([.agg [.lit (.int .i64 0),.lit (.string []),.nil], .lit (.int .u8 0)], [], places) := ⟨[], by kernel_rfl⟩
set_option maxRecDepth 100000 in
theorem lifted (os : Os) (started : os.Started) (H : Type) (enc : TypeId × Value → H) (F : Stop.Interp) :
    ReturnsInHanded {} Tryd.checked os 6 .any ((OpenSpec.ofChange Rows.replyBackSpec).preRow enc Tryd.prog Tryd.f6 Rows.replyBackRow.domain false Rows.replyBackRow.laid) (((OpenSpec.ofChange Rows.replyBackSpec).at F).post enc Tryd.prog Tryd.f6 false true false false) := by
  obtain ⟨places, hx⟩ := reads os enc
  refine returnsInHanded_of_row (C := Tryd.checked) (s := OpenSpec.ofChange Rows.replyBackSpec) own started (by kernel_rfl) Tryd.func6
    (witness_row_at (enc := enc) (C := Tryd.checked) false (laidWorld os) #[Value.agg #[.int .i64 0,.string ByteArray.empty,.slice none 0 0], Value.int .u8 0] rfl (by kernel_rfl) (by kernel_rfl) (by kernel_rfl)
      (OpenSpec.preRow_of_cond 8 hx (by kernel_rfl) (fun k hk => by cases hk) (by kernel_rfl) (laid_met os))) ?_
  intro W base args ds gs before hval hW _ _ hsz hL hS _
  exact contract H enc W base args ds gs before hval hsz hW (shp_of hL hS)
theorem said : Rows.ReplyBackSaid :=
  OpenClaim.holds_of_cond 6 Tryd.f6 rfl rfl rfl rfl rfl rfl rfl ⟨rfl, rfl, rfl, rfl, rfl⟩ rfl rfl rfl rfl rfl (by kernel_rfl) Tryd.func6 (by kernel_rfl)
    (of_decide_eq_true (by kernel_rfl)) (by unfold Func.isWrapper; first | (rw [if_pos (by decide +kernel)]; kernel_rfl) | (rw [if_neg (by decide +kernel)]; exact ⟨rfl, rfl⟩))
    (fun os started H enc _ F => by rw [OpenClaim.pre_eq_preRow]; exact lifted os started H enc F)
theorem plain (f : FuncId) (fn : Func) (hf : Tryd.pinned.checked.prog.funcNamed (Rows.replyBackRow.func) = some f) (hfn : Tryd.pinned.checked.prog.funcs[f]? = some fn) :
    true = Tryd.pinned.checked.prog.looks [] ∧ ∀ (j : Nat) t, fn.params[j]? = some t → Tryd.pinned.checked.prog.wantsStandIn t = false := by
  obtain rfl : f = 6 := Option.some.inj ((show Tryd.prog.funcNamed (Rows.replyBackRow.func) = some 6 by kernel_rfl).symm.trans hf) |>.symm
  obtain rfl : fn = Tryd.f6 := (Option.some.inj (Tryd.func6.symm.trans hfn)).symm
  refine ⟨by kernel_rfl, fun j t ht => ?_⟩
  rw [Tryd.params6] at ht
  have ht2 := Array.mem_of_getElem? ht
  have ht3 : t = 45 ∨ t = 5 := by simpa using ht2
  rcases ht3 with rfl | rfl
  · exact (show Tryd.prog.wantsStandIn 45 = false by kernel_rfl)
  · exact (show Tryd.prog.wantsStandIn 5 = false by kernel_rfl)
theorem proved : Rows.ReplyBackCardSaid :=
  Claim7.holds_tied_plain_at .later [] _ _ _ _ said (fun _ h => by cases h) (by kernel_rfl) (fun _ h => by cases h) replyBack_row_tie rfl ⟨rfl, rfl⟩ (by kernel_rfl) rfl plain (by kernel_rfl)
#print axioms proved
end Go.Proofs.YthflfnehdlpmdaaDoor.replyBack
