/- Chapter 14: bytes.ContainsAny at a carriage return and a line feed. No condition but on lengths. -/
import Derived.Test.YtnjbfiejgiaibaaGreatDoorBeToSkA
import Derived.Test.YtnjbfiejgiaibaaGreatDoorBi
import Derived.Lib.Bytealg
import Derived.Test.YtnjbfiejgiaibaaGreatDoorFa
namespace Go.Proofs.YtnjbfiejgiaibaaGreatDoor
set_option linter.all false
open Go Go.RowKit
set_option maxRecDepth 10000
theorem run_IBS (s : ByteArray) (c : Int) (w : World) : (callFunc 95 #[.string s, .int .u8 c]).run Tryz.prog w = .ok (.value (.int .i64 (Lib.indexByte s.data.toList c.toNat.toUInt8))) w := by
  rw [run_callFunc_extern Tryz.func95 (by kernel_rfl) (by kernel_rfl) (by kernel_rfl) (e := Extern.BytealgIndexByte.indexByte) (by kernel_rfl), Lib.run_indexByteString]
  rfl
section
variable {X : Cx} {o : Oper} {f : Nat → D} {m : Mem}
theorem stepU_IBS {x y : Operand} {tys : Array TypeId} {l : List UInt8} {c : Int} (hP : X.P = Tryz.prog) (ho : o.op = .call { callee := .value (.func 95), args := #[x, y], argTypes := tys }) (hx : Ev f x (.v (.str l))) (hy : Ev f y (.v (.int .u8 c))) : StepU X o f m (.v (.int .i64 (Lib.indexByte l c.toNat.toUInt8))) [] [] :=
  stepU_pure fun f' m' hf _ G w a _ hF => by
    have h1 := rep_str (ev_at hx (by simp [ho, Op.operands, Call.operands]) hf hF)
    have h2 := rep_int (ev_at hy (by simp [ho, Op.operands, Call.operands]) hf hF)
    have hr := run_IBS (S l) c w
    refine ⟨.int .i64 (Lib.indexByte l c.toNat.toUInt8), ?_, mk_int _ _⟩
    rw [hP]
    have h9 : (execOp a.eval o).run Tryz.prog w = (callFunc 95 ((#[x, y] : Array Operand).map a.eval)).run Tryz.prog w := by
      simp [execOp, ho, resolve, Act.eval, Deferred.ofValue, invoke]
    have h10 : (#[x, y] : Array Operand).map a.eval = #[.string (S l), .int .u8 c] := by simp [h1, h2]
    rw [h10] at h9
    rw [h9, hr]
    rfl
end
theorem con_DecodeRune {l : List UInt8} (hl : l ≠ []) : Con Tryz.prog 100 [.v (.sl (bs l))] [] 0 (.ret (.tup [.v (.int .i32 ((Lib.decodeGo (S l)).1 : Nat)), .v (.int .i64 ((Lib.decodeGo (S l)).2 : Nat))])) [] :=
  con_pureS fun K G w us hsh hlow hA => by
    match us, hA.1 with
    | [u], _ =>
      obtain ⟨A, c, rfl, k1, k2, k3⟩ := rd_of (rep_sl (hA.2 0 _ u rfl rfl)) hlow
      rcases k3 with h | ⟨g, o, rfl, _, k4⟩
      · exact absurd h hl
      have hsz : (S l).size = l.length := S_size l
      have hc := Any7.utf8_DecodeRune Tryz.lays32 (S l) g o c w hsh.2.2 (fun j hj => by
        have hj' : j < l.length := by rw [← hsz]; exact hj
        rw [k4 j hj']
        have : (S l).get! j = l[j] := by simp [S, ByteArray.get!, getElem!_pos, hj']
        rw [this])
      rw [hsz] at hc
      refine (show Calls Tryz.prog 100 [Value.slice (some ⟨g, o, none⟩) l.length c].toArray w _ from hc).mono fun e w' ⟨he, hb⟩ => ?_
      exact ⟨_, he, fun m => .tup _ [_, _] rfl (RepDs.cons (mk_int _ _) (.cons (mk_int _ _) .nil)).2, hb⟩
end Go.Proofs.YtnjbfiejgiaibaaGreatDoor

/- Chapter 14: the set of bytes that bytes.IndexAny makes. No condition. -/
namespace Go.Proofs.YtnjbfiejgiaibaaGreatDoor
set_option linter.all false
open Go Go.RowKit
set_option maxRecDepth 10000
set_option maxHeartbeats 4000000
theorem con_shouldUse {n : Int} : Con Tryz.prog 97 [.v (.int .i64 n)] [] 0 (.ret (.v (.bool (decide (n > 8))))) [] := by
  refine con_of Tryz.func97 rfl (by show _ ≤ 5; simp) fun X Q hP hnt hnp hret hpan => ?_
  obtain ⟨P0, nt0, w0, K0, S0, np0, pin0, df0⟩ := X
  simp only at hP hnt hnp
  subst hP hnp
  obtain rfl : nt0 = 5 := hnt
  refine aw_region fun K1 hK1 => ?_
  refine aL z_assign ?_
  refine awl_nil (hK1 _ _ ?_)
  clear hK1 K1
  refine aw_region fun K2 hK2 => ?_
  refine aL z_move ?_
  refine aL z_gtr ?_
  refine aL z_assign ?_
  refine awl_nil (hK2 _ _ ?_)
  clear hK2 K2
  refine aw_ret ?_
  refine (hret _ _ _ _ _ rfl (.tmp rfl .nil) rfl ?_ .nil rfl).1
  rfl
/-- The set's cells. -/
def asM (l : List UInt8) : List D := (List.range 256).map fun i => .v (.bool (l.any fun c => c.toNat == i))
theorem asM_len (l : List UInt8) : (asM l).length = 256 := by simp [asM]
theorem asM_at (l : List UInt8) (c : UInt8) : (asM l)[c.toNat]? = some (.v (.bool (l.contains c))) := by
  unfold asM
  have := c.toNat_lt
  rw [List.getElem?_map, List.getElem?_range (by omega)]
  simp only [Option.map_some]
  congr 3
  rw [Bool.eq_iff_iff, List.any_eq_true, List.contains_iff_mem]
  constructor
  · rintro ⟨d, h1, h2⟩
    have : d = c := UInt8.toNat_inj.1 (by simpa using h2)
    exact this ▸ h1
  · intro h; exact ⟨c, h, by simp⟩
theorem asM_rd (l : List UInt8) (c : UInt8) : rd false (((asM l).drop (0 + c.toNat * 1)).take 1) = .v (.bool (l.contains c)) := by
  have h := asM_at l c
  rw [Nat.zero_add, Nat.mul_one]
  have e : ((asM l).drop c.toNat).head? = some (.v (.bool (l.contains c))) := by rw [List.head?_drop]; exact h
  show (((asM l).drop c.toNat).take 1).headD .any = _
  cases hd : (asM l).drop c.toNat with
  | nil => rw [hd] at e; cases e
  | cons x r => rw [hd] at e; injection e
theorem con_contains {l : List UInt8} {c : UInt8} : Con Tryz.prog 99 [.ptr 0 0, .v (.int .u8 (c.toNat : Int))] [(0, .box (asM l))] 1 (.ret (.v (.bool (l.contains c)))) [(0, .box (asM l))] := by
  have hcl := c.toNat_lt
  have hal := asM_len l
  refine con_of Tryz.func99 rfl (by show _ ≤ 10; simp) fun X Q hP hnt hnp hret hpan => ?_
  obtain ⟨P0, nt0, w0, K0, S0, np0, pin0, df0⟩ := X
  simp only at hP hnt hnp
  subst hP hnp
  obtain rfl : nt0 = 10 := hnt
  refine aw_region fun K1 hK1 => ?_
  refine aL z_assign ?_
  refine awl_nil (hK1 _ _ ?_)
  clear hK1 K1
  refine aw_region fun K2 hK2 => ?_
  refine aL z_move ?_
  refine aL z_move ?_
  refine aL z_nilCheck ?_
  refine aL (z_indexAddrA _ Tryz.underlying123 sz_4) ?_
  refine aL (z_load sz_4 (d := .v (.bool (l.contains c))) (hn := ⟨.inr rfl, by rw [asM_len]; omega⟩) (hd := asM_rd l c)) ?_
  refine aL z_assign ?_
  refine awl_nil (hK2 _ _ ?_)
  clear hK2 K2
  refine aw_ret ?_
  refine (hret _ _ _ _ _ rfl (.tmp rfl .nil) rfl ?_ (.box rfl rfl .nil) rfl).1
  rfl
end Go.Proofs.YtnjbfiejgiaibaaGreatDoor

/- Chapter 14: makeASCIISet at a carriage return and a line feed. No condition. -/
namespace Go.Proofs.YtnjbfiejgiaibaaGreatDoor
set_option linter.all false
open Go Go.RowKit
set_option maxRecDepth 10000
set_option maxHeartbeats 4000000
theorem asM_nil : asM [] = List.replicate 256 (.v (.bool false)) := by
  unfold asM
  rw [List.eq_replicate_iff]
  refine ⟨by simp, fun b hb => ?_⟩
  obtain ⟨i, _, rfl⟩ := List.mem_map.1 hb
  rfl
theorem zc_123 : zeroCs Tryz.prog 123 = some (List.replicate 256 (.bool false)) := by kernel_rfl
theorem lits_rep : ∀ n, Lits (List.replicate n (.bool false)) (List.replicate n (.v (.bool false)))
  | 0 => .nil
  | n + 1 => .bool _ (lits_rep n)
theorem zl_123 : Lits (List.replicate 256 (.bool false)) (asM []) := by rw [asM_nil]; exact lits_rep 256
theorem asM_put (l : List UInt8) (c : UInt8) : splice (asM l) (0 + c.toNat * 1) [.v (.bool true)] = asM (l ++ [c]) := by
  rw [Nat.zero_add, Nat.mul_one]
  have hc := c.toNat_lt
  have hl := asM_len l
  refine List.ext_getElem? fun i => ?_
  unfold splice
  rcases Nat.lt_trichotomy i c.toNat with h | h | h
  · rw [List.append_assoc, List.getElem?_append_left (by rw [List.length_take]; omega), List.getElem?_take_of_lt h]
    unfold asM
    rw [List.getElem?_map, List.getElem?_map, List.getElem?_range (by omega)]
    simp only [Option.map_some, List.any_append, List.any_cons, List.any_nil, Bool.or_false]
    rw [show (c.toNat == i) = false from by simp; omega, Bool.or_false]
  · subst h
    rw [List.append_assoc, List.getElem?_append_right (by rw [List.length_take]; omega), List.length_take, Nat.min_eq_left (by omega), Nat.sub_self, asM_at]
    simp
  · rw [List.getElem?_append_right (by simp; omega), List.getElem?_drop]
    simp only [List.length_append, List.length_take, List.length_cons, List.length_nil]
    rw [Nat.min_eq_left (by omega), show c.toNat + (0 + 1) + (i - (c.toNat + (0 + 1))) = i by omega]
    unfold asM
    rw [List.getElem?_map, List.getElem?_map]
    rcases Nat.lt_or_ge i 256 with h9 | h9
    · rw [List.getElem?_range h9]
      simp only [Option.map_some, List.any_append, List.any_cons, List.any_nil, Bool.or_false]
      rw [show (c.toNat == i) = false from by simp; omega, Bool.or_false]
    · rw [List.getElem?_eq_none (by simpa using h9)]; rfl
theorem asM_cut (l : List UInt8) : List.take 256 (List.take 256 (asM l) ++ List.drop (List.take 256 (asM l)).length (asM l)) = asM l := by
  have h : List.take 256 (asM l) = asM l := List.take_of_length_le (by rw [asM_len]; exact Nat.le_refl _)
  rw [h, List.drop_length, List.append_nil, h]
theorem con_makeSet {s : List UInt8} (hl : s.length ≤ 1000) (hs : ∀ (i : Nat) (h : i < s.length), (s[i]).toNat < 128) : Con Tryz.prog 98 [.v (.str s)] [] 0 (.ret (.tup [.agg (asM s), .v (.bool true)])) [] := by
  refine con_of Tryz.func98 rfl (by show _ ≤ 21; simp) fun X Q hP hnt hnp hret hpan => ?_
  obtain ⟨P0, nt0, w0, K0, S0, np0, pin0, df0⟩ := X
  simp only at hP hnt hnp
  subst hP hnp
  obtain rfl : nt0 = 21 := hnt
  refine aw_region fun K1 hK1 => ?_
  refine aL (z_alloc 0 zc_123 zl_123) ?_
  refine aL z_assign ?_
  refine awl_nil (hK1 _ _ ?_)
  clear hK1 K1
  refine aw_seq fun K2 hK2 => ?_
  refine aw_region fun K3 hK3 => ?_
  refine aL z_assign ?_
  refine awl_nil (hK3 _ _ ?_)
  clear hK3 K3
  refine aw_block ?_
  refine aw_loop (α := {k : Nat // k ≤ s.length}) (fun x => ([(0, .v (.str s)), (2, .ptr 0 0), (4, .v (.int .i64 (x.1 : Int)))], [(0, .box (asM (s.take x.1)))])) (fun x => s.length - x.1) ⟨0, by omega⟩ ?_ ?_
  · dsimp only
    exact wK
  · rintro ⟨k, hk⟩ K4 hK4
    dsimp only
    refine aw_seq fun K5 hK5 => ?_
    refine aw_region fun K6 hK6 => ?_
    refine aL z_move ?_
    refine aL z_move ?_
    refine aL (z_lenS Tryz.underlying9) ?_
    refine aL z_lss ?_
    refine awl_nil (hK6 _ _ ?_)
    clear hK6 K6
    refine aC (fun r1 c1 => ?_) (fun r1 c1 => ?_)
    · refine aw_skip ?_
      refine hK5 _ _ ?_
      clear hK5
      refine aw_seq fun K7 hK7 => ?_
      refine aw_block ?_
      refine aw_region fun K8 hK8 => ?_
      have hlt : k < s.length := by omega
      have hi : s[k]? = some s[k] := List.getElem?_eq_getElem hlt
      have hsm := hs k hlt
      have htk : s.take (k + 1) = s.take k ++ [s[k]] := (by rw [List.take_add_one, hi]; rfl)
      refine aL z_move ?_
      refine aL z_move ?_
      refine aL (z_indexS Tryz.underlying9) ?_
      refine aL z_assign ?_
      refine awl_nil (hK8 _ _ ?_)
      clear hK8 K8
      refine aw_seq fun K9 hK9 => ?_
      refine aw_region fun K10 hK10 => ?_
      refine aL z_move ?_
      refine aL z_geq ?_
      refine awl_nil (hK10 _ _ ?_)
      clear hK10 K10
      refine aC (fun r2 c2 => ?_) (fun r2 c2 => ?_)
      · refine aw_region fun K11 hK11 => ?_
        first
          | refine aL (z_load sz_123) ?_
          | refine aL (z_loadRef sz_123) ?_
          | refine aL (z_loadV sz_123) ?_
        refine aL (z_store sz_123) ?_
        refine aL z_assign ?_
        refine awl_nil (hK11 _ _ ?_)
        clear hK11 K11
        refine aw_ret ?_
        refine (hret _ _ _ _ _ rfl (rCe sz_123 (.tmp rfl .nil)) rfl ?_ .nil rfl).1
        first
          | (exfalso; omega)
          | (obtain rfl : k = s.length := (by omega)
             rw [List.take_length, asM_cut]
             rfl)
      · refine aw_skip ?_
        refine hK9 _ _ ?_
        clear hK9
        refine aw_region_last ?_
        refine aL z_move ?_
        refine aL (z_indexAddrA _ Tryz.underlying123 sz_4) ?_
        refine aL (z_store sz_4 (cs' := asM (s.take k ++ [s[k]])) (hn := ⟨rfl, by rw [asM_len]; omega⟩) (hc := asM_put _ _)) ?_
        refine awl_nil ?_
        refine hK7 _ _ ?_
        clear hK7
        refine aw_region_last ?_
        refine aL z_move ?_
        refine aL z_add ?_
        refine aL z_assign ?_
        refine awl_nil ?_
        refine hK4 _ _ ⟨k + 1, by omega⟩ (by dsimp only; omega) ?_
        dsimp only
        rw [htk]
        exact wK
    · refine aw_exit ?_
      refine hK2 _ _ ?_
      clear hK2
      refine aw_region fun K12 hK12 => ?_
      first
        | refine aL (z_load sz_123) ?_
        | refine aL (z_loadRef sz_123) ?_
        | refine aL (z_loadV sz_123) ?_
      refine aL (z_store sz_123) ?_
      refine aL z_assign ?_
      refine awl_nil (hK12 _ _ ?_)
      clear hK12 K12
      refine aw_ret ?_
      refine (hret _ _ _ _ _ rfl (rCe sz_123 (.tmp rfl .nil)) rfl ?_ .nil rfl).1
      first
        | (exfalso; omega)
        | (obtain rfl : k = s.length := (by omega)
           rw [List.take_length, asM_cut]
           rfl)
end Go.Proofs.YtnjbfiejgiaibaaGreatDoor
