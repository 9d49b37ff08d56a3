/- Chapter 14: bytes.IndexAny, bytes.ContainsAny at a carriage return and a line feed. No condition but on lengths. -/
import Derived.Test.YtnjbfiejgiaibaaGreatDoorSkBToSkD
import Derived.Laws.Runes
import Derived.Lib.TrimU
namespace Go.Proofs.YtnjbfiejgiaibaaGreatDoor
set_option linter.all false
open Go Go.RowKit
set_option maxRecDepth 40000
set_option maxHeartbeats 4000000
def isNL (c : UInt8) : Bool := c == 13 || c == 10
def noNL (s : List UInt8) : Bool := !(s.any isNL)
/-- Where the first carriage return or line feed stands. -/
def ixNL (s : List UInt8) : Int := if noNL s = true then -1 else (s.findIdx isNL : Int)
theorem noNL_app (a b : List UInt8) : noNL (a ++ b) = (noNL a && noNL b) := by simp [noNL, List.any_append]
theorem noNL_succ {s : List UInt8} {i : Nat} (h : i < s.length) (ha : noNL (s.take i) = true) (hc : isNL s[i] = false) : noNL (s.take (i + 1)) = true := by
  rw [List.take_add_one, List.getElem?_eq_getElem h, noNL_app, ha]
  simp [noNL, hc]
theorem ix_at {s : List UInt8} {i : Nat} (h : i < s.length) (ha : noNL (s.take i) = true) (hc : isNL s[i] = true) : ixNL s = (i : Int) := by
  have h1 : noNL s = false := by
    unfold noNL
    rw [Bool.not_eq_false']
    exact List.any_eq_true.2 ⟨s[i], List.getElem_mem h, hc⟩
  unfold ixNL
  rw [if_neg (by rw [h1]; decide)]
  have h2 : s.findIdx isNL = i := by
    rw [List.findIdx_eq h]
    refine ⟨hc, fun j hj => ?_⟩
    unfold noNL at ha
    rw [Bool.not_eq_true'] at ha
    have h3 := List.any_eq_false.1 ha s[j] (by rw [List.mem_take_iff_getElem]; exact ⟨j, by omega, rfl⟩)
    simpa using h3
  rw [h2]
theorem ix_none {s : List UInt8} (h : noNL s = true) : ixNL s = -1 := if_pos h
theorem ix_sign (s : List UInt8) : decide (ixNL s ≥ 0) = !(noNL s) := by
  unfold ixNL
  by_cases h : noNL s = true
  · rw [if_pos h, h]; decide
  · rw [if_neg h]
    have : noNL s = false := by simpa using h
    rw [this]; simp
theorem ibs_nl (c : UInt8) : decide (Lib.indexByte [13, 10] c ≥ 0) = isNL c := by
  have h : ∀ n : Fin 256, decide (Lib.indexByte [13, 10] (UInt8.ofNat n.val) ≥ 0) = isNL (UInt8.ofNat n.val) := by decide +kernel
  have := h ⟨c.toNat, c.toNat_lt⟩
  simpa using this
theorem nl_small {c : UInt8} (h : 128 ≤ c.toNat) : isNL c = false := by
  unfold isNL
  rw [Bool.or_eq_false_iff]
  constructor
  · rw [beq_eq_false_iff_ne]; intro e; rw [e] at h; exact absurd h (by decide)
  · rw [beq_eq_false_iff_ne]; intro e; rw [e] at h; exact absurd h (by decide)
theorem cont_nl (c : UInt8) : ([13, 10] : List UInt8).contains c = isNL c := by
  unfold isNL
  rw [Bool.eq_iff_iff]
  simp
/-- What a rune of more than one byte skips. -/
theorem dec_facts {l : List UInt8} {a : UInt8} {r : List UInt8} (hl : l = a :: r) (ha : 128 ≤ a.toNat) {x w : Nat} (h : Lib.decodeGo (S l) = (x, w)) :
    128 ≤ x ∧ x ≤ 1114111 ∧ 1 ≤ w ∧ w ≤ 4 ∧ w ≤ l.length ∧ noNL (l.take w) = true ∧ (x ≠ 65533 → (Utf8.encode (x : Int)).size = w ∧ Utf8.valid (x : Int) = true) := by
  subst hl
  have hs : (S (a :: r)).size = r.length + 1 := by rw [S_size]; rfl
  have hg : ∀ j, j < r.length + 1 → (S (a :: r)).get! j = (a :: r)[j]?.getD 0 := fun j hj => by
    have hj' : j < (a :: r).length := hj
    rw [List.getElem?_eq_getElem hj']
    simp only [S, ByteArray.get!, Option.getD_some]
    rw [getElem!_pos _ _ (by simpa using hj')]
    simp
  have hd : Lib.decodeGo (S (a :: r)) = Lib.decodeN (r.length + 1) ((S (a :: r)).get! 0).toNat ((S (a :: r)).get! 1).toNat ((S (a :: r)).get! 2).toNat ((S (a :: r)).get! 3).toNat := by
    unfold Lib.decodeGo
    rw [if_neg (by rw [hs]; omega), Lib.decode_at, hs]
    rfl
  rw [hd] at h
  have h0 : (S (a :: r)).get! 0 = a := by rw [hg 0 (by omega)]; rfl
  have hb0 : ((S (a :: r)).get! 0).toNat < 256 := UInt8.toNat_lt _
  have hb : ∀ j, ((S (a :: r)).get! j).toNat < 256 := fun j => UInt8.toNat_lt _
  rw [← h0] at ha
  generalize e0 : ((S (a :: r)).get! 0).toNat = b0 at *
  generalize e1 : ((S (a :: r)).get! 1).toNat = b1 at *
  generalize e2 : ((S (a :: r)).get! 2).toNat = b2 at *
  generalize e3 : ((S (a :: r)).get! 3).toNat = b3 at *
  have k1 := hb 1; have k2 := hb 2; have k3 := hb 3
  rw [e1] at k1; rw [e2] at k2; rw [e3] at k3
  have key : 128 ≤ x ∧ x ≤ 1114111 ∧ 1 ≤ w ∧ w ≤ 4 ∧ w ≤ r.length + 1 ∧ (2 ≤ w → 128 ≤ b1) ∧ (3 ≤ w → 128 ≤ b2) ∧ (4 ≤ w → 128 ≤ b3) ∧ (x ≠ 65533 → (w = 2 ∧ x < 2048) ∨ (w = 3 ∧ 2048 ≤ x ∧ x < 65536 ∧ (x < 55296 ∨ 57344 ≤ x)) ∨ (w = 4 ∧ 65536 ≤ x)) := by
    unfold Lib.decodeN at h
    repeat' split at h
    all_goals (injection h with h1 h2; subst h1 h2; omega)
  obtain ⟨q1, q2, q3, q4, hsz, q5, q6, q7, q8⟩ := key
  refine ⟨q1, q2, q3, q4, by simpa using hsz, ?_, fun hx => ?_⟩
  · unfold noNL
    rw [Bool.not_eq_true', List.any_eq_false]
    intro c hc
    obtain ⟨j, hj, rfl⟩ := List.mem_take_iff_getElem.1 hc
    have hj1 : j < r.length + 1 := by have := hj; simp at this; omega
    have hjw : j < w := by have := hj; simp at this; omega
    have hge : (a :: r)[j] = (S (a :: r)).get! j := by rw [hg j hj1, List.getElem?_eq_getElem (by simpa using hj1)]; rfl
    rw [hge]
    have : 128 ≤ ((S (a :: r)).get! j).toNat := by
      match j, hjw with
      | 0, _ => rw [e0]; exact ha
      | 1, h => rw [e1]; exact q5 (by omega)
      | 2, h => rw [e2]; exact q6 (by omega)
      | 3, h => rw [e3]; exact q7 (by omega)
      | j + 4, h => omega
    rw [nl_small this]; simp
  · have hval : Utf8.valid (x : Int) = true := by
      unfold Utf8.valid
      rcases q8 hx with h | h | h <;> simp <;> omega
    refine ⟨?_, hval⟩
    unfold Utf8.encode
    rw [if_pos hval]
    have hx2 : (x : Int).toNat = x := by omega
    rw [hx2]
    rcases q8 hx with ⟨h1, h2⟩ | ⟨h1, h2, h3, -⟩ | ⟨h1, h2⟩
    · simp only [if_neg (show ¬ x < 128 by omega), if_pos h2]; rw [h1]; rfl
    · simp only [if_neg (show ¬ x < 128 by omega), if_neg (show ¬ x < 2048 by omega), if_pos h3]; rw [h1]; rfl
    · simp only [if_neg (show ¬ x < 128 by omega), if_neg (show ¬ x < 2048 by omega), if_neg (show ¬ x < 65536 by omega)]; rw [h1]; rfl
/-- A rune's bytes. -/
def encL (n : Int) : List UInt8 := (Utf8.encode n).data.toList
theorem S_encL (n : Int) : S (encL n) = Utf8.encode n := by unfold encL S; rw [Array.toArray_toList]
theorem encL_len (n : Int) : (encL n).length = (Utf8.encode n).size := by unfold encL; rw [Array.length_toList]; rfl
section
variable {X : Cx} {f : Nat → D} {m : Mem} {dst : Option Tmp} {ty : TypeId} {ps : String} {af : Array Edge} {gd : Option (Nat × Bool)}
theorem z_convRune {s t : TypeId} {x : Operand} {k : IntKind} {n : Int} {sd : TypeDesc} (hs : X.P.underlying s = some sd) (ht : X.P.underlying t = some .string) (hx : Ev f x (.v (.int k n)) := by exact ev_tmp rfl) : StepU X ⟨dst, .convert s t x, ty, ps, af, gd⟩ f m (.v (.str (encL n))) [] [] :=
  stepU_pure fun f' m' hf _ G w a _ hF => by
    have h := rep_int (ev_at hx (by simp [Op.operands]) hf hF)
    refine ⟨.string (S (encL n)), ?_, mk_str _⟩
    have hr := run_convert_int_string (P := X.P) w s t k n (by
      have h2 : (X.P.underlying s).isSome = true := by rw [hs]; rfl
      exact h2) ht
    rw [S_encL]
    simp only [execOp, h, Sem.run_bind, hr, Result.andThen_ok, Sem.run_pure]
theorem z_loadG {t : TypeId} {g : Nat} {k : IntKind} {n : Int} (hs : sizeB X.P t = some (false, 1)) (hk : X.K g) (hm : X.w0.cell? ⟨g, 0, none⟩ = some (.int k n)) : StepU X ⟨dst, .load t (.global g), ty, ps, af, gd⟩ f m (.v (.int k n)) [] [] :=
  stepU_pure fun f' m' hf _ G w a hO hF => by
    have hc : w.cell? ⟨g, 0, none⟩ = some (.int k n) := by
      have := (hO.keep g hk).2
      simp only [World.cell?] at hm ⊢
      rw [this]; exact hm
    refine ⟨.int k n, ?_, mk_int _ _⟩
    simp only [execOp, Act.eval, Instr.loadAt, Instr.sureAddr, Sem.run_bind, Sem.run_pure, Result.andThen_ok]
    rw [run_loadVar_at hs g 0 [.int k n] rfl (fun j u hu => by
      cases j with
      | zero => simp at hu; subst hu; exact hc
      | succ j => simp at hu) (fun _ => rfl)]
    simp
theorem z_IBS {x y : Operand} {tys : Array TypeId} {l : List UInt8} {c : UInt8} (hP : X.P = Tryz.prog) (hx : Ev f x (.v (.str l)) := by exact ev_tmp rfl) (hy : Ev f y (.v (.int .u8 (c.toNat : Int))) := by exact ev_tmp rfl) : StepU X ⟨dst, .call { callee := .value (.func 95), args := #[x, y], argTypes := tys }, ty, ps, af, gd⟩ f m (.v (.int .i64 (Lib.indexByte l c))) [] [] := by
  have h := stepU_IBS (m := m) (o := ⟨dst, .call { callee := .value (.func 95), args := #[x, y], argTypes := tys }, ty, ps, af, gd⟩) hP rfl hx hy
  have e : ((c.toNat : Int)).toNat.toUInt8 = c := by simp
  rw [e] at h
  exact h
theorem z_IS {x y : Operand} {tys : Array TypeId} {l t : List UInt8} {n : Int} (hP : X.P = Tryz.prog) (hk : X.K 0) (hm : X.w0.cell? ⟨0, 0, none⟩ = some (.int .i64 n)) (h2 : 2 ≤ t.length) (ht : (t.length : Int) ≤ n) (hl : l.length < 4294967281) (hx : Ev f x (.v (.str l)) := by exact ev_tmp rfl) (hy : Ev f y (.v (.str t)) := by exact ev_tmp rfl) :
    StepU X ⟨dst, .call { callee := .value (.func 101), args := #[x, y], argTypes := tys }, ty, ps, af, gd⟩ f m (.v (.int .i64 (Lib.index l t))) [] [] :=
  stepU_pure fun f' m' hf _ G w a hO hF => by
    have h1 := rep_str (ev_at hx (by simp [Op.operands, Call.operands]) hf hF)
    have h3 := rep_str (ev_at hy (by simp [Op.operands, Call.operands]) hf hF)
    have hc : w.cell? ⟨0, 0, none⟩ = some (.int .i64 n) := by
      have := (hO.keep _ hk).2
      simp only [World.cell?] at hm ⊢
      rw [this]; exact hm
    have hr : (Extern.BytealgIndex.index #[.string (S l), .string (S t)]).run Tryz.prog w = .ok (.int .i64 (Lib.index l t)) w := Lib.run_indexString (P := Tryz.prog) (S l) (S t) w 0 n (by kernel_rfl) hc (by rw [S_size]; exact h2) (by rw [S_size]; exact ht) (by rw [S_size]; exact hl)
    refine ⟨.int .i64 (Lib.index l t), ?_, mk_int _ _⟩
    rw [hP]
    have h9 : (execOp a.eval ⟨dst, .call { callee := .value (.func 101), args := #[x, y], argTypes := tys }, ty, ps, af, gd⟩).run Tryz.prog w = (callFunc 101 ((#[x, y] : Array Operand).map a.eval)).run Tryz.prog w := by
      simp [execOp, resolve, Act.eval, Deferred.ofValue, invoke]
    have h10 : (#[x, y] : Array Operand).map a.eval = #[.string (S l), .string (S t)] := by simp [h1, h3]
    rw [h10, run_callFunc_extern Tryz.func101 (by kernel_rfl) (by kernel_rfl) (by kernel_rfl) (e := Extern.BytealgIndex.index) (by kernel_rfl)] at h9
    rw [h9]
    simp only [Sem.run_bind, hr, Result.andThen_ok, Sem.run_pure]
end
/-- Of what a function's world holds, its variables too. -/
theorem aw_shp {X : Cx} {c : Code} {Q : AX → Fm → AH → Prop} {fr : Fm} {ah : AH} (h : Shp X.P X.K X.w0 → aw X c Q fr ah) : aw X c Q fr ah := fun G w a hS => h hS.ok.shp G w a hS
theorem index_long {l t : List UInt8} (h : l.length < t.length) : Lib.index l t = -1 := by
  induction l with
  | nil =>
    cases t with
    | nil => simp at h
    | cons a t => rfl
  | cons b l ih =>
    have h1 : t.isPrefixOf (b :: l) = false := by
      rw [Bool.eq_false_iff]
      intro hp
      have := (List.isPrefixOf_iff_prefix.1 hp).length_le
      omega
    unfold Lib.index
    rw [h1, ih (by simp at h; omega)]
    rfl
theorem asM_all (l : List UInt8) : splice (asM []) 0 (asM l) = asM l := by
  unfold splice
  rw [List.take_zero, List.nil_append, List.drop_eq_nil_of_le (by rw [asM_len, asM_len]; omega), List.append_nil]
theorem bs_tl {s : List UInt8} {i : Nat} (h : i < s.length) : s.drop i = s[i] :: s.drop (i + 1) := List.drop_eq_getElem_cons h
theorem nl_asc : ∀ (i : Nat) (h : i < ([13, 10] : List UInt8).length), (([13, 10] : List UInt8)[i]).toNat < 128 := fun i h => by
  match i, h with
  | 0, _ => show (13 : UInt8).toNat < 128; decide
  | 1, _ => show (10 : UInt8).toNat < 128; decide
theorem nl_is : ∀ (i : Nat) (h : i < ([13, 10] : List UInt8).length), (([13, 10] : List UInt8)[i]).toNat ≤ 13 := fun i h => by
  match i, h with
  | 0, _ => show (13 : UInt8).toNat ≤ 13; decide
  | 1, _ => show (10 : UInt8).toNat ≤ 13; decide
theorem i32_byte (b : UInt8) : IntKind.i32.wrap (b.toNat : Int) = (b.toNat : Int) := by
  have := b.toNat_lt
  exact IntWalk.i32_in _ ⟨by omega, by omega⟩
theorem enc_ne {x : Int} (hv : Utf8.valid x = true) (h : 128 ≤ x) : encL x ≠ [13, 10] := fun e => by
  have hf := encode_facts x hv h
  have e2 : Utf8.encode x = S [13, 10] := by rw [← S_encL, e]
  rw [e2] at hf
  exact absurd (hf.2.2 (by decide)) (by decide)
theorem enc_two {x : Int} {w : Nat} (hv : Utf8.valid x = true) (h : 128 ≤ x) (hs : (Utf8.encode x).size = w) : 2 ≤ w := hs ▸ (encode_facts x hv h).1
theorem enc_two2 {x w : Nat} (h : (Utf8.encode (x : Int)).size = w ∧ Utf8.valid (x : Int) = true) (hx : 128 ≤ x) : 2 ≤ (encL (x : Int)).length := by rw [encL_len]; exact (encode_facts _ h.2 (by omega)).1
theorem enc_len2 {x w : Nat} {n : Int} (h : (Utf8.encode (x : Int)).size = w ∧ Utf8.valid (x : Int) = true) (hx : (w : Int) ≤ n) : ((encL (x : Int)).length : Int) ≤ n := by rw [encL_len, h.1]; exact hx
theorem enc_len3 {x w : Nat} (h : (Utf8.encode (x : Int)).size = w ∧ Utf8.valid (x : Int) = true) (hx : 128 ≤ x) (hw : w ≠ 2) : ([13, 10] : List UInt8).length < (encL (x : Int)).length := by
  have := enc_two h.2 (by omega) h.1
  rw [encL_len, h.1]
  show 2 < w
  omega
theorem noNL_skip {s : List UInt8} {i w : Nat} (h : noNL (s.take i) = true) (k : noNL ((s.drop i).take w) = true) : noNL (s.take (i + w)) = true := by
  rw [List.take_add, noNL_app, h, k]; rfl
theorem con_DecE {l : List UInt8} {x w : Nat} (hl : l ≠ []) (h : Lib.decodeGo (S l) = (x, w)) : Con Tryz.prog 100 [.v (.sl (bs l))] [] 0 (.ret (.tup [.v (.int .i32 (x : Int)), .v (.int .i64 (w : Int))])) [] := by
  have := con_DecodeRune hl
  rw [h] at this; exact this
theorem con_IndexAny {s : List UInt8} (hs : s.length ≤ 1099511627776) : Con Tryz.prog 78 [.v (.sl (bs s)), .v (.str [13, 10])] [] 0 (.ret (.v (.int .i64 (ixNL s)))) [] := by
  have hbl := bs_length s
  refine con_of Tryz.func78 rfl (by show _ ≤ 129; simp) fun X Q hP hnt hnp hret hpan => ?_
  obtain ⟨P0, nt0, w0, K0, S0, np0, pin0, df0⟩ := X
  simp only at hP hnt hnp
  subst hP hnp
  obtain rfl : nt0 = 129 := hnt
  refine aw_shp fun hshp => ?_
  obtain ⟨hk, ⟨mx, hmx⟩, -⟩ := hshp
  refine aw_region fun K1 hK1 => ?_
  refine aL z_assign ?_
  refine awl_nil (hK1 _ _ ?_)
  clear hK1 K1
  refine aw_seq fun K2 hK2 => ?_
  refine aw_region fun K3 hK3 => ?_
  refine aL z_move ?_
  refine aL z_eqlS ?_
  refine awl_nil (hK3 _ _ ?_)
  clear hK3 K3
  refine aC (fun r1 c1 => ?_) (fun r1 c1 => ?_)
  · exact absurd c1 (by decide)
  · refine aw_skip ?_
    refine hK2 _ _ ?_
    clear hK2
    refine aw_seq fun K4 hK4 => ?_
    refine aw_region fun K5 hK5 => ?_
    refine aL z_move ?_
    first
      | refine aL (z_lenB Tryz.underlying22) ?_
      | refine aL (z_len Tryz.underlying22) ?_
      | refine aL (z_lenV Tryz.underlying22) ?_
    refine aL z_eql ?_
    refine awl_nil (hK5 _ _ ?_)
    clear hK5 K5
    refine aC (fun r2 c2 => ?_) (fun r2 c2 => ?_)
    · refine aw_region fun K6 hK6 => ?_
      obtain ⟨a, hsa⟩ : ∃ a, s = [a] := List.length_eq_one_iff.1 (by omega)
      have ha0 : (bs s)[0]? = some [V.int .u8 (a.toNat : Int)] := by rw [hsa]; rfl
      have hw32 := i32_byte a
      have hxa : ixNL s = if isNL a = true then 0 else -1 := by
        rw [hsa]
        unfold ixNL noNL
        cases h : isNL a <;> simp [h]
      refine aL z_move ?_
      first
        | refine aL (z_indexAddr Tryz.underlying22 sz_5) ?_
        | refine aL (z_indexAddrV Tryz.underlying22 sz_5) ?_
      first
        | refine aL (z_load sz_5) ?_
        | refine aL (z_loadRef sz_5) ?_
        | refine aL (z_loadV sz_5) ?_
      refine aL (z_conv Tryz.underlying21 ⟨_, Tryz.underlying5⟩) ?_
      refine aL z_assign ?_
      refine awl_nil (hK6 _ _ ?_)
      clear hK6 K6
      refine aw_seq fun K7 hK7 => ?_
      refine aw_region fun K8 hK8 => ?_
      refine aL z_move ?_
      refine aL z_geq ?_
      refine awl_nil (hK8 _ _ ?_)
      clear hK8 K8
      refine aC (fun r3 c3 => ?_) (fun r3 c3 => ?_)
      · refine aw_seq fun K9 hK9 => ?_
        refine aw_rangeStr ([(0, .v (.sl (bs s))), (1, .v (.str [13, 10]))]) ([]) (nl_asc) Tryz.underlying9 (ev_tmp rfl) ⟨Nat.le_of_ble_eq_true rfl, Nat.le_of_ble_eq_true rfl, Nat.le_of_ble_eq_true rfl, Nat.le_of_ble_eq_true rfl⟩ (fun Y u _ _ _ => ?_) (fun Y u q hq K hP hnt hnp hK => ?_) (fun u => ?_)
        · exact wK
        · obtain ⟨P1, nt1, w1, K1, S1, np1, pin1, df1⟩ := Y
          simp only at hP hnt hnp
          subst hP hnt hnp
          refine aw_block ?_
          refine aw_region fun K11 hK11 => ?_
          refine aL z_extract ?_
          refine aL z_assign ?_
          refine awl_nil (hK11 _ _ ?_)
          clear hK11 K11
          refine aw_region fun K12 hK12 => ?_
          refine aL z_move ?_
          refine aL z_eql ?_
          refine awl_nil (hK12 _ _ ?_)
          clear hK12 K12
          refine aC (fun r4 c4 => ?_) (fun r4 c4 => ?_)
          · exact absurd c4 (by have := nl_is q hq; omega)
          · refine aw_skip ?_
            refine hK _ _ ?_
            exact wK
        refine hK9 _ _ ?_
        clear hK9
        refine aw_region fun K13 hK13 => ?_
        refine aL z_assign ?_
        refine awl_nil (hK13 _ _ ?_)
        clear hK13 K13
        refine aw_ret ?_
        refine (hret _ _ _ _ _ rfl (.tmp rfl .nil) rfl ?_ .nil rfl).1
        first
          | (rw [ix_at hlt hn (by rw [← cont_nl]; assumption)]; rfl)
          | (rw [ix_at hlt hn (by rw [← ibs_nl]; exact decide_eq_true (by assumption))]; rfl)
          | (rw [hxa, if_neg (by rw [nl_small (by omega)]; decide)]; rfl)
          | (rw [hxa, if_pos (by rw [← ibs_nl]; exact decide_eq_true (by assumption))]; rfl)
          | (rw [hxa, if_neg (by rw [← ibs_nl, decide_eq_false (by omega)]; decide)]; rfl)
          | (have e : i = s.length := (by omega)
             rw [e, List.take_length] at hn
             rw [ix_none hn]; rfl)
      · refine aw_skip ?_
        refine hK7 _ _ ?_
        clear hK7
        refine aw_seq fun K14 hK14 => ?_
        refine aw_region fun K15 hK15 => ?_
        refine aL z_move ?_
        refine aL z_move ?_
        first
          | refine aL (z_indexAddr Tryz.underlying22 sz_5) ?_
          | refine aL (z_indexAddrV Tryz.underlying22 sz_5) ?_
        first
          | refine aL (z_load sz_5) ?_
          | refine aL (z_loadRef sz_5) ?_
          | refine aL (z_loadV sz_5) ?_
        refine aL (z_IBS (c := a) rfl) ?_
        refine aL z_geq ?_
        refine awl_nil (hK15 _ _ ?_)
        clear hK15 K15
        refine aC (fun r5 c5 => ?_) (fun r5 c5 => ?_)
        · refine aw_region fun K16 hK16 => ?_
          refine aL z_assign ?_
          refine awl_nil (hK16 _ _ ?_)
          clear hK16 K16
          refine aw_ret ?_
          refine (hret _ _ _ _ _ rfl (.tmp rfl .nil) rfl ?_ .nil rfl).1
          first
            | (rw [ix_at hlt hn (by rw [← cont_nl]; assumption)]; rfl)
            | (rw [ix_at hlt hn (by rw [← ibs_nl]; exact decide_eq_true (by assumption))]; rfl)
            | (rw [hxa, if_neg (by rw [nl_small (by omega)]; decide)]; rfl)
            | (rw [hxa, if_pos (by rw [← ibs_nl]; exact decide_eq_true (by assumption))]; rfl)
            | (rw [hxa, if_neg (by rw [← ibs_nl, decide_eq_false (by omega)]; decide)]; rfl)
            | (have e : i = s.length := (by omega)
               rw [e, List.take_length] at hn
               rw [ix_none hn]; rfl)
        · refine aw_skip ?_
          refine hK14 _ _ ?_
          clear hK14
          refine aw_region fun K17 hK17 => ?_
          refine aL z_assign ?_
          refine awl_nil (hK17 _ _ ?_)
          clear hK17 K17
          refine aw_ret ?_
          refine (hret _ _ _ _ _ rfl (.tmp rfl .nil) rfl ?_ .nil rfl).1
          first
            | (rw [ix_at hlt hn (by rw [← cont_nl]; assumption)]; rfl)
            | (rw [ix_at hlt hn (by rw [← ibs_nl]; exact decide_eq_true (by assumption))]; rfl)
            | (rw [hxa, if_neg (by rw [nl_small (by omega)]; decide)]; rfl)
            | (rw [hxa, if_pos (by rw [← ibs_nl]; exact decide_eq_true (by assumption))]; rfl)
            | (rw [hxa, if_neg (by rw [← ibs_nl, decide_eq_false (by omega)]; decide)]; rfl)
            | (have e : i = s.length := (by omega)
               rw [e, List.take_length] at hn
               rw [ix_none hn]; rfl)
    · refine aw_skip ?_
      refine hK4 _ _ ?_
      clear hK4
      refine aw_seq fun K18 hK18 => ?_
      refine aw_region fun K19 hK19 => ?_
      refine aL z_move ?_
      refine aL (z_lenS Tryz.underlying9) ?_
      refine aL z_eql ?_
      refine awl_nil (hK19 _ _ ?_)
      clear hK19 K19
      refine aC (fun r6 c6 => ?_) (fun r6 c6 => ?_)
      · exact absurd c6 (by decide)
      · refine aw_skip ?_
        refine hK18 _ _ ?_
        clear hK18
        refine aw_seq fun K20 hK20 => ?_
        refine aw_region fun K21 hK21 => ?_
        refine aL z_move ?_
        first
          | refine aL (z_lenB Tryz.underlying22) ?_
          | refine aL (z_len Tryz.underlying22) ?_
          | refine aL (z_lenV Tryz.underlying22) ?_
        refine aL (z_call0 (eC .nil) en_97 (con_shouldUse)) ?_
        refine awl_nil (hK21 _ _ ?_)
        clear hK21 K21
        refine aC (fun r7 c7 => ?_) (fun r7 c7 => ?_)
        · refine aw_region fun K22 hK22 => ?_
          refine aL z_move ?_
          refine aL (z_call0 (eC .nil) en_98 (con_makeSet (s := [13, 10]) (by decide) nl_asc)) ?_
          refine aL z_move ?_
          refine aL z_extract ?_
          refine aL z_extract ?_
          refine aL (z_alloc 50 zc_123 zl_123) ?_
          refine aL (z_store sz_123 (hc := asM_all _)) ?_
          refine aL z_assign ?_
          refine awl_nil (hK22 _ _ ?_)
          clear hK22 K22
          refine aw_region fun K23 hK23 => ?_
          refine aL z_move ?_
          refine awl_nil (hK23 _ _ ?_)
          clear hK23 K23
          refine aC (fun r8 c8 => ?_) (fun r8 c8 => ?_)
          · refine aw_seq fun K24 hK24 => ?_
            refine aw_region fun K25 hK25 => ?_
            refine aL z_move ?_
            first
              | refine aL (z_lenB Tryz.underlying22) ?_
              | refine aL (z_len Tryz.underlying22) ?_
              | refine aL (z_lenV Tryz.underlying22) ?_
            refine aL z_move ?_
            refine awl_nil (hK25 _ _ ?_)
            clear hK25 K25
            refine aw_block ?_
            refine aw_loop (α := {i : Nat // noNL (s.take i) = true ∧ i ≤ s.length}) (fun x => ([(0, .v (.sl (bs s))), (1, .v (.str [13, 10])), (7, .ptr 50 0), (60, .v (.sl (bs s))), (61, .v (.int .i64 (s.length : Int))), (62, .v (.int .i64 (x.1 : Int)))], [(50, .box (asM [13, 10]))])) (fun x => s.length - x.1) ⟨0, rfl, Nat.zero_le _⟩ ?_ ?_
            · dsimp only
              exact wK
            · rintro ⟨i, hn, hi0⟩ K26 hK26
              dsimp only
              refine aw_region fun K27 hK27 => ?_
              refine aL z_lss ?_
              refine awl_nil (hK27 _ _ ?_)
              clear hK27 K27
              refine aw_seq fun K28 hK28 => ?_
              refine aC (fun r9 c9 => ?_) (fun r9 c9 => ?_)
              · refine aw_skip ?_
                refine hK28 _ _ ?_
                clear hK28
                refine aw_seq fun K29 hK29 => ?_
                refine aw_block ?_
                refine aw_region fun K30 hK30 => ?_
                have hlt : i < s.length := by omega
                have hsi : (bs s)[i]? = some [V.int .u8 (s[i].toNat : Int)] := bs_get (List.getElem?_eq_getElem hlt)
                refine aL z_move ?_
                first
                  | refine aL (z_indexAddr Tryz.underlying22 sz_5) ?_
                  | refine aL (z_indexAddrV Tryz.underlying22 sz_5) ?_
                first
                  | refine aL (z_load sz_5) ?_
                  | refine aL (z_loadRef sz_5) ?_
                  | refine aL (z_loadV sz_5) ?_
                refine aL z_assign ?_
                refine aL z_assign ?_
                refine awl_nil (hK30 _ _ ?_)
                clear hK30 K30
                refine aw_region fun K31 hK31 => ?_
                refine aL z_move ?_
                refine aL (z_callG [50] (eC (eC .nil)) en_99 (con_contains (l := [13, 10]) (c := s[i])) (pA .nil)) ?_
                refine awl_nil (hK31 _ _ ?_)
                clear hK31 K31
                refine aC (fun r10 c10 => ?_) (fun r10 c10 => ?_)
                · refine aw_region fun K32 hK32 => ?_
                  refine aL z_move ?_
                  refine aL z_assign ?_
                  refine awl_nil (hK32 _ _ ?_)
                  clear hK32 K32
                  refine aw_ret ?_
                  refine (hret _ _ _ _ _ rfl (.tmp rfl .nil) rfl ?_ .nil rfl).1
                  first
                    | (rw [ix_at hlt hn (by rw [← cont_nl]; assumption)]; rfl)
                    | (rw [ix_at hlt hn (by rw [← ibs_nl]; exact decide_eq_true (by assumption))]; rfl)
                    | (rw [hxa, if_neg (by rw [nl_small (by omega)]; decide)]; rfl)
                    | (rw [hxa, if_pos (by rw [← ibs_nl]; exact decide_eq_true (by assumption))]; rfl)
                    | (rw [hxa, if_neg (by rw [← ibs_nl, decide_eq_false (by omega)]; decide)]; rfl)
                    | (have e : i = s.length := (by omega)
                       rw [e, List.take_length] at hn
                       rw [ix_none hn]; rfl)
                · refine aw_skip ?_
                  refine hK29 _ _ ?_
                  clear hK29
                  refine aw_region_last ?_
                  refine aL z_add ?_
                  refine aL z_move ?_
                  refine awl_nil ?_
                  refine hK26 _ _ ⟨i + 1, noNL_succ hlt hn (by rw [← cont_nl]; assumption), by omega⟩ (by dsimp only; omega) ?_
                  exact wK
              · refine aw_exit ?_
                refine hK24 _ _ ?_
                clear hK24
                refine aw_region fun K33 hK33 => ?_
                refine aL z_assign ?_
                refine awl_nil (hK33 _ _ ?_)
                clear hK33 K33
                refine aw_ret ?_
                refine (hret _ _ _ _ _ rfl (.tmp rfl .nil) rfl ?_ .nil rfl).1
                first
                  | (rw [ix_at hlt hn (by rw [← cont_nl]; assumption)]; rfl)
                  | (rw [ix_at hlt hn (by rw [← ibs_nl]; exact decide_eq_true (by assumption))]; rfl)
                  | (rw [hxa, if_neg (by rw [nl_small (by omega)]; decide)]; rfl)
                  | (rw [hxa, if_pos (by rw [← ibs_nl]; exact decide_eq_true (by assumption))]; rfl)
                  | (rw [hxa, if_neg (by rw [← ibs_nl, decide_eq_false (by omega)]; decide)]; rfl)
                  | (have e : i = s.length := (by omega)
                     rw [e, List.take_length] at hn
                     rw [ix_none hn]; rfl)
          · exact absurd c8 (by decide)
        · refine aw_skip ?_
          refine hK20 _ _ ?_
          clear hK20
          refine aw_region fun K34 hK34 => ?_
          refine aL z_assign ?_
          refine awl_nil (hK34 _ _ ?_)
          clear hK34 K34
          refine aw_seq fun K35 hK35 => ?_
          refine aw_region fun K36 hK36 => ?_
          refine aL z_assign ?_
          refine awl_nil (hK36 _ _ ?_)
          clear hK36 K36
          refine aw_block ?_
          refine aw_loop (α := {i : Nat // noNL (s.take i) = true ∧ i ≤ s.length}) (fun x => ([(0, .v (.sl (bs s))), (1, .v (.str [13, 10])), (12, .v (.int .i64 (x.1 : Int)))], [])) (fun x => s.length - x.1) ⟨0, rfl, Nat.zero_le _⟩ ?_ ?_
          · dsimp only
            exact wK
          · rintro ⟨i, hn, hi0⟩ K37 hK37
            dsimp only
            refine aw_seq fun K38 hK38 => ?_
            refine aw_region fun K39 hK39 => ?_
            refine aL z_move ?_
            refine aL z_move ?_
            first
              | refine aL (z_lenB Tryz.underlying22) ?_
              | refine aL (z_len Tryz.underlying22) ?_
              | refine aL (z_lenV Tryz.underlying22) ?_
            refine aL z_lss ?_
            refine awl_nil (hK39 _ _ ?_)
            clear hK39 K39
            refine aC (fun r11 c11 => ?_) (fun r11 c11 => ?_)
            · refine aw_skip ?_
              refine hK38 _ _ ?_
              clear hK38
              refine aw_seq fun K40 hK40 => ?_
              refine aw_block ?_
              refine aw_region fun K41 hK41 => ?_
              have hlt : i < s.length := by omega
              have hw32 := i32_byte s[i]
              have hsi : (bs s)[i]? = some [V.int .u8 (s[i].toNat : Int)] := bs_get (List.getElem?_eq_getElem hlt)
              refine aL z_move ?_
              refine aL z_move ?_
              first
                | refine aL (z_indexAddr Tryz.underlying22 sz_5) ?_
                | refine aL (z_indexAddrV Tryz.underlying22 sz_5) ?_
              first
                | refine aL (z_load sz_5) ?_
                | refine aL (z_loadRef sz_5) ?_
                | refine aL (z_loadV sz_5) ?_
              refine aL (z_conv Tryz.underlying21 ⟨_, Tryz.underlying5⟩) ?_
              refine aL z_assign ?_
              refine awl_nil (hK41 _ _ ?_)
              clear hK41 K41
              refine aw_seq fun K42 hK42 => ?_
              refine aw_region fun K43 hK43 => ?_
              refine aL z_move ?_
              refine aL z_lss ?_
              refine awl_nil (hK43 _ _ ?_)
              clear hK43 K43
              refine aC (fun r12 c12 => ?_) (fun r12 c12 => ?_)
              · refine aw_seq fun K44 hK44 => ?_
                refine aw_region fun K45 hK45 => ?_
                refine aL z_move ?_
                refine aL z_move ?_
                refine aL z_move ?_
                first
                  | refine aL (z_indexAddr Tryz.underlying22 sz_5) ?_
                  | refine aL (z_indexAddrV Tryz.underlying22 sz_5) ?_
                first
                  | refine aL (z_load sz_5) ?_
                  | refine aL (z_loadRef sz_5) ?_
                  | refine aL (z_loadV sz_5) ?_
                refine aL (z_IBS (c := s[i]) rfl) ?_
                refine aL z_geq ?_
                refine awl_nil (hK45 _ _ ?_)
                clear hK45 K45
                refine aC (fun r13 c13 => ?_) (fun r13 c13 => ?_)
                · refine aw_region fun K46 hK46 => ?_
                  refine aL z_move ?_
                  refine aL z_assign ?_
                  refine awl_nil (hK46 _ _ ?_)
                  clear hK46 K46
                  refine aw_ret ?_
                  refine (hret _ _ _ _ _ rfl (.tmp rfl .nil) rfl ?_ .nil rfl).1
                  first
                    | (rw [ix_at hlt hn (by rw [← cont_nl]; assumption)]; rfl)
                    | (rw [ix_at hlt hn (by rw [← ibs_nl]; exact decide_eq_true (by assumption))]; rfl)
                    | (rw [hxa, if_neg (by rw [nl_small (by omega)]; decide)]; rfl)
                    | (rw [hxa, if_pos (by rw [← ibs_nl]; exact decide_eq_true (by assumption))]; rfl)
                    | (rw [hxa, if_neg (by rw [← ibs_nl, decide_eq_false (by omega)]; decide)]; rfl)
                    | (have e : i = s.length := (by omega)
                       rw [e, List.take_length] at hn
                       rw [ix_none hn]; rfl)
                · refine aw_skip ?_
                  refine hK44 _ _ ?_
                  clear hK44
                  refine aw_region fun K47 hK47 => ?_
                  refine aL z_assign ?_
                  refine awl_nil (hK47 _ _ ?_)
                  clear hK47 K47
                  refine aw_exit ?_
                  refine hK40 _ _ ?_
                  clear hK40
                  refine aw_region_last ?_
                  refine aL z_move ?_
                  refine aL z_move ?_
                  refine aL (z_add (hr := IntWalk.i64_in _ ⟨by omega, by omega⟩)) ?_
                  refine aL z_assign ?_
                  refine awl_nil ?_
                  first
                    | (have hh := hdec
                       refine hK37 _ _ ⟨i + wd, noNL_skip hn d6, by omega⟩ (by dsimp only; omega) ?_
                       exact wK)
                    | (refine hK37 _ _ ⟨i + 1, noNL_succ hlt hn (by rw [← ibs_nl]; exact decide_eq_false (by omega)), by omega⟩ (by dsimp only; omega) ?_
                       exact wK)
              · refine aw_skip ?_
                refine hK42 _ _ ?_
                clear hK42
                refine aw_region fun K48 hK48 => ?_
                have h128 : 128 ≤ s[i].toNat := by omega
                have hne : s.drop i ≠ [] := by
                  intro h
                  have h2 := congrArg List.length h
                  simp at h2
                  omega
                obtain ⟨x, wd, hdec⟩ : ∃ x w, Lib.decodeGo (S (s.drop i)) = (x, w) := ⟨_, _, rfl⟩
                obtain ⟨d1, d2, d3, d4, d5, d6, d7⟩ := dec_facts (bs_tl hlt) h128 hdec
                rw [List.length_drop] at d5
                refine aL z_move ?_
                refine aL z_move ?_
                refine aL (z_slice Tryz.underlying22 sz_5) ?_
                refine aL (z_call0 (eC .nil) en_100 (con_DecE hne hdec)) ?_
                refine aL z_move ?_
                refine aL z_extract ?_
                refine aL z_extract ?_
                refine aL z_assign ?_
                refine aL z_assign ?_
                refine awl_nil (hK48 _ _ ?_)
                clear hK48 K48
                refine aw_seq fun K49 hK49 => ?_
                refine aw_region fun K50 hK50 => ?_
                refine aL z_move ?_
                refine aL z_neq ?_
                refine awl_nil (hK50 _ _ ?_)
                clear hK50 K50
                refine aC (fun r14 c14 => ?_) (fun r14 c14 => ?_)
                · refine aw_seq fun K51 hK51 => ?_
                  refine aw_region fun K52 hK52 => ?_
                  refine aL z_move ?_
                  refine aL (z_lenS Tryz.underlying9) ?_
                  refine aL z_move ?_
                  refine aL z_eql ?_
                  refine awl_nil (hK52 _ _ ?_)
                  clear hK52 K52
                  refine aC (fun r15 c15 => ?_) (fun r15 c15 => ?_)
                  · refine aw_seq fun K53 hK53 => ?_
                    refine aw_region fun K54 hK54 => ?_
                    obtain ⟨d8, d9⟩ := d7 (by omega)
                    have hen := enc_ne d9 (by omega)
                    refine aL z_move ?_
                    refine aL z_move ?_
                    refine aL (z_convRune Tryz.underlying21 Tryz.underlying9) ?_
                    refine aL z_eqlS ?_
                    refine awl_nil (hK54 _ _ ?_)
                    clear hK54 K54
                    refine aC (fun r16 c16 => ?_) (fun r16 c16 => ?_)
                    · exact absurd c16.symm hen
                    · refine aw_skip ?_
                      refine hK53 _ _ ?_
                      clear hK53
                      refine aw_exit ?_
                      refine hK40 _ _ ?_
                      clear hK40
                      refine aw_region_last ?_
                      refine aL z_move ?_
                      refine aL z_move ?_
                      refine aL (z_add (hr := IntWalk.i64_in _ ⟨by omega, by omega⟩)) ?_
                      refine aL z_assign ?_
                      refine awl_nil ?_
                      first
                        | (have hh := hdec
                           refine hK37 _ _ ⟨i + wd, noNL_skip hn d6, by omega⟩ (by dsimp only; omega) ?_
                           exact wK)
                        | (refine hK37 _ _ ⟨i + 1, noNL_succ hlt hn (by rw [← ibs_nl]; exact decide_eq_false (by omega)), by omega⟩ (by dsimp only; omega) ?_
                           exact wK)
                  · refine aw_skip ?_
                    refine hK51 _ _ ?_
                    clear hK51
                    refine aw_region fun K55 hK55 => ?_
                    refine aL (z_loadG sz_3 (hk _ (.inl rfl)) hmx) ?_
                    refine aL z_move ?_
                    refine aL z_geq ?_
                    refine awl_nil (hK55 _ _ ?_)
                    clear hK55 K55
                    refine aC (fun r17 c17 => ?_) (fun r17 c17 => ?_)
                    · refine aw_seq fun K56 hK56 => ?_
                      refine aw_region fun K57 hK57 => ?_
                      refine aL z_move ?_
                      refine aL z_move ?_
                      refine aL (z_convRune Tryz.underlying21 Tryz.underlying9) ?_
                      refine aL (z_IS rfl (hk _ (.inl rfl)) hmx (l := [13, 10]) (t := encL (x : Int)) (enc_two2 (d7 (by omega)) (by omega)) (enc_len2 (d7 (by omega)) c17) (by decide)) ?_
                      refine aL z_geq ?_
                      refine awl_nil (hK57 _ _ ?_)
                      clear hK57 K57
                      refine aC (fun r18 c18 => ?_) (fun r18 c18 => ?_)
                      · rw [index_long (l := [13, 10]) (t := encL (x : Int)) (enc_len3 (d7 (by omega)) (by omega) fun h => c15 (by rw [h]; rfl))] at c18; exact absurd c18 (by decide)
                      · refine aw_skip ?_
                        refine hK56 _ _ ?_
                        clear hK56
                        refine aw_exit ?_
                        refine hK40 _ _ ?_
                        clear hK40
                        refine aw_region_last ?_
                        refine aL z_move ?_
                        refine aL z_move ?_
                        refine aL (z_add (hr := IntWalk.i64_in _ ⟨by omega, by omega⟩)) ?_
                        refine aL z_assign ?_
                        refine awl_nil ?_
                        first
                          | (have hh := hdec
                             refine hK37 _ _ ⟨i + wd, noNL_skip hn d6, by omega⟩ (by dsimp only; omega) ?_
                             exact wK)
                          | (refine hK37 _ _ ⟨i + 1, noNL_succ hlt hn (by rw [← ibs_nl]; exact decide_eq_false (by omega)), by omega⟩ (by dsimp only; omega) ?_
                             exact wK)
                    · refine aw_skip ?_
                      refine hK49 _ _ ?_
                      clear hK49
                      refine aw_rangeStr ([(0, .v (.sl (bs s))), (1, .v (.str [13, 10])), (11, .v (.int .i64 (wd : Int))), (12, .v (.int .i64 (i : Int))), (13, .v (.int .i32 (x : Int)))]) ([]) (nl_asc) Tryz.underlying9 (ev_tmp rfl) ⟨Nat.le_of_ble_eq_true rfl, Nat.le_of_ble_eq_true rfl, Nat.le_of_ble_eq_true rfl, Nat.le_of_ble_eq_true rfl⟩ (fun Y u _ _ _ => ?_) (fun Y u q hq K hP hnt hnp hK => ?_) (fun u => ?_)
                      · exact wK
                      · obtain ⟨P1, nt1, w1, K1, S1, np1, pin1, df1⟩ := Y
                        simp only at hP hnt hnp
                        subst hP hnt hnp
                        refine aw_block ?_
                        refine aw_region fun K59 hK59 => ?_
                        refine aL z_extract ?_
                        refine aL z_assign ?_
                        refine awl_nil (hK59 _ _ ?_)
                        clear hK59 K59
                        refine aw_region fun K60 hK60 => ?_
                        refine aL z_move ?_
                        refine aL z_move ?_
                        refine aL z_eql ?_
                        refine awl_nil (hK60 _ _ ?_)
                        clear hK60 K60
                        refine aC (fun r19 c19 => ?_) (fun r19 c19 => ?_)
                        · exact absurd c19 (by have := nl_is q hq; omega)
                        · refine aw_skip ?_
                          refine hK _ _ ?_
                          exact wK
                      refine hK40 _ _ ?_
                      clear hK40
                      refine aw_region_last ?_
                      refine aL z_move ?_
                      refine aL z_move ?_
                      refine aL (z_add (hr := IntWalk.i64_in _ ⟨by omega, by omega⟩)) ?_
                      refine aL z_assign ?_
                      refine awl_nil ?_
                      first
                        | (have hh := hdec
                           refine hK37 _ _ ⟨i + wd, noNL_skip hn d6, by omega⟩ (by dsimp only; omega) ?_
                           exact wK)
                        | (refine hK37 _ _ ⟨i + 1, noNL_succ hlt hn (by rw [← ibs_nl]; exact decide_eq_false (by omega)), by omega⟩ (by dsimp only; omega) ?_
                           exact wK)
                · refine aw_skip ?_
                  refine hK49 _ _ ?_
                  clear hK49
                  refine aw_rangeStr ([(0, .v (.sl (bs s))), (1, .v (.str [13, 10])), (11, .v (.int .i64 (wd : Int))), (12, .v (.int .i64 (i : Int))), (13, .v (.int .i32 (x : Int)))]) ([]) (nl_asc) Tryz.underlying9 (ev_tmp rfl) ⟨Nat.le_of_ble_eq_true rfl, Nat.le_of_ble_eq_true rfl, Nat.le_of_ble_eq_true rfl, Nat.le_of_ble_eq_true rfl⟩ (fun Y u _ _ _ => ?_) (fun Y u q hq K hP hnt hnp hK => ?_) (fun u => ?_)
                  · exact wK
                  · obtain ⟨P1, nt1, w1, K1, S1, np1, pin1, df1⟩ := Y
                    simp only at hP hnt hnp
                    subst hP hnt hnp
                    refine aw_block ?_
                    refine aw_region fun K62 hK62 => ?_
                    refine aL z_extract ?_
                    refine aL z_assign ?_
                    refine awl_nil (hK62 _ _ ?_)
                    clear hK62 K62
                    refine aw_region fun K63 hK63 => ?_
                    refine aL z_move ?_
                    refine aL z_move ?_
                    refine aL z_eql ?_
                    refine awl_nil (hK63 _ _ ?_)
                    clear hK63 K63
                    refine aC (fun r20 c20 => ?_) (fun r20 c20 => ?_)
                    · exact absurd c20 (by have := nl_is q hq; omega)
                    · refine aw_skip ?_
                      refine hK _ _ ?_
                      exact wK
                  refine hK40 _ _ ?_
                  clear hK40
                  refine aw_region_last ?_
                  refine aL z_move ?_
                  refine aL z_move ?_
                  refine aL (z_add (hr := IntWalk.i64_in _ ⟨by omega, by omega⟩)) ?_
                  refine aL z_assign ?_
                  refine awl_nil ?_
                  first
                    | (have hh := hdec
                       refine hK37 _ _ ⟨i + wd, noNL_skip hn d6, by omega⟩ (by dsimp only; omega) ?_
                       exact wK)
                    | (refine hK37 _ _ ⟨i + 1, noNL_succ hlt hn (by rw [← ibs_nl]; exact decide_eq_false (by omega)), by omega⟩ (by dsimp only; omega) ?_
                       exact wK)
            · refine aw_exit ?_
              refine hK35 _ _ ?_
              clear hK35
              refine aw_region fun K64 hK64 => ?_
              refine aL z_assign ?_
              refine awl_nil (hK64 _ _ ?_)
              clear hK64 K64
              refine aw_ret ?_
              refine (hret _ _ _ _ _ rfl (.tmp rfl .nil) rfl ?_ .nil rfl).1
              first
                | (rw [ix_at hlt hn (by rw [← cont_nl]; assumption)]; rfl)
                | (rw [ix_at hlt hn (by rw [← ibs_nl]; exact decide_eq_true (by assumption))]; rfl)
                | (rw [hxa, if_neg (by rw [nl_small (by omega)]; decide)]; rfl)
                | (rw [hxa, if_pos (by rw [← ibs_nl]; exact decide_eq_true (by assumption))]; rfl)
                | (rw [hxa, if_neg (by rw [← ibs_nl, decide_eq_false (by omega)]; decide)]; rfl)
                | (have e : i = s.length := (by omega)
                   rw [e, List.take_length] at hn
                   rw [ix_none hn]; rfl)
end Go.Proofs.YtnjbfiejgiaibaaGreatDoor
