/- Chapter 14: what Take answers; its deferred closure. No condition. -/
import Derived.Test.YtnjbfiejgiaibaaGreatDoorAkU
namespace Go.Proofs.YtnjbfiejgiaibaaGreatDoor
set_option linter.all false
open Go Go.RowKit
set_option maxRecDepth 10000
set_option maxHeartbeats 4000000
theorem ln_len {b s r : List UInt8} (h : lnM b = .ok (s, r)) : r.length + (s.length + 2) = b.length := by
  obtain ⟨-, -, -, h4, h5⟩ := ln_ok h
  rw [← h4, List.length_drop]; omega
/-- The fields from a line on, whatever is ahead of them; what lies behind the empty line. -/
def fldsN : Nat → List Fd → List UInt8 → List UInt8 → Except Int (List Fd × List UInt8)
  | 0, _, _, _ => .error 12
  | n + 1, fs, s, r => if s = [] then .ok (fs, r) else match fieldM s with
    | none => .error 150
    | some f => match lnM r with
      | .error e => .error e
      | .ok (s', r') => fldsN n (fs ++ [f]) s' r'
def fldsS (fs : List Fd) (s r : List UInt8) : Except Int (List Fd × List UInt8) := fldsN (r.length + 1) fs s r
theorem fldsN_fuel : ∀ (n m : Nat) (fs : List Fd) (s r : List UInt8), r.length < n → r.length < m → fldsN n fs s r = fldsN m fs s r
  | 0, _, _, _, _, h, _ => by omega
  | _, 0, _, _, _, _, h => by omega
  | n + 1, m + 1, fs, s, r, h, k => by
    unfold fldsN
    split
    · rfl
    · cases fieldM s with
      | none => rfl
      | some f =>
        cases hl : lnM r with
        | error e => rfl
        | ok p =>
          obtain ⟨s', r'⟩ := p
          have := ln_len hl
          exact fldsN_fuel n m _ _ _ (by omega) (by omega)
theorem flds_end (fs : List Fd) (r : List UInt8) : fldsS fs [] r = .ok (fs, r) := by unfold fldsS fldsN; rw [if_pos rfl]
theorem flds_bad {fs : List Fd} {s r : List UInt8} (hs : ¬ s = []) (h : fieldM s = none) : fldsS fs s r = .error 150 := by unfold fldsS fldsN; rw [if_neg hs, h]
theorem flds_err {fs : List Fd} {s r : List UInt8} {f : Fd} {e : Int} (hs : ¬ s = []) (h : fieldM s = some f) (hl : lnM r = .error e) : fldsS fs s r = .error e := by unfold fldsS fldsN; rw [if_neg hs, h]; simp only [hl]
theorem flds_on {fs : List Fd} {s r s' r' : List UInt8} {f : Fd} (hs : ¬ s = []) (h : fieldM s = some f) (hl : lnM r = .ok (s', r')) : fldsS fs s r = fldsS (fs ++ [f]) s' r' := by
  have := ln_len hl
  show fldsN (r.length + 1) fs s r = _
  unfold fldsN
  rw [if_neg hs, h]
  simp only [hl]
  exact fldsN_fuel _ _ _ _ _ (by omega) (by omega)
def kCL : List UInt8 := [99, 111, 110, 116, 101, 110, 116, 45, 108, 101, 110, 103, 116, 104]
/-- What is left to do behind the fields. -/
def tailM (m t : List UInt8) : Except Int (List Fd × List UInt8) → Except Int (Ak × List UInt8)
  | .error e => .error e
  | .ok (fs, r) => match bodyM fs r with
    | .error e => .error e
    | .ok b => .ok (⟨m, t, noM fs [kCL], b⟩, r.drop b.length)
def hdrM (m t r : List UInt8) : Except Int (Ak × List UInt8) := match lnM r with
  | .error e => .error e
  | .ok (s, r') => tailM m t (fldsS [] s r')
/-- The request at the head of some bytes, and what lies behind it. -/
def takeA (b : List UInt8) : Except Int (Ak × List UInt8) := match lnM b with
  | .error e => .error e
  | .ok (s, r) => match firstM s with
    | none => .error 150
    | some (m, t) => hdrM m t r
abbrev akZ : List D := [.v (.str []), .v (.str []), NIL, .v (.str [])]
/-- What Take hands back. -/
def takeD (n : Nat) : Except Int (Ak × List UInt8) → D
  | .error e => .tup [.agg akZ, .v (.int .i64 0), .v (.int .i64 e)]
  | .ok (a, r) => .tup [.agg a.cs, .v (.int .i64 ((n - r.length : Nat) : Int)), .v (.int .i64 0)]
section
variable {X : Cx} {f : Nat → D} {m : Mem} {dst : Option Tmp} {ty : TypeId} {ps : String} {af : Array Edge} {gd : Option (Nat × Bool)}
theorem z_neqN {x : Operand} {s t' : TypeId} {ms : Array (String × TypeId)} (hs : X.P.underlying s = some (.interface ms)) (hx : Ev f x (.v (.lit .nilIface)) := by exact ev_tmp rfl) :
    StepU X ⟨dst, .binOp .neq s x (.const .nilIface) t', ty, ps, af, gd⟩ f m (.v (.bool false)) [] [] :=
  stepU_pure fun f' m' hf _ G w a hO hF => by
    have h := rep_lit (ev_at hx (by simp [Op.operands]) hf hF)
    refine ⟨.bool false, ?_, mk_bool _⟩
    have hn : a.eval (.const .nilIface) = .nilIface := rfl
    have he : (Op.equal s .nilIface .nilIface).run X.P w = .ok true w := by
      have hd : Op.maxDepth = 9999 + 1 := rfl
      unfold Op.equal
      rw [hd]
      generalize 9999 = d
      rw [Op.equalIn, Sem.run_bind, run_underlying hs, Result.andThen_ok]
      rfl
    have hg : (eqGuard .neq s x (.const .nilIface) .nilIface .nilIface).run X.P w = .ok () w := by
      unfold eqGuard
      simp
    simp only [execOp, h, hn, Sem.run_bind, hg, Result.andThen_ok, binOp, he, Sem.run_pure]
    rfl
end
theorem conD_idle : ConD Tryz.prog 17 [.any, .any, .any] [] 0 .returning .returning [] := by
  refine conD_of (rv := .nilIface) Tryz.func17 rfl (by show _ ≤ 20; simp) (by decide) (by decide) rfl rfl rfl (.inl ⟨rfl, rfl, rfl⟩) fun X Q hP hnt hnp hret => ?_
  obtain ⟨P0, nt0, w0, K0, S0, np0, pin0, df0⟩ := X
  simp only at hP hnt hnp
  subst hP hnp
  obtain rfl : nt0 = 20 := hnt
  refine aw_region fun K1 hK1 => ?_
  refine aL z_move ?_
  refine aL (z_neqN Tryz.underlying20) ?_
  refine awl_nil (hK1 _ _ ?_)
  clear hK1 K1
  refine aC (fun r1 c1 => ?_) (fun r1 c1 => ?_)
  · exact absurd c1 (by decide)
  · refine aw_skip ?_
    exact (hret _ _ .nil).2
theorem conD_catch {x0 x1 x2 x3 y0 z0 : D} {e : Int} : ConD Tryz.prog 17 [.ptr 0 0, .ptr 1 0, .ptr 2 0] [(0, .box [x0, x1, x2, x3]), (1, .box [y0]), (2, .box [z0])] 3 (.panicking [{ v := fltV e, recovered := false }]) (.panicking [{ v := fltV e, recovered := true }]) [(0, .box akZ), (1, .box [.v (.int .i64 0)]), (2, .box [.v (.int .i64 e)])] := by
  refine conD_of (rv := fltV e) Tryz.func17 rfl (by show _ ≤ 20; simp) (by decide) (by decide) rfl rfl rfl (.inr ⟨rfl, rfl⟩) fun X Q hP hnt hnp hret => ?_
  obtain ⟨P0, nt0, w0, K0, S0, np0, pin0, df0⟩ := X
  simp only at hP hnt hnp
  subst hP hnp
  obtain rfl : nt0 = 20 := hnt
  refine aw_region fun K1 hK1 => ?_
  refine aL z_move ?_
  refine aL (z_neqI Tryz.underlying20) ?_
  refine awl_nil (hK1 _ _ ?_)
  clear hK1 K1
  refine aC (fun r1 c1 => ?_) (fun r1 c1 => ?_)
  · refine aw_region fun K2 hK2 => ?_
    refine aL z_move ?_
    refine aL (z_assert Tryz.underlying49) ?_
    refine aL z_move ?_
    refine aL z_extract ?_
    refine aL z_extract ?_
    refine aL (z_alloc 3 zc_49 zl_49) ?_
    refine aL (z_store sz_49) ?_
    refine aL z_assign ?_
    refine awl_nil (hK2 _ _ ?_)
    clear hK2 K2
    refine aw_seq fun K3 hK3 => ?_
    refine aw_region fun K4 hK4 => ?_
    refine aL z_move ?_
    refine aL z_not ?_
    refine awl_nil (hK4 _ _ ?_)
    clear hK4 K4
    refine aC (fun r2 c2 => ?_) (fun r2 c2 => ?_)
    · exact absurd c2 (by decide)
    · refine aw_skip ?_
      refine hK3 _ _ ?_
      clear hK3
      refine aw_regionD_last mx_all (by kernel_rfl) ?_
      refine aD (z_build .nil pl_26 zc_26 zl_26) ?_
      first
        | refine aD (z_fieldAddr fo_49_0) ?_
        | refine aD (z_fieldRef fo_49_0) ?_
        | refine aD (z_fieldV fo_49_0) ?_
      first
        | refine aD (z_load sz_27) ?_
        | refine aD (z_loadRef sz_27) ?_
        | refine aD (z_loadV sz_27) ?_
      refine aD (z_store sz_26) ?_
      refine aD (z_store sz_3) ?_
      refine aD (z_store sz_27) ?_
      refine awd_nil (by kernel_rfl) ?_
      exact (hret _ _ (.box rfl rfl (.box rfl rfl (.box rfl rfl .nil)))).2
  · exact absurd c1 (by decide)
end Go.Proofs.YtnjbfiejgiaibaaGreatDoor

/- Chapter 14: Take. No condition but on lengths. -/
namespace Go.Proofs.YtnjbfiejgiaibaaGreatDoor
set_option linter.all false
open Go Go.RowKit
set_option maxRecDepth 10000
set_option maxHeartbeats 4000000
theorem take_e1 {b : List UInt8} {e : Int} (h : lnM b = .error e) : takeA b = .error e := by unfold takeA; rw [h]
theorem take_e2 {b s r : List UInt8} (h : lnM b = .ok (s, r)) (hf : firstM s = none) : takeA b = .error 150 := by unfold takeA; rw [h]; simp only [hf]
theorem take_h {b s r m t : List UInt8} (h : lnM b = .ok (s, r)) (hf : firstM s = some (m, t)) : takeA b = hdrM m t r := by unfold takeA; rw [h]; simp only [hf]
theorem hdr_e {m t r : List UInt8} {e : Int} (h : lnM r = .error e) : hdrM m t r = .error e := by unfold hdrM; rw [h]
theorem hdr_o {m t r s r' : List UInt8} (h : lnM r = .ok (s, r')) : hdrM m t r = tailM m t (fldsS [] s r') := by unfold hdrM; rw [h]
theorem tail_e {m t r : List UInt8} {fs : List Fd} {e : Int} (h : bodyM fs r = .error e) : tailM m t (.ok (fs, r)) = .error e := by unfold tailM; simp only [h]
theorem tail_o {m t r b : List UInt8} {fs : List Fd} (h : bodyM fs r = .ok b) : tailM m t (.ok (fs, r)) = .ok (⟨m, t, noM fs [kCL], b⟩, r.drop b.length) := by unfold tailM; simp only [h]
theorem field_len {s : List UInt8} {f : Fd} (h : fieldM s = some f) : f.n.length ≤ s.length ∧ f.v.length ≤ s.length := by
  obtain ⟨a, b, ok, hc⟩ : ∃ a b ok, Lib.cut s [58] = (a, b, ok) := ⟨_, _, _, rfl⟩
  obtain ⟨la, lb⟩ := cut_lens hc
  rw [field_cut hc] at h
  split at h
  · injection h with h
    subst h
    have := trim_le b
    exact ⟨by show (lowM a).length ≤ _; simp [lowM]; omega, by show (trimM b).length ≤ _; omega⟩
  · cases h
theorem body_len {fs : List Fd} {r b : List UInt8} (h : bodyM fs r = .ok b) : b.length ≤ r.length := by
  unfold bodyM at h
  split at h
  · cases h
  · split at h
    · cases h
    · injection h with h; rw [← h]; simp; omega
abbrev tkCaps : List D := [.ptr 0 0, .ptr 1 0, .ptr 2 0]
theorem take_pan {Y : Cx} (hnp : Y.np = 3) {n : Nat} {R : Except Int (Ak × List UInt8)} {fr : Fm} {ah : AH} {e : Int} {x0 x1 x2 x3 y0 z0 : V} (hR : R = .error e) (h0 : look ah 0 = some (.box [.v x0, .v x1, .v x2, .v x3])) (h1 : look ah 1 = some (.box [.v y0])) (h2 : look ah 2 = some (.box [.v z0])) (f2 : look fr 2 = some (.ptr 0 0)) (f3 : look fr 3 = some (.ptr 1 0)) (f4 : look fr 4 = some (.ptr 2 0)) :
    recQ Tryz.prog Tryz.f6.results.toList Y 17 tkCaps (takeD n R) [] (.pan (.v (.lit (fltV e)))) fr ah := by
  subst hR
  refine ⟨fltV e, [0, 1, 2], [(0, .box [.v x0, .v x1, .v x2, .v x3]), (1, .box [.v y0]), (2, .box [.v z0])], [(0, .box akZ), (1, .box [.v (.int .i64 0)]), (2, .box [.v (.int .i64 e)])], 3, tkCaps, [.agg akZ, .v (.int .i64 0), .v (.int .i64 e)], rfl, conD_catch, rfl, ?_, .cons h0 (.cons h1 (.cons h2 .nil)), rfl, by rw [hnp]; rfl, rfl, rfl, rfl, ?_, rfl, .nil, rfl⟩
  · intro c hc
    rcases List.mem_cons.1 hc with rfl | hc
    · exact ⟨0, 0, _, rfl, by rw [hnp]; decide, h0⟩
    rcases List.mem_cons.1 hc with rfl | hc
    · exact ⟨1, 0, _, rfl, by rw [hnp]; decide, h1⟩
    rcases List.mem_cons.1 hc with rfl | hc
    · exact ⟨2, 0, _, rfl, by rw [hnp]; decide, h2⟩
    · cases hc
  · have hr : Tryz.f6.results.toList = [.cell 2 26, .cell 3 3, .cell 4 27] := rfl
    rw [hr]
    exact .cell f2 rfl sz_26 ⟨.inl rfl, Nat.le_of_ble_eq_true rfl⟩ rfl (.cell f3 rfl sz_3 ⟨.inr rfl, Nat.le_of_ble_eq_true rfl⟩ rfl (.cell f4 rfl sz_27 ⟨.inr rfl, Nat.le_of_ble_eq_true rfl⟩ rfl .nil))
theorem con_Take {b : List UInt8} (hb : b.length ≤ 1000000000) : Con Tryz.prog 6 [.v (.sl (bs b))] [] 0 (.ret (takeD b.length (takeA b))) [] := by
  refine con_rec Tryz.func6 rfl (by show _ ≤ 38; simp) rfl fun X R hP hnt hnp hdf hR => ?_
  obtain ⟨P0, nt0, w0, K0, S0, np0, pin0, df0⟩ := X
  simp only at hP hnt hnp hdf
  subst hP hnp hdf
  obtain rfl : nt0 = 38 := hnt
  refine awR_region fun K hK => ?_
  refine aL (z_alloc 0 zc_26 zl_26) ?_
  refine aL (z_alloc 1 zc_3 zl_3) ?_
  refine aL (z_alloc 2 zc_27 zl_27) ?_
  refine awl_nil (hK _ _ ?_)
  clear hK K
  refine awR_defer 3 (caps := tkCaps) (eC (eC (eC .nil))) (fun Y d us hW e1 e2 e3 e4 e5 e6 e7 hpin => ?_)
  refine awR_of (hR Y 17 tkCaps d us hW e1 e2 e3 e4 e5 e7 (by kernel_rfl) conD_idle (fun i o hi ho => by cases ho)) ?_
  obtain ⟨P1, nt1, w1, K1, S1, np1, pin1, df1⟩ := Y
  simp only at e1 e2 e3 e4 e5 e6 e7
  subst e1 e2 e3 e4 e5 e6 e7
  have hret : ∀ (fr : Fm) (ah : AH) rs ds dd, Tryz.f6.results.toList = rs → ResIs Tryz.prog fr ah rs ds → retD ds = dd → Out.ret (takeD b.length (takeA b)) = .ret dd → KeepA ah (dom []) [] → D.live (dom []) dd = true → recQ Tryz.prog Tryz.f6.results.toList ⟨Tryz.prog, 38, w1, K1, S1, 3, pin1, [d]⟩ 17 tkCaps (takeD b.length (takeA b)) [] .ret fr ah ∧ recQ Tryz.prog Tryz.f6.results.toList ⟨Tryz.prog, 38, w1, K1, S1, 3, pin1, [d]⟩ 17 tkCaps (takeD b.length (takeA b)) [] .normal fr ah := fun fr ah rs ds dd h1 h2 h3 h4 h5 h6 => by
    subst h1
    injection h4 with h4
    subst h4
    exact ⟨⟨ds, h2, h3, h5, h6⟩, ⟨ds, h2, h3, h5, h6⟩⟩
  refine aw_region fun K1 hK1 => ?_
  refine aL z_move ?_
  refine aL (z_build (pC .nil) pl_53 zc_53 zl_53) ?_
  refine aL (z_box 3) ?_
  refine aL z_assign ?_
  refine awl_nil (hK1 _ _ ?_)
  clear hK1 K1
  refine aw_region fun K2 hK2 => ?_
  refine aL z_move ?_
  rcases hl : lnM b with e | ⟨s, r⟩
  · refine awl_callP [3] (eC .nil) en_18 (con_firstL (all := b) (k := 0) (Nat.zero_le _) hb hl) (pA .nil) ?_
    exact take_pan rfl (take_e1 hl) rfl rfl rfl rfl rfl rfl
  rcases hf : firstM s with _ | ⟨m, t⟩
  · refine awl_callP [3] (eC .nil) en_18 (con_firstE (all := b) (k := 0) (Nat.zero_le _) hb hl hf) (pA .nil) ?_
    exact take_pan rfl (take_e2 hl hf) rfl rfl rfl rfl rfl rfl
  have hA := take_h hl hf
  have hln := ln_len hl
  obtain ⟨-, -, -, hdr, hle⟩ := ln_ok hl
  have hdr0 : b.drop (0 + (s.length + 2)) = r := by rw [Nat.zero_add]; exact hdr
  refine aL (z_callG [3] (eC .nil) en_18 (con_firstO (all := b) (k := 0) (Nat.zero_le _) hb hl hf) (pA .nil)) ?_
  refine aL (z_store sz_26) ?_
  refine awl_nil (hK2 _ _ ?_)
  clear hK2 K2
  refine aw_region fun K3 hK3 => ?_
  refine aL z_assign ?_
  refine awl_nil (hK3 _ _ ?_)
  clear hK3 K3
  refine aw_weak (weak_nil (t := 6) 4 3 46 (by decide) (Nat.le_of_ble_eq_true rfl) rfl rfl) ?_
  refine aw_seq fun K4 hK4 => ?_
  refine aw_region fun K5 hK5 => ?_
  refine aL z_move ?_
  rcases hl2 : lnM r with e | ⟨s2, r2⟩
  · refine awl_callP [3] (eC .nil) en_19 (con_lineE (all := b) (k := 0 + (s.length + 2)) (e := e) (by omega) hb (by rw [hdr0]; exact hl2)) (pA .nil) ?_
    exact take_pan rfl (hA.trans (hdr_e hl2)) rfl rfl rfl rfl rfl rfl
  have hA2 := hA.trans (hdr_o hl2)
  have hln2 := ln_len hl2
  obtain ⟨-, -, -, hdr2, hle2⟩ := ln_ok hl2
  refine aL (z_callG [3] (eC .nil) en_19 (con_lineO (all := b) (k := 0 + (s.length + 2)) (by omega) hb (by rw [hdr0]; exact hl2)) (pA .nil)) ?_
  refine aL z_assign ?_
  refine awl_nil (hK5 _ _ ?_)
  clear hK5 K5
  refine aw_block ?_
  refine aw_loop (α := {x : List Fd × Nat × List UInt8 // takeA b = tailM m t (fldsS x.1 x.2.2 (b.drop x.2.1)) ∧ x.2.1 ≤ b.length ∧ szM x.1 + 2 * x.2.2.length + 32 ≤ 34 * x.2.1 ∧ x.2.2.length ≤ b.length}) (fun x => ([(2, .ptr 0 0), (3, .ptr 1 0), (4, .ptr 2 0), (5, .ptr 3 0), (6, .view 4 0 0 x.1.1.length), (7, .v (.str x.1.2.2))], [(0, .box (Ak.csX ⟨m, t, [], []⟩ NIL)), (1, .box [.v (.int .i64 0)]), (2, .box [.v (.int .i64 0)]), (3, .box (rdC b x.1.2.1)), (4, .row 0 3 46 (fdV x.1.1))])) (fun x => b.length - x.1.2.1) ⟨([], 0 + (s.length + 2) + (s2.length + 2), s2), by dsimp only; rw [show b.drop (0 + (s.length + 2) + (s2.length + 2)) = r2 by rw [← List.drop_drop, hdr0, hdr2]]; exact hA2, by dsimp only; omega, by simp [szM]; omega, by dsimp only; omega⟩ ?_ ?_
  · dsimp only
    exact wK
  · rintro ⟨⟨fs, k, s3⟩, hx, hk, hsz, hs3l⟩ K6 hK6
    dsimp only
    dsimp only at hx hk hsz hs3l
    have hfl := szM_len fs
    refine aw_seq fun K7 hK7 => ?_
    refine aw_region fun K8 hK8 => ?_
    refine aL z_move ?_
    refine aL z_neqS ?_
    refine awl_nil (hK8 _ _ ?_)
    clear hK8 K8
    refine aC (fun r1 c1 => ?_) (fun r1 c1 => ?_)
    · refine aw_skip ?_
      refine hK7 _ _ ?_
      clear hK7
      refine aw_seq fun K9 hK9 => ?_
      refine aw_block ?_
      refine aw_region_last ?_
      refine aL z_move ?_
      refine aL z_move ?_
      rcases hfm : fieldM s3 with _ | f
      · refine awl_callP [] (eC .nil) en_20 (con_fieldE (by omega) hfm) .nil ?_
        exact take_pan rfl (hx.trans (by rw [flds_bad (by assumption) hfm]; rfl)) rfl rfl rfl rfl rfl rfl
      obtain ⟨hfn, hfv⟩ := field_len hfm
      refine aL (z_call0 (eC .nil) en_20 (con_fieldO (by omega) hfm)) ?_
      refine aL (z_lits (pC .nil) Tryz.underlying24 sz_46 zc_46 zl_46 (c := [[_, _, _]])) ?_
      refine aL (z_app Tryz.underlying24 zi_46 (c' := fdV (fs ++ [f])) (hc := fdV_snoc rfl)) ?_
      refine aL z_assign ?_
      refine awl_nil ?_
      refine hK9 _ _ ?_
      clear hK9
      refine aw_region_last ?_
      refine aL z_move ?_
      rcases hl3 : lnM (b.drop k) with e | ⟨s4, r4⟩
      · refine awl_callP [3] (eC .nil) en_19 (con_lineE hk hb hl3) (pA .nil) ?_
        exact take_pan rfl (hx.trans (by rw [flds_err (by assumption) hfm hl3]; rfl)) rfl rfl rfl rfl rfl rfl
      have hln3 := ln_len hl3
      rw [List.length_drop] at hln3
      obtain ⟨-, -, -, hdr3, hle3⟩ := ln_ok hl3
      refine aL (z_callG [3] (eC .nil) en_19 (con_lineO hk hb hl3) (pA .nil)) ?_
      refine aL z_assign ?_
      refine awl_nil ?_
      refine hK6 _ _ ⟨(fs ++ [f], k + (s4.length + 2), s4), by dsimp only; rw [hx, flds_on (by assumption) hfm hl3, ← hdr3, List.drop_drop], by dsimp only; omega, by dsimp only; rw [szM_app, show szM [f] = f.n.length + f.v.length + 32 by simp [szM]]; omega, by dsimp only; omega⟩ (by dsimp only; omega) ?_
      exact Weak.trans (weak_rever 4 0 rfl) wK
    · refine aw_exit ?_
      refine hK4 _ _ ?_
      clear hK4
      refine aw_weak (weak_settle (fr' := [(2, .ptr 0 0), (3, .ptr 1 0), (4, .ptr 2 0), (5, .ptr 3 0), (6, .v (.sl (fdV fs)))]) (ah' := [(0, .box (Ak.csX ⟨m, t, [], []⟩ NIL)), (1, .box [.v (.int .i64 0)]), (2, .box [.v (.int .i64 0)]), (3, .box (rdC b k))]) 4 rfl (.box rfl rfl (.box rfl rfl (.box rfl rfl (.box rfl rfl .nil)))) rfl (.keep rfl rfl (.keep rfl rfl (.keep rfl rfl (.keep rfl rfl (.view rfl (cutW (by simp)) .nil)))))) ?_
      refine aw_region fun K10 hK10 => ?_
      refine aL z_move ?_
      refine aL z_move ?_
      have hs0 : s3 = [] := by assumption
      rw [hs0, flds_end] at hx
      rcases hbd : bodyM fs (b.drop k) with e | bd
      · refine awl_callP [3] (eC (eC .nil)) en_21 (con_bodyE hk hb (by omega) hbd) (pA .nil) ?_
        exact take_pan rfl (hx.trans (tail_e hbd)) rfl rfl rfl rfl rfl rfl
      have hx2 := hx.trans (tail_o hbd)
      have hbl := body_len hbd
      rw [List.length_drop] at hbl
      refine aL (z_callG [3] (eC (eC .nil)) en_21 (con_bodyO hk hb (by omega) hbd) (pA .nil)) ?_
      first
        | refine aL (z_fieldAddr fo_26_3) ?_
        | refine aL (z_fieldRef fo_26_3) ?_
        | refine aL (z_fieldV fo_26_3) ?_
      refine aL (z_store sz_9) ?_
      refine awl_nil (hK10 _ _ ?_)
      clear hK10 K10
      refine aw_region fun K11 hK11 => ?_
      refine aL z_move ?_
      refine aL (z_lits (pC .nil) Tryz.underlying68 sz_9 zc_9 zl_9 (c := [[V.str kCL]])) ?_
      refine aL (z_call0 (eC (eC .nil)) en_22 (con_Without (l := fs) (names := [kCL]) (by omega) (fun f hf => by have := szM_mem hf; omega) (by decide) (by decide))) ?_
      first
        | refine aL (z_fieldAddr fo_26_2) ?_
        | refine aL (z_fieldRef fo_26_2) ?_
        | refine aL (z_fieldV fo_26_2) ?_
      refine aL (z_store sz_24) ?_
      refine awl_nil (hK11 _ _ ?_)
      clear hK11 K11
      refine aw_regionD mx_all (by kernel_rfl) fun K12 hK12 => ?_
      first
        | refine aD (z_load sz_26) ?_
        | refine aD (z_loadRef sz_26) ?_
        | refine aD (z_loadV sz_26) ?_
      refine aD z_move ?_
      refine aD z_nilCheck ?_
      first
        | refine aD (z_fieldAddr fo_53_1) ?_
        | refine aD (z_fieldRef fo_53_1) ?_
        | refine aD (z_fieldV fo_53_1) ?_
      first
        | refine aD (z_load sz_3) ?_
        | refine aD (z_loadRef sz_3) ?_
        | refine aD (z_loadV sz_3) ?_
      refine aD (z_store sz_26) ?_
      refine aD (z_store sz_3) ?_
      refine aD (z_store sz_27) ?_
      refine awd_nil (by kernel_rfl) (hK12 _ _ ?_)
      clear hK12 K12
      refine aw_ret ?_
      refine (hret _ _ _ _ _ rfl (rCe sz_26 (rCe sz_3 (rCe sz_27 .nil))) rfl ?_ .nil rfl).1
      rw [hx2]
      have hu : b.length - ((b.drop k).drop bd.length).length = k + bd.length := by simp; omega
      simp only [takeD, hu]
      rfl
end Go.Proofs.YtnjbfiejgiaibaaGreatDoor
