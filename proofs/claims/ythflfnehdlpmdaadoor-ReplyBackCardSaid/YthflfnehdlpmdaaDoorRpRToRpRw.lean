/- Chapter 15 in plain Lean: answers in a row. No program, no condition. -/
import Derived.Test.YthflfnehdlpmdaaDoorRpY
namespace Go.Proofs.YthflfnehdlpmdaaDoor
set_option linter.all false
open Go Go.RowKit
/-- What an answer in a row leaves behind. -/
structure RowOk (b : List UInt8) (s : Ps) (h : Hs) : Prop where
  fin : h.fin = true
  data : h.data = b
  keeps : kpM s = true
  ended : s.ended = true
  size : szM s.fs ≤ 1000
theorem kp_no {s : Ps} (he : s.ended = true) (ho : s.old = false) (hv : hvM s.fs [99, 111, 110, 110, 101, 99, 116, 105, 111, 110] = []) : kpM s = true := by
  unfold kpM hasM hallM
  rw [he, ho, hv]; rfl
theorem len_one {n : Nat} (h : n ≤ 10000) (k : List UInt8) (hk : k = clL) : lenGo 0 false [digsM 10 n] = ((n : Int), true, 0) := by
  have hv := digs_small 10 (by decide) (by decide) (n : Int) (by omega) (by omega)
  unfold digs at hv
  rw [if_neg (by omega), Int.toNat_natCast] at hv
  replace hv : numV 10 (digsM 10 n) = (n : Int) ∧ numE 10 (digsM 10 n) = 0 := hv
  unfold lenGo
  rw [hv.1, hv.2, if_neg (by simp)]
  rfl
end Go.Proofs.YthflfnehdlpmdaaDoor

/- Chapter 15 in plain Lean: pieces. No program, no condition. -/
namespace Go.Proofs.YthflfnehdlpmdaaDoor
set_option linter.all false
open Go Go.RowKit
theorem runB_app : ∀ (b : List UInt8) (s : Ps) (h : Hs) (s' : Ps) (h' : Hs) (r c : List UInt8), runB s h b = .ok (s', h', r) → runB s h (b ++ c) = runB s' h' (r ++ c)
  | [], s, h, s', h', r, c, hr => by
    injection hr with hr; injection hr with h1 hr; injection hr with h2 h3
    subst h1 h2 h3; rfl
  | x :: b, s, h, s', h', r, c, hr => by
    rw [runB] at hr
    by_cases he : s.ended = true
    · rw [if_pos he] at hr
      injection hr with hr; injection hr with h1 hr; injection hr with h2 h3
      subst h1 h2 h3; rfl
    · rw [if_neg he] at hr
      rw [List.cons_append, runB, if_neg he]
      cases hb : byteM s h x with
      | error e => rw [hb] at hr; cases hr
      | ok p =>
        obtain ⟨s1, h1⟩ := p
        rw [hb] at hr
        exact runB_app b s1 h1 s' h' r c hr
theorem byte_one {s : Ps} {h : Hs} {c : UInt8} {s' : Ps} {h' : Hs} (hok : s.ok) (he : s.ended = false) (hb : byteM s h c = .ok (s', h')) : s'.ok ∧ h'.data.length ≤ h.data.length + 1 := by
  have h1 : runB s h [c] = .ok (s', h', []) := by rw [runB, if_neg (by rw [he]; decide), hb]; rfl
  have h2 := next_run (h := h) (b := [c]) hok he (by simp)
  cases hn : nextM s h [c] with
  | error e => rw [hn] at h2; have h2 : runB s h [c] = .error e := h2; rw [h1] at h2; cases h2
  | ok x =>
    have h3 := next_data hn (nextL_data hok)
    rw [hn] at h2
    obtain ⟨q1, q2, q3, q4, q5⟩ := h2
    have hr : x.r = [] := List.eq_nil_of_length_eq_zero (by simpa using q2)
    rw [hr, h1] at q1
    injection q1 with q1; injection q1 with e1 q1; injection q1 with e2 e3
    rw [e1, e2]
    refine ⟨q5, ?_⟩
    rw [hr] at h3; simpa using h3
theorem run_ok' : ∀ (b : List UInt8) (s : Ps) (h : Hs) (s' : Ps) (h' : Hs) (r : List UInt8), s.ok → runB s h b = .ok (s', h', r) → s'.ok ∧ h'.data.length ≤ h.data.length + b.length
  | [], s, h, s', h', r, hok, hr => by
    injection hr with hr; injection hr with h1 hr; injection hr with h2 h3; subst h1 h2; exact ⟨hok, by simp⟩
  | x :: b, s, h, s', h', r, hok, hr => by
    rw [runB] at hr
    by_cases he : s.ended = true
    · rw [if_pos he] at hr
      injection hr with hr; injection hr with h1 hr; injection hr with h2 h3; subst h1 h2; exact ⟨hok, by omega⟩
    · rw [if_neg he] at hr
      cases hb : byteM s h x with
      | error e' => rw [hb] at hr; cases hr
      | ok p =>
        obtain ⟨s1, h1⟩ := p
        rw [hb] at hr
        obtain ⟨a1, a2⟩ := byte_one hok (by simpa using he) hb
        obtain ⟨b1, b2⟩ := run_ok' b s1 h1 s' h' r a1 hr
        exact ⟨b1, by simp; omega⟩
end Go.Proofs.YthflfnehdlpmdaaDoor

/- Chapter 15: pieces: few; Take, whatever comes of it. No condition but on lengths. -/
namespace Go.Proofs.YthflfnehdlpmdaaDoor
set_option linter.all false
open Go Go.RowKit
set_option maxRecDepth 100000
set_option maxHeartbeats 4000000
def psV (l : List (List UInt8)) : List (List V) := l.map fun p => [V.sl (bs p)]
@[simp] theorem psV_len (l : List (List UInt8)) : (psV l).length = l.length := by simp [psV]
theorem con_TakeK {s s2 : Ps} {q q2 : Bool} {b r2 : List UInt8} {h2 : Hs} (hq : s.fb = q) (hq2 : s2.fb = q2) (hok : s.ok) (he : s.ended = false) (hb : b.length ≤ 1000000000) (hR : runB s hs0 b = .ok (s2, h2, r2)) : Con Tryd.prog 10 [.ptr 0 0, .v (.sl (bs b))] (s.ahB q false 0) 3 (.ret (.tup [.agg h2.cs, .v (.int .i64 ((b.length - r2.length : Nat) : Int)), .v (.int .i64 0)])) (s2.ahB q2 s2.ended 1) := by
  have h := con_Take hok he hb hR
  rw [show s.ah 0 = s.ahB s.fb s.ended 0 from rfl, hq, he] at h
  rw [show tkAH (.ok (s2, h2, r2)) = s2.ahB s2.fb s2.ended 1 from rfl, hq2] at h
  exact h
/-- A parser that lies at 3, 4, 5. -/
abbrev fsD3 (b : Bool) (u : Nat) (fs : List Fd) : D := match b with
  | true => .view 5 u 0 fs.length
  | false => .v (.sl (fdV fs))
abbrev Ps.cs3 (s : Ps) (b ov : Bool) (v : Nat) : List D := [.v (.bool s.hd), .fn (.func s.k.fn) [.ptr 3 0] [], .view 4 v 0 s.ln.length, .v (.int .i64 s.st), .v (.bool s.old), fsD3 b v s.fs, .v (.int .i64 s.many), .v (.int .i64 s.need), .v (.bool ov), .v (.bool s.ended), .v (.bool s.toEnd)]
abbrev Ps.ah3 (s : Ps) (b ov : Bool) (v : Nat) : AH := [(3, .box (s.cs3 b ov v)), (4, rwB v s.ln), (5, rwF v (fsR b s.fs))]
end Go.Proofs.YthflfnehdlpmdaaDoor

/- Chapter 15: Keeps, Left, at rows' later versions. No condition but on lengths. -/
namespace Go.Proofs.YthflfnehdlpmdaaDoor
set_option linter.all false
open Go Go.RowKit
set_option maxRecDepth 100000
set_option maxHeartbeats 4000000
theorem con_KeepsE1 {s : Ps} {ov : Bool} (he : s.ended = true) (hs : szM s.fs ≤ 1000000000) : Con Tryd.prog 12 [.ptr 0 0] (s.ahB false ov 1) 3 (.ret (.v (.bool (kpM s)))) (s.ahB false ov 2) := by
  obtain ⟨hd, kk, ln, st, old, fs, many, need, ended, toEnd⟩ := s
  simp only at he hs
  subst he
  have hH := con_Has (l := fs) (k := [99, 111, 110, 110, 101, 99, 116, 105, 111, 110]) (v := [99, 108, 111, 115, 101]) hs (by decide) (by decide)
  unfold kpM
  dsimp only
  refine con_of Tryd.func12 rfl (by show _ ≤ 26; simp) fun X Q hP hnt hnp hret hpan => ?_
  obtain ⟨P0, nt0, w0, K0, S0, np0, pin0, df0⟩ := X
  simp only at hP hnt hnp
  subst hP hnp
  obtain rfl : nt0 = 26 := hnt
  refine aw_region fun K1 hK1 => ?_
  refine aL z_assign ?_
  refine awl_nil (hK1 _ _ ?_)
  clear hK1 K1
  refine aw_region fun K2 hK2 => ?_
  refine aL z_move ?_
  refine aL (z_neqPP Tryd.underlying24) ?_
  refine aL z_move ?_
  refine gL rfl rfl (ev_tmp rfl) (fun hg => z_move) ?_
  refine gL rfl rfl (ev_tmp rfl) (fun hg => z_nilCheck) ?_
  refine gL rfl rfl (ev_tmp rfl) (fun hg => z_fieldAddr fo_54_9) ?_
  refine gL rfl rfl (ev_tmp rfl) (fun hg => z_load sz_4) ?_
  refine aL z_and ?_
  refine aL z_move ?_
  refine gL rfl rfl (ev_tmp rfl) (fun hg => z_move) ?_
  refine gL rfl rfl (ev_tmp rfl) (fun hg => z_nilCheck) ?_
  refine gL rfl rfl (ev_tmp rfl) (fun hg => z_fieldAddr fo_54_4) ?_
  refine gL rfl rfl (ev_tmp rfl) (fun hg => z_load sz_4) ?_
  refine gL rfl rfl (ev_tmp rfl) (fun hg => z_not) ?_
  refine aL z_and ?_
  refine aL z_move ?_
  refine gL rfl rfl (ev_tmp rfl) (fun hg => z_move) ?_
  refine gL rfl rfl (ev_tmp rfl) (fun hg => z_nilCheck) ?_
  refine gL rfl rfl (ev_tmp rfl) (fun hg => z_fieldAddr fo_54_5) ?_
  refine gL rfl rfl (ev_tmp rfl) (fun hg => z_load sz_26) ?_
  refine gL rfl rfl (ev_tmp rfl) (fun hg => z_call0 (eC (eC (eC .nil))) en_22 (hH)) ?_
  refine gL rfl rfl (ev_tmp rfl) (fun hg => z_not) ?_
  refine aL z_and ?_
  refine aL z_assign ?_
  refine awl_nil (hK2 _ _ ?_)
  clear hK2 K2
  refine aw_weak (weak_rever 1 2 rfl) (aw_weak (weak_rever 2 2 rfl) ?_)
  refine aw_ret ?_
  refine (hret _ _ _ _ _ rfl (.tmp rfl .nil) rfl ?_ (.box rfl rfl (.row rfl (.row rfl .nil))) rfl).1
  rfl
theorem con_KeepsNF2 {s : Ps} {ov : Bool} (he : s.ended = false) : Con Tryd.prog 12 [.ptr 0 0] (s.ahB false ov 2) 3 (.ret (.v (.bool false))) (s.ahB false ov 3) := by
  obtain ⟨hd, kk, ln, st, old, fs, many, need, ended, toEnd⟩ := s
  simp only at he
  subst he
  refine con_of Tryd.func12 rfl (by show _ ≤ 26; simp) fun X Q hP hnt hnp hret hpan => ?_
  obtain ⟨P0, nt0, w0, K0, S0, np0, pin0, df0⟩ := X
  simp only at hP hnt hnp
  subst hP hnp
  obtain rfl : nt0 = 26 := hnt
  refine aw_region fun K1 hK1 => ?_
  refine aL z_assign ?_
  refine awl_nil (hK1 _ _ ?_)
  clear hK1 K1
  refine aw_region fun K2 hK2 => ?_
  refine aL z_move ?_
  refine aL (z_neqPP Tryd.underlying24) ?_
  refine aL z_move ?_
  refine gL rfl rfl (ev_tmp rfl) (fun hg => z_move) ?_
  refine gL rfl rfl (ev_tmp rfl) (fun hg => z_nilCheck) ?_
  refine gL rfl rfl (ev_tmp rfl) (fun hg => z_fieldAddr fo_54_9) ?_
  refine gL rfl rfl (ev_tmp rfl) (fun hg => z_load sz_4) ?_
  refine aL z_and ?_
  refine aL z_move ?_
  refine gL rfl rfl (ev_tmp rfl) (fun hg => z_move) ?_
  refine gL rfl rfl (ev_tmp rfl) (fun hg => z_nilCheck) ?_
  refine gL rfl rfl (ev_tmp rfl) (fun hg => z_fieldAddr fo_54_4) ?_
  refine gL rfl rfl (ev_tmp rfl) (fun hg => z_load sz_4) ?_
  refine gL rfl rfl (ev_tmp rfl) (fun hg => ((absurd hg (by simp)) : StepU _ _ _ _ (.v (.bool false)) [] [])) ?_
  refine aL z_and ?_
  refine aL z_move ?_
  refine gL rfl rfl (ev_tmp rfl) (fun hg => z_move) ?_
  refine gL rfl rfl (ev_tmp rfl) (fun hg => z_nilCheck) ?_
  refine gL rfl rfl (ev_tmp rfl) (fun hg => z_fieldAddr fo_54_5) ?_
  refine gL rfl rfl (ev_tmp rfl) (fun hg => z_load sz_26) ?_
  refine gL rfl rfl (ev_tmp rfl) (fun hg => ((absurd hg (by simp)) : StepU _ _ _ _ .any [] [])) ?_
  refine gL rfl rfl (ev_tmp rfl) (fun hg => ((absurd hg (by simp)) : StepU _ _ _ _ (.v (.bool false)) [] [])) ?_
  refine aL z_and ?_
  refine aL z_assign ?_
  refine awl_nil (hK2 _ _ ?_)
  clear hK2 K2
  refine aw_weak (weak_rever 1 3 rfl) (aw_weak (weak_rever 2 3 rfl) ?_)
  refine aw_ret ?_
  refine (hret _ _ _ _ _ rfl (.tmp rfl .nil) rfl ?_ (.box rfl rfl (.row rfl (.row rfl .nil))) rfl).1
  rfl
end Go.Proofs.YthflfnehdlpmdaaDoor

/- Chapter 15: answers in a row. No condition but on lengths. -/
namespace Go.Proofs.YthflfnehdlpmdaaDoor
set_option linter.all false
open Go Go.RowKit
set_option maxRecDepth 100000
set_option maxHeartbeats 4000000
def blV (l : List Bool) : List (List V) := l.map fun b => [V.bool b]
@[simp] theorem blV_len (l : List Bool) : (blV l).length = l.length := by simp [blV]
theorem con_rDigits16 {n : Int} (hn : n ≤ 9223372036854775807) : Con Tryd.prog 13 [.v (.int .i64 n), .v (.int .i64 16)] [] 0 (.ret (.v (.str (digs 16 n)))) [] :=
  con_pure fun G w us _ hA => by
    obtain rfl := ei2 hA
    refine (refDigits_all n hn 16 (.inr rfl) w).mono fun e w' ⟨he, hw⟩ => ?_
    exact ⟨_, he, fun m => mk_str _, hw⟩
theorem digs_nat (b n : Nat) : digs b (n : Int) = digsM b n := by unfold digs; rw [if_neg (by omega), Int.toNat_natCast]
end Go.Proofs.YthflfnehdlpmdaaDoor
