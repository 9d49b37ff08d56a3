/- Chapter 15: pieces: few; Take, whatever comes of it. No condition but on lengths. -/
import Derived.Test.YthflfnehdlpmdaaDoorRpP
namespace Go.Proofs.YthflfnehdlpmdaaDoor
set_option linter.all false
open Go Go.RowKit
set_option maxRecDepth 100000
set_option maxHeartbeats 4000000
def psV (l : List (List UInt8)) : List (List V) := l.map fun p => [V.sl (bs p)]
@[simp] theorem psV_len (l : List (List UInt8)) : (psV l).length = l.length := by simp [psV]
theorem psV_get {l : List (List UInt8)} {i : Nat} (h : i < l.length) : (psV l)[i]? = some [V.sl (bs l[i])] := by simp [psV, h]
theorem take_flat {ps : List (List UInt8)} {i : Nat} (h : i < ps.length) : (ps.take (i + 1)).flatten = (ps.take i).flatten ++ ps[i] := by
  rw [List.take_add_one, List.getElem?_eq_getElem h, List.flatten_append]; simp
def fewM (ps : List (List UInt8)) : Bool := (List.range ps.length).all fun i => decide ((ps.take (i + 1)).flatten.length ≤ 32768) && decide (i ≤ 100)
theorem few_at {ps : List (List UInt8)} (h : fewM ps = true) {i : Nat} (hi : i < ps.length) : (ps.take (i + 1)).flatten.length ≤ 32768 ∧ i ≤ 100 := by
  have := List.all_eq_true.1 h i (List.mem_range.2 hi)
  rw [Bool.and_eq_true, decide_eq_true_eq, decide_eq_true_eq] at this
  exact this
theorem con_few {ps : List (List UInt8)} (hl : ps.length ≤ 140737488351232) (hp : ∀ p ∈ ps, p.length ≤ 140737488351232) : Con Tryd.prog 14 [.v (.sl (psV ps))] [] 0 (.ret (.v (.bool (fewM ps)))) [] := by
  have hpl := psV_len ps
  obtain ⟨R, hR⟩ : ∃ R, fewM ps = R := ⟨_, rfl⟩
  rw [hR]
  refine con_of Tryd.func14 rfl (by show _ ≤ 24; simp) fun X Q hP hnt hnp hret hpan => ?_
  obtain ⟨P0, nt0, w0, K0, S0, np0, pin0, df0⟩ := X
  simp only at hP hnt hnp
  subst hP hnp
  obtain rfl : nt0 = 24 := hnt
  refine aw_region fun K1 hK1 => ?_
  refine aL z_assign ?_
  refine awl_nil (hK1 _ _ ?_)
  clear hK1 K1
  refine aw_region fun K2 hK2 => ?_
  refine aL z_assign ?_
  refine awl_nil (hK2 _ _ ?_)
  clear hK2 K2
  refine aw_seq fun K3 hK3 => ?_
  refine aw_region fun K4 hK4 => ?_
  refine aL z_assign ?_
  refine awl_nil (hK4 _ _ ?_)
  clear hK4 K4
  refine aw_block ?_
  refine aw_loop (α := {i : Nat // i ≤ ps.length ∧ (ps.take i).flatten.length ≤ 32768 ∧ ∀ j, j < i → (ps.take (j + 1)).flatten.length ≤ 32768 ∧ j ≤ 100}) (fun x => ([(0, .v (.sl (psV ps))), (3, .v (.int .i64 ((ps.take x.1).flatten.length : Int))), (4, .v (.int .i64 (x.1 : Int)))], [])) (fun x => ps.length - x.1) ⟨0, Nat.zero_le _, by simp, fun j hj => by omega⟩ ?_ ?_
  · dsimp only
    exact wK
  · rintro ⟨i, hi, hn, hj⟩ K5 hK5
    dsimp only
    refine aw_seq fun K6 hK6 => ?_
    refine aw_region fun K7 hK7 => ?_
    refine aL z_move ?_
    refine aL z_move ?_
    refine aL (z_len Tryd.underlying39) ?_
    refine aL z_lss ?_
    refine awl_nil (hK7 _ _ ?_)
    clear hK7 K7
    refine aC (fun r1 c1 => ?_) (fun r1 c1 => ?_)
    · refine aw_skip ?_
      refine hK6 _ _ ?_
      clear hK6
      refine aw_seq fun K8 hK8 => ?_
      refine aw_block ?_
      refine aw_region fun K9 hK9 => ?_
      have hlt : i < ps.length := (by omega)
      have hg := psV_get hlt
      have hpb := hp _ (List.getElem_mem hlt)
      have htk := take_flat hlt
      generalize ps[i] = p at hg hpb htk
      have hpb2 := bs_length p
      have hfl : (((ps.take (i + 1)).flatten.length : Nat) : Int) = ((ps.take i).flatten.length : Int) + (p.length : Int) := by rw [htk, List.length_append]; omega
      refine aL z_move ?_
      refine aL z_move ?_
      refine aL z_move ?_
      refine aL (z_indexAddr Tryd.underlying39 sz_32) ?_
      refine aL (z_loadRef sz_32) ?_
      refine aL (z_lenB Tryd.underlying32) ?_
      refine aL z_add ?_
      refine aL z_assign ?_
      refine awl_nil (hK9 _ _ ?_)
      clear hK9 K9
      refine aw_region fun K10 hK10 => ?_
      refine aL z_move ?_
      refine aL z_gtr ?_
      refine aL z_move ?_
      refine gL rfl rfl (ev_tmp rfl) (fun hg => z_move) ?_
      refine gL rfl rfl (ev_tmp rfl) (fun hg => z_gtr) ?_
      refine aL z_or ?_
      refine awl_nil (hK10 _ _ ?_)
      clear hK10 K10
      refine aC (fun r2 c2 => ?_) (fun r2 c2 => ?_)
      · refine aw_region fun K11 hK11 => ?_
        refine aL z_assign ?_
        refine awl_nil (hK11 _ _ ?_)
        clear hK11 K11
        first
          | (have e0 : fewM ps = false := by
               rw [Bool.eq_false_iff]
               intro hf
               have := few_at hf hlt
               rcases c2 with q | q <;> omega
             rw [e0] at hR
             subst hR)
          | (have e0 : fewM ps = true := List.all_eq_true.2 fun j h => by
               have h2 := hj j (by have := List.mem_range.1 h; omega)
               rw [decide_eq_true h2.1, decide_eq_true h2.2]; rfl
             rw [e0] at hR
             subst hR)
        refine aw_ret ?_
        refine (hret _ _ _ _ _ rfl (.tmp rfl .nil) rfl ?_ .nil rfl).1
        rfl
      · refine aw_skip ?_
        refine hK8 _ _ ?_
        clear hK8
        refine aw_region_last ?_
        refine aL z_move ?_
        refine aL z_add ?_
        refine aL z_assign ?_
        refine awl_nil ?_
        refine hK5 _ _ ⟨i + 1, by omega, by omega, fun j h => ?_⟩ (by dsimp only; omega) ?_
        · rcases Nat.lt_or_ge j i with q | q
          · exact hj j q
          · obtain rfl : j = i := (by omega)
            exact ⟨by omega, by omega⟩
        · dsimp only
          rw [hfl]
          exact wK
    · refine aw_exit ?_
      refine hK3 _ _ ?_
      clear hK3
      refine aw_region fun K12 hK12 => ?_
      refine aL z_assign ?_
      refine awl_nil (hK12 _ _ ?_)
      clear hK12 K12
      first
        | (have e0 : fewM ps = false := by
             rw [Bool.eq_false_iff]
             intro hf
             have := few_at hf hlt
             rcases c2 with q | q <;> omega
           rw [e0] at hR
           subst hR)
        | (have e0 : fewM ps = true := List.all_eq_true.2 fun j h => by
             have h2 := hj j (by have := List.mem_range.1 h; omega)
             rw [decide_eq_true h2.1, decide_eq_true h2.2]; rfl
           rw [e0] at hR
           subst hR)
      refine aw_ret ?_
      refine (hret _ _ _ _ _ rfl (.tmp rfl .nil) rfl ?_ .nil rfl).1
      rfl
theorem con_TakeE {s : Ps} {q : Bool} {b : List UInt8} {e : Int} (hq : s.fb = q) (hok : s.ok) (he : s.ended = false) (hb : b.length ≤ 1000000000) (hR : runB s hs0 b = .error e) : Con Tryd.prog 10 [.ptr 0 0, .v (.sl (bs b))] (s.ahB q false 0) 3 (.ret (.tup [.agg hs0.cs, .v (.int .i64 0), .v (.int .i64 e)])) (deadAH 2) := by
  have h := con_Take hok he hb hR
  rw [show s.ah 0 = s.ahB s.fb s.ended 0 from rfl, hq, he] at h
  exact h
theorem con_TakeK {s s2 : Ps} {q q2 : Bool} {b r2 : List UInt8} {h2 : Hs} (hq : s.fb = q) (hq2 : s2.fb = q2) (hok : s.ok) (he : s.ended = false) (hb : b.length ≤ 1000000000) (hR : runB s hs0 b = .ok (s2, h2, r2)) : Con Tryd.prog 10 [.ptr 0 0, .v (.sl (bs b))] (s.ahB q false 0) 3 (.ret (.tup [.agg h2.cs, .v (.int .i64 ((b.length - r2.length : Nat) : Int)), .v (.int .i64 0)])) (s2.ahB q2 s2.ended 1) := by
  have h := con_Take hok he hb hR
  rw [show s.ah 0 = s.ahB s.fb s.ended 0 from rfl, hq, he] at h
  rw [show tkAH (.ok (s2, h2, r2)) = s2.ahB s2.fb s2.ended 1 from rfl, hq2] at h
  exact h
/-- A parser that lies at 3, 4, 5. -/
abbrev fsD3 (b : Bool) (u : Nat) (fs : List Fd) : D := match b with
  | true => .view 5 u 0 fs.length
  | false => .v (.sl (fdV fs))
abbrev Ps.cs3 (s : Ps) (b ov : Bool) (v : Nat) : List D := [.v (.bool s.hd), .fn (.func s.k.fn) [.ptr 3 0] [], .view 4 v 0 s.ln.length, .v (.int .i64 s.st), .v (.bool s.old), fsD3 b v s.fs, .v (.int .i64 s.many), .v (.int .i64 s.need), .v (.bool ov), .v (.bool s.ended), .v (.bool s.toEnd)]
abbrev Ps.ah3 (s : Ps) (b ov : Bool) (v : Nat) : AH := [(3, .box (s.cs3 b ov v)), (4, rwB v s.ln), (5, rwF v (fsR b s.fs))]
end Go.Proofs.YthflfnehdlpmdaaDoor
