/- Chapter 15 in plain Lean: an answer that is written is heard. No program, no condition. -/
import Derived.Test.YthflfnehdlpmdaaDoorRpRToRpRw
namespace Go.Proofs.YthflfnehdlpmdaaDoor
set_option linter.all false
open Go Go.RowKit
set_option maxRecDepth 100000
abbrev preB : List UInt8 := [72, 84, 84, 80, 47, 49, 46, 49, 32, 49, 48, 48, 32, 67, 111, 110, 116, 105, 110, 117, 101, 13, 10, 65, 58, 32, 98, 13, 10, 13, 10]
abbrev S100 : Ps := ⟨false, .first, [], 100, false, [⟨[97], [98], false⟩], 1, 0, false, false⟩
theorem pre_run : runB (ps0 false) hs0 preB = .ok (S100, hs0, []) := by kernel_rfl
abbrev xaF : Fd := ⟨[120, 45, 97], [98], false⟩
abbrev xaN : List UInt8 := [88, 45, 65]
abbrev S2 (st : Int) : Ps := ⟨false, .heads, [], st, false, [xaF], 1, 0, false, false⟩
theorem digs3 (n : Nat) (h1 : 200 ≤ n) (h2 : n ≤ 999) : (digsM 10 n).length = 3 := by
  rw [digsM_eq 10 (by decide), if_neg (by omega), digsM_eq 10 (by decide) (n / 10), if_neg (by omega), digsM_eq 10 (by decide) (n / 10 / 10), if_pos (by omega)]
  simp
theorem first_back (n : Nat) (h1 : 200 ≤ n) (h2 : n ≤ 999) : onLine S100 hs0 ([72, 84, 84, 80, 47, 49, 46, 49] ++ 32 :: digsM 10 n) = .ok (⟨false, .heads, [], (n : Int), false, [], 0, 0, false, false⟩, hs0) := by
  have hdg := digs_dig 10 (by decide) (by decide) n
  have hv := digs_small 10 (by decide) (by decide) (n : Int) (by omega) (by omega)
  unfold digs at hv
  rw [if_neg (by omega), Int.toNat_natCast] at hv
  replace hv : numV 10 (digsM 10 n) = (n : Int) ∧ numE 10 (digsM 10 n) = 0 := hv
  have hc1 : cutM 32 ([72, 84, 84, 80, 47, 49, 46, 49] ++ 32 :: digsM 10 n) = ([72, 84, 84, 80, 47, 49, 46, 49], digsM 10 n, true) := cutM_app _ (by decide)
  have hc2 : cutM 32 (digsM 10 n) = (digsM 10 n, [], false) := cutM_no (dig_no hdg (by decide))
  have hf := first_line (s := S100) (h := hs0) hc1 hc2
  rw [show onLine S100 hs0 ([72, 84, 84, 80, 47, 49, 46, 49] ++ 32 :: digsM 10 n) = onFirst S100 hs0 ([72, 84, 84, 80, 47, 49, 46, 49] ++ 32 :: digsM 10 n) from rfl, hf]
  rw [hv.1, hv.2, digs3 n h1 h2, if_neg]
  · rfl
  · have : decide ((n : Int) < 100) = false := decide_eq_false (by omega)
    rw [this]; decide
/-- The head's first two lines. -/
abbrev headB (n : Nat) : List UInt8 := [72, 84, 84, 80, 47, 49, 46, 49, 32] ++ digs 10 (n : Int) ++ [13, 10, 88, 45, 65, 58, 32, 98, 13, 10]
theorem head_run (n : Nat) (h1 : 200 ≤ n) (h2 : n ≤ 999) (r : List UInt8) : runB (ps0 false) hs0 (preB ++ (headB n ++ r)) = runB (S2 (n : Int)) hs0 r := by
  rw [runB_app _ _ _ _ _ _ _ pre_run, List.nil_append]
  have hl := digs3 n h1 h2
  have e : headB n ++ r = ([72, 84, 84, 80, 47, 49, 46, 49] ++ 32 :: digsM 10 n) ++ 13 :: 10 :: (xaN ++ 58 :: 32 :: [98] ++ 13 :: 10 :: r) := by
    unfold headB; rw [digs_nat]; simp
  rw [e, run_line rfl rfl rfl (by rw [noLn_app, show noLn (32 :: digsM 10 n) = true by have := dig_noLn (digs_dig 10 (by decide) (by decide) n); simp [noLn] at this ⊢; exact this]; rfl) (by simp; omega), first_back n h1 h2]
  simp only
  rw [run_field rfl rfl rfl (by decide) (by decide) (by decide) (by decide) (by show (0 : Int) < 100; decide) (by decide)]
  rfl
/-- How an answer was heard. -/
structure BackOk (n : Nat) (b : List UInt8) (s : Ps) (h : Hs) : Prop where
  head : h.head = true
  st : h.st = (n : Int)
  data : h.data = b
  fs : ∃ F, h.fs = xaF :: F
  ok : s.ok
structure BackEnd (s : Ps) (h : Hs) : Prop where
  fin : h.fin = true
  ended : s.ended = true
  keeps : kpM s = true
theorem back_len (n : Nat) (h1 : 200 ≤ n) (h2 : n ≤ 999) (h3 : ¬ n = 204) (h4 : ¬ n = 304) (b : List UInt8) (hb : b.length ≤ 10000) :
    ∃ s h, runB (ps0 false) hs0 (preB ++ (headB n ++ [67, 111, 110, 116, 101, 110, 116, 45, 76, 101, 110, 103, 116, 104, 58, 32] ++ digs 10 (b.length : Int) ++ [13, 10, 13, 10] ++ b)) = .ok (s, h, []) ∧ BackOk n b s h ∧ BackEnd s h := by
  have hdl : (digsM 10 b.length).length ≤ 5 := digs_short 10 (by decide) 4 _ (by omega)
  have e : headB n ++ [67, 111, 110, 116, 101, 110, 116, 45, 76, 101, 110, 103, 116, 104, 58, 32] ++ digs 10 (b.length : Int) ++ [13, 10, 13, 10] ++ b = headB n ++ (clN ++ 58 :: 32 :: digsM 10 b.length ++ 13 :: 10 :: (13 :: 10 :: b)) := by
    rw [digs_nat]; simp [clN]
  let S0 : Ps := ⟨false, .heads, [], (n : Int), false, [xaF, ⟨clL, digsM 10 b.length, false⟩], 2, 0, false, false⟩
  have hbd : bodyM S0 hs0 = if b.length = 0 then .ok (S0.fin, (hs0.heard S0).end_) else .ok ({ S0 with need := (b.length : Int), k := .counted }, hs0.heard S0) :=
    body_len rfl (by show (200 : Int) ≤ (n : Int); omega) (by show ¬ (n : Int) = 204; omega) (by show ¬ (n : Int) = 304; omega) (len_one (by omega) clL rfl) rfl (by omega)
  have step : runB (ps0 false) hs0 (preB ++ (headB n ++ [67, 111, 110, 116, 101, 110, 116, 45, 76, 101, 110, 103, 116, 104, 58, 32] ++ digs 10 (b.length : Int) ++ [13, 10, 13, 10] ++ b)) = match bodyM S0 hs0 with
      | .error e => .error e
      | .ok (s', h') => runB s' h' b := by
    rw [e, head_run n h1 h2, run_field rfl rfl rfl (by decide) (by decide) (by decide) (dig_value (digs_dig 10 (by decide) (by decide) _)) (by show (1 : Int) < 100; decide) (by simp; omega), run_empty rfl rfl rfl]
    rfl
  have hfin : ∀ s h, runB (ps0 false) hs0 (preB ++ (headB n ++ [67, 111, 110, 116, 101, 110, 116, 45, 76, 101, 110, 103, 116, 104, 58, 32] ++ digs 10 (b.length : Int) ++ [13, 10, 13, 10] ++ b)) = .ok (s, h, []) → s.ok := fun s h hr => (run_ok' _ _ _ _ _ _ (ps0_ok false) hr).1
  rw [step, hbd] at hfin ⊢
  by_cases h0 : b.length = 0
  · rw [if_pos h0] at hfin ⊢
    obtain rfl := List.eq_nil_of_length_eq_zero h0
    have hr := runB_stop (s := S0.fin) (h := (hs0.heard S0).end_) (b := []) (.inl rfl)
    exact ⟨_, _, hr, ⟨rfl, rfl, rfl, ⟨_, rfl⟩, hfin _ _ hr⟩, ⟨rfl, rfl, kp_no rfl rfl rfl⟩⟩
  · rw [if_neg h0] at hfin ⊢
    have hr := run_counted (s := { S0 with need := (b.length : Int), k := .counted }) (h := hs0.heard S0) (d := b) (r := []) rfl rfl rfl (by omega)
    rw [List.append_nil] at hr
    exact ⟨_, _, hr, ⟨rfl, rfl, by simp [Hs.plus], ⟨_, rfl⟩, hfin _ _ hr⟩, ⟨rfl, rfl, kp_no rfl rfl rfl⟩⟩
theorem back_rest (n : Nat) (h1 : 200 ≤ n) (h2 : n ≤ 999) (h3 : ¬ n = 204) (h4 : ¬ n = 304) (b : List UInt8) :
    ∃ s h, runB (ps0 false) hs0 (preB ++ (headB n ++ [13, 10] ++ b)) = .ok (s, h, []) ∧ BackOk n b s h ∧ h.fin = false ∧ s.ended = false ∧ s.toEnd = true ∧ s.k = .all := by
  have e : headB n ++ [13, 10] ++ b = headB n ++ (13 :: 10 :: b) := by simp
  have hbd : bodyM (S2 (n : Int)) hs0 = .ok ({ S2 (n : Int) with toEnd := true, k := .all }, hs0.heard (S2 (n : Int))) :=
    body_rest rfl (by show (200 : Int) ≤ (n : Int); omega) (by show ¬ (n : Int) = 204; omega) (by show ¬ (n : Int) = 304; omega) rfl rfl
  have step : runB (ps0 false) hs0 (preB ++ (headB n ++ [13, 10] ++ b)) = runB { S2 (n : Int) with toEnd := true, k := .all } (hs0.heard (S2 (n : Int))) b := by
    rw [e, head_run n h1 h2, run_empty rfl rfl rfl, hbd]
  have hfin : ∀ s h, runB (ps0 false) hs0 (preB ++ (headB n ++ [13, 10] ++ b)) = .ok (s, h, []) → s.ok := fun s h hr => (run_ok' _ _ _ _ _ _ (ps0_ok false) hr).1
  rw [step] at hfin ⊢
  by_cases h0 : b = []
  · subst h0
    exact ⟨_, _, rfl, ⟨rfl, rfl, rfl, ⟨_, rfl⟩, hfin _ _ rfl⟩, rfl, rfl, rfl, rfl⟩
  · have hr := all_run b { S2 (n : Int) with toEnd := true, k := .all } (hs0.heard (S2 (n : Int))) rfl rfl h0
    exact ⟨_, _, hr, ⟨rfl, rfl, by simp [Hs.plus], ⟨_, rfl⟩, hfin _ _ hr⟩, rfl, rfl, rfl, rfl⟩
/-- The state behind the head of an answer in chunks. -/
abbrev Sc (n : Nat) : Ps := ⟨false, .chunk, [], (n : Int), false, [xaF, ⟨kTE, kChunked, false⟩], 2, 0, false, false⟩
abbrev Hc (n : Nat) : Hs := ⟨true, (n : Int), [xaF, ⟨kTE, kChunked, false⟩], [], false⟩
/-- Bytes that say some of a body, in chunks. -/
def Good (n : Nat) (C d : List UInt8) : Prop := ∀ r, ∃ m, runB (Sc n) (Hc n) (C ++ r) = runB { Sc n with many := m } ((Hc n).plus d) r
theorem Good.nil (n : Nat) : Good n [] [] := fun r => ⟨2, rfl⟩
theorem Good.chunk {n : Nat} {C d e x : List UInt8} (h : Good n C d) (h0 : 1 ≤ e.length) (h1 : e.length ≤ 10000) (hx : x = [] ∨ x = [59, 120, 61, 121]) : Good n (C ++ (digsM 16 e.length ++ x ++ [13, 10] ++ e ++ [13, 10])) (d ++ e) := fun r => by
  obtain ⟨m, hm⟩ := h (digsM 16 e.length ++ x ++ 13 :: 10 :: (e ++ 13 :: 10 :: r))
  refine ⟨0, ?_⟩
  rw [show C ++ (digsM 16 e.length ++ x ++ [13, 10] ++ e ++ [13, 10]) ++ r = C ++ (digsM 16 e.length ++ x ++ 13 :: 10 :: (e ++ 13 :: 10 :: r)) by simp, hm]
  rw [run_chunk rfl rfl rfl h0 h1 hx]
  simp [Hs.plus]
theorem back_chunks (n : Nat) (h1 : 200 ≤ n) (h2 : n ≤ 999) (h3 : ¬ n = 204) (h4 : ¬ n = 304) {C b : List UInt8} (hC : Good n C b) :
    ∃ s h, runB (ps0 false) hs0 (preB ++ (headB n ++ [84, 114, 97, 110, 115, 102, 101, 114, 45, 69, 110, 99, 111, 100, 105, 110, 103, 58, 32, 99, 104, 117, 110, 107, 101, 100, 13, 10, 13, 10] ++ C ++ [48, 13, 10, 84, 58, 32, 117, 13, 10, 13, 10])) = .ok (s, h, []) ∧ BackOk n b s h ∧ BackEnd s h := by
  have e : headB n ++ [84, 114, 97, 110, 115, 102, 101, 114, 45, 69, 110, 99, 111, 100, 105, 110, 103, 58, 32, 99, 104, 117, 110, 107, 101, 100, 13, 10, 13, 10] ++ C ++ [48, 13, 10, 84, 58, 32, 117, 13, 10, 13, 10] = headB n ++ (teN ++ 58 :: 32 :: kChunked ++ 13 :: 10 :: (13 :: 10 :: (C ++ [48, 13, 10, 84, 58, 32, 117, 13, 10, 13, 10]))) := by
    simp [teN, kChunked]
  have hbd : bodyM { Sc n with k := .heads } hs0 = .ok (Sc n, Hc n) :=
    body_chunked (c := kChunked) rfl rfl (by show (200 : Int) ≤ (n : Int); omega) (by show ¬ (n : Int) = 204; omega) (by show ¬ (n : Int) = 304; omega) rfl rfl
  obtain ⟨m, hm⟩ := hC [48, 13, 10, 84, 58, 32, 117, 13, 10, 13, 10]
  have hl := run_lastF (s := { Sc n with many := m }) (h := (Hc n).plus b) (r := []) rfl rfl rfl
  have step : runB (ps0 false) hs0 (preB ++ (headB n ++ [84, 114, 97, 110, 115, 102, 101, 114, 45, 69, 110, 99, 111, 100, 105, 110, 103, 58, 32, 99, 104, 117, 110, 107, 101, 100, 13, 10, 13, 10] ++ C ++ [48, 13, 10, 84, 58, 32, 117, 13, 10, 13, 10])) = runB (Sc n) (Hc n) (C ++ [48, 13, 10, 84, 58, 32, 117, 13, 10, 13, 10]) := by
    rw [e, head_run n h1 h2, run_field rfl rfl rfl (by decide) (by decide) (by decide) (by decide) (by show (1 : Int) < 100; decide) (by decide), run_empty rfl rfl rfl]
    exact (show (match bodyM { Sc n with k := .heads } hs0 with
      | .error e => Except.error e
      | .ok (s', h') => runB s' h' (C ++ [48, 13, 10, 84, 58, 32, 117, 13, 10, 13, 10])) = _ by rw [hbd])
  have hr := step.trans (hm.trans hl)
  exact ⟨_, _, hr, ⟨rfl, rfl, by simp [Hs.plus], ⟨_, rfl⟩, (run_ok' _ _ _ _ _ _ (ps0_ok false) hr).1⟩, ⟨rfl, rfl, kp_no rfl rfl rfl⟩⟩
theorem pre_used (T : List UInt8) : (((preB ++ T).length - ([] : List UInt8).length : Nat) : Int) = (T.length : Int) + 31 := by
  rw [List.length_append, show preB.length = 31 by decide]; simp; omega
end Go.Proofs.YthflfnehdlpmdaaDoor
