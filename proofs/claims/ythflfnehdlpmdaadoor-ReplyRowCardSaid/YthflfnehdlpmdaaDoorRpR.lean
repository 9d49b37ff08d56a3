/- Chapter 15 in plain Lean: answers in a row. No program, no condition. -/
import Derived.Test.YthflfnehdlpmdaaDoorRpY
namespace Go.Proofs.YthflfnehdlpmdaaDoor
set_option linter.all false
open Go Go.RowKit
def tcL : List UInt8 := [72, 84, 84, 80, 47, 49, 46, 49, 32, 50, 48, 48, 32, 79, 75] ++ [13, 10] ++ [116, 114, 97, 110, 115, 102, 101, 114, 45, 101, 110, 99, 111, 100, 105, 110, 103, 58, 32, 99, 104, 117, 110, 107, 101, 100] ++ [13, 10, 13, 10]
def lnL : List UInt8 := [72, 84, 84, 80, 47, 49, 46, 49, 32, 50, 48, 48, 32, 79, 75] ++ [13, 10] ++ [99, 111, 110, 116, 101, 110, 116, 45, 108, 101, 110, 103, 116, 104, 58, 32]
/-- One answer. -/
def ansR (b : List UInt8) (c : Bool) : List UInt8 :=
  if c = true then tcL ++ (if b = [] then [] else digsM 16 b.length ++ [13, 10] ++ b ++ [13, 10]) ++ [48, 13, 10, 13, 10] else lnL ++ digsM 10 b.length ++ [13, 10, 13, 10] ++ b
theorem ans_len {b : List UInt8} {c : Bool} (h : b.length ≤ 1000) : (ansR b c).length ≤ 1200 := by
  have h1 : (digsM 16 b.length).length ≤ 4 := digs_short 16 (by decide) 3 _ (by omega)
  have h2 : (digsM 10 b.length).length ≤ 5 := digs_short 10 (by decide) 4 _ (by omega)
  have e1 : tcL.length = 47 := by decide
  have e2 : lnL.length = 33 := by decide
  unfold ansR
  split
  · split <;> simp [e1] <;> omega
  · simp [e2]; omega
/-- What an answer in a row leaves behind. -/
structure RowOk (b : List UInt8) (s : Ps) (h : Hs) : Prop where
  fin : h.fin = true
  data : h.data = b
  keeps : kpM s = true
  ended : s.ended = true
  size : szM s.fs ≤ 1000
theorem kp_no {s : Ps} (he : s.ended = true) (ho : s.old = false) (hv : hvM s.fs [99, 111, 110, 110, 101, 99, 116, 105, 111, 110] = []) : kpM s = true := by
  unfold kpM hasM hallM
  rw [he, ho, hv]; rfl
theorem row_chunked (b r : List UInt8) (hb : b.length ≤ 1000) : ∃ s h, runB (ps0 false) hs0 (ansR b true ++ r) = .ok (s, h, r) ∧ RowOk b s h := by
  let F : List Fd := [⟨kTE, kChunked, false⟩]
  let S0 : Ps := ⟨false, .heads, [], 200, false, F, 1, 0, false, false⟩
  have hbd : bodyM S0 hs0 = .ok ({ S0 with k := .chunk }, hs0.heard S0) := body_chunked (c := kChunked) rfl rfl (by decide) (by decide) (by decide) rfl rfl
  have step : ∀ r2, runB (ps0 false) hs0 (tcL ++ r2) = runB { S0 with k := .chunk } (hs0.heard S0) r2 := fun r2 => by
    have e : tcL ++ r2 = okL ++ 13 :: 10 :: (kTE ++ 58 :: 32 :: kChunked ++ 13 :: 10 :: (13 :: 10 :: r2)) := by simp [tcL, okL, kTE, kChunked]
    rw [e, run_ok, run_field rfl rfl rfl (by decide) (by decide) (by decide) (by decide) (by decide) (by decide), run_empty rfl rfl rfl]
    exact (show (match bodyM S0 hs0 with
      | .error e => Except.error e
      | .ok (s', h') => runB s' h' r2) = _ by rw [hbd])
  by_cases h0 : b = []
  · subst h0
    have e := (step (48 :: 13 :: 10 :: 13 :: 10 :: r)).trans (run_last rfl rfl rfl)
    rw [show tcL ++ (48 :: 13 :: 10 :: 13 :: 10 :: r) = ansR [] true ++ r by simp [ansR]] at e
    exact ⟨_, _, e, ⟨rfl, rfl, kp_no rfl rfl rfl, rfl, by decide⟩⟩
  · have hl : 1 ≤ b.length := List.length_pos_iff.2 h0
    have e := (step _).trans ((run_chunk (d := b) (x := []) (r := 48 :: 13 :: 10 :: 13 :: 10 :: r) rfl rfl rfl hl (by omega) (.inl rfl)).trans (run_last rfl rfl rfl))
    rw [show tcL ++ (digsM 16 b.length ++ [] ++ 13 :: 10 :: (b ++ 13 :: 10 :: (48 :: 13 :: 10 :: 13 :: 10 :: r))) = ansR b true ++ r by simp [ansR, h0]] at e
    exact ⟨_, _, e, ⟨rfl, by simp [Hs.plus], kp_no rfl rfl rfl, rfl, by decide⟩⟩
theorem len_one {n : Nat} (h : n ≤ 10000) (k : List UInt8) (hk : k = clL) : lenGo 0 false [digsM 10 n] = ((n : Int), true, 0) := by
  have hv := digs_small 10 (by decide) (by decide) (n : Int) (by omega) (by omega)
  unfold digs at hv
  rw [if_neg (by omega), Int.toNat_natCast] at hv
  replace hv : numV 10 (digsM 10 n) = (n : Int) ∧ numE 10 (digsM 10 n) = 0 := hv
  unfold lenGo
  rw [hv.1, hv.2, if_neg (by simp)]
  rfl
theorem row_length (b r : List UInt8) (hb : b.length ≤ 1000) : ∃ s h, runB (ps0 false) hs0 (ansR b false ++ r) = .ok (s, h, r) ∧ RowOk b s h := by
  have hdl : (digsM 10 b.length).length ≤ 5 := digs_short 10 (by decide) 4 _ (by omega)
  let F : List Fd := [⟨clL, digsM 10 b.length, false⟩]
  let S0 : Ps := ⟨false, .heads, [], 200, false, F, 1, 0, false, false⟩
  have hsz : szM F ≤ 1000 := by show szM [⟨clL, digsM 10 b.length, false⟩] ≤ 1000; simp [szM]; omega
  have hbd : bodyM S0 hs0 = if b.length = 0 then .ok (S0.fin, (hs0.heard S0).end_) else .ok ({ S0 with need := (b.length : Int), k := .counted }, hs0.heard S0) :=
    body_len rfl (by show (200 : Int) ≤ 200; omega) (by show ¬ (200 : Int) = 204; omega) (by show ¬ (200 : Int) = 304; omega) (len_one (by omega) clL rfl) rfl (by omega)
  have step : ∀ r2, runB (ps0 false) hs0 (lnL ++ digsM 10 b.length ++ [13, 10, 13, 10] ++ r2) = match bodyM S0 hs0 with
      | .error e => .error e
      | .ok (s', h') => runB s' h' r2 := fun r2 => by
    have e : lnL ++ digsM 10 b.length ++ [13, 10, 13, 10] ++ r2 = okL ++ 13 :: 10 :: (clL ++ 58 :: 32 :: digsM 10 b.length ++ 13 :: 10 :: (13 :: 10 :: r2)) := by simp [lnL, okL, clL]
    rw [e, run_ok, run_field rfl rfl rfl (by decide) (by decide) (by decide) (dig_value (digs_dig 10 (by decide) (by decide) _)) (by decide) (by simp; omega), run_empty rfl rfl rfl]
    rfl
  have ha : ansR b false ++ r = lnL ++ digsM 10 b.length ++ [13, 10, 13, 10] ++ (b ++ r) := by simp [ansR]
  rw [ha, step, hbd]
  by_cases h0 : b.length = 0
  · rw [if_pos h0]
    obtain rfl := List.eq_nil_of_length_eq_zero h0
    exact ⟨_, _, runB_stop (.inr rfl), ⟨rfl, rfl, kp_no rfl rfl rfl, rfl, hsz⟩⟩
  · rw [if_neg h0]
    exact ⟨_, _, run_counted rfl rfl rfl (by omega), ⟨rfl, by simp [Hs.plus], kp_no rfl rfl rfl, rfl, hsz⟩⟩
theorem row_run (b r : List UInt8) (c : Bool) (hb : b.length ≤ 1000) : ∃ s h, runB (ps0 false) hs0 (ansR b c ++ r) = .ok (s, h, r) ∧ RowOk b s h := by
  cases c
  · exact row_length b r hb
  · exact row_chunked b r hb
/-- Answers in a row, from a place on. -/
def rowT (bs : List (List UInt8)) (cs : List Bool) : Nat → Nat → List UInt8
  | _, 0 => []
  | i, k + 1 => ansR (bs.getD i []) (cs.getD i false) ++ rowT bs cs (i + 1) k
theorem rowT_snoc (bs : List (List UInt8)) (cs : List Bool) : ∀ (k i : Nat), rowT bs cs i (k + 1) = rowT bs cs i k ++ ansR (bs.getD (i + k) []) (cs.getD (i + k) false)
  | 0, i => by simp [rowT]
  | k + 1, i => by
    rw [rowT, rowT_snoc bs cs k (i + 1), rowT, List.append_assoc]
    rw [show i + 1 + k = i + (k + 1) by omega]
theorem rowT_len (bs : List (List UInt8)) (cs : List Bool) (m : Nat) (h : ∀ j, j < m → (bs.getD j []).length ≤ 1000) : ∀ (k i : Nat), i + k ≤ m → (rowT bs cs i k).length ≤ 1200 * k
  | 0, i, _ => by simp [rowT]
  | k + 1, i, hk => by
    have h1 := ans_len (c := cs.getD i false) (h i (by omega))
    have h2 := rowT_len bs cs m h k (i + 1) (by omega)
    rw [rowT, List.length_append]; omega
end Go.Proofs.YthflfnehdlpmdaaDoor
