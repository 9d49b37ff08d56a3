/- Chapter 15 in plain Lean: bodies that are written. No program, no condition. -/
import Derived.Test.YthflfnehdlpmdaaDoorRpVToRpSm
namespace Go.Proofs.YthflfnehdlpmdaaDoor
set_option linter.all false
open Go Go.RowKit
theorem digs_short (b : Nat) (hb : 2 ≤ b) : ∀ (k n : Nat), n < b ^ (k + 1) → (digsM b n).length ≤ k + 1
  | 0, n, h => by rw [digsM_eq b hb, if_pos (by simpa using h)]; simp
  | k + 1, n, h => by
    rw [digsM_eq b hb]
    split
    · simp
    · have h2 : n / b < b ^ (k + 1) := by
        rw [Nat.div_lt_iff_lt_mul (by omega)]
        rwa [Nat.pow_succ] at h
      have := digs_short b hb k (n / b) h2
      simp; omega
def digC (c : UInt8) : Bool := decide (48 ≤ c.toNat ∧ c.toNat ≤ 57 ∨ 97 ≤ c.toNat ∧ c.toNat ≤ 102)
theorem chM_dig (d : Nat) (h : d < 16) : digC (chM d) = true := by
  have : ∀ d : Fin 16, digC (chM d.val) = true := by decide
  exact this ⟨d, h⟩
theorem digs_dig (b : Nat) (hb : 2 ≤ b) (h16 : b ≤ 16) (n : Nat) : (digsM b n).all digC = true := by
  induction n using digs_ind b hb with
  | h0 n h => rw [digsM_eq b hb, if_pos h]; simp [chM_dig n (by omega)]
  | h1 n h ih =>
    have := Nat.mod_lt n (show b > 0 by omega)
    rw [digsM_eq b hb, if_neg (by omega), List.all_append, ih]; simp [chM_dig (n % b) (by omega)]
theorem dig_no {l : List UInt8} (h : l.all digC = true) {c : UInt8} (hc : digC c = false) : c ∉ l := fun hm => by
  rw [List.all_eq_true.1 h c hm] at hc; cases hc
theorem dig_noLn {l : List UInt8} (h : l.all digC = true) : noLn l = true := by
  unfold noLn
  rw [List.all_eq_true] at h ⊢
  intro c hc
  have := h c hc
  refine decide_eq_true ⟨fun e => ?_, fun e => ?_⟩
  · subst e; exact absurd this (by decide)
  · subst e; exact absurd this (by decide)
theorem dig_value {l : List UInt8} (h : l.all digC = true) : valueM l = true := by
  have hb : ∀ c, digC c = true → isBl c = false ∧ badV c.toNat = false := fun c hc => by
    unfold digC at hc
    have hc := of_decide_eq_true hc
    refine ⟨?_, ?_⟩
    · unfold isBl
      rw [Bool.eq_false_iff]
      intro e
      simp [blankM] at e
      omega
    · unfold badV; rw [decide_eq_false_iff_not]; omega
  have h2 := List.all_eq_true.1 h
  unfold valueM
  rw [Bool.and_eq_true]
  refine ⟨decide_eq_true ((trim_len l).2 ⟨fun a ha => (hb a (h2 a (List.mem_of_mem_head? ha))).1, fun a ha => (hb a (h2 a (List.mem_of_getLast? ha))).1⟩), List.all_eq_true.2 fun c hc => by rw [(hb c (h2 c hc)).2]; rfl⟩
/-- A body with its length. -/
theorem run_counted {s : Ps} {h : Hs} {d r : List UInt8} (he : s.ended = false) (hk : s.k = .counted) (hn : s.need = (d.length : Int)) (h0 : 1 ≤ d.length) :
    runB s h (d ++ r) = .ok ({ s with need := 0, ln := [], ended := true }, (h.plus d).end_, r) := by
  have hs : strN s (d ++ r) = d.length := by unfold strN; rw [hn, List.length_append]; omega
  rw [counted_run _ s h he hk (by omega), hs, hn, if_pos (by omega), Int.sub_self, List.take_left, List.drop_left]
  exact runB_stop (.inr rfl)
/-- A chunk's bytes. -/
theorem run_data {s : Ps} {h : Hs} {d r : List UInt8} (he : s.ended = false) (hk : s.k = .data) (hl : s.ln = []) (hn : s.need = (d.length : Int)) (h0 : 1 ≤ d.length) :
    runB s h (d ++ 13 :: 10 :: r) = runB { s with need := 0, ln := [], k := .chunk } (h.plus d) r := by
  have hs : strN s (d ++ 13 :: 10 :: r) = d.length := by unfold strN; rw [hn, List.length_append]; omega
  rw [data_run _ s h he hk (by omega), hs, hn, if_pos (by omega), Int.sub_self, List.take_left, List.drop_left]
  obtain ⟨hd, kk, ln, st, old, fs, many, need, ended, toEnd⟩ := s
  simp only at he hl hk
  subst he hl
  rfl
/-- A chunk's line. -/
theorem run_size {s : Ps} {h : Hs} {n : Nat} {x r : List UInt8} (he : s.ended = false) (hk : s.k = .chunk) (hl : s.ln = []) (h0 : n ≤ 10000) (hx : x = [] ∨ x = [59, 120, 61, 121]) :
    runB s h (digsM 16 n ++ x ++ 13 :: 10 :: r) = runB { s with ln := [], need := (n : Int), many := 0, k := if (n : Int) = 0 then .trailer else .data } h r := by
  have hdg := digs_dig 16 (by decide) (by decide) n
  have hlen : (digsM 16 n).length ≤ 4 := digs_short 16 (by decide) 3 n (by omega)
  have hv := digs_small 16 (by decide) (by decide) (n : Int) (by omega) (by omega)
  unfold digs at hv
  rw [if_neg (by omega), Int.toNat_natCast] at hv
  replace hv : numV 16 (digsM 16 n) = (n : Int) ∧ numE 16 (digsM 16 n) = 0 := hv
  have hc : cutM 59 (digsM 16 n ++ x) = (digsM 16 n, (cutM 59 (digsM 16 n ++ x)).2.1, (cutM 59 (digsM 16 n ++ x)).2.2) := by
    have h59 : (59 : UInt8) ∉ digsM 16 n := dig_no hdg (by decide)
    rcases hx with rfl | rfl
    · rw [List.append_nil, cutM_no h59]
    · rw [cutM_app _ h59]
  have hnl : noLn x = true := by rcases hx with rfl | rfl <;> decide
  have hxl : x.length ≤ 4 := by rcases hx with rfl | rfl <;> decide
  rw [run_line he (by rw [hk]; rfl) hl (by rw [noLn_app, dig_noLn hdg, hnl]; rfl) (by simp; omega)]
  rw [show onLine s h (digsM 16 n ++ x) = onChunk s h (digsM 16 n ++ x) by unfold onLine; rw [hk]]
  unfold onChunk
  rw [hc]
  simp only
  rw [hv.1, hv.2, if_neg (by omega)]
/-- A whole chunk. -/
theorem run_chunk {s : Ps} {h : Hs} {d x r : List UInt8} (he : s.ended = false) (hk : s.k = .chunk) (hl : s.ln = []) (h0 : 1 ≤ d.length) (h1 : d.length ≤ 10000) (hx : x = [] ∨ x = [59, 120, 61, 121]) :
    runB s h (digsM 16 d.length ++ x ++ 13 :: 10 :: (d ++ 13 :: 10 :: r)) = runB { s with ln := [], need := 0, many := 0, k := .chunk } (h.plus d) r := by
  rw [run_size he hk hl h1 hx, if_neg (by omega), run_data (by exact he) rfl rfl rfl h0]
theorem onLine_t {s : Ps} {h : Hs} {t : List UInt8} (hk : s.k = .trailer) : onLine s h t = onTrailer s h t := by unfold onLine; rw [hk]
/-- The last chunk, and a field behind it. -/
theorem run_lastF {s : Ps} {h : Hs} {r : List UInt8} (he : s.ended = false) (hk : s.k = .chunk) (hl : s.ln = []) :
    runB s h (48 :: 13 :: 10 :: 84 :: 58 :: 32 :: 117 :: 13 :: 10 :: 13 :: 10 :: r) = .ok ({ s with ln := [], need := 0, many := 1, k := .trailer, ended := true }, h.end_, r) := by
  have h1 := run_size (s := s) (h := h) (n := 0) (x := []) (r := 84 :: 58 :: 32 :: 117 :: 13 :: 10 :: 13 :: 10 :: r) he hk hl (by decide) (.inl rfl)
  rw [show digsM 16 0 = [48] by decide] at h1
  rw [show (48 :: 13 :: 10 :: 84 :: 58 :: 32 :: 117 :: 13 :: 10 :: 13 :: 10 :: r : List UInt8) = [48] ++ [] ++ 13 :: 10 :: (84 :: 58 :: 32 :: 117 :: 13 :: 10 :: 13 :: 10 :: r) from rfl, h1]
  rw [if_pos (by decide)]
  have h2 := run_line (s := { s with ln := [], need := ((0 : Nat) : Int), many := 0, k := .trailer }) (h := h) (t := [84, 58, 32, 117]) (r := 13 :: 10 :: r) he rfl rfl (by decide) (by decide)
  rw [show (84 :: 58 :: 32 :: 117 :: 13 :: 10 :: 13 :: 10 :: r : List UInt8) = [84, 58, 32, 117] ++ 13 :: 10 :: (13 :: 10 :: r) from rfl, h2]
  have hf : fieldP 0 [84, 58, 32, 117] = .ok (some ⟨[116], [117], false⟩, 1) := by rfl
  rw [show onLine { s with ln := [], need := ((0 : Nat) : Int), many := 0, k := .trailer } h [84, 58, 32, 117] = .ok ({ s with ln := [], need := ((0 : Nat) : Int), many := 1, k := .trailer }, h) by
    rw [onLine_t rfl]
    unfold onTrailer
    rw [hf]]
  simp only
  have h3 := run_line (s := { s with ln := [], need := ((0 : Nat) : Int), many := 1, k := .trailer }) (h := h) (t := []) (r := r) he rfl rfl rfl (by simp)
  rw [List.nil_append] at h3
  rw [h3]
  exact runB_stop (.inr rfl)
/-- The head is whole: a length is told. -/
theorem body_len {s : Ps} {h : Hs} {n : Nat} (hd : s.hd = false) (h1 : 200 ≤ s.st) (h2 : ¬ s.st = 204) (h3 : ¬ s.st = 304) (hl : lenM s.fs = ((n : Int), true, 0)) (hv : hvM s.fs kTE = []) (hn : n ≤ 10000) :
    bodyM s h = if n = 0 then .ok (s.fin, (h.heard s).end_) else .ok ({ s with need := (n : Int), k := .counted }, h.heard s) := by
  unfold bodyM badB
  rw [hl, hv]
  rw [if_neg (by omega), if_neg (by omega), if_neg (by simp; omega), if_neg (by simp [hd, h2, h3]), if_neg (by simp)]
  by_cases h0 : n = 0
  · rw [if_pos ⟨rfl, by dsimp only; omega⟩, if_pos h0]
  · rw [if_neg (fun e => h0 (by have := e.2; dsimp only at this; omega)), if_pos rfl, if_neg h0]
theorem body_chunked {s : Ps} {h : Hs} {c : List UInt8} (hd : s.hd = false) (ho : s.old = false) (h1 : 200 ≤ s.st) (h2 : ¬ s.st = 204) (h3 : ¬ s.st = 304) (hl : lenM s.fs = (0, false, 0)) (hv : hvM s.fs kTE = [kChunked]) :
    bodyM s h = .ok ({ s with k := .chunk }, h.heard s) := by
  have ha : hallM s.fs kTE = [kChunked] := by unfold hallM; rw [hv]; rfl
  unfold bodyM badB
  rw [hl, hv, ha, ho]
  rw [if_neg (by omega), if_neg (by omega), if_neg (by decide), if_neg (by simp [hd, h2, h3]), if_pos (by decide)]
theorem body_rest {s : Ps} {h : Hs} (hd : s.hd = false) (h1 : 200 ≤ s.st) (h2 : ¬ s.st = 204) (h3 : ¬ s.st = 304) (hl : lenM s.fs = (0, false, 0)) (hv : hvM s.fs kTE = []) :
    bodyM s h = .ok ({ s with toEnd := true, k := .all }, h.heard s) := by
  unfold bodyM badB
  rw [hl, hv]
  rw [if_neg (by omega), if_neg (by omega), if_neg (by simp), if_neg (by simp [hd, h2, h3]), if_neg (by simp), if_neg (by simp), if_neg (by simp)]
end Go.Proofs.YthflfnehdlpmdaaDoor
