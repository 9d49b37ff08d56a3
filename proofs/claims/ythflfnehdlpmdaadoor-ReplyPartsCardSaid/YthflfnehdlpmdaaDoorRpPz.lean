/- Chapter 15 in plain Lean: pieces, and bytes one by one. No program, no condition. -/
import Derived.Test.YthflfnehdlpmdaaDoorRpU2
namespace Go.Proofs.YthflfnehdlpmdaaDoor
set_option linter.all false
open Go Go.RowKit
/-- Where the pieces are. -/
structure P1 where
  i : Nat
  s : Ps
  q : Bool
  x : Hs
structure P1.ok (y : P1) (hd : Bool) (ps : List (List UInt8)) : Prop where
  le : y.i ≤ ps.length
  run : runB (ps0 hd) hs0 (ps.take y.i).flatten = .ok (y.s, y.x, [])
  fb : y.s.fb = y.q
  live : y.s.ended = false
/-- Where the bytes are. -/
structure P2 where
  j : Nat
  s : Ps
  q : Bool
  y : Hs
structure P2.ok (y : P2) (hd : Bool) (all : List UInt8) : Prop where
  le : y.j ≤ all.length
  run : runB (ps0 hd) hs0 (all.take y.j) = .ok (y.s, y.y, [])
  fb : y.s.fb = y.q
  live : y.s.ended = false
theorem go_on {hd : Bool} {a p : List UInt8} {s : Ps} {x : Hs} (h : runB (ps0 hd) hs0 a = .ok (s, x, [])) : runB (ps0 hd) hs0 (a ++ p) = mapR x (runB s hs0 p) := by
  rw [runB_app _ _ _ _ _ _ p h, List.nil_append, run_from]
theorem take_one {all : List UInt8} {j : Nat} {c : UInt8} (hj : j < all.length) (hc : all[j] = c) : all.take (j + 1) = all.take j ++ [c] := by
  rw [List.take_add_one, List.getElem?_eq_getElem hj, hc]; rfl
theorem p2_go {y : P2} {hd : Bool} {all : List UInt8} {c : UInt8} (h : y.ok hd all) (hj : y.j < all.length) (hc : all[y.j] = c) : runB (ps0 hd) hs0 (all.take (y.j + 1)) = mapR y.y (runB y.s hs0 [c]) := by
  rw [take_one hj hc, go_on h.run]
theorem p2_err {y : P2} {hd : Bool} {all : List UInt8} {c : UInt8} {e : Int} (h : y.ok hd all) (hj : y.j < all.length) (hc : all[y.j] = c) (he : runB y.s hs0 [c] = .error e) : runB (ps0 hd) hs0 all = .error e := by
  have h1 := p2_go h hj hc
  rw [he] at h1
  have := run_appE _ _ _ _ (all.drop (y.j + 1)) h1
  rwa [List.take_append_drop] at this
theorem p2_end {y : P2} {hd : Bool} {all : List UInt8} {c : UInt8} {s3 : Ps} {h3 : Hs} {r3 : List UInt8} (h : y.ok hd all) (hj : y.j < all.length) (hc : all[y.j] = c) (hk : runB y.s hs0 [c] = .ok (s3, h3, r3)) (hend : s3.ended = true) : ∃ r, runB (ps0 hd) hs0 all = .ok (s3, addH y.y h3, r) := by
  have h1 := p2_go h hj hc
  rw [hk] at h1
  have := runB_app _ _ _ _ _ _ (all.drop (y.j + 1)) h1
  rw [List.take_append_drop] at this
  exact ⟨_, this.trans (runB_stop (.inr hend))⟩
theorem p2_all {y : P2} {hd : Bool} {all : List UInt8} (h : y.ok hd all) (hj : all.length ≤ y.j) : runB (ps0 hd) hs0 all = .ok (y.s, y.y, []) := by
  have := h.run
  rwa [List.take_of_length_le hj] at this
theorem p2_next {y : P2} {hd : Bool} {all : List UInt8} {c : UInt8} {s3 : Ps} {h3 : Hs} {r3 : List UInt8} {q3 : Bool} (h : y.ok hd all) (hj : y.j < all.length) (hc : all[y.j] = c) (hk : runB y.s hs0 [c] = .ok (s3, h3, r3)) (hend : s3.ended = false) (hq : s3.fb = q3) : P2.ok ⟨y.j + 1, s3, q3, addH y.y h3⟩ hd all := by
  have h1 := p2_go h hj hc
  have hr := run_rest _ _ _ _ _ _ hk hend
  rw [hk, hr] at h1
  exact ⟨hj, h1, hq, hend⟩
theorem p2_data {y : P2} {hd : Bool} {a p : List UInt8} {s0 : Ps} {x : Hs} {c : UInt8} {e : Int} (h : y.ok hd (a ++ p)) (hj : y.j < (a ++ p).length) (hc : (a ++ p)[y.j] = c) (he : runB y.s hs0 [c] = .error e) (h0 : runB (ps0 hd) hs0 a = .ok (s0, x, [])) : ∃ w, y.y.data = x.data ++ w := by
  have hle : a.length ≤ y.j := by
    rcases Nat.lt_or_ge y.j a.length with hl | hl
    · exfalso
      have h1 := p2_go h hj hc
      rw [he, List.take_append_of_le_length (by omega)] at h1
      have := run_appE _ _ _ _ (a.drop (y.j + 1)) h1
      rw [List.take_append_drop, h0] at this
      cases this
    · exact hl
  have h1 := h.run
  rw [List.take_append, List.take_of_length_le hle, go_on h0] at h1
  cases hq : runB s0 hs0 (p.take (y.j - a.length)) with
  | error e => rw [hq] at h1; cases h1
  | ok t =>
    obtain ⟨s4, h4, r4⟩ := t
    rw [hq] at h1
    injection h1 with h1; injection h1 with e1 h1; injection h1 with e2 e3
    exact ⟨h4.data, by rw [← e2, addH_data]⟩
end Go.Proofs.YthflfnehdlpmdaaDoor
