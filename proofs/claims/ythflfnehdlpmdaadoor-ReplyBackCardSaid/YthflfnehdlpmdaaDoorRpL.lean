/- Chapter 15: Take. No condition but on lengths. -/
import Derived.Test.YthflfnehdlpmdaaDoorRpK
namespace Go.Proofs.YthflfnehdlpmdaaDoor
set_option linter.all false
open Go Go.RowKit
set_option maxRecDepth 10000
set_option maxHeartbeats 4000000
theorem con_nextB {s : Ps} {q : Bool} {all : List UInt8} {at0 : Nat} {h : Hs} {R : Except Int Nx} (hq : s.fb = q) (hok : s.ok) (he : s.ended = false) (ha : all.length ≤ 1000000000) (hat : at0 < all.length) (hdl : h.data.length ≤ 1000000000) (hR : nextM s h (all.drop at0) = R) :
    Con Tryd.prog s.k.fn [.ptr 0 0, .ptr 3 0] (rAB q s 0 all (at0 : Int) h true) 4 (nxOut R) (nxPost all R) := by
  subst hq; exact con_next hok he ha hat hdl hR
theorem con_nextO {s s2 : Ps} {q q2 : Bool} {all r2 : List UInt8} {at0 : Nat} {h h2 : Hs} {m2 : Bool} (hq : s.fb = q) (hq2 : s2.fb = q2) (hok : s.ok) (he : s.ended = false) (ha : all.length ≤ 1000000000) (hat : at0 < all.length) (hdl : h.data.length ≤ 1000000000) (hR : nextM s h (all.drop at0) = .ok ⟨s2, r2, h2, m2⟩) :
    Con Tryd.prog s.k.fn [.ptr 0 0, .ptr 3 0] (rAB q s 0 all (at0 : Int) h true) 4 (.ret (.tup [])) (rAB q2 s2 1 all ((all.length - r2.length : Nat) : Int) h2 m2) := by
  subst hq2; exact con_nextB hq hok he ha hat hdl hR
theorem next_data {s : Ps} {h : Hs} {b : List UInt8} {x : Nx} (hx : nextM s h b = .ok x) (hl : ∀ x', nextL s h b = .ok x' → x'.h.data.length + x'.r.length ≤ h.data.length + b.length) : x.h.data.length + x.r.length ≤ h.data.length + b.length := by
  unfold nextM at hx
  have hle := strN_le s b
  have hlp : ∀ n, n ≤ b.length → (h.plus (b.take n)).data.length + (b.drop n).length ≤ h.data.length + b.length := fun n hn => by simp [Hs.plus]; omega
  cases hk : s.k <;> rw [hk] at hx <;> simp only at hx
  case data => injection hx with hx; subst hx; exact hlp _ hle
  case counted =>
    split at hx
    · injection hx with hx; subst hx; exact hlp _ hle
    · injection hx with hx; subst hx; exact hlp _ hle
  case all => injection hx with hx; subst hx; simp [Hs.plus]
  case behind =>
    cases b with
    | nil => cases hx
    | cons c r =>
      simp only at hx
      split at hx
      · split at hx
        · injection hx with hx; subst hx; simp
        · cases hx
      · split at hx
        · injection hx with hx; subst hx; simp
        · cases hx
  all_goals exact hl x hx
theorem line_data {s : Ps} {h : Hs} {t : List UInt8} {s' : Ps} {h' : Hs} (hb : onLine s h t = .ok (s', h')) : h'.data = h.data := by
  unfold onLine at hb
  split at hb
  · unfold onFirst at hb
    split at hb
    · cases hb
    · injection hb with hb; injection hb with _ e; rw [← e]
  · unfold onHeads at hb
    split at hb
    · cases hb
    · injection hb with hb; injection hb with _ e; rw [← e]
    · unfold bodyM at hb
      split at hb
      · cases hb
      split at hb
      · injection hb with hb; injection hb with _ e; rw [← e]
      split at hb
      · cases hb
      split at hb
      · injection hb with hb; injection hb with _ e; rw [← e]
      split at hb
      · injection hb with hb; injection hb with _ e; rw [← e]
      split at hb
      · injection hb with hb; injection hb with _ e; rw [← e]
      split at hb
      · injection hb with hb; injection hb with _ e; rw [← e]
      · injection hb with hb; injection hb with _ e; rw [← e]
  · unfold onChunk at hb
    split at hb
    · cases hb
    · injection hb with hb; injection hb with _ e; rw [← e]
  · unfold onTrailer at hb
    split at hb
    · cases hb
    · injection hb with hb; injection hb with _ e; rw [← e]
    · injection hb with hb; injection hb with _ e; rw [← e]
theorem nextL_data {s : Ps} {h : Hs} {b : List UInt8} (hok : s.ok) : ∀ x', nextL s h b = .ok x' → x'.h.data.length + x'.r.length ≤ h.data.length + b.length := fun x' hx => by
  have hrl := rd_len b s.ln hok.len hok.last
  unfold nextL at hx
  cases hq : rdM s.ln b with
  | more l => rw [hq] at hx; injection hx with hx; subst hx; simp
  | err e => rw [hq] at hx; cases hx
  | line t r =>
    rw [hq] at hx hrl
    simp only at hx
    split at hx
    · cases hx
    · rename_i s' h' ho
      injection hx with hx; subst hx
      have := hrl.2
      simp only [line_data ho]; omega
theorem runB_stop {s : Ps} {h : Hs} {b : List UInt8} (hs : b = [] ∨ s.ended = true) : runB s h b = .ok (s, h, b) := by
  cases b with
  | nil => rfl
  | cons c r => rw [runB, if_pos (hs.elim (fun h => by cases h) id)]
/-- What Take answers, and what is left of the parser. -/
def tkD (b : List UInt8) : Except Int (Ps × Hs × List UInt8) → D
  | .ok (_, h, r) => .tup [.agg h.cs, .v (.int .i64 ((b.length - r.length : Nat) : Int)), .v (.int .i64 0)]
  | .error e => .tup [.agg hs0.cs, .v (.int .i64 0), .v (.int .i64 e)]
def tkAH : Except Int (Ps × Hs × List UInt8) → AH
  | .ok (s, _, _) => s.ah 1
  | .error _ => deadAH 2
theorem tk_pin {R : Except Int (Ps × Hs × List UInt8)} {i : Nat} {o : Ob} (h : look (tkAH R) i = some o) (hf : o.fixed = true) : i = 0 := by
  cases R with
  | error e =>
    match i, h with
    | 0, _ => rfl
    | 1, h => injection h with h; subst h; cases hf
    | 2, h => injection h with h; subst h; cases hf
    | n + 3, h => cases h
  | ok p =>
    match i, h with
    | 0, _ => rfl
    | 1, h => injection h with h; subst h; cases hf
    | 2, h => injection h with h; subst h; cases hf
    | n + 3, h => cases h
abbrev tkCaps : List D := [.ptr 3 0, .ptr 4 0, .ptr 5 0, .ptr 6 0]
theorem take_pan {Y : Cx} (hnp : Y.np = 7) {b : List UInt8} {R : Except Int (Ps × Hs × List UInt8)} {fr : Fm} {ah : AH} {e : Int} {x0 x1 x2 x3 x4 y0 z0 : V} (hR : R = .error e) (h0 : look ah 0 = some (.box (panC .any .any))) (h1 : look ah 1 = some (rwB 1 [])) (h2 : look ah 2 = some (rwF 1 [])) (h3 : look ah 3 = some (.box [.ptr 0 0])) (h4 : look ah 4 = some (.box [.v x0, .v x1, .v x2, .v x3, .v x4])) (h5 : look ah 5 = some (.box [.v y0])) (h6 : look ah 6 = some (.box [.v z0])) (f4 : look fr 4 = some (.ptr 4 0)) (f5 : look fr 5 = some (.ptr 5 0)) (f6 : look fr 6 = some (.ptr 6 0)) :
    recQ Tryd.prog Tryd.f10.results.toList Y 20 tkCaps (tkD b R) (tkAH R) (.pan (.v (.lit (fltV e)))) fr ah := by
  subst hR
  refine ⟨fltV e, [3, 4, 5, 6, 0, 1, 2], _, _, 7, [.ptr 0 0, .ptr 1 0, .ptr 2 0, .ptr 3 0], [.agg hs0.cs, .v (.int .i64 0), .v (.int .i64 e)], rfl, conD_catch (x0 := .v x0) (x1 := .v x1) (x2 := .v x2) (x3 := .v x3) (x4 := .v x4) (y0 := .v y0) (z0 := .v z0) (e := e), rfl, ?_, .cons h3 (.cons h4 (.cons h5 (.cons h6 (.cons h0 (.cons h1 (.cons h2 .nil)))))), rfl, by rw [hnp]; rfl, rfl, rfl, rfl, ?_, rfl, .box rfl rfl (.row rfl (.row rfl .nil)), rfl⟩
  · intro c hc
    rcases List.mem_cons.1 hc with rfl | hc
    · exact ⟨3, 0, _, rfl, by rw [hnp]; decide, h3⟩
    rcases List.mem_cons.1 hc with rfl | hc
    · exact ⟨4, 0, _, rfl, by rw [hnp]; decide, h4⟩
    rcases List.mem_cons.1 hc with rfl | hc
    · exact ⟨5, 0, _, rfl, by rw [hnp]; decide, h5⟩
    rcases List.mem_cons.1 hc with rfl | hc
    · exact ⟨6, 0, _, rfl, by rw [hnp]; decide, h6⟩
    · cases hc
  · have hr : Tryd.f10.results.toList = [.cell 4 28, .cell 5 3, .cell 6 29] := rfl
    rw [hr]
    exact .cell f4 rfl sz_28 ⟨.inl rfl, Nat.le_of_ble_eq_true rfl⟩ rfl (.cell f5 rfl sz_3 ⟨.inr rfl, Nat.le_of_ble_eq_true rfl⟩ rfl (.cell f6 rfl sz_29 ⟨.inr rfl, Nat.le_of_ble_eq_true rfl⟩ rfl .nil))
end Go.Proofs.YthflfnehdlpmdaaDoor
