/- Chapter 15 in plain Lean: a call of what a parser waits for, and its bytes one by one. No program, no condition. -/
import Derived.Test.YthflfnehdlpmdaaDoorRpM
namespace Go.Proofs.YthflfnehdlpmdaaDoor
set_option linter.all false
open Go Go.RowKit
theorem lenGo_nn : ∀ (l : List (List UInt8)) (n : Int) (b : Bool), 0 ≤ n → 0 ≤ (lenGo n b l).1
  | [], n, b, h => h
  | x :: r, n, b, h => by
    unfold lenGo
    split
    · exact Int.le_refl _
    · exact lenGo_nn r _ _ (numV_nn x)
theorem lenM_nn (fs : List Fd) : 0 ≤ (lenM fs).1 := lenGo_nn _ 0 false (by decide)
theorem numV16_nn (l : List UInt8) : 0 ≤ numV 16 l := by unfold numV; split; exact Int.le_refl _; exact valM_nonneg 16 (by decide) l
theorem fieldR_len {s : List UInt8} {f : Fd} (h : fieldR s = some f) : f.n.length ≤ s.length ∧ f.v.length ≤ s.length := by
  unfold fieldR at h
  split at h
  · injection h with h
    subst h
    have h1 := cutM_len 58 s
    have h2 := trim_le (cutM 58 s).2.1
    exact ⟨by simp [lowM]; omega, by show (trimM _).length ≤ _; omega⟩
  · cases h
theorem fieldP_cases {many : Int} {t : List UInt8} {o : Option Fd} {m : Int} (h : fieldP many t = .ok (o, m)) : (t = [] ∧ o = none ∧ m = many) ∨ (¬ t = [] ∧ ∃ f, fieldR t = some f ∧ o = some f ∧ m = many + 1 ∧ many + 1 ≤ 100) := by
  unfold fieldP at h
  split at h
  · injection h with h; injection h with h1 h2; exact .inl ⟨by assumption, h1.symm, h2.symm⟩
  · cases hf : fieldR t with
    | none => rw [hf] at h; cases h
    | some f =>
      rw [hf] at h
      simp only at h
      split at h
      · cases h
      · injection h with h; injection h with h1 h2; exact .inr ⟨by assumption, f, rfl, h1.symm, h2.symm, by omega⟩
theorem Ps.ok.line {s : Ps} (h : s.ok) {l : List UInt8} (h1 : l.length ≤ 4097) (h2 : l.length = 4097 → half l = true) (h3 : s.k = .behind → l = [] ∨ l = [13]) (h4 : s.k = .data → l = []) : (s.line l).ok :=
  ⟨h1, h2, h.need, h.pos, h3, h.many, h.heads, h.size, h4⟩
theorem body_ok {s : Ps} {h : Hs} {s' : Ps} {h' : Hs} (hok : s.ok) (hl : s.ln = []) (hk : s.k = .heads) (hb : bodyM s h = .ok (s', h')) : s'.ok := by
  have z : s.ln.length ≤ 4097 := by rw [hl]; simp
  have z2 : s.ln.length = 4097 → half s.ln = true := by rw [hl]; simp
  have zs := hok.size
  unfold bodyM at hb
  split at hb
  · cases hb
  split at hb
  · injection hb with hb; injection hb with h1 h2; subst h1
    exact ⟨z, z2, hok.need, by simp, by simp, hok.many, by simp, zs, by simp_all⟩
  split at hb
  · cases hb
  rename_i hbad
  split at hb
  · injection hb with hb; injection hb with h1 h2; subst h1
    exact ⟨by simp, by simp, hok.need, by simp [hk], by simp [hk], hok.many, hok.heads, zs, by simp_all⟩
  split at hb
  · injection hb with hb; injection hb with h1 h2; subst h1
    exact ⟨z, z2, hok.need, by simp, by simp, hok.many, by simp, zs, by simp_all⟩
  split at hb
  · injection hb with hb; injection hb with h1 h2; subst h1
    exact ⟨by simp, by simp, hok.need, by simp [hk], by simp [hk], hok.many, hok.heads, zs, by simp_all⟩
  rename_i hnt
  split at hb
  · rename_i ht
    injection hb with hb; injection hb with h1 h2; subst h1
    have hn := lenM_nn s.fs
    have h0 : ¬ (lenM s.fs).1 = 0 := fun e => hnt ⟨ht, e⟩
    have hm : ¬ 2147483647 < (lenM s.fs).1 := fun e => by
      apply hbad; unfold badB; simp [e]
    exact ⟨z, z2, ⟨by dsimp only; omega, by dsimp only; omega⟩, fun _ _ => by dsimp only; omega, by simp, hok.many, by simp, zs, by simp_all⟩
  · injection hb with hb; injection hb with h1 h2; subst h1
    exact ⟨z, z2, hok.need, by simp, by simp, hok.many, by simp, zs, by simp_all⟩
theorem onLine_ok {s : Ps} {h : Hs} {t : List UInt8} {s' : Ps} {h' : Hs} (hok : s.ok) (hl : s.k.lined = true) (ht : t.length ≤ 4096) (hb : onLine s h t = .ok (s', h')) : s'.ok := by
  have zs := hok.size
  cases hk : s.k <;> rw [hk] at hl <;> first | (cases hl; done) | skip
  · rw [onLine, hk] at hb
    simp only [onFirst] at hb
    cases hf : firstR t with
    | none => rw [hf] at hb; cases hb
    | some p =>
      rw [hf] at hb
      injection hb with hb; injection hb with h1 h2; subst h1
      exact ⟨by simp, by simp, hok.need, by simp, by simp, by simp, by simp [szM], by simp [szM], by simp⟩
  · rw [onLine, hk] at hb
    simp only [onHeads] at hb
    cases hf : fieldP s.many t with
    | error e => rw [hf] at hb; cases hb
    | ok p =>
      obtain ⟨o, m⟩ := p
      rw [hf] at hb
      rcases fieldP_cases hf with ⟨_, rfl, rfl⟩ | ⟨_, f, hr, rfl, rfl, hm⟩
      · exact body_ok (hok.line (by simp) (by simp) (by simp) (by simp)) rfl hk hb
      · injection hb with hb; injection hb with h1 h2; subst h1
        obtain ⟨f1, f2⟩ := fieldR_len hr
        have hs : szM (s.fs ++ [f]) = szM s.fs + (f.n.length + f.v.length + 32) := by rw [szM_app]; simp [szM]
        have hh := hok.heads hk
        have h1 := hok.many
        exact ⟨by simp, by simp, hok.need, by simp [hk], by simp, ⟨by dsimp only; omega, by dsimp only; omega⟩, fun _ => by dsimp only; rw [hs]; push_cast; omega, by dsimp only; rw [hs]; omega, by simp⟩
  · rw [onLine, hk] at hb
    simp only [onChunk] at hb
    split at hb
    · cases hb
    · rename_i hn
      injection hb with hb; injection hb with h1 h2; subst h1
      have := numV16_nn (cutM 59 t).1
      have hq : ¬ 2147483647 < numV 16 (cutM 59 t).1 := fun e => hn (.inr e)
      refine ⟨by simp, by simp, ⟨by dsimp only; omega, by dsimp only; omega⟩, ?_, ?_, by simp, ?_, zs, by simp⟩
      · dsimp only
        split
        · simp
        · intros; omega
      · simp
      · dsimp only
        split <;> simp
  · rw [onLine, hk] at hb
    simp only [onTrailer] at hb
    cases hf : fieldP s.many t with
    | error e => rw [hf] at hb; cases hb
    | ok p =>
      obtain ⟨o, m⟩ := p
      rw [hf] at hb
      rcases fieldP_cases hf with ⟨_, rfl, rfl⟩ | ⟨_, f, hr, rfl, rfl, hm⟩
      · injection hb with hb; injection hb with h1 h2; subst h1
        exact ⟨by simp, by simp, hok.need, by simp [hk], by simp, hok.many, by simp [hk], zs, by simp_all⟩
      · injection hb with hb; injection hb with h1 h2; subst h1
        have h1 := hok.many
        exact ⟨by simp, by simp, hok.need, by simp [hk], by simp, ⟨by dsimp only; omega, by dsimp only; omega⟩, by simp [hk], zs, by simp_all⟩
theorem plus_cons (h : Hs) (c : UInt8) (d : List UInt8) : (h.plus [c]).plus d = h.plus (c :: d) := by simp [Hs.plus]
theorem plus_nil (h : Hs) : h.plus [] = h := by simp [Hs.plus]
theorem strN_le (s : Ps) (b : List UInt8) : strN s b ≤ b.length := Nat.min_le_right _ _
theorem data_run : ∀ (b : List UInt8) (s : Ps) (h : Hs), s.ended = false → s.k = .data → 1 ≤ s.need → runB s h b = runB { s with need := s.need - (strN s b : Int), k := if s.need - (strN s b : Int) = 0 then .behind else .data } (h.plus (b.take (strN s b))) (b.drop (strN s b))
  | [], s, h, he, hk, hn => by
    have h0 : strN s [] = 0 := by simp [strN]
    rw [h0, if_neg (by omega)]
    obtain ⟨hd, k, ln, st, old, fs, many, need, ended, toEnd⟩ := s
    simp only at hk; subst hk
    simp [runB, plus_nil]
  | c :: b, s, h, he, hk, hn => by
    rw [runB, if_neg (by rw [he]; decide)]
    have hb : byteM s h c = .ok ({ s with need := s.need - 1, k := if s.need - 1 = 0 then .behind else .data }, h.plus [c]) := by unfold byteM; rw [hk]
    rw [hb]
    simp only
    by_cases h1 : s.need - 1 = 0
    · have hs : strN s (c :: b) = 1 := by unfold strN; simp; omega
      rw [hs]
      simp [h1]
    · rw [if_neg h1, data_run b _ _ (by exact he) rfl (by dsimp only; omega)]
      have hs : strN s (c :: b) = strN { s with need := s.need - 1, k := .data } b + 1 := by unfold strN; simp only [List.length_cons]; omega
      have hx : s.need - 1 - ((strN { s with need := s.need - 1, k := .data } b : Nat) : Int) = s.need - (strN s (c :: b) : Int) := by rw [hs]; push_cast; omega
      simp only [hx]
      rw [plus_cons]
      simp only [hs, List.take_succ_cons, List.drop_succ_cons]
theorem counted_run : ∀ (b : List UInt8) (s : Ps) (h : Hs), s.ended = false → s.k = .counted → 1 ≤ s.need → runB s h b = (if s.need - (strN s b : Int) = 0 then runB { s with need := s.need - (strN s b : Int), ln := [], ended := true } (h.plus (b.take (strN s b))).end_ (b.drop (strN s b)) else runB { s with need := s.need - (strN s b : Int) } (h.plus (b.take (strN s b))) (b.drop (strN s b)))
  | [], s, h, he, hk, hn => by
    have h0 : strN s [] = 0 := by simp [strN]
    rw [h0, if_neg (by omega)]
    obtain ⟨hd, k, ln, st, old, fs, many, need, ended, toEnd⟩ := s
    simp [runB, plus_nil]
  | c :: b, s, h, he, hk, hn => by
    rw [runB, if_neg (by rw [he]; decide)]
    have hb : byteM s h c = .ok (if s.need - 1 = 0 then ({ s with need := s.need - 1, ln := [], ended := true }, (h.plus [c]).end_) else ({ s with need := s.need - 1 }, h.plus [c])) := by unfold byteM; rw [hk]
    rw [hb]
    simp only
    by_cases h1 : s.need - 1 = 0
    · have hs : strN s (c :: b) = 1 := by unfold strN; simp; omega
      rw [hs]
      simp [h1]
    · rw [if_neg h1]
      simp only
      rw [counted_run b _ _ (by exact he) (by exact hk) (by dsimp only; omega)]
      have hs : strN s (c :: b) = strN { s with need := s.need - 1 } b + 1 := by unfold strN; simp only [List.length_cons]; omega
      have hx : s.need - 1 - ((strN { s with need := s.need - 1 } b : Nat) : Int) = s.need - (strN s (c :: b) : Int) := by rw [hs]; push_cast; omega
      simp only [hx]
      rw [plus_cons]
      simp only [hs, List.take_succ_cons, List.drop_succ_cons]
theorem all_run : ∀ (b : List UInt8) (s : Ps) (h : Hs), s.ended = false → s.k = .all → ¬ b = [] → runB s h b = .ok ({ s with need := 0 }, h.plus b, [])
  | [], s, h, he, hk, hb => absurd rfl hb
  | [c], s, h, he, hk, _ => by
    rw [runB, if_neg (by rw [he]; decide)]
    have hb : byteM s h c = .ok ({ s with need := 0 }, h.plus [c]) := by unfold byteM; rw [hk]
    rw [hb]; rfl
  | c :: d :: b, s, h, he, hk, _ => by
    rw [runB, if_neg (by rw [he]; decide)]
    have hb : byteM s h c = .ok ({ s with need := 0 }, h.plus [c]) := by unfold byteM; rw [hk]
    rw [hb]
    simp only
    rw [all_run (d :: b) _ _ (by exact he) (by exact hk) (by simp), plus_cons]
/-- A call of what a parser waits for does what its bytes do. -/
def nextOk (s : Ps) (h : Hs) (b : List UInt8) : Except Int Nx → Prop
  | .error e => runB s h b = .error e
  | .ok x => runB s h b = runB x.s x.h x.r ∧ x.r.length < b.length ∧ (x.more = false → x.r = [] ∨ x.s.ended = true) ∧ (x.more = true → x.s.ended = false) ∧ x.s.ok
theorem next_lined {s : Ps} {h : Hs} {b : List UInt8} (hok : s.ok) (he : s.ended = false) (hb : ¬ b = []) (hl : s.k.lined = true) (hn : nextM s h b = nextL s h b) : nextOk s h b (nextM s h b) := by
  rw [hn]
  unfold nextL
  have hr := rd_run h b s he hl
  have hrl := rd_len b s.ln hok.len hok.last
  cases hq : rdM s.ln b with
  | more l =>
    rw [hq] at hr hrl
    exact ⟨hr, (by cases b with | nil => exact absurd rfl hb | cons _ _ => simp), fun _ => .inl rfl, fun h => (by cases h), hok.line hrl.1 hrl.2 (fun hk => by rw [hk] at hl; cases hl) (fun hk => by rw [hk] at hl; cases hl)⟩
  | err e => rw [hq] at hr; exact hr
  | line t r =>
    rw [hq] at hr hrl
    simp only at hr ⊢
    cases hx : onLine s h t with
    | error e => rw [hx] at hr; exact hr
    | ok p =>
      obtain ⟨s', h'⟩ := p
      rw [hx] at hr
      refine ⟨hr, hrl.2, fun hh => .inr ?_, fun hh => ?_, onLine_ok hok hl hrl.1 hx⟩
      · simpa using hh
      · simpa using hh
theorem next_run {s : Ps} {h : Hs} {b : List UInt8} (hok : s.ok) (he : s.ended = false) (hb : ¬ b = []) : nextOk s h b (nextM s h b) := by
  have hl0 : 0 < b.length := List.length_pos_iff.2 hb
  cases hk : s.k with
  | first => exact next_lined hok he hb (by rw [hk]; rfl) (by unfold nextM; rw [hk])
  | heads => exact next_lined hok he hb (by rw [hk]; rfl) (by unfold nextM; rw [hk])
  | chunk => exact next_lined hok he hb (by rw [hk]; rfl) (by unfold nextM; rw [hk])
  | trailer => exact next_lined hok he hb (by rw [hk]; rfl) (by unfold nextM; rw [hk])
  | data =>
    have hp := hok.pos he (.inl hk)
    have hn : 1 ≤ strN s b := by unfold strN; omega
    have hle := strN_le s b
    have hne : (strN s b : Int) ≤ s.need := by unfold strN; omega
    unfold nextM
    rw [hk]
    refine ⟨data_run b s h he hk hp, by simp; omega, fun hm => .inl ?_, fun _ => he, ?_⟩
    · have : ¬ s.need - (strN s b : Int) = 0 := by simpa using hm
      have : strN s b = b.length := by unfold strN at *; omega
      simp [this]
    · have h1 := hok.need
      refine ⟨hok.len, hok.last, ⟨by dsimp only; omega, by dsimp only; omega⟩, ?_, ?_, hok.many, ?_, hok.size, fun _ => hok.dat hk⟩
      · dsimp only
        split
        · simp
        · intros; omega
      · dsimp only
        split
        · intro; exact .inl (hok.dat hk)
        · simp
      · dsimp only
        split <;> simp
  | counted =>
    have hp := hok.pos he (.inr hk)
    have hn : 1 ≤ strN s b := by unfold strN; omega
    have hle := strN_le s b
    have hne : (strN s b : Int) ≤ s.need := by unfold strN; omega
    have hr := counted_run b s h he hk hp
    rw [hk] at hr
    have h1 := hok.need
    unfold nextM
    rw [hk]
    simp only
    split
    · rename_i h0
      rw [if_pos h0] at hr
      exact ⟨hr, by simp; omega, fun _ => .inr rfl, fun h => (by cases h), ⟨by simp, by simp, ⟨by dsimp only; omega, by dsimp only; omega⟩, by simp, by simp, hok.many, by simp [hk], hok.size, by simp⟩⟩
    · rename_i h0
      rw [if_neg h0] at hr
      refine ⟨hr, by simp; omega, fun _ => .inl ?_, fun h => (by cases h), ⟨hok.len, hok.last, ⟨by dsimp only; omega, by dsimp only; omega⟩, fun _ _ => by dsimp only; omega, by simp [hk], hok.many, by simp [hk], hok.size, by simp [hk]⟩⟩
      have : strN s b = b.length := by unfold strN at *; omega
      simp [this]
  | all =>
    have hr := all_run b s h he hk hb
    rw [hk] at hr
    unfold nextM
    rw [hk]
    exact ⟨hr.trans rfl, hl0, fun _ => .inl rfl, fun h => (by cases h), ⟨hok.len, hok.last, by simp, by simp [hk], by simp [hk], hok.many, by simp [hk], hok.size, by simp [hk]⟩⟩
  | behind =>
    unfold nextM
    rw [hk]
    cases b with
    | nil => exact absurd rfl hb
    | cons c r =>
      have hr : runB s h (c :: r) = match byteM s h c with
        | .error e => .error e
        | .ok (s', h') => runB s' h' r := by rw [runB, if_neg (by rw [he]; decide)]; rfl
      have hb : byteM s h c = if s.ln = [] then (if c = 13 then .ok (s.line [13], h) else .error 152) else (if c = 10 then .ok ({ s with ln := [], k := .chunk }, h) else .error 152) := by unfold byteM; rw [hk]
      rw [hb] at hr
      simp only
      by_cases h1 : s.ln = []
      · rw [if_pos h1] at hr ⊢
        by_cases h2 : c = 13
        · rw [if_pos h2] at hr ⊢
          exact ⟨hr, by simp, fun h => (by cases h), fun _ => he, hok.line (by simp) (by simp) (fun _ => .inr rfl) (by simp [hk])⟩
        · rw [if_neg h2] at hr ⊢; exact hr
      · rw [if_neg h1] at hr ⊢
        by_cases h2 : c = 10
        · rw [if_pos h2] at hr ⊢
          exact ⟨hr, by simp, fun h => (by cases h), fun _ => he, ⟨by simp, by simp, hok.need, by simp, by simp, hok.many, by simp, hok.size, by simp⟩⟩
        · rw [if_neg h2] at hr ⊢; exact hr
end Go.Proofs.YthflfnehdlpmdaaDoor
