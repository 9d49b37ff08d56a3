/- Chapter 14: the document's Line and names, walked. No condition but on lengths. -/
import Derived.Test.YtnjbfiejgiaibaaGreatDoorHpGToAkV
namespace Go.Proofs.YtnjbfiejgiaibaaGreatDoor
set_option linter.all false
open Go Go.RowKit
set_option maxRecDepth 10000
set_option maxHeartbeats 4000000
def lnX (p : List UInt8) : Except Int (List UInt8 × List UInt8) → Except Int (List UInt8 × List UInt8)
  | .ok (s, r) => .ok (p ++ s, r)
  | .error e => .error e
theorem ln_cons {c : UInt8} {l : List UInt8} (h1 : ¬ c = 10) (h2 : ¬ c = 13) : lnM (c :: l) = lnX [c] (lnM l) := by
  rw [lnM, if_neg h1, if_neg h2]
  cases lnM l with
  | error e => rfl
  | ok p => rfl
theorem lnX_app (p q : List UInt8) (R : Except Int (List UInt8 × List UInt8)) : lnX p (lnX q R) = lnX (p ++ q) R := by
  cases R with
  | error e => rfl
  | ok x => simp [lnX]
def lineD (b : List UInt8) (k : Nat) : D := match lnM (b.drop k) with
  | .error e => .tup [.v (.str []), .v (.int .i64 (k : Int)), .v (.int .i64 e)]
  | .ok (s, r) => .tup [.v (.str s), .v (.int .i64 ((b.length - r.length : Nat) : Int)), .v (.int .i64 0)]
theorem drop_el {b : List UInt8} {i : Nat} (h : i < b.length) : b.drop i = b[i] :: b.drop (i + 1) := List.drop_eq_getElem_cons h
theorem bs_el {b : List UInt8} {i : Nat} (h : i < b.length) : (bs b)[i]? = some [.int .u8 (b[i].toNat : Int)] := by simp [bs, h]
theorem take_el {b : List UInt8} {k i : Nat} (hk : k ≤ i) (h : i < b.length) : (b.drop k).take (i - k) ++ [b[i]] = (b.drop k).take (i + 1 - k) := by
  have e : i + 1 - k = (i - k) + 1 := by omega
  rw [e, List.take_add_one, List.getElem?_drop, show k + (i - k) = i from by omega, List.getElem?_eq_getElem h]; rfl
theorem is13 {z : UInt8} (h : (z.toNat : Int) = 13) : z = 13 := u8eq (c := 13) h
theorem is10 {z : UInt8} (h : (z.toNat : Int) = 10) : z = 10 := u8eq (c := 10) h
theorem ne13 {z : UInt8} (h : ¬ (z.toNat : Int) = 13) : ¬ z = 13 := u8ne (c := 13) h
theorem ne10 {z : UInt8} (h : ¬ (z.toNat : Int) = 10) : ¬ z = 10 := u8ne (c := 10) h
theorem ln10 {c : UInt8} (l : List UInt8) (h : c = 10) : lnM (c :: l) = .error 150 := by rw [lnM, if_pos h]
theorem ln13e {c : UInt8} (h : c = 13) : lnM [c] = .error 12 := by subst h; rw [lnM, if_neg (by decide), if_pos rfl]; rfl
theorem ln13n {c a : UInt8} (l : List UInt8) (h : c = 13) (ha : ¬ a = 10) : lnM (c :: a :: l) = .error 150 := by
  subst h; rw [lnM, if_neg (by decide), if_pos rfl, if_neg (by simp), if_neg (by simpa using ha)]
theorem ln13o {c a : UInt8} (l : List UInt8) (h : c = 13) (ha : a = 10) : lnM (c :: a :: l) = .ok ([], l) := by
  subst h; subst ha; rw [lnM, if_neg (by decide), if_pos rfl, if_neg (by simp)]; rfl
theorem line_E {b : List UInt8} {k : Nat} {e : Int} (h : lnM (b.drop k) = .error e) : lineD b k = .tup [.v (.str []), .v (.int .i64 (k : Int)), .v (.int .i64 e)] := by unfold lineD; rw [h]
theorem line_O {b s r : List UInt8} {k n : Nat} (h : lnM (b.drop k) = .ok (s, r)) (hn : b.length - r.length = n) : lineD b k = .tup [.v (.str s), .v (.int .i64 (n : Int)), .v (.int .i64 0)] := by unfold lineD; rw [h]; simp only [hn]
theorem con_rLine {b : List UInt8} {k : Nat} (hk : k ≤ b.length) (hb : b.length ≤ 1000000000) : Con Tryz.prog 23 [.v (.sl (bs b)), .v (.int .i64 (k : Int))] [] 0 (.ret (lineD b k)) [] := by
  have hbl := bs_length b
  refine con_of Tryz.func23 rfl (by show _ ≤ 47; simp) fun X Q hP hnt hnp hret hpan => ?_
  obtain ⟨P0, nt0, w0, K0, S0, np0, pin0, df0⟩ := X
  simp only at hP hnt hnp
  subst hP hnp
  obtain rfl : nt0 = 47 := hnt
  refine aw_region fun K1 hK1 => ?_
  refine aL z_assign ?_
  refine aL z_assign ?_
  refine aL z_assign ?_
  refine awl_nil (hK1 _ _ ?_)
  clear hK1 K1
  refine aw_seq fun K2 hK2 => ?_
  refine aw_region fun K3 hK3 => ?_
  refine aL z_move ?_
  refine aL z_assign ?_
  refine awl_nil (hK3 _ _ ?_)
  clear hK3 K3
  refine aw_block ?_
  refine aw_loop (α := {i : Nat // k ≤ i ∧ i ≤ b.length ∧ lnM (b.drop k) = lnX ((b.drop k).take (i - k)) (lnM (b.drop i))}) (fun x => ([(0, .v (.sl (bs b))), (1, .v (.int .i64 (k : Int))), (7, .v (.int .i64 (x.1 : Int)))], [])) (fun x => b.length - x.1) ⟨k, Nat.le_refl _, hk, by rw [Nat.sub_self, List.take_zero]; cases lnM (b.drop k) <;> rfl⟩ ?_ ?_
  · dsimp only
    exact wK
  · rintro ⟨i, hki, hib, hE⟩ K4 hK4
    dsimp only
    refine aw_seq fun K5 hK5 => ?_
    refine aw_region fun K6 hK6 => ?_
    refine aL z_move ?_
    refine aL z_move ?_
    first
      | refine aL (z_lenB Tryz.underlying22) ?_
      | refine aL (z_len Tryz.underlying22) ?_
      | refine aL (z_lenV Tryz.underlying22) ?_
    refine aL z_lss ?_
    refine awl_nil (hK6 _ _ ?_)
    clear hK6 K6
    refine aC (fun r1 c1 => ?_) (fun r1 c1 => ?_)
    · refine aw_skip ?_
      refine hK5 _ _ ?_
      clear hK5
      refine aw_seq fun K7 hK7 => ?_
      refine aw_block ?_
      refine aw_seq fun K8 hK8 => ?_
      refine aw_region fun K9 hK9 => ?_
      have hlt : i < b.length := by omega
      have hi := bs_el hlt
      refine aL z_move ?_
      refine aL z_move ?_
      first
        | refine aL (z_indexAddr Tryz.underlying22 sz_5) ?_
        | refine aL (z_indexAddrV Tryz.underlying22 sz_5) ?_
      first
        | refine aL (z_load sz_5) ?_
        | refine aL (z_loadRef sz_5) ?_
        | refine aL (z_loadV sz_5) ?_
      refine aL z_eql ?_
      refine awl_nil (hK9 _ _ ?_)
      clear hK9 K9
      refine aC (fun r2 c2 => ?_) (fun r2 c2 => ?_)
      · refine aw_region fun K10 hK10 => ?_
        refine aL z_move ?_
        refine aL z_assign ?_
        refine aL z_assign ?_
        refine aL z_assign ?_
        refine awl_nil (hK10 _ _ ?_)
        clear hK10 K10
        refine aw_ret ?_
        refine (hret _ _ _ _ _ rfl (.tmp rfl (.tmp rfl (.tmp rfl .nil))) rfl ?_ .nil rfl).1
        first
          | (rw [line_E (e := 150) (by rw [hE, drop_el hlt, ln10 _ (is10 (by omega))]; rfl)]; rfl)
          | (rw [line_E (e := 12) (by rw [hE, drop_el hlt, show b.drop (i + 1) = [] from List.drop_eq_nil_iff.2 (by omega), ln13e (is13 (by omega))]; rfl)]; rfl)
          | (rw [line_E (e := 150) (by rw [hE, drop_el hlt, drop_el hlt2, ln13n _ (is13 (by omega)) (ne10 (by omega))]; rfl)]; rfl)
          | (rw [line_O (s := (b.drop k).take (i - k)) (r := b.drop (i + 1 + 1)) (n := i + 2) (by rw [hE, drop_el hlt, drop_el hlt2, ln13o _ (is13 (by omega)) (is10 (by omega))]; simp [lnX]) (by rw [List.length_drop]; omega)]; rfl)
          | (rw [line_E (e := 12) (by rw [hE, show b.drop i = [] from List.drop_eq_nil_iff.2 (by omega)]; rfl)]; rfl)
      · refine aw_skip ?_
        refine hK8 _ _ ?_
        clear hK8
        refine aw_seq fun K11 hK11 => ?_
        refine aw_region fun K12 hK12 => ?_
        refine aL z_move ?_
        refine aL z_move ?_
        first
          | refine aL (z_indexAddr Tryz.underlying22 sz_5) ?_
          | refine aL (z_indexAddrV Tryz.underlying22 sz_5) ?_
        first
          | refine aL (z_load sz_5) ?_
          | refine aL (z_loadRef sz_5) ?_
          | refine aL (z_loadV sz_5) ?_
        refine aL z_neq ?_
        refine awl_nil (hK12 _ _ ?_)
        clear hK12 K12
        refine aC (fun r3 c3 => ?_) (fun r3 c3 => ?_)
        · refine aw_exit ?_
          refine hK7 _ _ ?_
          clear hK7
          refine aw_region_last ?_
          refine aL z_move ?_
          refine aL z_add ?_
          refine aL z_assign ?_
          refine awl_nil ?_
          refine hK4 _ _ ⟨i + 1, by omega, by omega, by rw [hE, drop_el hlt, ln_cons (ne10 (by omega)) (ne13 (by omega)), lnX_app, take_el hki hlt]⟩ (by dsimp only; omega) ?_
          exact wK
        · refine aw_skip ?_
          refine hK11 _ _ ?_
          clear hK11
          refine aw_seq fun K13 hK13 => ?_
          refine aw_region fun K14 hK14 => ?_
          refine aL z_move ?_
          refine aL z_add ?_
          refine aL z_move ?_
          first
            | refine aL (z_lenB Tryz.underlying22) ?_
            | refine aL (z_len Tryz.underlying22) ?_
            | refine aL (z_lenV Tryz.underlying22) ?_
          refine aL z_geq ?_
          refine awl_nil (hK14 _ _ ?_)
          clear hK14 K14
          refine aC (fun r4 c4 => ?_) (fun r4 c4 => ?_)
          · refine aw_region fun K15 hK15 => ?_
            refine aL z_move ?_
            refine aL z_assign ?_
            refine aL z_assign ?_
            refine aL z_assign ?_
            refine awl_nil (hK15 _ _ ?_)
            clear hK15 K15
            refine aw_ret ?_
            refine (hret _ _ _ _ _ rfl (.tmp rfl (.tmp rfl (.tmp rfl .nil))) rfl ?_ .nil rfl).1
            first
              | (rw [line_E (e := 150) (by rw [hE, drop_el hlt, ln10 _ (is10 (by omega))]; rfl)]; rfl)
              | (rw [line_E (e := 12) (by rw [hE, drop_el hlt, show b.drop (i + 1) = [] from List.drop_eq_nil_iff.2 (by omega), ln13e (is13 (by omega))]; rfl)]; rfl)
              | (rw [line_E (e := 150) (by rw [hE, drop_el hlt, drop_el hlt2, ln13n _ (is13 (by omega)) (ne10 (by omega))]; rfl)]; rfl)
              | (rw [line_O (s := (b.drop k).take (i - k)) (r := b.drop (i + 1 + 1)) (n := i + 2) (by rw [hE, drop_el hlt, drop_el hlt2, ln13o _ (is13 (by omega)) (is10 (by omega))]; simp [lnX]) (by rw [List.length_drop]; omega)]; rfl)
              | (rw [line_E (e := 12) (by rw [hE, show b.drop i = [] from List.drop_eq_nil_iff.2 (by omega)]; rfl)]; rfl)
          · refine aw_skip ?_
            refine hK13 _ _ ?_
            clear hK13
            refine aw_seq fun K16 hK16 => ?_
            refine aw_region fun K17 hK17 => ?_
            have hlt2 : i + 1 < b.length := by omega
            have hi2 := bs_el hlt2
            refine aL z_move ?_
            refine aL z_move ?_
            refine aL z_add ?_
            first
              | refine aL (z_indexAddr Tryz.underlying22 sz_5) ?_
              | refine aL (z_indexAddrV Tryz.underlying22 sz_5) ?_
            first
              | refine aL (z_load sz_5) ?_
              | refine aL (z_loadRef sz_5) ?_
              | refine aL (z_loadV sz_5) ?_
            refine aL z_neq ?_
            refine awl_nil (hK17 _ _ ?_)
            clear hK17 K17
            refine aC (fun r5 c5 => ?_) (fun r5 c5 => ?_)
            · refine aw_region fun K18 hK18 => ?_
              refine aL z_move ?_
              refine aL z_assign ?_
              refine aL z_assign ?_
              refine aL z_assign ?_
              refine awl_nil (hK18 _ _ ?_)
              clear hK18 K18
              refine aw_ret ?_
              refine (hret _ _ _ _ _ rfl (.tmp rfl (.tmp rfl (.tmp rfl .nil))) rfl ?_ .nil rfl).1
              first
                | (rw [line_E (e := 150) (by rw [hE, drop_el hlt, ln10 _ (is10 (by omega))]; rfl)]; rfl)
                | (rw [line_E (e := 12) (by rw [hE, drop_el hlt, show b.drop (i + 1) = [] from List.drop_eq_nil_iff.2 (by omega), ln13e (is13 (by omega))]; rfl)]; rfl)
                | (rw [line_E (e := 150) (by rw [hE, drop_el hlt, drop_el hlt2, ln13n _ (is13 (by omega)) (ne10 (by omega))]; rfl)]; rfl)
                | (rw [line_O (s := (b.drop k).take (i - k)) (r := b.drop (i + 1 + 1)) (n := i + 2) (by rw [hE, drop_el hlt, drop_el hlt2, ln13o _ (is13 (by omega)) (is10 (by omega))]; simp [lnX]) (by rw [List.length_drop]; omega)]; rfl)
                | (rw [line_E (e := 12) (by rw [hE, show b.drop i = [] from List.drop_eq_nil_iff.2 (by omega)]; rfl)]; rfl)
            · refine aw_skip ?_
              refine hK16 _ _ ?_
              clear hK16
              refine aw_region fun K19 hK19 => ?_
              refine aL z_move ?_
              refine aL z_move ?_
              refine aL z_move ?_
              refine aL (z_slice Tryz.underlying22 sz_5 (i := some k) (j := some i) (hlo := .yes (ev_tmp rfl) rfl) (hhi := .yes (ev_tmp rfl) rfl) (c' := bs ((b.drop k).take (i - k))) (hc := by rw [bs_cut]; rfl)) ?_
              first
                | refine aL (z_convS Tryz.underlying22 Tryz.underlying5 Tryz.underlying9) ?_
                | refine aL (z_convSV Tryz.underlying22 Tryz.underlying5 Tryz.underlying9) ?_
              refine aL z_move ?_
              refine aL z_add ?_
              refine aL z_assign ?_
              refine aL z_assign ?_
              refine aL z_assign ?_
              refine awl_nil (hK19 _ _ ?_)
              clear hK19 K19
              refine aw_ret ?_
              refine (hret _ _ _ _ _ rfl (.tmp rfl (.tmp rfl (.tmp rfl .nil))) rfl ?_ .nil rfl).1
              first
                | (rw [line_E (e := 150) (by rw [hE, drop_el hlt, ln10 _ (is10 (by omega))]; rfl)]; rfl)
                | (rw [line_E (e := 12) (by rw [hE, drop_el hlt, show b.drop (i + 1) = [] from List.drop_eq_nil_iff.2 (by omega), ln13e (is13 (by omega))]; rfl)]; rfl)
                | (rw [line_E (e := 150) (by rw [hE, drop_el hlt, drop_el hlt2, ln13n _ (is13 (by omega)) (ne10 (by omega))]; rfl)]; rfl)
                | (rw [line_O (s := (b.drop k).take (i - k)) (r := b.drop (i + 1 + 1)) (n := i + 2) (by rw [hE, drop_el hlt, drop_el hlt2, ln13o _ (is13 (by omega)) (is10 (by omega))]; simp [lnX]) (by rw [List.length_drop]; omega)]; rfl)
                | (rw [line_E (e := 12) (by rw [hE, show b.drop i = [] from List.drop_eq_nil_iff.2 (by omega)]; rfl)]; rfl)
    · refine aw_exit ?_
      refine hK2 _ _ ?_
      clear hK2
      refine aw_region fun K20 hK20 => ?_
      refine aL z_move ?_
      refine aL z_assign ?_
      refine aL z_assign ?_
      refine aL z_assign ?_
      refine awl_nil (hK20 _ _ ?_)
      clear hK20 K20
      refine aw_ret ?_
      refine (hret _ _ _ _ _ rfl (.tmp rfl (.tmp rfl (.tmp rfl .nil))) rfl ?_ .nil rfl).1
      first
        | (rw [line_E (e := 150) (by rw [hE, drop_el hlt, ln10 _ (is10 (by omega))]; rfl)]; rfl)
        | (rw [line_E (e := 12) (by rw [hE, drop_el hlt, show b.drop (i + 1) = [] from List.drop_eq_nil_iff.2 (by omega), ln13e (is13 (by omega))]; rfl)]; rfl)
        | (rw [line_E (e := 150) (by rw [hE, drop_el hlt, drop_el hlt2, ln13n _ (is13 (by omega)) (ne10 (by omega))]; rfl)]; rfl)
        | (rw [line_O (s := (b.drop k).take (i - k)) (r := b.drop (i + 1 + 1)) (n := i + 2) (by rw [hE, drop_el hlt, drop_el hlt2, ln13o _ (is13 (by omega)) (is10 (by omega))]; simp [lnX]) (by rw [List.length_drop]; omega)]; rfl)
        | (rw [line_E (e := 12) (by rw [hE, show b.drop i = [] from List.drop_eq_nil_iff.2 (by omega)]; rfl)]; rfl)
end Go.Proofs.YtnjbfiejgiaibaaGreatDoor

/- Chapter 14: the document's FieldLine, first, names, walked. No condition but on lengths. -/
namespace Go.Proofs.YtnjbfiejgiaibaaGreatDoor
set_option linter.all false
open Go Go.RowKit
set_option maxRecDepth 10000
set_option maxHeartbeats 4000000
theorem cut_pre (c : UInt8) (r : List UInt8) : ∀ p : List UInt8, p.contains c = false → cutAt c (p ++ c :: r) = (p, some r)
  | [], _ => by simp [cutAt]
  | x :: p, h => by
    rw [List.contains_cons, Bool.or_eq_false_iff] at h
    have hx : ¬ x = c := fun e => by subst e; simp at h
    have := cut_pre c r p h.2
    simp [cutAt, hx, this]
theorem cut_non (c : UInt8) : ∀ s : List UInt8, s.contains c = false → cutAt c s = (s, none)
  | [], _ => rfl
  | x :: p, h => by
    rw [List.contains_cons, Bool.or_eq_false_iff] at h
    have hx : ¬ x = c := fun e => by subst e; simp at h
    have := cut_non c p h.2
    simp [cutAt, hx, this]
theorem cut_at' {c : UInt8} {s : List UInt8} {n : Nat} (h : n < s.length) (hc : (s.take n).contains c = false) (he : s[n] = c) : cutAt c s = (s.take n, some (s.drop (n + 1))) := by
  have e : s = s.take n ++ c :: s.drop (n + 1) := by rw [← he, ← drop_el h, List.take_append_drop]
  have := cut_pre c (s.drop (n + 1)) (s.take n) hc
  rw [← e] at this; exact this
theorem con_step {c : UInt8} {s : List UInt8} {n : Nat} (h : n < s.length) (hc : (s.take n).contains c = false) (he : ¬ s[n] = c) : (s.take (n + 1)).contains c = false := by
  rw [take_succ' h]
  simp only [List.contains_append, hc, List.contains_cons, List.contains_nil, Bool.false_or, Bool.or_false, beq_eq_false_iff_ne]
  exact fun e => he e.symm
theorem getD_el {s : List UInt8} {n : Nat} (h : n < s.length) : s.getD n 0 = s[n] := by rw [List.getD_eq_getElem?_getD, List.getElem?_eq_getElem h]; rfl
theorem getD_some {s : List UInt8} {n : Nat} (h : n < s.length) : s[n]? = some (s.getD n 0) := by rw [getD_el h, List.getElem?_eq_getElem h]
/-- What FieldLine hands back. -/
def fdD (s : List UInt8) : D := match cutAt 58 s with
  | (n, some v) => if tokenM n = true then .tup [.agg [.v (.str (lowM n)), .v (.str (trimM v)), .v (.bool false)], .v (.bool (valueM (trimM v)))] else .tup [.agg [.v (.str []), .v (.str []), .v (.bool false)], .v (.bool false)]
  | (_, none) => .tup [.agg [.v (.str []), .v (.str []), .v (.bool false)], .v (.bool false)]
theorem fd_bad {s : List UInt8} {n : Nat} (hn : n ≤ s.length) (hc : (s.take n).contains 58 = false) (h58 : n < s.length → ((s.getD n 0).toNat : Int) = 58) (hx : (n : Int) = (s.length : Int) ∨ tokenM (s.take n) = false) : fdD s = .tup [.agg [.v (.str []), .v (.str []), .v (.bool false)], .v (.bool false)] := by
  by_cases h : n < s.length
  · have he : s[n] = 58 := u8eq (c := 58) (by have := h58 h; rw [getD_el h] at this; exact this)
    have ht : tokenM (s.take n) = false := by
      rcases hx with h1 | h1
      · omega
      · exact h1
    unfold fdD
    rw [cut_at' h hc he]
    simp only [ht]
    rfl
  · rw [List.take_of_length_le (by omega)] at hc
    unfold fdD
    rw [cut_non 58 s hc]
theorem fd_good {s : List UInt8} {n : Nat} (hc : (s.take n).contains 58 = false) (h58 : n < s.length → ((s.getD n 0).toNat : Int) = 58) (h : n < s.length) (ht : tokenM (s.take n) = true) : fdD s = .tup [.agg [.v (.str (lowM (s.take n))), .v (.str (trimM (s.drop (n + 1)))), .v (.bool false)], .v (.bool (valueM (trimM (s.drop (n + 1)))))] := by
  have he : s[n] = 58 := u8eq (c := 58) (by have := h58 h; rw [getD_el h] at this; exact this)
  unfold fdD
  rw [cut_at' h hc he]
  simp only [ht, if_true]
theorem con_rFieldLine {s : List UInt8} (hs : s.length ≤ 1000000000) : Con Tryz.prog 25 [.v (.str s)] [] 0 (.ret (fdD s)) [] := by
  refine con_of Tryz.func25 rfl (by show _ ≤ 43; simp) fun X Q hP hnt hnp hret hpan => ?_
  obtain ⟨P0, nt0, w0, K0, S0, np0, pin0, df0⟩ := X
  simp only at hP hnt hnp
  subst hP hnp
  obtain rfl : nt0 = 43 := hnt
  refine aw_region fun K1 hK1 => ?_
  refine aL (z_alloc 0 zc_46 zl_46) ?_
  refine aL z_assign ?_
  refine awl_nil (hK1 _ _ ?_)
  clear hK1 K1
  refine aw_region fun K2 hK2 => ?_
  refine aL z_assign ?_
  refine awl_nil (hK2 _ _ ?_)
  clear hK2 K2
  refine aw_seq fun K3 hK3 => ?_
  refine aw_block ?_
  refine aw_loop (α := {n : Nat // n ≤ s.length ∧ (s.take n).contains 58 = false}) (fun x => ([(0, .v (.str s)), (2, .ptr 0 0), (4, .v (.int .i64 (x.1 : Int)))], [(0, .box [.v (.str []), .v (.str []), .v (.bool false)])])) (fun x => s.length - x.1) ⟨0, Nat.zero_le _, rfl⟩ ?_ ?_
  · dsimp only
    exact wK
  · rintro ⟨n, hn, hc⟩ K4 hK4
    dsimp only
    have hi : n < s.length → s[n]? = some (s.getD n 0) := getD_some
    refine aw_seq fun K5 hK5 => ?_
    refine aw_region fun K6 hK6 => ?_
    refine aL z_move ?_
    refine aL z_move ?_
    refine aL (z_lenS Tryz.underlying9) ?_
    refine aL z_lss ?_
    refine aL z_move ?_
    first
      | refine gL rfl rfl (ev_tmp rfl) (fun hg => z_move) ?_
      | refine hL rfl rfl (ev_tmp rfl) (fun hg => z_move) ?_
    first
      | refine gL rfl rfl (ev_tmp rfl) (fun hg => z_move) ?_
      | refine hL rfl rfl (ev_tmp rfl) (fun hg => z_move) ?_
    first
      | refine gL rfl rfl (ev_tmp rfl) (fun hg => z_indexS Tryz.underlying9 (hb := hi (by simpa using hg))) ?_
      | refine hL rfl rfl (ev_tmp rfl) (fun hg => z_indexS Tryz.underlying9 (hb := hi (by simpa using hg))) ?_
    first
      | refine gL rfl rfl (ev_tmp rfl) (fun hg => z_neq) ?_
      | refine hL rfl rfl (ev_tmp rfl) (fun hg => z_neq) ?_
    refine aL z_and ?_
    refine awl_nil (hK6 _ _ ?_)
    clear hK6 K6
    refine aC (fun r1 c1 => ?_) (fun r1 c1 => ?_)
    · refine aw_skip ?_
      refine hK5 _ _ ?_
      clear hK5
      refine aw_block ?_
      refine aw_region_last ?_
      refine aL z_move ?_
      refine aL z_add ?_
      refine aL z_assign ?_
      refine awl_nil ?_
      refine hK4 _ _ ⟨n + 1, by omega, con_step (by omega) hc (fun e => by rw [getD_el (by omega), e] at c1; exact c1.2 rfl)⟩ (by dsimp only; omega) ?_
      exact wK
    · refine aw_exit ?_
      refine hK3 _ _ ?_
      clear hK3
      refine aw_seq fun K7 hK7 => ?_
      refine aw_region fun K8 hK8 => ?_
      refine aL z_move ?_
      refine aL z_move ?_
      refine aL (z_lenS Tryz.underlying9) ?_
      refine aL z_eql ?_
      refine aL z_move ?_
      first
        | refine gL rfl rfl (ev_tmp rfl) (fun hg => z_move) ?_
        | refine hL rfl rfl (ev_tmp rfl) (fun hg => z_move) ?_
      first
        | refine gL rfl rfl (ev_tmp rfl) (fun hg => z_move) ?_
        | refine hL rfl rfl (ev_tmp rfl) (fun hg => z_move) ?_
      first
        | refine gL rfl rfl (ev_tmp rfl) (fun hg => z_sliceS Tryz.underlying9 (i := none) (j := some n) (hhi := .yes (ev_cond (ev_tmp rfl) (by assumption)) rfl) (l' := s.take n) (hc := by simp)) ?_
        | refine hL rfl rfl (ev_tmp rfl) (fun hg => z_sliceS Tryz.underlying9 (i := none) (j := some n) (hhi := .yes (ev_cond (ev_tmp rfl) (by assumption)) rfl) (l' := s.take n) (hc := by simp)) ?_
      first
        | refine gL rfl rfl (ev_tmp rfl) (fun hg => z_call0 (eC .nil) en_33 (con_rToken (l := s.take n) (by rw [List.length_take]; unfold maxLen; omega))) ?_
        | refine hL rfl rfl (ev_tmp rfl) (fun hg => z_call0 (eC .nil) en_33 (con_rToken (l := s.take n) (by rw [List.length_take]; unfold maxLen; omega))) ?_
      first
        | refine gL rfl rfl (ev_tmp rfl) (fun hg => z_not) ?_
        | refine hL rfl rfl (ev_tmp rfl) (fun hg => z_not) ?_
      refine aL z_or ?_
      refine awl_nil (hK8 _ _ ?_)
      clear hK8 K8
      refine aC (fun r2 c2 => ?_) (fun r2 c2 => ?_)
      · refine aw_region fun K9 hK9 => ?_
        refine aL (z_build .nil pl_46 zc_46 zl_46) ?_
        refine aL (z_store sz_46) ?_
        refine aL z_assign ?_
        refine awl_nil (hK9 _ _ ?_)
        clear hK9 K9
        refine aw_ret ?_
        refine (hret _ _ _ _ _ rfl (rCe sz_46 (.tmp rfl .nil)) rfl ?_ .nil rfl).1
        have h58 : n < s.length → ((s.getD n 0).toNat : Int) = 58 := fun h => by rcases c1 with h1 | h1; omega; omega
        first
          | (rw [fd_bad hn hc h58 (by simpa using c2)]; rfl)
          | (rw [fd_good hc h58 (by omega) (by simpa using c2.2)]; rfl)
      · refine aw_skip ?_
        refine hK7 _ _ ?_
        clear hK7
        refine aw_region fun K10 hK10 => ?_
        refine aL z_move ?_
        refine aL z_move ?_
        refine aL z_add ?_
        refine aL (z_sliceS Tryz.underlying9 (i := some (n + 1)) (j := none) (l' := s.drop (n + 1)) (hc := by simp)) ?_
        refine aL (z_call0 (eC .nil) en_61 (con_rTrim (l := s.drop (n + 1)) (by rw [List.length_drop]; unfold maxLen; omega))) ?_
        refine aL z_assign ?_
        refine awl_nil (hK10 _ _ ?_)
        clear hK10 K10
        refine aw_region fun K11 hK11 => ?_
        refine aL z_move ?_
        refine aL z_move ?_
        refine aL (z_sliceS Tryz.underlying9 (i := none) (j := some n) (l' := s.take n) (hc := by simp)) ?_
        refine aL (z_call0 (eC .nil) en_36 (con_rLower (l := s.take n) (by rw [List.length_take]; omega))) ?_
        refine aL z_move ?_
        refine aL (z_build (pC (pC .nil)) pl_46 zc_46 zl_46) ?_
        refine aL z_move ?_
        refine aL (z_call0 (eC .nil) en_13 (con_rValue (l := trimM (s.drop (n + 1))) (by have := trim_le (s.drop (n + 1)); rw [List.length_drop] at this; unfold maxLen; omega))) ?_
        refine aL (z_store sz_46) ?_
        refine aL z_assign ?_
        refine awl_nil (hK11 _ _ ?_)
        clear hK11 K11
        refine aw_ret ?_
        refine (hret _ _ _ _ _ rfl (rCe sz_46 (.tmp rfl .nil)) rfl ?_ .nil rfl).1
        have h58 : n < s.length → ((s.getD n 0).toNat : Int) = 58 := fun h => by rcases c1 with h1 | h1; omega; omega
        first
          | (rw [fd_bad hn hc h58 (by simpa using c2)]; rfl)
          | (rw [fd_good hc h58 (by omega) (by simpa using c2.2)]; rfl)
end Go.Proofs.YtnjbfiejgiaibaaGreatDoor
