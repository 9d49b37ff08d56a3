/- Chapter 15: the laws' small functions. No condition but on lengths. -/
import Derived.Test.YthflfnehdlpmdaaDoorRpU
namespace Go.Proofs.YthflfnehdlpmdaaDoor
set_option linter.all false
open Go Go.RowKit
set_option maxRecDepth 100000
set_option maxHeartbeats 4000000
def awkB : List UInt8 := [72, 84, 84, 80, 47, 49, 46, 49, 32, 50, 48, 48, 32, 79, 75, 13, 10, 67, 111, 110, 116, 101, 110, 116, 45, 76, 101, 110, 103, 116, 104, 58, 32, 50, 13, 10, 13, 10, 104, 105, 33]
theorem awk_run : runB (ps0 false) hs0 awkB = .ok (⟨false, .counted, [], 200, false, [⟨[99, 111, 110, 116, 101, 110, 116, 45, 108, 101, 110, 103, 116, 104], [50], false⟩], 1, 0, true, false⟩, ⟨true, 200, [⟨[99, 111, 110, 116, 101, 110, 116, 45, 108, 101, 110, 103, 116, 104], [50], false⟩], [104, 105], true⟩, [33]) := by kernel_rfl
theorem con_awake : Con Tryd.prog 7 [] [] 0 (.ret (.v (.bool true))) [] := by
  have hT := con_Take (b := awkB) (ps0_ok false) rfl (by decide) awk_run
  have hK := con_KeepsE (s := ⟨false, .counted, [], 200, false, [⟨[99, 111, 110, 116, 101, 110, 116, 45, 108, 101, 110, 103, 116, 104], [50], false⟩], 1, 0, true, false⟩) (ov := true) rfl (by decide)
  rw [show kpM ⟨false, .counted, [], 200, false, [⟨[99, 111, 110, 116, 101, 110, 116, 45, 108, 101, 110, 103, 116, 104], [50], false⟩], 1, 0, true, false⟩ = true by kernel_rfl] at hK
  refine con_of Tryd.func7 rfl (by show _ ≤ 42; simp) fun X Q hP hnt hnp hret hpan => ?_
  obtain ⟨P0, nt0, w0, K0, S0, np0, pin0, df0⟩ := X
  simp only at hP hnt hnp
  subst hP hnp
  obtain rfl : nt0 = 42 := hnt
  refine aw_region fun K1 hK1 => ?_
  refine aL z_assign ?_
  refine awl_nil (hK1 _ _ ?_)
  clear hK1 K1
  refine aw_region fun K2 hK2 => ?_
  refine aL (z_callG [0, 1, 2] (eC .nil) en_9 con_New .nil) ?_
  refine aL z_assign ?_
  refine awl_nil (hK2 _ _ ?_)
  clear hK2 K2
  refine aw_region fun K3 hK3 => ?_
  refine aL z_move ?_
  refine aL (z_rowM 10 awkB (pC (pC (pC (pC (pC (pC (pC (pC (pC (pC (pC (pC (pC (pC (pC (pC (pC (pC (pC (pC (pC (pC (pC (pC (pC (pC (pC (pC (pC (pC (pC (pC (pC (pC (pC (pC (pC (pC (pC (pC (pC .nil))))))))))))))))))))))))))))))))))))))))) Tryd.underlying32 sz_5 zc_5 zl_5) ?_
  refine aL (StepU.settle (z_convOwn Tryd.underlying32 Tryd.underlying5)) ?_
  refine aL (z_callG [0, 1, 2] (eC (eC .nil)) en_10 hT (pA (pA (pA .nil)))) ?_
  refine aL z_move ?_
  refine aL z_extract ?_
  refine aL z_extract ?_
  refine aL z_extract ?_
  refine aL (z_alloc 5 zc_28 zl_28) ?_
  refine aL (z_store sz_28) ?_
  refine aL z_assign ?_
  refine aL z_assign ?_
  refine awl_nil (hK3 _ _ ?_)
  clear hK3 K3
  refine aw_region fun K4 hK4 => ?_
  refine aL (z_fieldAddr fo_28_0) ?_
  refine aL (z_load sz_4) ?_
  refine aL z_move ?_
  refine yL rfl rfl (ev_tmp rfl) (by rfl) (z_fieldAddr fo_28_1) ?_
  refine yL rfl rfl (ev_tmp rfl) (by rfl) (z_load sz_3) ?_
  refine yL rfl rfl (ev_tmp rfl) (by rfl) (z_eql) ?_
  refine aL z_and ?_
  refine aL z_move ?_
  refine yL rfl rfl (ev_tmp rfl) (by rfl) (z_fieldAddr fo_28_3) ?_
  refine yL rfl rfl (ev_tmp rfl) (by rfl) (z_load sz_9) ?_
  refine yL rfl rfl (ev_tmp rfl) (by rfl) (z_eqlS) ?_
  refine aL z_and ?_
  refine aL z_move ?_
  refine yL rfl rfl (ev_tmp rfl) (by rfl) (z_fieldAddr fo_28_4) ?_
  refine yL rfl rfl (ev_tmp rfl) (by rfl) (z_load sz_4) ?_
  refine aL z_and ?_
  refine aL z_move ?_
  refine yL rfl rfl (ev_tmp rfl) (by rfl) (z_move) ?_
  refine yL rfl rfl (ev_tmp rfl) (by rfl) (z_eql) ?_
  refine aL z_and ?_
  refine aL z_move ?_
  refine yL rfl rfl (ev_tmp rfl) (by rfl) (z_move) ?_
  refine yL rfl rfl (ev_tmp rfl) (by rfl) (z_eql) ?_
  refine aL z_and ?_
  refine aL z_move ?_
  refine yL rfl rfl (ev_tmp rfl) (by rfl) (z_move) ?_
  refine awl_weak (weak_rever 1 0 rfl) (awl_weak (weak_rever 2 0 rfl) ?_)
  refine yL rfl rfl (ev_tmp rfl) (by rfl) (z_callG [0, 1, 2] (eC .nil) en_12 hK (pA (pA (pA .nil)))) ?_
  refine aL z_and ?_
  refine aL z_assign ?_
  refine awl_nil (hK4 _ _ ?_)
  clear hK4 K4
  refine aw_ret ?_
  refine (hret _ _ _ _ _ rfl (.tmp rfl .nil) rfl ?_ .nil rfl).1
  rfl
end Go.Proofs.YthflfnehdlpmdaaDoor

/- Chapter 15 in plain Lean: lines that are written. No program, no condition. -/
namespace Go.Proofs.YthflfnehdlpmdaaDoor
set_option linter.all false
open Go Go.RowKit
/-- No byte of a line's end. -/
def noLn (t : List UInt8) : Bool := t.all fun c => decide (¬ c = 13 ∧ ¬ c = 10)
theorem noLn_app (a b : List UInt8) : noLn (a ++ b) = (noLn a && noLn b) := by simp [noLn]
theorem rd_plain : ∀ (t l r : List UInt8), noLn t = true → half l = false → l.length + t.length ≤ 4096 → rdM l (t ++ 13 :: 10 :: r) = .line (l ++ t) r
  | [], l, r, _, h2, h3 => by
    rw [List.nil_append, List.append_nil, rdM, if_neg (by rw [h2]; simp), if_neg (by rw [h2]; simp), if_neg (by simp)]
    rw [rdM, if_pos ⟨half_snoc l, rfl⟩]
    simp
  | c :: t, l, r, h1, h2, h3 => by
    have hc : ¬ c = 13 ∧ ¬ c = 10 := by simp [noLn] at h1; exact h1.1
    have ht : noLn t = true := by simp [noLn] at h1 ⊢; exact h1.2
    simp only [List.length_cons] at h3
    rw [List.cons_append, rdM, if_neg (by rw [h2]; simp), if_neg (by rw [h2]; simp [hc.2]), if_neg (fun e => by have := e.2; omega)]
    rw [rd_plain t (l ++ [c]) r ht (half_snoc' l c hc.1) (by simp; omega)]
    simp
/-- A line that is written is read. -/
theorem run_line {s : Ps} {h : Hs} {t r : List UInt8} (he : s.ended = false) (hl : s.k.lined = true) (hn : s.ln = []) (ht : noLn t = true) (h3 : t.length ≤ 4096) : runB s h (t ++ 13 :: 10 :: r) = match onLine s h t with
    | .error e => .error e
    | .ok (s', h') => runB s' h' r := by
  rw [rd_run h _ s he hl, hn, rd_plain t [] r ht rfl (by simpa using h3)]
  rfl
theorem value_noLn {l : List UInt8} (h : valueM l = true) : noLn l = true := by
  unfold valueM at h
  rw [Bool.and_eq_true] at h
  have h2 := h.2
  rw [List.all_eq_true] at h2
  unfold noLn
  rw [List.all_eq_true]
  intro c hc
  have := h2 c hc
  have hb : badV c.toNat = false := by simpa using this
  unfold badV at hb
  simp only [decide_eq_false_iff_not] at hb
  refine decide_eq_true ⟨fun e => ?_, fun e => ?_⟩
  · subst e; exact hb (by decide)
  · subst e; exact hb (by decide)
theorem trim_sp (l : List UInt8) : trimM (32 :: l) = trimM l := by
  rw [trimM_eq', trimM_eq']
  rfl
theorem rdw_id {p : UInt8 → Bool} {l : List UInt8} (h : (rdw p l).length = l.length) : rdw p l = l := by
  unfold rdw at *
  have hs : (l.reverse.dropWhile p).Sublist l.reverse := List.dropWhile_sublist p
  have := hs.eq_of_length (by simpa using h)
  rw [this]; simp
theorem trim_value {l : List UInt8} (h : valueM l = true) : trimM l = l := by
  unfold valueM at h
  rw [Bool.and_eq_true] at h
  have h1 := of_decide_eq_true h.1
  rw [trimM_eq'] at h1 ⊢
  have hs : (l.dropWhile isBl).Sublist l := List.dropWhile_sublist isBl
  have h2 := hs.length_le
  have h3 : (rdw isBl (l.dropWhile isBl)).length ≤ (l.dropWhile isBl).length := by
    unfold rdw
    have h := (List.dropWhile_sublist isBl (l := (l.dropWhile isBl).reverse)).length_le
    rw [List.length_reverse] at h ⊢
    exact h
  have h4 : l.dropWhile isBl = l := hs.eq_of_length (by omega)
  rw [h4] at h1 ⊢
  exact rdw_id h1
/-- A field that is written is read. -/
theorem field_line {n v : List UInt8} (hn : tokenM n = true) (hc : (58 : UInt8) ∉ n) (hv : valueM v = true) : fieldR (n ++ 58 :: 32 :: v) = some ⟨lowM n, v, false⟩ := by
  unfold fieldR
  rw [cutM_app (32 :: v) hc]
  simp [trim_sp, trim_value hv, hn, hv]
theorem field_lineP {many : Int} {n v : List UInt8} (hn : tokenM n = true) (hc : (58 : UInt8) ∉ n) (hv : valueM v = true) (hm : many < 100) : fieldP many (n ++ 58 :: 32 :: v) = .ok (some ⟨lowM n, v, false⟩, many + 1) := by
  unfold fieldP
  rw [if_neg (by simp), field_line hn hc hv]
  simp only
  rw [if_neg (by omega)]
/-- A field's line among a head's. -/
theorem run_field {s : Ps} {h : Hs} {n v r : List UInt8} (he : s.ended = false) (hk : s.k = .heads) (hl : s.ln = []) (hn : tokenM n = true) (hc : (58 : UInt8) ∉ n) (hnl : noLn n = true) (hv : valueM v = true) (hm : s.many < 100) (hz : n.length + v.length ≤ 4000) :
    runB s h (n ++ 58 :: 32 :: v ++ 13 :: 10 :: r) = runB { s with ln := [], many := s.many + 1, fs := s.fs ++ [⟨lowM n, v, false⟩] } h r := by
  rw [run_line he (by rw [hk]; rfl) hl (by rw [noLn_app, hnl, show noLn (58 :: 32 :: v) = true by have := value_noLn hv; simp [noLn] at this ⊢; exact this]; rfl) (by simp; omega)]
  rw [show onLine s h (n ++ 58 :: 32 :: v) = onHeads s h (n ++ 58 :: 32 :: v) by unfold onLine; rw [hk]]
  unfold onHeads
  rw [field_lineP hn hc hv hm]
/-- The end of a head. -/
theorem run_empty {s : Ps} {h : Hs} {r : List UInt8} (he : s.ended = false) (hk : s.k = .heads) (hl : s.ln = []) : runB s h (13 :: 10 :: r) = match bodyM s h with
    | .error e => .error e
    | .ok (s', h') => runB s' h' r := by
  have := run_line (h := h) (t := []) (r := r) he (by rw [hk]; rfl) hl rfl (by simp)
  rw [List.nil_append] at this
  rw [this]
  rw [show onLine s h [] = onHeads s h [] by unfold onLine; rw [hk]]
  unfold onHeads
  rw [fieldP_nil]
  simp only
  rw [show s.line [] = s by obtain ⟨hd, k, ln, st, old, fs, many, need, ended, toEnd⟩ := s; simp only at hl; subst hl; rfl]
end Go.Proofs.YthflfnehdlpmdaaDoor

/- Chapter 15: two ends, or one that isn't sure, are never heard. No condition but on lengths. -/
namespace Go.Proofs.YthflfnehdlpmdaaDoor
set_option linter.all false
open Go Go.RowKit
set_option maxRecDepth 100000
set_option maxHeartbeats 4000000
abbrev clN : List UInt8 := [67, 111, 110, 116, 101, 110, 116, 45, 76, 101, 110, 103, 116, 104]
abbrev teN : List UInt8 := [84, 114, 97, 110, 115, 102, 101, 114, 45, 69, 110, 99, 111, 100, 105, 110, 103]
abbrev clL : List UInt8 := [99, 111, 110, 116, 101, 110, 116, 45, 108, 101, 110, 103, 116, 104]
end Go.Proofs.YthflfnehdlpmdaaDoor
