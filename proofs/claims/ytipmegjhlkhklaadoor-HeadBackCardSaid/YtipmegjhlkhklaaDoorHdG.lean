/- Layer 10: gather, with its closures. No condition. -/
import Derived.Test.YtipmegjhlkhklaaDoorHdP
namespace Go.Proofs.YtipmegjhlkhklaaDoor
set_option linter.all false
open Go Go.RowKit
set_option maxRecDepth 10000
set_option maxHeartbeats 4000000
def saidM (l : List Fd) : Wd := (l.filter (fun f => pseudoM f.n)).map fun f => (f.n, f.v)
def restM (l : List Fd) : List Fd := l.filter fun f => !pseudoM f.n
theorem saidM_app (a b : List Fd) : saidM (a ++ b) = saidM a ++ saidM b := by simp [saidM]
theorem restM_app (a b : List Fd) : restM (a ++ b) = restM a ++ restM b := by simp [restM]
theorem said_yes {p : List Fd} {f : Fd} (h : pseudoM f.n = true) : saidM (p ++ [f]) = saidM p ++ [(f.n, f.v)] ∧ restM (p ++ [f]) = restM p := by
  simp [saidM_app, restM_app, saidM, restM, h]
theorem said_no {p : List Fd} {f : Fd} (h : pseudoM f.n = false) : saidM (p ++ [f]) = saidM p ∧ restM (p ++ [f]) = restM p ++ [f] := by
  simp [saidM_app, restM_app, saidM, restM, h]
theorem restM_le (p : List Fd) : (restM p).length ≤ p.length := List.length_filter_le _ _
def knownM (names : List (List UInt8)) (p : List Fd) (k : List UInt8) : Bool := names.contains k && (lk k (saidM p)).isNone
theorem known_all {p : List Fd} {k : List UInt8} : (p.all (fun g => pseudoM g.n && !(decide (g.n = k))) = true) ↔ (restM p).length = 0 ∧ (pseudoM k = true → (lk k (saidM p)).isNone = true) ∧ (pseudoM k = false → True) ∧ (∀ g ∈ p, pseudoM g.n = true → ¬ g.n = k) := by
  rw [List.all_eq_true]
  constructor
  · intro h
    have h1 : ∀ g ∈ p, pseudoM g.n = true ∧ ¬ g.n = k := fun g hg => by have := h g hg; simpa using this
    refine ⟨?_, fun _ => ?_, fun _ => trivial, fun g hg _ => (h1 g hg).2⟩
    · rw [List.length_eq_zero_iff]; unfold restM; rw [List.filter_eq_nil_iff]; intro g hg; simp [(h1 g hg).1]
    · rw [Option.isNone_iff_eq_none, lk_none]
      intro q hq
      unfold saidM at hq
      obtain ⟨g, hg, rfl⟩ := List.mem_map.1 hq
      exact (h1 g (List.mem_filter.1 hg).1).2
  · rintro ⟨h1, -, -, h2⟩ g hg
    rw [List.length_eq_zero_iff] at h1
    have h3 : pseudoM g.n = true := by
      by_cases hp : pseudoM g.n = true
      · exact hp
      · have : g ∈ restM p := by unfold restM; rw [List.mem_filter]; exact ⟨hg, by simp [hp]⟩
        rw [h1] at this; cases this
    simp [h3, h2 g hg h3]
theorem okF_pseudo {names : List (List UInt8)} {p : List Fd} {f : Fd} (h : pseudoM f.n = true) : okF names p f = if (restM p).length = 0 ∧ knownM names p f.n = true then 0 else 100 := by
  unfold okF knownM
  rw [if_pos h]
  congr 1
  rw [known_all, Bool.and_eq_true, eq_iff_iff]
  constructor
  · rintro ⟨h1, h2, h3, -, -⟩; exact ⟨h2, h1, h3 h⟩
  · rintro ⟨h1, h2, h3⟩
    refine ⟨h2, h1, fun _ => h3, fun _ => trivial, fun g hg hp he => ?_⟩
    rw [Option.isNone_iff_eq_none, lk_none] at h3
    exact h3 (g.n, g.v) (by unfold saidM; exact List.mem_map.2 ⟨g, List.mem_filter.2 ⟨hg, hp⟩, rfl⟩) he
theorem okF_plain {names : List (List UInt8)} {p : List Fd} {f : Fd} (h : pseudoM f.n = false) : okF names p f = if plainM f = true then 0 else 101 := by
  unfold okF; rw [if_neg (by simp [h])]
theorem contains_snoc {names : List (List UInt8)} {k : List UInt8} {q : Nat} (h : q < names.length) : (names.take (q + 1)).contains k = ((names.take q).contains k || decide (names[q] = k)) := by
  rw [List.take_add_one, List.getElem?_eq_getElem h, Bool.eq_iff_iff, Bool.or_eq_true, List.contains_iff_mem, List.contains_iff_mem, List.mem_append, decide_eq_true_iff]
  show k ∈ List.take q names ∨ k ∈ [names[q]] ↔ _
  rw [List.mem_singleton]
  exact ⟨fun h => h.imp id Eq.symm, fun h => h.imp id Eq.symm⟩
theorem con_known {names : List (List UInt8)} {m : Wd} {k : List UInt8} (hn : names.length ≤ 1000) : Con Tryd.prog 41 [.v (.str k), .ptr 0 0, .ptr 1 0] [(0, .box [.v (.sl (stV names))]), (1, .box [.mref 2]), (2, .mp true (wdV m))] 3
    (.ret (.v (.bool (names.contains k && (lk k m).isNone)))) [(0, .box [.v (.sl (stV names))]), (1, .box [.mref 2]), (2, .mp true (wdV m))] := by
  refine con_of Tryd.func41 rfl (by show _ ≤ 27; simp) fun X Q hP hnt hnp hret hpan => ?_
  obtain ⟨P0, nt0, w0, K0, S0, np0, pin0⟩ := X
  simp only at hP hnt hnp
  subst hP hnp
  obtain rfl : nt0 = 27 := hnt
  refine aw_region fun K1 hK1 => ?_
  refine aL z_assign ?_
  refine awl_nil (hK1 _ _ ?_)
  clear hK1 K1
  refine aw_seq fun K2 hK2 => ?_
  refine aw_region fun K3 hK3 => ?_
  refine aL (z_load sz_38) ?_
  refine aL (z_len Tryd.underlying38) ?_
  refine aL z_move ?_
  refine awl_nil (hK3 _ _ ?_)
  clear hK3 K3
  refine aw_block ?_
  refine aw_loop (α := {x : Nat // x ≤ names.length ∧ (names.take x).contains k = false}) (fun x => ([(0, .v (.str k)), (1, .ptr 0 0), (2, .ptr 1 0), (9, .v (.sl (stV names))), (10, .v (.int .i64 (names.length : Int))), (11, .v (.int .i64 (x.1 : Int)))], [(0, .box [.v (.sl (stV names))]), (1, .box [.mref 2]), (2, .mp true (wdV m))])) (fun x => names.length - x.1) ⟨0, by simp⟩ ?_ ?_
  · dsimp only
    exact wK
  · rintro ⟨q, hq, ha⟩ K4 hK4
    dsimp only
    refine aw_region fun K5 hK5 => ?_
    refine aL z_lss ?_
    refine awl_nil (hK5 _ _ ?_)
    clear hK5 K5
    refine aw_seq fun K6 hK6 => ?_
    refine aC (fun r1 c1 => ?_) (fun r1 c1 => ?_)
    · refine aw_skip ?_
      refine hK6 _ _ ?_
      clear hK6
      refine aw_seq fun K7 hK7 => ?_
      refine aw_block ?_
      refine aw_region fun K8 hK8 => ?_
      have hlt : q < names.length := by omega
      have hi := stV_get hlt
      refine aL (z_indexAddr Tryd.underlying38 sz_9) ?_
      refine aL (z_loadRef sz_9) ?_
      refine aL z_assign ?_
      refine awl_nil (hK8 _ _ ?_)
      clear hK8 K8
      refine aw_region fun K9 hK9 => ?_
      refine aL z_move ?_
      refine aL z_move ?_
      refine aL z_eqlS ?_
      refine awl_nil (hK9 _ _ ?_)
      clear hK9 K9
      refine aC (fun r2 c2 => ?_) (fun r2 c2 => ?_)
      · refine aw_region fun K10 hK10 => ?_
        refine aL (z_load sz_47) ?_
        refine aL z_move ?_
        refine aL (z_lookup Tryd.underlying47 Tryd.underlying9 zv_51 (.agg zl_51) (zs := [.str []]) (hd := look_wdT _ _)) ?_
        refine aL z_move ?_
        refine aL z_extract ?_
        refine aL z_extract ?_
        refine aL (z_alloc 3 zc_51 zl_51) ?_
        refine aL (z_store sz_51) ?_
        refine aL z_assign ?_
        refine awl_nil (hK10 _ _ ?_)
        clear hK10 K10
        refine aw_region fun K11 hK11 => ?_
        refine aL z_move ?_
        refine aL z_not ?_
        refine aL z_assign ?_
        refine awl_nil (hK11 _ _ ?_)
        clear hK11 K11
        refine aw_ret ?_
        refine (hret _ _ _ _ _ rfl (.tmp rfl .nil) rfl ?_ (.box rfl rfl (.box rfl rfl (.mp rfl .nil))) rfl).1
        (have : names.contains k = true := (by have e : names[q] = k := (by assumption); rw [List.contains_iff_mem, ← e]; exact List.getElem_mem hlt); rw [this]; cases lk k m <;> rfl)
      · refine aw_skip ?_
        refine hK7 _ _ ?_
        clear hK7
        refine aw_region_last ?_
        refine aL z_add ?_
        refine aL z_move ?_
        refine awl_nil ?_
        refine hK4 _ _ ⟨q + 1, by omega, by rw [contains_snoc hlt, ha, Bool.false_or]; exact decide_eq_false (by assumption)⟩ (by dsimp only; omega) ?_
        dsimp only
        exact wK
    · refine aw_exit ?_
      refine hK2 _ _ ?_
      clear hK2
      refine aw_region fun K12 hK12 => ?_
      refine aL z_assign ?_
      refine awl_nil (hK12 _ _ ?_)
      clear hK12 K12
      refine aw_ret ?_
      refine (hret _ _ _ _ _ rfl (.tmp rfl .nil) rfl ?_ (.box rfl rfl (.box rfl rfl (.mp rfl .nil))) rfl).1
      (obtain rfl : q = names.length := (by omega); rw [List.take_length] at ha; rw [ha]; rfl)
abbrev aPre (v : Nat) (names : List (List UInt8)) (p : List Fd) : AH := [(0, .box [.view 5 v 0 (restM p).length]), (1, .box [.fn (.func 41) [] [.ptr 3 0, .ptr 2 0]]), (2, .box [.mref 4]), (3, .box [.v (.sl (stV names))]), (4, .mp true (wdV (saidM p))), (5, .row v 3 34 (fdV (restM p)))]
theorem con_ask {names : List (List UInt8)} {p : List Fd} {f : Fd} (hn : names.length ≤ 1000) (hs : f.n.length + f.v.length ≤ 1099511627776) (hp : p.length ≤ 1099511627776) : Con Tryd.prog 42 [.agg f.cs, .ptr 0 0, .ptr 1 0, .ptr 2 0] (aPre 0 names p) 6
    (.ret (.v (.int .i64 (okF names p f)))) (aPre 1 names (if okF names p f = 0 then p ++ [f] else p)) := by
  have hrl := restM_le p
  have hA := okF_pseudo (names := names) (p := p) (f := f)
  have hB := okF_plain (names := names) (p := p) (f := f)
  generalize he : okF names p f = e at hA hB ⊢
  generalize hp' : (if e = 0 then p ++ [f] else p) = p'
  have h0 : e = 0 → p ++ [f] = p' := fun h => by rw [← hp', if_pos h]
  have h1 : ¬ e = 0 → p = p' := fun h => by rw [← hp', if_neg h]
  refine con_of Tryd.func42 rfl (by show _ ≤ 31; simp) fun X Q hP hnt hnp hret hpan => ?_
  obtain ⟨P0, nt0, w0, K0, S0, np0, pin0⟩ := X
  simp only at hP hnt hnp
  subst hP hnp
  obtain rfl : nt0 = 31 := hnt
  refine aw_region fun K1 hK1 => ?_
  refine aL (z_box 6) ?_
  refine aL z_assign ?_
  refine awl_nil (hK1 _ _ ?_)
  clear hK1 K1
  refine aw_seq fun K2 hK2 => ?_
  refine aw_region fun K3 hK3 => ?_
  refine aL (z_load sz_34) ?_
  refine aL (z_call0 (eC .nil) en_43 (con_pseudo)) ?_
  refine awl_nil (hK3 _ _ ?_)
  clear hK3 K3
  refine aC (fun r1 c1 => ?_) (fun r1 c1 => ?_)
  · refine aw_seq fun K4 hK4 => ?_
    refine aw_region fun K5 hK5 => ?_
    refine aL (z_load sz_22) ?_
    refine aL (z_lenV Tryd.underlying22) ?_
    refine aL z_gtr ?_
    refine aL z_move ?_
    refine gL rfl rfl (ev_tmp rfl) (fun hg => z_load sz_52) ?_
    refine gL rfl rfl (ev_tmp rfl) (fun hg => z_fieldAddr fo_34_0) ?_
    refine gL rfl rfl (ev_tmp rfl) (fun hg => z_load sz_9) ?_
    refine gL rfl rfl (ev_tmp rfl) (fun hg => z_callR [3, 2, 4] (eC .nil) en_41 (con_known (m := saidM p) (names := names) (k := f.n) hn) (pA (pA (pA .nil)))) ?_
    refine gL rfl rfl (ev_tmp rfl) (fun hg => z_not) ?_
    refine aL z_or ?_
    refine awl_nil (hK5 _ _ ?_)
    clear hK5 K5
    refine aC (fun r2 c2 => ?_) (fun r2 c2 => ?_)
    · refine aw_region fun K6 hK6 => ?_
      refine aL z_assign ?_
      refine awl_nil (hK6 _ _ ?_)
      clear hK6 K6
      (obtain rfl : e = 100 := (by rw [hA (by assumption), if_neg (fun hh => by rcases c2 with h | h; (have := hh.1; omega); (have h3 := hh.2; unfold knownM at h3; rw [Bool.and_eq_true] at h3; rcases h with h | h; (rw [h] at h3; cases h3.1); (rw [h] at h3; cases h3.2)))]); obtain rfl := h1 (by decide); refine aw_weak (fr' := [(5, .v (.int .i64 100))]) (ah' := aPre 1 names p) (Weak.trans (weak_rever 5 1 rfl) wK) ?_)
      refine aw_ret ?_
      refine (hret _ _ _ _ _ rfl (.tmp rfl .nil) rfl ?_ (.box rfl rfl (.box rfl rfl (.box rfl rfl (.box rfl rfl (.mp rfl (.row rfl .nil)))))) rfl).1
      rfl
    · refine aw_skip ?_
      refine hK4 _ _ ?_
      clear hK4
      refine aw_region fun K7 hK7 => ?_
      refine aL (z_load sz_47) ?_
      refine aL (z_fieldAddr fo_34_0) ?_
      refine aL (z_load sz_9) ?_
      refine aL (z_fieldAddr fo_34_1) ?_
      refine aL (z_load sz_9) ?_
      refine aL (z_build (pC .nil) pl_51 zc_51 zl_51) ?_
      obtain ⟨hr0, hkn⟩ : (restM p).length = 0 ∧ knownM names p f.n = true := by unfold knownM; simp at c2; simp; omega
      have hlk : lk f.n (saidM p) = none := by unfold knownM at hkn; simp at hkn; exact hkn.2
      refine aL (z_mapUpdate Tryd.underlying47 Tryd.underlying9 (agg := true) (vs := [.str f.v]) (hl := put_wd hlk)) ?_
      refine awl_nil (hK7 _ _ ?_)
      clear hK7 K7
      refine aw_region fun K8 hK8 => ?_
      refine aL z_assign ?_
      refine awl_nil (hK8 _ _ ?_)
      clear hK8 K8
      (obtain rfl : e = 0 := (by rw [hA (by assumption), if_pos ⟨hr0, hkn⟩]); obtain rfl := h0 rfl; refine aw_weak (fr' := [(5, .v (.int .i64 0))]) (ah' := aPre 1 names (p ++ [f])) (by simp only [aPre, (said_yes (p := p) (f := f) (by assumption)).1, (said_yes (p := p) (f := f) (by assumption)).2]; exact Weak.trans (weak_rever 5 1 rfl) wK) ?_)
      refine aw_ret ?_
      refine (hret _ _ _ _ _ rfl (.tmp rfl .nil) rfl ?_ (.box rfl rfl (.box rfl rfl (.box rfl rfl (.box rfl rfl (.mp rfl (.row rfl .nil)))))) rfl).1
      rfl
  · refine aw_skip ?_
    refine hK2 _ _ ?_
    clear hK2
    refine aw_seq fun K9 hK9 => ?_
    refine aw_region fun K10 hK10 => ?_
    refine aL (z_load sz_34) ?_
    refine aL (z_call0 (eC .nil) en_44 (con_plain hs)) ?_
    refine aL z_not ?_
    refine awl_nil (hK10 _ _ ?_)
    clear hK10 K10
    refine aC (fun r3 c3 => ?_) (fun r3 c3 => ?_)
    · refine aw_region fun K11 hK11 => ?_
      refine aL z_assign ?_
      refine awl_nil (hK11 _ _ ?_)
      clear hK11 K11
      (obtain rfl : e = 101 := (by rw [hB (by assumption), if_neg (by simp [*])]); obtain rfl := h1 (by decide); refine aw_weak (fr' := [(5, .v (.int .i64 101))]) (ah' := aPre 1 names p) (Weak.trans (weak_rever 5 1 rfl) wK) ?_)
      refine aw_ret ?_
      refine (hret _ _ _ _ _ rfl (.tmp rfl .nil) rfl ?_ (.box rfl rfl (.box rfl rfl (.box rfl rfl (.box rfl rfl (.mp rfl (.row rfl .nil)))))) rfl).1
      rfl
    · refine aw_skip ?_
      refine hK9 _ _ ?_
      clear hK9
      refine aw_region fun K12 hK12 => ?_
      refine aL (z_load sz_22) ?_
      refine aL (z_load sz_34) ?_
      refine aL (z_lits (pC .nil) Tryd.underlying22 sz_34 zc_34 zl_34 (c := [[_, _, _]])) ?_
      refine aL (z_app Tryd.underlying22 zi_34) ?_
      refine aL (z_store sz_22) ?_
      refine awl_nil (hK12 _ _ ?_)
      clear hK12 K12
      refine aw_region fun K13 hK13 => ?_
      refine aL z_assign ?_
      refine awl_nil (hK13 _ _ ?_)
      clear hK13 K13
      (obtain rfl : e = 0 := (by rw [hB (by assumption), if_pos (by simp [*])]); obtain rfl := h0 rfl; refine aw_weak (fr' := [(5, .v (.int .i64 0))]) (ah' := aPre 1 names (p ++ [f])) (by simp only [aPre, (said_no (p := p) (f := f) (by assumption)).1, (said_no (p := p) (f := f) (by assumption)).2]; exact (weak_all none trivial (.box rfl (.eq (by rw [List.length_append]; rfl) (.same rfl)) (.box rfl (.same rfl) (.box rfl (.same rfl) (.box rfl (.same rfl) (.mp rfl rfl (.row rfl (fdV_snoc rfl) .nil)))))) (.cons rfl (.keep rfl) .nil))) ?_)
      refine aw_ret ?_
      refine (hret _ _ _ _ _ rfl (.tmp rfl .nil) rfl ?_ (.box rfl rfl (.box rfl rfl (.box rfl rfl (.box rfl rfl (.mp rfl (.row rfl .nil)))))) rfl).1
      rfl
theorem cutF {c : List (List V)} {n : Nat} (h : n = c.length) : cut 0 (0 + n) c = c := by subst h; exact cut_all c
theorem con_gather0 {names : List (List UInt8)} {l : List Fd} (hn : names.length ≤ 1000) (hs : szM l ≤ 1099511627776) (h0 : askM names [] l = 0) : Con Tryd.prog 25 [.v (.sl (fdV l)), .v (.sl (stV names))] [] 0
    (.ret (.tup [.mref 0, .v (.sl (fdV (restM l))), .v (.int .i64 0)])) [(0, .mp true (wdV (saidM l)))] := by
  have hll := szM_len l
  refine con_of Tryd.func25 rfl (by show _ ≤ 32; simp) fun X Q hP hnt hnp hret hpan => ?_
  obtain ⟨P0, nt0, w0, K0, S0, np0, pin0⟩ := X
  simp only at hP hnt hnp
  subst hP hnp
  obtain rfl : nt0 = 32 := hnt
  refine aw_region fun K1 hK1 => ?_
  refine aL (z_box 1) ?_
  refine aL z_assign ?_
  refine aL z_assign ?_
  refine aL z_assign ?_
  refine awl_nil (hK1 _ _ ?_)
  clear hK1 K1
  refine aw_region fun K2 hK2 => ?_
  refine aL (z_makeMap 0 true) ?_
  refine aL (z_alloc 2 zc_47 zl_47) ?_
  refine aL (z_store sz_47) ?_
  refine awl_nil (hK2 _ _ ?_)
  clear hK2 K2
  refine aw_region fun K3 hK3 => ?_
  refine aL (z_alloc 3 zc_22 zl_22) ?_
  refine awl_nil (hK3 _ _ ?_)
  clear hK3 K3
  refine aw_region fun K4 hK4 => ?_
  refine aL (z_makeFn .nil (eC (eC .nil))) ?_
  refine aL (z_alloc 4 zc_52 zl_52) ?_
  refine aL (z_store sz_52) ?_
  refine awl_nil (hK4 _ _ ?_)
  clear hK4 K4
  refine aw_region fun K5 hK5 => ?_
  refine aL (z_makeFn .nil (eC (eC (eC .nil)))) ?_
  refine aL z_assign ?_
  refine awl_nil (hK5 _ _ ?_)
  clear hK5 K5
  refine aw_seq fun K6 hK6 => ?_
  refine aw_region fun K7 hK7 => ?_
  refine aL z_move ?_
  refine aL (z_len Tryd.underlying22) ?_
  refine aL z_move ?_
  refine awl_nil (hK7 _ _ ?_)
  clear hK7 K7
  refine aw_block ?_
  refine aw_loop (α := {x : Nat // x ≤ l.length ∧ askM names (l.take x) (l.drop x) = askM names [] l}) (fun x => ([(17, .v (.sl (fdV l))), (18, .v (.int .i64 (l.length : Int))), (19, .v (.int .i64 (x.1 : Int))), (10, .fn (.func 42) [] [.ptr 3 0, .ptr 4 0, .ptr 2 0]), (7, .ptr 2 0), (8, .ptr 3 0)], [(3, .box [.view 5 0 0 (restM (l.take x.1)).length]), (4, .box [.fn (.func 41) [] [.ptr 1 0, .ptr 2 0]]), (2, .box [.mref 0]), (1, .box [.v (.sl (stV names))]), (0, .mp true (wdV (saidM (l.take x.1)))), (5, .row 0 3 34 (fdV (restM (l.take x.1))))])) (fun x => l.length - x.1) ⟨0, by omega, rfl⟩ ?_ ?_
  · dsimp only
    refine Weak.trans (weak_nilB 3 0 5 3 34 rfl rfl rfl (by decide) (Nat.le_of_ble_eq_true rfl) rfl) ?_
    exact wK
  · rintro ⟨q, hq, ha⟩ K8 hK8
    dsimp only
    refine aw_region fun K9 hK9 => ?_
    refine aL z_lss ?_
    refine awl_nil (hK9 _ _ ?_)
    clear hK9 K9
    refine aw_seq fun K10 hK10 => ?_
    refine aC (fun r1 c1 => ?_) (fun r1 c1 => ?_)
    · refine aw_skip ?_
      refine hK10 _ _ ?_
      clear hK10
      refine aw_seq fun K11 hK11 => ?_
      refine aw_block ?_
      refine aw_region fun K12 hK12 => ?_
      have hlt : q < l.length := by omega
      have hi := fdV_get hlt
      have hsz := szM_at hlt
      refine aL (z_indexAddr Tryd.underlying22 sz_34) ?_
      refine aL (z_loadRef sz_34) ?_
      refine aL (z_alloc 6 zc_34 zl_34) ?_
      refine aL (z_store sz_34) ?_
      refine awl_nil (hK12 _ _ ?_)
      clear hK12 K12
      refine aw_region fun K13 hK13 => ?_
      refine aL z_move ?_
      refine aL (z_load sz_34) ?_
      refine aL (z_callC [3, 4, 2, 1, 0, 5] (eC .nil) en_42 (con_ask (names := names) (p := l.take q) (f := l[q]) hn (by omega) (by simp; omega)) (pA (pA (pA (pA (pA (pA .nil))))))) ?_
      refine aL z_assign ?_
      refine awl_nil (hK13 _ _ ?_)
      clear hK13 K13
      refine aw_region fun K14 hK14 => ?_
      refine aL z_move ?_
      refine aL z_neq ?_
      refine awl_nil (hK14 _ _ ?_)
      clear hK14 K14
      refine aC (fun r2 c2 => ?_) (fun r2 c2 => ?_)
      · exfalso
        rw [askM_at hlt, if_neg (by omega)] at ha
        omega
      · refine aw_skip ?_
        refine hK11 _ _ ?_
        clear hK11
        refine aw_region_last ?_
        refine aL z_add ?_
        refine aL z_move ?_
        refine awl_nil ?_
        have e0 : okF names (l.take q) l[q] = 0 := by omega
        refine hK8 _ _ ⟨q + 1, by omega, by rw [askM_at hlt, if_pos e0] at ha; exact ha⟩ (by dsimp only; omega) ?_
        dsimp only
        rw [if_pos e0, ← take_succ' hlt]
        exact Weak.trans (weak_rever 5 0 rfl) wK
    · refine aw_exit ?_
      refine hK6 _ _ ?_
      clear hK6
      refine aw_regionD mx_all (by kernel_rfl) fun K15 hK15 => ?_
      refine aD (z_load sz_47) ?_
      refine aD (z_load sz_22) ?_
      refine aD z_assign ?_
      refine aD z_assign ?_
      refine aD z_assign ?_
      refine awd_nil (by kernel_rfl) (hK15 _ _ ?_)
      clear hK15 K15
      first
        | (obtain rfl : q = l.length := (by omega); rw [List.take_length]; refine aw_weak (weak_all (fr' := [(4, .mref 0), (5, .v (.sl (fdV (restM l)))), (6, .v (.int .i64 0))]) (ah' := [(0, .mp true (wdV (saidM l)))]) (some (5, 0, fdV (restM l))) ⟨rfl, _, _, rfl⟩ (.mp rfl rfl .nil) (.cons rfl (.keep rfl) (.cons rfl (.view rfl (cutF (by simp))) (.cons rfl (.keep rfl) .nil)))) ?_)
      refine aw_ret ?_
      refine (hret _ _ _ _ _ rfl (.tmp rfl (.tmp rfl (.tmp rfl .nil))) rfl ?_ (.mp rfl .nil) rfl).1
      rfl
theorem con_gather1 {names : List (List UInt8)} {l : List Fd} (hn : names.length ≤ 1000) (hs : szM l ≤ 1099511627776) (h0 : ¬ askM names [] l = 0) : Con Tryd.prog 25 [.v (.sl (fdV l)), .v (.sl (stV names))] [] 0
    (.ret (.tup [.v (.lit (.map none)), .v (.lit (.slice none 0 0)), .v (.int .i64 (askM names [] l))])) [] := by
  have hll := szM_len l
  refine con_of Tryd.func25 rfl (by show _ ≤ 32; simp) fun X Q hP hnt hnp hret hpan => ?_
  obtain ⟨P0, nt0, w0, K0, S0, np0, pin0⟩ := X
  simp only at hP hnt hnp
  subst hP hnp
  obtain rfl : nt0 = 32 := hnt
  refine aw_region fun K1 hK1 => ?_
  refine aL (z_box 1) ?_
  refine aL z_assign ?_
  refine aL z_assign ?_
  refine aL z_assign ?_
  refine awl_nil (hK1 _ _ ?_)
  clear hK1 K1
  refine aw_region fun K2 hK2 => ?_
  refine aL (z_makeMap 0 true) ?_
  refine aL (z_alloc 2 zc_47 zl_47) ?_
  refine aL (z_store sz_47) ?_
  refine awl_nil (hK2 _ _ ?_)
  clear hK2 K2
  refine aw_region fun K3 hK3 => ?_
  refine aL (z_alloc 3 zc_22 zl_22) ?_
  refine awl_nil (hK3 _ _ ?_)
  clear hK3 K3
  refine aw_region fun K4 hK4 => ?_
  refine aL (z_makeFn .nil (eC (eC .nil))) ?_
  refine aL (z_alloc 4 zc_52 zl_52) ?_
  refine aL (z_store sz_52) ?_
  refine awl_nil (hK4 _ _ ?_)
  clear hK4 K4
  refine aw_region fun K5 hK5 => ?_
  refine aL (z_makeFn .nil (eC (eC (eC .nil)))) ?_
  refine aL z_assign ?_
  refine awl_nil (hK5 _ _ ?_)
  clear hK5 K5
  refine aw_seq fun K6 hK6 => ?_
  refine aw_region fun K7 hK7 => ?_
  refine aL z_move ?_
  refine aL (z_len Tryd.underlying22) ?_
  refine aL z_move ?_
  refine awl_nil (hK7 _ _ ?_)
  clear hK7 K7
  refine aw_block ?_
  refine aw_loop (α := {x : Nat // x ≤ l.length ∧ askM names (l.take x) (l.drop x) = askM names [] l}) (fun x => ([(17, .v (.sl (fdV l))), (18, .v (.int .i64 (l.length : Int))), (19, .v (.int .i64 (x.1 : Int))), (10, .fn (.func 42) [] [.ptr 3 0, .ptr 4 0, .ptr 2 0]), (7, .ptr 2 0), (8, .ptr 3 0)], [(3, .box [.view 5 0 0 (restM (l.take x.1)).length]), (4, .box [.fn (.func 41) [] [.ptr 1 0, .ptr 2 0]]), (2, .box [.mref 0]), (1, .box [.v (.sl (stV names))]), (0, .mp true (wdV (saidM (l.take x.1)))), (5, .row 0 3 34 (fdV (restM (l.take x.1))))])) (fun x => l.length - x.1) ⟨0, by omega, rfl⟩ ?_ ?_
  · dsimp only
    refine Weak.trans (weak_nilB 3 0 5 3 34 rfl rfl rfl (by decide) (Nat.le_of_ble_eq_true rfl) rfl) ?_
    exact wK
  · rintro ⟨q, hq, ha⟩ K8 hK8
    dsimp only
    refine aw_region fun K9 hK9 => ?_
    refine aL z_lss ?_
    refine awl_nil (hK9 _ _ ?_)
    clear hK9 K9
    refine aw_seq fun K10 hK10 => ?_
    refine aC (fun r1 c1 => ?_) (fun r1 c1 => ?_)
    · refine aw_skip ?_
      refine hK10 _ _ ?_
      clear hK10
      refine aw_seq fun K11 hK11 => ?_
      refine aw_block ?_
      refine aw_region fun K12 hK12 => ?_
      have hlt : q < l.length := by omega
      have hi := fdV_get hlt
      have hsz := szM_at hlt
      refine aL (z_indexAddr Tryd.underlying22 sz_34) ?_
      refine aL (z_loadRef sz_34) ?_
      refine aL (z_alloc 6 zc_34 zl_34) ?_
      refine aL (z_store sz_34) ?_
      refine awl_nil (hK12 _ _ ?_)
      clear hK12 K12
      refine aw_region fun K13 hK13 => ?_
      refine aL z_move ?_
      refine aL (z_load sz_34) ?_
      refine aL (z_callC [3, 4, 2, 1, 0, 5] (eC .nil) en_42 (con_ask (names := names) (p := l.take q) (f := l[q]) hn (by omega) (by simp; omega)) (pA (pA (pA (pA (pA (pA .nil))))))) ?_
      refine aL z_assign ?_
      refine awl_nil (hK13 _ _ ?_)
      clear hK13 K13
      refine aw_region fun K14 hK14 => ?_
      refine aL z_move ?_
      refine aL z_neq ?_
      refine awl_nil (hK14 _ _ ?_)
      clear hK14 K14
      refine aC (fun r2 c2 => ?_) (fun r2 c2 => ?_)
      · refine aw_region fun K15 hK15 => ?_
        refine aL z_move ?_
        refine aL z_assign ?_
        refine aL z_assign ?_
        refine aL z_assign ?_
        refine awl_nil (hK15 _ _ ?_)
        clear hK15 K15
        have e1 : askM names [] l = okF names (l.take q) l[q] := (by rw [← ha, askM_at hlt, if_neg (by assumption)])
        refine aw_ret ?_
        refine (hret _ _ _ _ _ rfl (.tmp rfl (.tmp rfl (.tmp rfl .nil))) rfl ?_ .nil rfl).1
        rw [e1]; rfl
      · refine aw_skip ?_
        refine hK11 _ _ ?_
        clear hK11
        refine aw_region_last ?_
        refine aL z_add ?_
        refine aL z_move ?_
        refine awl_nil ?_
        have e0 : okF names (l.take q) l[q] = 0 := by omega
        refine hK8 _ _ ⟨q + 1, by omega, by rw [askM_at hlt, if_pos e0] at ha; exact ha⟩ (by dsimp only; omega) ?_
        dsimp only
        rw [if_pos e0, ← take_succ' hlt]
        exact Weak.trans (weak_rever 5 0 rfl) wK
    · exfalso
      obtain rfl : q = l.length := (by omega)
      rw [askM_end] at ha
      omega
end Go.Proofs.YtipmegjhlkhklaaDoor
