/- Layer 10: gather, with its closures. No condition. -/
import Derived.Test.YtnjbfiejgiaibaaGreatDoorHdP
import Derived.Test.YtnjbfiejgiaibaaGreatDoorHdMToHdC
namespace Go.Proofs.YtnjbfiejgiaibaaGreatDoor
set_option linter.all false
open Go Go.RowKit
set_option maxRecDepth 10000
set_option maxHeartbeats 4000000
def saidM (l : List Fd) : Wd := (l.filter (fun f => pseudoM f.n)).map fun f => (f.n, f.v)
def restM (l : List Fd) : List Fd := l.filter fun f => !pseudoM f.n
def knownM (names : List (List UInt8)) (p : List Fd) (k : List UInt8) : Bool := names.contains k && (lk k (saidM p)).isNone
theorem known_all {p : List Fd} {k : List UInt8} : (p.all (fun g => pseudoM g.n && !(decide (g.n = k))) = true) ↔ (restM p).length = 0 ∧ (pseudoM k = true → (lk k (saidM p)).isNone = true) ∧ (pseudoM k = false → True) ∧ (∀ g ∈ p, pseudoM g.n = true → ¬ g.n = k) := by
  rw [List.all_eq_true]
  constructor
  · intro h
    have h1 : ∀ g ∈ p, pseudoM g.n = true ∧ ¬ g.n = k := fun g hg => by have := h g hg; simpa using this
    refine ⟨?_, fun _ => ?_, fun _ => trivial, fun g hg _ => (h1 g hg).2⟩
    · rw [List.length_eq_zero_iff]; unfold restM; rw [List.filter_eq_nil_iff]; intro g hg; simp [(h1 g hg).1]
    · rw [Option.isNone_iff_eq_none, lk_none]
      intro q hq
      unfold saidM at hq
      obtain ⟨g, hg, rfl⟩ := List.mem_map.1 hq
      exact (h1 g (List.mem_filter.1 hg).1).2
  · rintro ⟨h1, -, -, h2⟩ g hg
    rw [List.length_eq_zero_iff] at h1
    have h3 : pseudoM g.n = true := by
      by_cases hp : pseudoM g.n = true
      · exact hp
      · have : g ∈ restM p := by unfold restM; rw [List.mem_filter]; exact ⟨hg, by simp [hp]⟩
        rw [h1] at this; cases this
    simp [h3, h2 g hg h3]
theorem okF_pseudo {names : List (List UInt8)} {p : List Fd} {f : Fd} (h : pseudoM f.n = true) : okF names p f = if (restM p).length = 0 ∧ knownM names p f.n = true then 0 else 100 := by
  unfold okF knownM
  rw [if_pos h]
  congr 1
  rw [known_all, Bool.and_eq_true, eq_iff_iff]
  constructor
  · rintro ⟨h1, h2, h3, -, -⟩; exact ⟨h2, h1, h3 h⟩
  · rintro ⟨h1, h2, h3⟩
    refine ⟨h2, h1, fun _ => h3, fun _ => trivial, fun g hg hp he => ?_⟩
    rw [Option.isNone_iff_eq_none, lk_none] at h3
    exact h3 (g.n, g.v) (by unfold saidM; exact List.mem_map.2 ⟨g, List.mem_filter.2 ⟨hg, hp⟩, rfl⟩) he
theorem okF_plain {names : List (List UInt8)} {p : List Fd} {f : Fd} (h : pseudoM f.n = false) : okF names p f = if plainM f = true then 0 else 101 := by
  unfold okF; rw [if_neg (by simp [h])]
theorem contains_snoc {names : List (List UInt8)} {k : List UInt8} {q : Nat} (h : q < names.length) : (names.take (q + 1)).contains k = ((names.take q).contains k || decide (names[q] = k)) := by
  rw [List.take_add_one, List.getElem?_eq_getElem h, Bool.eq_iff_iff, Bool.or_eq_true, List.contains_iff_mem, List.contains_iff_mem, List.mem_append, decide_eq_true_iff]
  show k ∈ List.take q names ∨ k ∈ [names[q]] ↔ _
  rw [List.mem_singleton]
  exact ⟨fun h => h.imp id Eq.symm, fun h => h.imp id Eq.symm⟩
theorem cutF {c : List (List V)} {n : Nat} (h : n = c.length) : cut 0 (0 + n) c = c := by subst h; exact cut_all c
end Go.Proofs.YtnjbfiejgiaibaaGreatDoor

/- Layer 10: the length that a list of fields tells. No condition. -/
namespace Go.Proofs.YtnjbfiejgiaibaaGreatDoor
set_option linter.all false
open Go Go.RowKit
set_option maxRecDepth 10000
set_option maxHeartbeats 4000000
def kL : List UInt8 := [99, 111, 110, 116, 101, 110, 116, 45, 108, 101, 110, 103, 116, 104]
theorem valuesM_drop {l : List Fd} {q : Nat} (h : q < l.length) (k : List UInt8) : valuesM (l.drop q) k = if (l[q]).n = k then (l[q]).v :: valuesM (l.drop (q + 1)) k else valuesM (l.drop (q + 1)) k := by
  rw [List.drop_eq_getElem_cons h, show l[q] :: l.drop (q + 1) = [l[q]] ++ l.drop (q + 1) from rfl, valuesM_app, valuesM_one]; split <;> rfl
theorem numV_nn (l : List UInt8) : 0 ≤ numV 10 l := by unfold numV; split; exact Int.le_refl _; exact valM_nonneg 10 (by decide) l
theorem numV_le (l : List UInt8) : numV 10 l ≤ 1099511627776 := by
  unfold numV; split
  · decide
  · rename_i h; simp only [Bool.or_eq_true, decide_eq_true_eq, not_or, Int.not_lt] at h; exact h.2
theorem con_Length {l : List Fd} (hs : szM l ≤ 1099511627776) : Con Tryz.prog 57 [.v (.sl (fdV l))] [] 0 (.ret (.tup [.v (.int .i64 (lenM l).1), .v (.bool (lenM l).2.1), .v (.int .i64 (lenM l).2.2)])) [] := by
  have hll := szM_len l
  refine con_of Tryz.func57 rfl (by show _ ≤ 42; simp) fun X Q hP hnt hnp hret hpan => ?_
  obtain ⟨P0, nt0, w0, K0, S0, np0, pin0, df0⟩ := X
  simp only at hP hnt hnp
  subst hP hnp
  obtain rfl : nt0 = 42 := hnt
  refine aw_region fun K1 hK1 => ?_
  refine aL z_assign ?_
  refine aL z_assign ?_
  refine aL z_assign ?_
  refine awl_nil (hK1 _ _ ?_)
  clear hK1 K1
  refine aw_region fun K2 hK2 => ?_
  refine aL z_assign ?_
  refine awl_nil (hK2 _ _ ?_)
  clear hK2 K2
  refine aw_seq fun K3 hK3 => ?_
  refine aw_region fun K4 hK4 => ?_
  refine aL z_move ?_
  first
    | refine aL (z_lenB Tryz.underlying24) ?_
    | refine aL (z_len Tryz.underlying24) ?_
    | refine aL (z_lenV Tryz.underlying24) ?_
  refine aL z_move ?_
  refine awl_nil (hK4 _ _ ?_)
  clear hK4 K4
  refine aw_block ?_
  refine aw_loop (α := {x : Nat × Int // x.1 ≤ l.length ∧ -1 ≤ x.2 ∧ x.2 ≤ 1099511627776 ∧ lenGo (max x.2 0) (decide (0 ≤ x.2)) (valuesM (l.drop x.1) kL) = lenM l}) (fun x => ([(10, .v (.sl (fdV l))), (11, .v (.int .i64 (l.length : Int))), (12, .v (.int .i64 (x.1.1 : Int))), (5, .v (.int .i64 x.1.2))], [])) (fun x => l.length - x.1.1) ⟨(0, -1), by omega, by omega, by omega, rfl⟩ ?_ ?_
  · dsimp only
    exact wK
  · rintro ⟨⟨q, n⟩, hq, hn, hn2, ha⟩ K5 hK5
    dsimp only
    dsimp only at hq hn hn2 ha
    refine aw_region fun K6 hK6 => ?_
    refine aL z_lss ?_
    refine awl_nil (hK6 _ _ ?_)
    clear hK6 K6
    refine aw_seq fun K7 hK7 => ?_
    refine aC (fun r1 c1 => ?_) (fun r1 c1 => ?_)
    · refine aw_skip ?_
      refine hK7 _ _ ?_
      clear hK7
      refine aw_seq fun K8 hK8 => ?_
      refine aw_block ?_
      refine aw_region fun K9 hK9 => ?_
      have hlt : q < l.length := by omega
      have hi := fdV_get hlt
      first
        | refine aL (z_indexAddr Tryz.underlying24 sz_46) ?_
        | refine aL (z_indexAddrV Tryz.underlying24 sz_46) ?_
      first
        | refine aL (z_load sz_46) ?_
        | refine aL (z_loadRef sz_46) ?_
        | refine aL (z_loadV sz_46) ?_
      refine aL (z_alloc 0 zc_46 zl_46) ?_
      refine aL (z_store sz_46) ?_
      refine awl_nil (hK9 _ _ ?_)
      clear hK9 K9
      refine aw_seq fun K10 hK10 => ?_
      refine aw_region fun K11 hK11 => ?_
      first
        | refine aL (z_fieldAddr fo_46_0) ?_
        | refine aL (z_fieldRef fo_46_0) ?_
        | refine aL (z_fieldV fo_46_0) ?_
      first
        | refine aL (z_load sz_9) ?_
        | refine aL (z_loadRef sz_9) ?_
        | refine aL (z_loadV sz_9) ?_
      refine aL z_neqS ?_
      refine awl_nil (hK11 _ _ ?_)
      clear hK11 K11
      refine aC (fun r2 c2 => ?_) (fun r2 c2 => ?_)
      · refine aw_exit ?_
        refine hK8 _ _ ?_
        clear hK8
        refine aw_region_last ?_
        refine aL z_add ?_
        refine aL z_move ?_
        refine awl_nil ?_
        first
          | (refine hK5 _ _ ⟨(q + 1, n), by dsimp only; omega, hn, hn2, by rw [valuesM_drop hlt, if_neg (by assumption)] at ha; exact ha⟩ (by dsimp only; omega) ?_; dsimp only; exact wK)
          | (rw [valuesM_drop hlt, if_pos (by assumption), lenGo] at ha; refine hK5 _ _ ⟨(q + 1, numV 10 l[q].v), by dsimp only; omega, by have := numV_nn l[q].v; dsimp only; omega, numV_le _, ?_⟩ (by dsimp only; omega) ?_; (rw [if_neg (by simp only [decide_eq_true_eq]; omega)] at ha; dsimp only; rw [show max (numV 10 l[q].v) 0 = numV 10 l[q].v from by have := numV_nn l[q].v; omega, decide_eq_true (numV_nn _)]; exact ha); dsimp only; exact wK)
      · refine aw_skip ?_
        refine hK10 _ _ ?_
        clear hK10
        refine aw_region fun K12 hK12 => ?_
        first
          | refine aL (z_fieldAddr fo_46_1) ?_
          | refine aL (z_fieldRef fo_46_1) ?_
          | refine aL (z_fieldV fo_46_1) ?_
        first
          | refine aL (z_load sz_9) ?_
          | refine aL (z_loadRef sz_9) ?_
          | refine aL (z_loadV sz_9) ?_
        refine aL (z_call0 (eC .nil) en_83 (con_Decimal (by have := szM_at hlt; unfold maxLen; omega))) ?_
        refine aL z_move ?_
        refine aL z_extract ?_
        refine aL z_extract ?_
        refine aL z_assign ?_
        refine aL z_assign ?_
        refine awl_nil (hK12 _ _ ?_)
        clear hK12 K12
        refine aw_seq fun K13 hK13 => ?_
        refine aw_region fun K14 hK14 => ?_
        refine aL z_move ?_
        refine aL z_neq ?_
        refine aL z_move ?_
        first
          | refine gL rfl rfl (ev_tmp rfl) (fun hg => z_move) ?_
          | refine hL rfl rfl (ev_tmp rfl) (fun hg => z_move) ?_
        first
          | refine gL rfl rfl (ev_tmp rfl) (fun hg => z_geq) ?_
          | refine hL rfl rfl (ev_tmp rfl) (fun hg => z_geq) ?_
        first
          | refine gL rfl rfl (ev_tmp rfl) (fun hg => z_move) ?_
          | refine hL rfl rfl (ev_tmp rfl) (fun hg => z_move) ?_
        first
          | refine gL rfl rfl (ev_tmp rfl) (fun hg => z_move) ?_
          | refine hL rfl rfl (ev_tmp rfl) (fun hg => z_move) ?_
        first
          | refine gL rfl rfl (ev_tmp rfl) (fun hg => z_move) ?_
          | refine hL rfl rfl (ev_tmp rfl) (fun hg => z_move) ?_
        first
          | refine gL rfl rfl (ev_tmp rfl) (fun hg => z_neq) ?_
          | refine hL rfl rfl (ev_tmp rfl) (fun hg => z_neq) ?_
        first
          | refine gL rfl rfl (ev_tmp rfl) (fun hg => z_and) ?_
          | refine hL rfl rfl (ev_tmp rfl) (fun hg => z_and) ?_
        refine aL z_or ?_
        refine awl_nil (hK14 _ _ ?_)
        clear hK14 K14
        refine aC (fun r3 c3 => ?_) (fun r3 c3 => ?_)
        · refine aw_region fun K15 hK15 => ?_
          refine aL z_assign ?_
          refine aL z_assign ?_
          refine aL z_assign ?_
          refine awl_nil (hK15 _ _ ?_)
          clear hK15 K15
          refine aw_ret ?_
          refine (hret _ _ _ _ _ rfl (.tmp rfl (.tmp rfl (.tmp rfl .nil))) rfl ?_ .nil rfl).1
          first
            | (have hL : l[q].n = kL := (by assumption); rw [valuesM_drop hlt, if_pos hL, lenGo, if_pos (by simp only [decide_eq_true_eq]; omega)] at ha; rw [← ha]; rfl)
            | (have hx : q = l.length := (by omega); rw [hx, List.drop_length] at ha; have hb : lenM l = (max n 0, decide (0 ≤ n), 0) := ha.symm; rw [hb]; rfl)
        · refine aw_skip ?_
          refine hK13 _ _ ?_
          clear hK13
          refine aw_region_last ?_
          refine aL z_move ?_
          refine aL z_assign ?_
          refine awl_nil ?_
          refine hK8 _ _ ?_
          clear hK8
          refine aw_region_last ?_
          refine aL z_add ?_
          refine aL z_move ?_
          refine awl_nil ?_
          first
            | (refine hK5 _ _ ⟨(q + 1, n), by dsimp only; omega, hn, hn2, by rw [valuesM_drop hlt, if_neg (by assumption)] at ha; exact ha⟩ (by dsimp only; omega) ?_; dsimp only; exact wK)
            | (rw [valuesM_drop hlt, if_pos (by assumption), lenGo] at ha; refine hK5 _ _ ⟨(q + 1, numV 10 l[q].v), by dsimp only; omega, by have := numV_nn l[q].v; dsimp only; omega, numV_le _, ?_⟩ (by dsimp only; omega) ?_; (rw [if_neg (by simp only [decide_eq_true_eq]; omega)] at ha; dsimp only; rw [show max (numV 10 l[q].v) 0 = numV 10 l[q].v from by have := numV_nn l[q].v; omega, decide_eq_true (numV_nn _)]; exact ha); dsimp only; exact wK)
    · refine aw_exit ?_
      refine hK3 _ _ ?_
      clear hK3
      refine aw_region fun K16 hK16 => ?_
      refine aL z_move ?_
      refine aL z_max ?_
      refine aL z_move ?_
      refine aL z_geq ?_
      refine aL z_assign ?_
      refine aL z_assign ?_
      refine aL z_assign ?_
      refine awl_nil (hK16 _ _ ?_)
      clear hK16 K16
      refine aw_ret ?_
      refine (hret _ _ _ _ _ rfl (.tmp rfl (.tmp rfl (.tmp rfl .nil))) rfl ?_ .nil rfl).1
      first
        | (have hL : l[q].n = kL := (by assumption); rw [valuesM_drop hlt, if_pos hL, lenGo, if_pos (by simp only [decide_eq_true_eq]; omega)] at ha; rw [← ha]; rfl)
        | (have hx : q = l.length := (by omega); rw [hx, List.drop_length] at ha; have hb : lenM l = (max n 0, decide (0 ≤ n), 0) := ha.symm; rw [hb]; rfl)
end Go.Proofs.YtnjbfiejgiaibaaGreatDoor

/- Layer 10: hosts, place, the length. No condition. -/
namespace Go.Proofs.YtnjbfiejgiaibaaGreatDoor
set_option linter.all false
open Go Go.RowKit
set_option maxRecDepth 10000
set_option maxHeartbeats 4000000
def kH : List UInt8 := [104, 111, 115, 116]
theorem take_le' {α : Type} (l : List α) (q : Nat) : (l.take q).length ≤ q := by simp; omega
def kA : List UInt8 := [58, 97, 117, 116, 104, 111, 114, 105, 116, 121]
end Go.Proofs.YtnjbfiejgiaibaaGreatDoor

/- Layer 10: cookies. No condition. -/
namespace Go.Proofs.YtnjbfiejgiaibaaGreatDoor
set_option linter.all false
open Go Go.RowKit
set_option maxRecDepth 10000
set_option maxHeartbeats 4000000
def ncM (l : List Fd) : List Fd := l.filter fun f => !(decide (f.n = kC))
theorem ckGo_true (J : List UInt8) : ∀ l : List Fd, ckGo J true l = ncM l
  | [] => rfl
  | f :: l => by
    unfold ncM
    by_cases h : f.n = kC
    · simp only [ckGo, if_pos h, if_true]; rw [ckGo_true J l]; simp [ncM, h]
    · simp only [ckGo, if_neg h]; rw [ckGo_true J l]; simp [ncM, h]
theorem hasC_app (a b : List Fd) : hasC (a ++ b) = (hasC a || hasC b) := by simp [hasC]
theorem hasC_one (f : Fd) : hasC [f] = decide (f.n = kC) := by simp [hasC]
theorem vals_no : ∀ {p : List Fd}, hasC p = false → valuesM p kC = []
  | [], _ => rfl
  | f :: p, h => by
    rw [show f :: p = [f] ++ p from rfl, hasC_app, hasC_one, Bool.or_eq_false_iff] at h
    rw [show f :: p = [f] ++ p from rfl, valuesM_app, valuesM_one, if_neg (by simpa using h.1), vals_no h.2]; rfl
theorem ckGo_le (J : List UInt8) : ∀ (l : List Fd) (b : Bool), (ckGo J b l).length ≤ l.length
  | [], _ => Nat.le_refl _
  | f :: l, b => by
    simp only [ckGo]
    split
    · split
      · have := ckGo_le J l true; simp; omega
      · have := ckGo_le J l true; simp; omega
    · have := ckGo_le J l b; simp; omega
theorem joinC_le (a c : List UInt8) : (joinC a c).length ≤ a.length + c.length + 2 := by unfold joinC; split <;> simp; omega
theorem joinM_le : ∀ (l : List Fd) (a : List UInt8), ((valuesM l kC).foldl joinC a).length ≤ a.length + szM l
  | [], a => by simp [valuesM]
  | f :: l, a => by
    rw [show f :: l = [f] ++ l from rfl, valuesM_app, szM_app, valuesM_one, show szM [f] = f.n.length + f.v.length + 32 by simp [szM]]
    split
    · rw [List.singleton_append, List.foldl_cons]
      have h1 := joinM_le l (joinC a f.v)
      have h2 := joinC_le a f.v
      omega
    · rw [List.nil_append]
      have h1 := joinM_le l a
      omega
theorem joinM_sz (l : List Fd) : (joinM (valuesM l kC)).length ≤ szM l := by have := joinM_le l []; simpa [joinM] using this
end Go.Proofs.YtnjbfiejgiaibaaGreatDoor

/- Layer 10: plain laws: what is gathered is what the document says. No program, no condition. -/
namespace Go.Proofs.YtnjbfiejgiaibaaGreatDoor
set_option linter.all false
open Go Go.RowKit
theorem valuesM_filter {p : Fd → Bool} {k : List UInt8} : ∀ {l : List Fd}, (∀ f, f.n = k → p f = true) → valuesM (l.filter p) k = valuesM l k
  | [], _ => rfl
  | f :: l, h => by
    have ih := valuesM_filter (l := l) h
    rw [show f :: l = [f] ++ l from rfl, List.filter_append, valuesM_app, valuesM_app, ih]
    congr 1
    by_cases hp : p f = true
    · rw [List.filter_cons_of_pos hp, List.filter_nil]
    · rw [List.filter_cons_of_neg hp, List.filter_nil, valuesM_one, if_neg (fun e => hp (h f e))]; rfl
theorem ask_once {names : List (List UInt8)} {k : List UInt8} (hk : pseudoM k = true) : ∀ (l p : List Fd), askM names p l = 0 → (valuesM p k).length ≤ 1 → (valuesM (p ++ l) k).length ≤ 1
  | [], p, _, h => by rwa [List.append_nil]
  | f :: l, p, h, hp => by
    rw [askM] at h
    split at h
    · rename_i ho
      rw [show p ++ f :: l = (p ++ [f]) ++ l by simp]
      refine ask_once hk l (p ++ [f]) h ?_
      rw [valuesM_app, valuesM_one]
      by_cases hf : f.n = k
      · rw [if_pos hf]
        have hps : pseudoM f.n = true := by rw [hf, hk]
        unfold okF at ho
        rw [if_pos hps] at ho
        split at ho
        · rename_i hh
          have h2 := hh.2
          rw [List.all_eq_true] at h2
          have : valuesM p k = [] := by
            unfold valuesM
            rw [List.map_eq_nil_iff, List.filter_eq_nil_iff]
            intro g hg
            have h3 := h2 g hg
            rw [Bool.and_eq_true] at h3
            rw [← hf]
            simpa using h3.2
          rw [this]; simp
        · cases ho
      · rw [if_neg hf, List.append_nil]; exact hp
    · rename_i ho; exact absurd h ho
theorem ask_le {names : List (List UInt8)} {k : List UInt8} (hk : pseudoM k = true) {l : List Fd} (h : askM names [] l = 0) : (valuesM l k).length ≤ 1 := ask_once hk l [] h (by simp [valuesM])
theorem head_no {l : List Fd} (h : ((tokenM (getM l [58, 109, 101, 116, 104, 111, 100]) = false ∨ getM l [58, 109, 101, 116, 104, 111, 100] = [67, 79, 78, 78, 69, 67, 84]) ∨ (¬ getM l [58, 115, 99, 104, 101, 109, 101] = [104, 116, 116, 112] ∧ ¬ getM l [58, 115, 99, 104, 101, 109, 101] = [104, 116, 116, 112, 115])) ∨ pathM (getM l [58, 112, 97, 116, 104]) (getM l [58, 109, 101, 116, 104, 111, 100]) = false) : headM l = false := by
  unfold headM
  rcases h with ((h | h) | ⟨h, h'⟩) | h
  · simp [h]
  · simp [h]
  · simp [h, h']
  · simp [h]
theorem head_yes {l : List Fd} (h : ((tokenM (getM l [58, 109, 101, 116, 104, 111, 100]) = true ∧ ¬ getM l [58, 109, 101, 116, 104, 111, 100] = [67, 79, 78, 78, 69, 67, 84]) ∧ (getM l [58, 115, 99, 104, 101, 109, 101] = [104, 116, 116, 112] ∨ getM l [58, 115, 99, 104, 101, 109, 101] = [104, 116, 116, 112, 115])) ∧ pathM (getM l [58, 112, 97, 116, 104]) (getM l [58, 109, 101, 116, 104, 111, 100]) = true) : headM l = true := by
  obtain ⟨⟨⟨h1, h2⟩, h3⟩, h4⟩ := h
  unfold headM
  rw [h1, h4, decide_eq_false h2]
  rcases h3 with h | h <;> simp [h]
theorem getM_sz (l : List Fd) (k : List UInt8) : (getM l k).length ≤ szM l := by
  unfold getM
  cases h : valuesM l k with
  | nil => simp
  | cons a r => have := valuesM_sz (l := l) (k := k) (v := a) (by rw [h]; exact List.mem_cons_self); simp; omega
end Go.Proofs.YtnjbfiejgiaibaaGreatDoor

/- Layer 10: Trailer, Answer, ReadAnswer. No condition. -/
namespace Go.Proofs.YtnjbfiejgiaibaaGreatDoor
set_option linter.all false
open Go Go.RowKit
set_option maxRecDepth 10000
set_option maxHeartbeats 4000000
end Go.Proofs.YtnjbfiejgiaibaaGreatDoor
