/- Chapter 15: a line's bytes. No condition but on lengths. -/
import Derived.Test.YthflfnehdlpmdaaDoorRpA
namespace Go.Proofs.YthflfnehdlpmdaaDoor
set_option linter.all false
open Go Go.RowKit
set_option maxRecDepth 10000
set_option maxHeartbeats 4000000
def rdOut : Rd1 → Out
  | .more _ => .ret (.tup [.v (.str []), .v (.bool false)])
  | .line t _ => .ret (.tup [.v (.str t), .v (.bool true)])
  | .err e => .pan (.v (.lit (fltV e)))
def rdPost (fb : Bool) (s : Ps) (all : List UInt8) (h : Hs) : Rd1 → AH
  | .more l => rAB fb (s.line l) 1 all (all.length : Int) h false
  | .line _ r => rAB fb (s.line []) 1 all ((all.length - r.length : Nat) : Int) h true
  | .err _ => panAH
theorem rd_nil {l : List UInt8} {R : Rd1} (h : rdM l [] = R) : R = .more l := h.symm
theorem rd_line {l r : List UInt8} {c : UInt8} {R : Rd1} (h : rdM l (c :: r) = R) (h1 : half l = true) (h2 : c = 10) : R = .line l.dropLast r := by rw [← h, rdM, if_pos ⟨h1, h2⟩]
theorem rd_e1 {l r : List UInt8} {c : UInt8} {R : Rd1} (h : rdM l (c :: r) = R) (h1 : ¬ (half l = true ∧ c = 10)) (h2 : half l = true ∨ c = 10) : R = .err 150 := by rw [← h, rdM, if_neg h1, if_pos h2]
theorem rd_e2 {l r : List UInt8} {c : UInt8} {R : Rd1} (h : rdM l (c :: r) = R) (h2 : ¬ (half l = true ∨ c = 10)) (h3 : ¬ c = 13 ∧ l.length = 4096) : R = .err 2 := by rw [← h, rdM, if_neg (fun e => h2 (.inl e.1)), if_neg h2, if_pos h3]
theorem rd_on {l r : List UInt8} {c : UInt8} {R : Rd1} (h : rdM l (c :: r) = R) (h2 : ¬ (half l = true ∨ c = 10)) (h3 : ¬ (¬ c = 13 ∧ l.length = 4096)) : rdM (l ++ [c]) r = R := by rw [← h, rdM, if_neg (fun e => h2 (.inl e.1)), if_neg h2, if_neg h3]
theorem drop_at {l : List UInt8} {i : Nat} (h : i < l.length) : l.drop i = l[i] :: l.drop (i + 1) := List.drop_eq_getElem_cons h
theorem bs_at {l : List UInt8} {i : Nat} (h : i < l.length) : (bs l)[i]? = some [V.int .u8 (l[i].toNat : Int)] := by simp [bs, h]
theorem u8n (z c : UInt8) : ((z.toNat : Int) = (c.toNat : Int)) ↔ z = c := ⟨fun h => UInt8.toNat_inj.1 (by omega), fun h => by rw [h]⟩
theorem half_at (l : List UInt8) : ∃ z : UInt8, (0 < l.length → (bs l)[l.length - 1]? = some [V.int .u8 (z.toNat : Int)]) ∧ (half l = true ↔ 0 < l.length ∧ z = 13) := by
  rcases List.eq_nil_or_concat l with rfl | ⟨l', z, rfl⟩
  · exact ⟨0, fun h => by simp at h, by simp [half]⟩
  · exact ⟨z, fun _ => by simp [bs], by simp [half]⟩
theorem con_readT {s : Ps} {all : List UInt8} {at0 : Nat} {h : Hs} {R : Rd1} (ho : s.ended = false) (hn : s.ln.length ≤ 4097) (hn2 : s.ln.length = 4097 → half s.ln = true) (ha : all.length ≤ 1000000000) (hat : at0 ≤ all.length) (hR : rdM s.ln (all.drop at0) = R) :
    Con Tryd.prog 23 [.ptr 0 0, .ptr 3 0] (rAB true s 0 all (at0 : Int) h true) 4 (rdOut R) (rdPost true s all h R) := by
  obtain ⟨hd, kk, ln, st, old, fs, many, need, ended, toEnd⟩ := s
  obtain ⟨hh, hst, hfs, hdt, hfin⟩ := h
  simp only at ho hn hn2 hR
  subst ho
  have hal := bs_length all
  refine con_of Tryd.func23 rfl (by show _ ≤ 111; simp) fun X Q hP hnt hnp hret hpan => ?_
  obtain ⟨P0, nt0, w0, K0, S0, np0, pin0, df0⟩ := X
  simp only at hP hnt hnp
  subst hP hnp
  obtain rfl : nt0 = 111 := hnt
  refine aw_region fun K1 hK1 => ?_
  refine aL z_assign ?_
  refine aL z_assign ?_
  refine awl_nil (hK1 _ _ ?_)
  clear hK1 K1
  refine aw_seq fun K2 hK2 => ?_
  refine aw_block ?_
  refine aw_loop (α := {x : List UInt8 × Nat // rdM x.1 (all.drop x.2) = R ∧ x.2 ≤ all.length ∧ x.1.length ≤ 4097 ∧ (x.1.length = 4097 → half x.1 = true)}) (fun x => ([(0, .ptr 0 0), (1, .ptr 3 0)], rAB true ⟨hd, kk, x.1.1, st, old, fs, many, need, false, toEnd⟩ 0 all (x.1.2 : Int) ⟨hh, hst, hfs, hdt, hfin⟩ true)) (fun x => all.length - x.1.2) ⟨(ln, at0), hR, hat, hn, hn2⟩ ?_ ?_
  · dsimp only
    exact wK
  · rintro ⟨⟨l, i⟩, hx, hi, hl, hl2⟩ K3 hK3
    dsimp only
    dsimp only at hx hi hl hl2
    have hbl := bs_length l
    refine aw_seq fun K4 hK4 => ?_
    refine aw_regionD mx_all (by kernel_rfl) fun K5 hK5 => ?_
    refine aD z_move ?_
    refine aD z_nilCheck ?_
    refine aD (z_fieldAddr fo_60_1) ?_
    refine aD (z_load sz_3) ?_
    refine aD z_move ?_
    refine aD z_nilCheck ?_
    refine aD (z_fieldAddr fo_60_0) ?_
    refine aD (z_load sz_32) ?_
    refine aD (z_lenB Tryd.underlying32) ?_
    refine aD z_lss ?_
    refine awd_nil (by kernel_rfl) (hK5 _ _ ?_)
    clear hK5 K5
    refine aC (fun r1 c1 => ?_) (fun r1 c1 => ?_)
    · refine aw_skip ?_
      refine hK4 _ _ ?_
      clear hK4
      refine aw_block ?_
      refine aw_regionD mx_all (by kernel_rfl) fun K6 hK6 => ?_
      have hi2 : i < all.length := (by omega)
      rw [drop_at hi2] at hx
      have hg2 := bs_at hi2
      generalize all[i] = b at hx hg2
      obtain ⟨z, hz, hH⟩ := half_at l
      have e10 := u8n b 10
      have e13 := u8n b 13
      have f13 := u8n z 13
      simp only [show ((10 : UInt8).toNat : Int) = 10 from rfl, show ((13 : UInt8).toNat : Int) = 13 from rfl] at e10 e13 f13
      refine aD z_move ?_
      refine aD z_nilCheck ?_
      refine aD (z_fieldAddr fo_60_0) ?_
      refine aD (z_load sz_32) ?_
      refine aD z_move ?_
      refine aD z_nilCheck ?_
      refine aD (z_fieldAddr fo_60_1) ?_
      refine aD (z_load sz_3) ?_
      refine aD (z_indexAddr Tryd.underlying32 sz_5) ?_
      refine aD (z_loadRef sz_5) ?_
      refine aD z_assign ?_
      refine awd_nil (by kernel_rfl) (hK6 _ _ ?_)
      clear hK6 K6
      refine aw_region fun K7 hK7 => ?_
      refine aL z_move ?_
      refine aL z_nilCheck ?_
      refine aL (z_fieldAddr fo_54_2) ?_
      refine aL (z_load sz_32) ?_
      refine aL (z_lenV Tryd.underlying32) ?_
      refine aL z_assign ?_
      refine awl_nil (hK7 _ _ ?_)
      clear hK7 K7
      refine aw_region fun K8 hK8 => ?_
      refine aL z_move ?_
      refine aL z_gtr ?_
      refine aL z_move ?_
      refine gL rfl rfl (ev_tmp rfl) (fun hg => z_move) ?_
      refine gL rfl rfl (ev_tmp rfl) (fun hg => z_nilCheck) ?_
      refine gL rfl rfl (ev_tmp rfl) (fun hg => z_fieldAddr fo_54_2) ?_
      refine gL rfl rfl (ev_tmp rfl) (fun hg => z_load sz_32) ?_
      refine gL rfl rfl (ev_tmp rfl) (fun hg => z_move) ?_
      refine gL rfl rfl (ev_tmp rfl) (fun hg => z_sub) ?_
      refine gL rfl rfl (ev_tmp rfl) (fun hg => z_indexAddrV Tryd.underlying32 sz_5 (i := l.length - 1) (hp := by simp at hg; omega) (hi := by simp at hg; omega)) ?_
      refine gL rfl rfl (ev_tmp rfl) (fun hg => z_loadV sz_5 (cs := [.int .u8 (z.toNat : Int)]) (hc := by rw [Nat.zero_add]; exact hz (by simp at hg; omega))) ?_
      refine gL rfl rfl (ev_tmp rfl) (fun hg => z_eql) ?_
      refine aL z_and ?_
      refine aL z_assign ?_
      refine awl_nil (hK8 _ _ ?_)
      clear hK8 K8
      refine aw_seq fun K9 hK9 => ?_
      refine aw_block ?_
      refine aw_region fun K10 hK10 => ?_
      refine aL z_move ?_
      refine aL z_move ?_
      refine gL rfl rfl (ev_tmp rfl) (fun hg => z_move) ?_
      refine gL rfl rfl (ev_tmp rfl) (fun hg => z_eql) ?_
      refine aL z_and ?_
      refine aL z_assign ?_
      refine awl_nil (hK10 _ _ ?_)
      clear hK10 K10
      refine aC (fun r2 c2 => ?_) (fun r2 c2 => ?_)
      · refine aw_region fun K11 hK11 => ?_
        refine aL z_move ?_
        refine aL z_nilCheck ?_
        refine aL (z_fieldAddr fo_60_1) ?_
        refine aL (z_load sz_3) ?_
        refine aL z_add ?_
        refine aL z_nilCheck ?_
        refine aL (z_fieldAddr fo_60_1) ?_
        refine aL (z_store sz_3) ?_
        refine awl_nil (hK11 _ _ ?_)
        clear hK11 K11
        refine aw_region fun K12 hK12 => ?_
        refine aL z_move ?_
        refine aL z_nilCheck ?_
        refine aL (z_fieldAddr fo_54_2) ?_
        refine aL (z_load sz_32) ?_
        refine aL z_move ?_
        refine aL z_sub ?_
        refine aL (z_sliceV Tryd.underlying32 sz_5 (j := some (l.length - 1)) (hhi := .yes (ev_tmp rfl) (by omega))) ?_
        refine aL (z_convSV Tryd.underlying32 Tryd.underlying5 Tryd.underlying9 (l := l.dropLast) (hc := by rw [bs_cut]; simp [List.dropLast_eq_take])) ?_
        refine aL z_assign ?_
        refine awl_nil (hK12 _ _ ?_)
        clear hK12 K12
        refine aw_region fun K13 hK13 => ?_
        refine aL z_move ?_
        refine aL z_move ?_
        refine aL z_nilCheck ?_
        refine aL (z_fieldAddr fo_54_2) ?_
        refine aL (z_load sz_32) ?_
        refine aL (z_sliceV Tryd.underlying32 sz_5) ?_
        refine aL z_nilCheck ?_
        refine aL (z_fieldAddr fo_54_2) ?_
        refine aL (z_store sz_32) ?_
        refine awl_nil (hK13 _ _ ?_)
        clear hK13 K13
        refine aw_region fun K14 hK14 => ?_
        refine aL z_move ?_
        refine aL z_assign ?_
        refine aL z_assign ?_
        refine awl_nil (hK14 _ _ ?_)
        clear hK14 K14
        first
          | (have e0 : R = .line l.dropLast (all.drop (i + 1)) := rd_line hx (hH.2 ⟨by omega, f13.1 (by omega)⟩) (e10.1 (by omega))
             have hr1 : ((all.length - (all.drop (i + 1)).length : Nat) : Int) = (i : Int) + 1 := (by rw [List.length_drop]; omega)
             subst e0
             rw [← hr1]
             refine aw_weak (fr' := [(4, .v (.str l.dropLast)), (5, .v (.bool true))]) (ah' := [(0, .box (Ps.csV ⟨hd, kk, [], st, old, fs, many, need, false, toEnd⟩ true false 0 0)), (1, rwB 0 l), (2, rwF 0 (fsR true fs)), (3, .box (feC all ((all.length - (all.drop (i + 1)).length : Nat) : Int) ⟨hh, hst, hfs, hdt, hfin⟩ true))]) wK (aw_weak (weak_short 1 1 rfl) (aw_weak (weak_rever 2 1 rfl) ?_)))
          | (obtain rfl : i = all.length := (by omega)
             rw [List.drop_length] at hx
             have e0 := rd_nil hx
             subst e0
             refine aw_weak (weak_rever 1 1 rfl) (aw_weak (weak_rever 2 1 rfl) ?_))
        refine aw_ret ?_
        refine (hret _ _ _ _ _ rfl (.tmp rfl (.tmp rfl .nil)) rfl ?_ (.box rfl rfl (.row rfl (.row rfl (.box rfl rfl .nil)))) rfl).1
        rfl
      · refine aw_seq fun K15 hK15 => ?_
        refine aw_region fun K16 hK16 => ?_
        refine aL z_move ?_
        refine aL z_assign ?_
        refine awl_nil (hK16 _ _ ?_)
        clear hK16 K16
        refine aC (fun r3 c3 => ?_) (fun r3 c3 => ?_)
        · refine aw_skip ?_
          refine hK15 _ _ ?_
          clear hK15
          refine aw_condT (ev_tmp rfl) r3 ?_
          refine aw_region_last ?_
          refine awl_weak (weak_pan rfl rfl rfl rfl) ?_
          refine awl_callP [] (eC .nil) en_28 (con_fail (e := 150)) .nil ?_
          have e0 : R = .err 150 := rd_e1 hx (fun ⟨h, h'⟩ => by have q := hH.1 h; have q2 := f13.2 q.2; have q3 := e10.2 h'; omega) (by first | exact .inl (hH.2 ⟨by omega, f13.1 (by omega)⟩) | exact .inr (e10.1 (by omega)))
          subst e0
          exact hpan _ _ _ rfl (.box rfl rfl (.row rfl (.row rfl (.box rfl rfl .nil)))) rfl
        · refine aw_region_last ?_
          refine aL z_move ?_
          refine aL z_eql ?_
          refine aL z_assign ?_
          refine awl_nil ?_
          refine hK15 _ _ ?_
          clear hK15
          refine aC (fun r4 c4 => ?_) (fun r4 c4 => ?_)
          · refine aw_region_last ?_
            refine awl_weak (weak_pan rfl rfl rfl rfl) ?_
            refine awl_callP [] (eC .nil) en_28 (con_fail (e := 150)) .nil ?_
            have e0 : R = .err 150 := rd_e1 hx (fun ⟨h, h'⟩ => by have q := hH.1 h; have q2 := f13.2 q.2; have q3 := e10.2 h'; omega) (by first | exact .inl (hH.2 ⟨by omega, f13.1 (by omega)⟩) | exact .inr (e10.1 (by omega)))
            subst e0
            exact hpan _ _ _ rfl (.box rfl rfl (.row rfl (.row rfl (.box rfl rfl .nil)))) rfl
          · refine aw_region fun K17 hK17 => ?_
            refine aL z_move ?_
            refine aL z_neq ?_
            refine aL z_move ?_
            refine gL rfl rfl (ev_tmp rfl) (fun hg => z_move) ?_
            refine gL rfl rfl (ev_tmp rfl) (fun hg => z_eql) ?_
            refine aL z_and ?_
            refine aL z_assign ?_
            refine awl_nil (hK17 _ _ ?_)
            clear hK17 K17
            refine aC (fun r5 c5 => ?_) (fun r5 c5 => ?_)
            · refine aw_region_last ?_
              refine awl_weak (weak_pan rfl rfl rfl rfl) ?_
              refine awl_callP [] (eC .nil) en_28 (con_fail (e := 2)) .nil ?_
              have e0 : R = .err 2 := rd_e2 hx (fun h => h.elim (fun h => by have q := hH.1 h; have q2 := f13.2 q.2; omega) (fun h => by have q := e10.2 h; omega)) ⟨fun h => (by have q := e13.2 h; omega), by omega⟩
              subst e0
              exact hpan _ _ _ rfl (.box rfl rfl (.row rfl (.row rfl (.box rfl rfl .nil)))) rfl
            · refine aw_skip ?_
              refine hK9 _ _ ?_
              clear hK9
              refine aw_region fun K18 hK18 => ?_
              refine aL z_move ?_
              refine aL z_move ?_
              refine aL z_nilCheck ?_
              refine aL (z_fieldAddr fo_54_2) ?_
              refine aL (z_load sz_32) ?_
              refine aL z_move ?_
              refine aL (z_lits (pC .nil) Tryd.underlying32 sz_5 zc_5 zl_5 (c := [[_]])) ?_
              refine aL (z_app Tryd.underlying32 zi_5 (c' := bs (l ++ [b])) (hc := by rw [List.take_of_length_le (by simp)]; simp [bs])) ?_
              refine aL z_nilCheck ?_
              refine aL (z_fieldAddr fo_54_2) ?_
              refine aL (z_store sz_32) ?_
              refine awl_nil (hK18 _ _ ?_)
              clear hK18 K18
              refine aw_region_last ?_
              refine aL z_move ?_
              refine aL z_nilCheck ?_
              refine aL (z_fieldAddr fo_60_1) ?_
              refine aL (z_load sz_3) ?_
              refine aL z_add ?_
              refine aL z_nilCheck ?_
              refine aL (z_fieldAddr fo_60_1) ?_
              refine aL (z_store sz_3) ?_
              refine awl_nil ?_
              have hnh : ¬ (half l = true ∨ b = 10) := (fun h => h.elim (fun h => by have q := hH.1 h; have q2 := f13.2 q.2; omega) (fun h => by have q := e10.2 h; omega))
              have hnl : ¬ (¬ b = 13 ∧ l.length = 4096) := (fun ⟨h, h'⟩ => by have q : ¬ (b.toNat : Int) = 13 := fun e => h (e13.1 e); omega)
              have hll : l.length ≤ 4096 := (by rcases Nat.lt_or_ge l.length 4097 with q | q; omega; exact absurd (.inl (hl2 (by omega))) hnh)
              refine hK3 _ _ ⟨(l ++ [b], i + 1), rd_on hx hnh hnl, by dsimp only; omega, by dsimp only; simp; omega, fun e => by dsimp only at e ⊢; rw [List.length_append, List.length_singleton] at e; by_cases q : b = 13; rw [q]; exact half_snoc l; exact absurd ⟨q, by omega⟩ hnl⟩ (by dsimp only; omega) ?_
              exact Weak.trans (f2 := [(0, .ptr 0 0), (1, .ptr 3 0)]) (a2 := rAV true ⟨hd, kk, l ++ [b], st, old, fs, many, need, false, toEnd⟩ 1 0 all ((i + 1 : Nat) : Int) ⟨hh, hst, hfs, hdt, hfin⟩ true) wK (weak_rever 1 (v := 1) 0 rfl)
    · refine aw_exit ?_
      refine hK2 _ _ ?_
      clear hK2
      refine aw_region fun K19 hK19 => ?_
      refine aL z_move ?_
      refine aL z_nilCheck ?_
      refine aL (z_fieldAddr fo_60_3) ?_
      refine aL (z_store sz_4) ?_
      refine awl_nil (hK19 _ _ ?_)
      clear hK19 K19
      refine aw_region fun K20 hK20 => ?_
      refine aL z_assign ?_
      refine aL z_assign ?_
      refine awl_nil (hK20 _ _ ?_)
      clear hK20 K20
      first
        | (have e0 : R = .line l.dropLast (all.drop (i + 1)) := rd_line hx (hH.2 ⟨by omega, f13.1 (by omega)⟩) (e10.1 (by omega))
           have hr1 : ((all.length - (all.drop (i + 1)).length : Nat) : Int) = (i : Int) + 1 := (by rw [List.length_drop]; omega)
           subst e0
           rw [← hr1]
           refine aw_weak (fr' := [(4, .v (.str l.dropLast)), (5, .v (.bool true))]) (ah' := [(0, .box (Ps.csV ⟨hd, kk, [], st, old, fs, many, need, false, toEnd⟩ true false 0 0)), (1, rwB 0 l), (2, rwF 0 (fsR true fs)), (3, .box (feC all ((all.length - (all.drop (i + 1)).length : Nat) : Int) ⟨hh, hst, hfs, hdt, hfin⟩ true))]) wK (aw_weak (weak_short 1 1 rfl) (aw_weak (weak_rever 2 1 rfl) ?_)))
        | (obtain rfl : i = all.length := (by omega)
           rw [List.drop_length] at hx
           have e0 := rd_nil hx
           subst e0
           refine aw_weak (weak_rever 1 1 rfl) (aw_weak (weak_rever 2 1 rfl) ?_))
      refine aw_ret ?_
      refine (hret _ _ _ _ _ rfl (.tmp rfl (.tmp rfl .nil)) rfl ?_ (.box rfl rfl (.row rfl (.row rfl (.box rfl rfl .nil)))) rfl).1
      rfl
theorem con_readF {s : Ps} {all : List UInt8} {at0 : Nat} {h : Hs} {R : Rd1} (ho : s.ended = false) (hn : s.ln.length ≤ 4097) (hn2 : s.ln.length = 4097 → half s.ln = true) (ha : all.length ≤ 1000000000) (hat : at0 ≤ all.length) (hR : rdM s.ln (all.drop at0) = R) :
    Con Tryd.prog 23 [.ptr 0 0, .ptr 3 0] (rAB false s 0 all (at0 : Int) h true) 4 (rdOut R) (rdPost false s all h R) := by
  obtain ⟨hd, kk, ln, st, old, fs, many, need, ended, toEnd⟩ := s
  obtain ⟨hh, hst, hfs, hdt, hfin⟩ := h
  simp only at ho hn hn2 hR
  subst ho
  have hal := bs_length all
  refine con_of Tryd.func23 rfl (by show _ ≤ 111; simp) fun X Q hP hnt hnp hret hpan => ?_
  obtain ⟨P0, nt0, w0, K0, S0, np0, pin0, df0⟩ := X
  simp only at hP hnt hnp
  subst hP hnp
  obtain rfl : nt0 = 111 := hnt
  refine aw_region fun K1 hK1 => ?_
  refine aL z_assign ?_
  refine aL z_assign ?_
  refine awl_nil (hK1 _ _ ?_)
  clear hK1 K1
  refine aw_seq fun K2 hK2 => ?_
  refine aw_block ?_
  refine aw_loop (α := {x : List UInt8 × Nat // rdM x.1 (all.drop x.2) = R ∧ x.2 ≤ all.length ∧ x.1.length ≤ 4097 ∧ (x.1.length = 4097 → half x.1 = true)}) (fun x => ([(0, .ptr 0 0), (1, .ptr 3 0)], rAB false ⟨hd, kk, x.1.1, st, old, fs, many, need, false, toEnd⟩ 0 all (x.1.2 : Int) ⟨hh, hst, hfs, hdt, hfin⟩ true)) (fun x => all.length - x.1.2) ⟨(ln, at0), hR, hat, hn, hn2⟩ ?_ ?_
  · dsimp only
    exact wK
  · rintro ⟨⟨l, i⟩, hx, hi, hl, hl2⟩ K3 hK3
    dsimp only
    dsimp only at hx hi hl hl2
    have hbl := bs_length l
    refine aw_seq fun K4 hK4 => ?_
    refine aw_regionD mx_all (by kernel_rfl) fun K5 hK5 => ?_
    refine aD z_move ?_
    refine aD z_nilCheck ?_
    refine aD (z_fieldAddr fo_60_1) ?_
    refine aD (z_load sz_3) ?_
    refine aD z_move ?_
    refine aD z_nilCheck ?_
    refine aD (z_fieldAddr fo_60_0) ?_
    refine aD (z_load sz_32) ?_
    refine aD (z_lenB Tryd.underlying32) ?_
    refine aD z_lss ?_
    refine awd_nil (by kernel_rfl) (hK5 _ _ ?_)
    clear hK5 K5
    refine aC (fun r1 c1 => ?_) (fun r1 c1 => ?_)
    · refine aw_skip ?_
      refine hK4 _ _ ?_
      clear hK4
      refine aw_block ?_
      refine aw_regionD mx_all (by kernel_rfl) fun K6 hK6 => ?_
      have hi2 : i < all.length := (by omega)
      rw [drop_at hi2] at hx
      have hg2 := bs_at hi2
      generalize all[i] = b at hx hg2
      obtain ⟨z, hz, hH⟩ := half_at l
      have e10 := u8n b 10
      have e13 := u8n b 13
      have f13 := u8n z 13
      simp only [show ((10 : UInt8).toNat : Int) = 10 from rfl, show ((13 : UInt8).toNat : Int) = 13 from rfl] at e10 e13 f13
      refine aD z_move ?_
      refine aD z_nilCheck ?_
      refine aD (z_fieldAddr fo_60_0) ?_
      refine aD (z_load sz_32) ?_
      refine aD z_move ?_
      refine aD z_nilCheck ?_
      refine aD (z_fieldAddr fo_60_1) ?_
      refine aD (z_load sz_3) ?_
      refine aD (z_indexAddr Tryd.underlying32 sz_5) ?_
      refine aD (z_loadRef sz_5) ?_
      refine aD z_assign ?_
      refine awd_nil (by kernel_rfl) (hK6 _ _ ?_)
      clear hK6 K6
      refine aw_region fun K7 hK7 => ?_
      refine aL z_move ?_
      refine aL z_nilCheck ?_
      refine aL (z_fieldAddr fo_54_2) ?_
      refine aL (z_load sz_32) ?_
      refine aL (z_lenV Tryd.underlying32) ?_
      refine aL z_assign ?_
      refine awl_nil (hK7 _ _ ?_)
      clear hK7 K7
      refine aw_region fun K8 hK8 => ?_
      refine aL z_move ?_
      refine aL z_gtr ?_
      refine aL z_move ?_
      refine gL rfl rfl (ev_tmp rfl) (fun hg => z_move) ?_
      refine gL rfl rfl (ev_tmp rfl) (fun hg => z_nilCheck) ?_
      refine gL rfl rfl (ev_tmp rfl) (fun hg => z_fieldAddr fo_54_2) ?_
      refine gL rfl rfl (ev_tmp rfl) (fun hg => z_load sz_32) ?_
      refine gL rfl rfl (ev_tmp rfl) (fun hg => z_move) ?_
      refine gL rfl rfl (ev_tmp rfl) (fun hg => z_sub) ?_
      refine gL rfl rfl (ev_tmp rfl) (fun hg => z_indexAddrV Tryd.underlying32 sz_5 (i := l.length - 1) (hp := by simp at hg; omega) (hi := by simp at hg; omega)) ?_
      refine gL rfl rfl (ev_tmp rfl) (fun hg => z_loadV sz_5 (cs := [.int .u8 (z.toNat : Int)]) (hc := by rw [Nat.zero_add]; exact hz (by simp at hg; omega))) ?_
      refine gL rfl rfl (ev_tmp rfl) (fun hg => z_eql) ?_
      refine aL z_and ?_
      refine aL z_assign ?_
      refine awl_nil (hK8 _ _ ?_)
      clear hK8 K8
      refine aw_seq fun K9 hK9 => ?_
      refine aw_block ?_
      refine aw_region fun K10 hK10 => ?_
      refine aL z_move ?_
      refine aL z_move ?_
      refine gL rfl rfl (ev_tmp rfl) (fun hg => z_move) ?_
      refine gL rfl rfl (ev_tmp rfl) (fun hg => z_eql) ?_
      refine aL z_and ?_
      refine aL z_assign ?_
      refine awl_nil (hK10 _ _ ?_)
      clear hK10 K10
      refine aC (fun r2 c2 => ?_) (fun r2 c2 => ?_)
      · refine aw_region fun K11 hK11 => ?_
        refine aL z_move ?_
        refine aL z_nilCheck ?_
        refine aL (z_fieldAddr fo_60_1) ?_
        refine aL (z_load sz_3) ?_
        refine aL z_add ?_
        refine aL z_nilCheck ?_
        refine aL (z_fieldAddr fo_60_1) ?_
        refine aL (z_store sz_3) ?_
        refine awl_nil (hK11 _ _ ?_)
        clear hK11 K11
        refine aw_region fun K12 hK12 => ?_
        refine aL z_move ?_
        refine aL z_nilCheck ?_
        refine aL (z_fieldAddr fo_54_2) ?_
        refine aL (z_load sz_32) ?_
        refine aL z_move ?_
        refine aL z_sub ?_
        refine aL (z_sliceV Tryd.underlying32 sz_5 (j := some (l.length - 1)) (hhi := .yes (ev_tmp rfl) (by omega))) ?_
        refine aL (z_convSV Tryd.underlying32 Tryd.underlying5 Tryd.underlying9 (l := l.dropLast) (hc := by rw [bs_cut]; simp [List.dropLast_eq_take])) ?_
        refine aL z_assign ?_
        refine awl_nil (hK12 _ _ ?_)
        clear hK12 K12
        refine aw_region fun K13 hK13 => ?_
        refine aL z_move ?_
        refine aL z_move ?_
        refine aL z_nilCheck ?_
        refine aL (z_fieldAddr fo_54_2) ?_
        refine aL (z_load sz_32) ?_
        refine aL (z_sliceV Tryd.underlying32 sz_5) ?_
        refine aL z_nilCheck ?_
        refine aL (z_fieldAddr fo_54_2) ?_
        refine aL (z_store sz_32) ?_
        refine awl_nil (hK13 _ _ ?_)
        clear hK13 K13
        refine aw_region fun K14 hK14 => ?_
        refine aL z_move ?_
        refine aL z_assign ?_
        refine aL z_assign ?_
        refine awl_nil (hK14 _ _ ?_)
        clear hK14 K14
        first
          | (have e0 : R = .line l.dropLast (all.drop (i + 1)) := rd_line hx (hH.2 ⟨by omega, f13.1 (by omega)⟩) (e10.1 (by omega))
             have hr1 : ((all.length - (all.drop (i + 1)).length : Nat) : Int) = (i : Int) + 1 := (by rw [List.length_drop]; omega)
             subst e0
             rw [← hr1]
             refine aw_weak (fr' := [(4, .v (.str l.dropLast)), (5, .v (.bool true))]) (ah' := [(0, .box (Ps.csV ⟨hd, kk, [], st, old, fs, many, need, false, toEnd⟩ false false 0 0)), (1, rwB 0 l), (2, rwF 0 (fsR false fs)), (3, .box (feC all ((all.length - (all.drop (i + 1)).length : Nat) : Int) ⟨hh, hst, hfs, hdt, hfin⟩ true))]) wK (aw_weak (weak_short 1 1 rfl) (aw_weak (weak_rever 2 1 rfl) ?_)))
          | (obtain rfl : i = all.length := (by omega)
             rw [List.drop_length] at hx
             have e0 := rd_nil hx
             subst e0
             refine aw_weak (weak_rever 1 1 rfl) (aw_weak (weak_rever 2 1 rfl) ?_))
        refine aw_ret ?_
        refine (hret _ _ _ _ _ rfl (.tmp rfl (.tmp rfl .nil)) rfl ?_ (.box rfl rfl (.row rfl (.row rfl (.box rfl rfl .nil)))) rfl).1
        rfl
      · refine aw_seq fun K15 hK15 => ?_
        refine aw_region fun K16 hK16 => ?_
        refine aL z_move ?_
        refine aL z_assign ?_
        refine awl_nil (hK16 _ _ ?_)
        clear hK16 K16
        refine aC (fun r3 c3 => ?_) (fun r3 c3 => ?_)
        · refine aw_skip ?_
          refine hK15 _ _ ?_
          clear hK15
          refine aw_condT (ev_tmp rfl) r3 ?_
          refine aw_region_last ?_
          refine awl_weak (weak_pan rfl rfl rfl rfl) ?_
          refine awl_callP [] (eC .nil) en_28 (con_fail (e := 150)) .nil ?_
          have e0 : R = .err 150 := rd_e1 hx (fun ⟨h, h'⟩ => by have q := hH.1 h; have q2 := f13.2 q.2; have q3 := e10.2 h'; omega) (by first | exact .inl (hH.2 ⟨by omega, f13.1 (by omega)⟩) | exact .inr (e10.1 (by omega)))
          subst e0
          exact hpan _ _ _ rfl (.box rfl rfl (.row rfl (.row rfl (.box rfl rfl .nil)))) rfl
        · refine aw_region_last ?_
          refine aL z_move ?_
          refine aL z_eql ?_
          refine aL z_assign ?_
          refine awl_nil ?_
          refine hK15 _ _ ?_
          clear hK15
          refine aC (fun r4 c4 => ?_) (fun r4 c4 => ?_)
          · refine aw_region_last ?_
            refine awl_weak (weak_pan rfl rfl rfl rfl) ?_
            refine awl_callP [] (eC .nil) en_28 (con_fail (e := 150)) .nil ?_
            have e0 : R = .err 150 := rd_e1 hx (fun ⟨h, h'⟩ => by have q := hH.1 h; have q2 := f13.2 q.2; have q3 := e10.2 h'; omega) (by first | exact .inl (hH.2 ⟨by omega, f13.1 (by omega)⟩) | exact .inr (e10.1 (by omega)))
            subst e0
            exact hpan _ _ _ rfl (.box rfl rfl (.row rfl (.row rfl (.box rfl rfl .nil)))) rfl
          · refine aw_region fun K17 hK17 => ?_
            refine aL z_move ?_
            refine aL z_neq ?_
            refine aL z_move ?_
            refine gL rfl rfl (ev_tmp rfl) (fun hg => z_move) ?_
            refine gL rfl rfl (ev_tmp rfl) (fun hg => z_eql) ?_
            refine aL z_and ?_
            refine aL z_assign ?_
            refine awl_nil (hK17 _ _ ?_)
            clear hK17 K17
            refine aC (fun r5 c5 => ?_) (fun r5 c5 => ?_)
            · refine aw_region_last ?_
              refine awl_weak (weak_pan rfl rfl rfl rfl) ?_
              refine awl_callP [] (eC .nil) en_28 (con_fail (e := 2)) .nil ?_
              have e0 : R = .err 2 := rd_e2 hx (fun h => h.elim (fun h => by have q := hH.1 h; have q2 := f13.2 q.2; omega) (fun h => by have q := e10.2 h; omega)) ⟨fun h => (by have q := e13.2 h; omega), by omega⟩
              subst e0
              exact hpan _ _ _ rfl (.box rfl rfl (.row rfl (.row rfl (.box rfl rfl .nil)))) rfl
            · refine aw_skip ?_
              refine hK9 _ _ ?_
              clear hK9
              refine aw_region fun K18 hK18 => ?_
              refine aL z_move ?_
              refine aL z_move ?_
              refine aL z_nilCheck ?_
              refine aL (z_fieldAddr fo_54_2) ?_
              refine aL (z_load sz_32) ?_
              refine aL z_move ?_
              refine aL (z_lits (pC .nil) Tryd.underlying32 sz_5 zc_5 zl_5 (c := [[_]])) ?_
              refine aL (z_app Tryd.underlying32 zi_5 (c' := bs (l ++ [b])) (hc := by rw [List.take_of_length_le (by simp)]; simp [bs])) ?_
              refine aL z_nilCheck ?_
              refine aL (z_fieldAddr fo_54_2) ?_
              refine aL (z_store sz_32) ?_
              refine awl_nil (hK18 _ _ ?_)
              clear hK18 K18
              refine aw_region_last ?_
              refine aL z_move ?_
              refine aL z_nilCheck ?_
              refine aL (z_fieldAddr fo_60_1) ?_
              refine aL (z_load sz_3) ?_
              refine aL z_add ?_
              refine aL z_nilCheck ?_
              refine aL (z_fieldAddr fo_60_1) ?_
              refine aL (z_store sz_3) ?_
              refine awl_nil ?_
              have hnh : ¬ (half l = true ∨ b = 10) := (fun h => h.elim (fun h => by have q := hH.1 h; have q2 := f13.2 q.2; omega) (fun h => by have q := e10.2 h; omega))
              have hnl : ¬ (¬ b = 13 ∧ l.length = 4096) := (fun ⟨h, h'⟩ => by have q : ¬ (b.toNat : Int) = 13 := fun e => h (e13.1 e); omega)
              have hll : l.length ≤ 4096 := (by rcases Nat.lt_or_ge l.length 4097 with q | q; omega; exact absurd (.inl (hl2 (by omega))) hnh)
              refine hK3 _ _ ⟨(l ++ [b], i + 1), rd_on hx hnh hnl, by dsimp only; omega, by dsimp only; simp; omega, fun e => by dsimp only at e ⊢; rw [List.length_append, List.length_singleton] at e; by_cases q : b = 13; rw [q]; exact half_snoc l; exact absurd ⟨q, by omega⟩ hnl⟩ (by dsimp only; omega) ?_
              exact Weak.trans (f2 := [(0, .ptr 0 0), (1, .ptr 3 0)]) (a2 := rAV false ⟨hd, kk, l ++ [b], st, old, fs, many, need, false, toEnd⟩ 1 0 all ((i + 1 : Nat) : Int) ⟨hh, hst, hfs, hdt, hfin⟩ true) wK (weak_rever 1 (v := 1) 0 rfl)
    · refine aw_exit ?_
      refine hK2 _ _ ?_
      clear hK2
      refine aw_region fun K19 hK19 => ?_
      refine aL z_move ?_
      refine aL z_nilCheck ?_
      refine aL (z_fieldAddr fo_60_3) ?_
      refine aL (z_store sz_4) ?_
      refine awl_nil (hK19 _ _ ?_)
      clear hK19 K19
      refine aw_region fun K20 hK20 => ?_
      refine aL z_assign ?_
      refine aL z_assign ?_
      refine awl_nil (hK20 _ _ ?_)
      clear hK20 K20
      first
        | (have e0 : R = .line l.dropLast (all.drop (i + 1)) := rd_line hx (hH.2 ⟨by omega, f13.1 (by omega)⟩) (e10.1 (by omega))
           have hr1 : ((all.length - (all.drop (i + 1)).length : Nat) : Int) = (i : Int) + 1 := (by rw [List.length_drop]; omega)
           subst e0
           rw [← hr1]
           refine aw_weak (fr' := [(4, .v (.str l.dropLast)), (5, .v (.bool true))]) (ah' := [(0, .box (Ps.csV ⟨hd, kk, [], st, old, fs, many, need, false, toEnd⟩ false false 0 0)), (1, rwB 0 l), (2, rwF 0 (fsR false fs)), (3, .box (feC all ((all.length - (all.drop (i + 1)).length : Nat) : Int) ⟨hh, hst, hfs, hdt, hfin⟩ true))]) wK (aw_weak (weak_short 1 1 rfl) (aw_weak (weak_rever 2 1 rfl) ?_)))
        | (obtain rfl : i = all.length := (by omega)
           rw [List.drop_length] at hx
           have e0 := rd_nil hx
           subst e0
           refine aw_weak (weak_rever 1 1 rfl) (aw_weak (weak_rever 2 1 rfl) ?_))
      refine aw_ret ?_
      refine (hret _ _ _ _ _ rfl (.tmp rfl (.tmp rfl .nil)) rfl ?_ (.box rfl rfl (.row rfl (.row rfl (.box rfl rfl .nil)))) rfl).1
      rfl
end Go.Proofs.YthflfnehdlpmdaaDoor
