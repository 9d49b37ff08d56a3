/- Chapter 15: Take, walked. No condition but on lengths. -/
import Derived.Test.YthflfnehdlpmdaaDoorRpL
namespace Go.Proofs.YthflfnehdlpmdaaDoor
set_option linter.all false
open Go Go.RowKit
set_option maxRecDepth 10000
set_option maxHeartbeats 4000000
abbrev zH : List D := [.v (.bool false), .v (.int .i64 0), NIL, .v (.str []), .v (.bool false)]
theorem rd_suf : ∀ (b l : List UInt8), match rdM l b with
    | .line _ r => ∃ j, r = b.drop j
    | _ => True
  | [], l => trivial
  | c :: b, l => by
    have ih := rd_suf b (l ++ [c])
    unfold rdM
    by_cases c1 : half l = true ∧ c = 10
    · rw [if_pos c1]; exact ⟨1, rfl⟩
    rw [if_neg c1]
    by_cases c2 : half l = true ∨ c = 10
    · rw [if_pos c2]; trivial
    rw [if_neg c2]
    by_cases c3 : ¬ c = 13 ∧ l.length = 4096
    · rw [if_pos c3]; trivial
    rw [if_neg c3]
    revert ih
    cases rdM (l ++ [c]) b with
    | more l' => exact id
    | line t r => exact fun ⟨j, hj⟩ => ⟨j + 1, by rw [hj]; rfl⟩
    | err e => exact id
theorem next_suf {s : Ps} {h : Hs} {b : List UInt8} {x : Nx} (hx : nextM s h b = .ok x) : ∃ j, x.r = b.drop j := by
  have hl : nextL s h b = .ok x → ∃ j, x.r = b.drop j := fun hx => by
    have hs := rd_suf b s.ln
    unfold nextL at hx
    cases hq : rdM s.ln b with
    | more l => rw [hq] at hx; injection hx with hx; subst hx; exact ⟨b.length, by simp⟩
    | err e => rw [hq] at hx; cases hx
    | line t r =>
      rw [hq] at hx hs
      simp only at hx
      split at hx
      · cases hx
      · injection hx with hx; subst hx; exact hs
  unfold nextM at hx
  cases hk : s.k <;> rw [hk] at hx <;> simp only at hx
  case data => injection hx with hx; subst hx; exact ⟨_, rfl⟩
  case counted =>
    split at hx
    · injection hx with hx; subst hx; exact ⟨_, rfl⟩
    · injection hx with hx; subst hx; exact ⟨_, rfl⟩
  case all => injection hx with hx; subst hx; exact ⟨b.length, by simp⟩
  case behind =>
    cases b with
    | nil => cases hx
    | cons c r =>
      simp only at hx
      split at hx
      · split at hx
        · injection hx with hx; subst hx; exact ⟨1, rfl⟩
        · cases hx
      · split at hx
        · injection hx with hx; subst hx; exact ⟨1, rfl⟩
        · cases hx
  all_goals exact hl hx
section
variable {X : Cx} {fr : Fm} {ah : AH} {R : Exit → Act → World → Prop}
/-- A region, a test that does not hold, and what follows, ahead of a defer. -/
theorem awR_regionF {id : Nat} {l : List Oper} {c : Operand} {x rest : Code} (h : ∀ K : Fm → AH → Prop, (∀ fr ah (t : Bool), Ev fr.at c (.v (.bool t)) → t = false → awR X rest R fr ah → K fr ah) → awl X l.toArray K (fun _ _ _ => False) l fr ah) : awR X (.seq (.seq (.region id l.toArray false) (.cond c x .skip)) rest) R fr ah := fun G w a hS =>
  wp_seq (wp_seq (wp_region_lit (h (fun fr ah => ∃ t : Bool, Ev fr.at c (.v (.bool t)) ∧ t = false ∧ awR X rest R fr ah) (fun fr ah t h1 h2 h3 => ⟨t, h1, h2, h3⟩) G w a hS _ (fun a w hk => by
    obtain ⟨G, fr, ah, h1, t, h2, h3, h4⟩ := hk
    exact wp_cond_split (rep_bool (h2 fr.at (fun _ _ => rfl) G w _ a h1.fr)) (fun h => by rw [h3] at h; cases h) (fun _ => wp_skip (h4 G w a h1))) (fun _ _ _ h => by obtain ⟨_, _, _, _, _, _, _, _, h⟩ := h; exact h.elim))))
end
/-- A loop's state in Take. -/
structure TkS where
  s : Ps
  q : Bool
  h : Hs
  i : Nat
  m : Bool
structure TkS.ok (x : TkS) (b : List UInt8) (R : Except Int (Ps × Hs × List UInt8)) : Prop where
  fb : x.s.fb = x.q
  run : runB x.s x.h (b.drop x.i) = R
  inv : x.s.ok
  le : x.i ≤ b.length
  data : x.h.data.length ≤ x.i
  live : x.m = true → x.s.ended = false
  stop : x.m = false → b.drop x.i = [] ∨ x.s.ended = true
theorem TkS.next {x : TkS} {b : List UInt8} {R : Except Int (Ps × Hs × List UInt8)} {y : Nx} (hx : x.ok b R) (hm : x.m = true) (hi : x.i < b.length) (hN : nextM x.s x.h (b.drop x.i) = .ok y) : TkS.ok ⟨y.s, y.s.fb, y.h, b.length - y.r.length, y.more⟩ b R ∧ b.length - (b.length - y.r.length) < b.length - x.i := by
  have hne : ¬ b.drop x.i = [] := fun e => by have := congrArg List.length e; simp at this; omega
  have hr := next_run (h := x.h) hx.inv (hx.live hm) hne
  have hd := next_data hN (nextL_data hx.inv)
  rw [hN] at hr
  obtain ⟨r1, r2, r3, r4, r5⟩ := hr
  have hl : (b.drop x.i).length = b.length - x.i := List.length_drop
  have hdd := hx.data
  obtain ⟨j, hj⟩ := next_suf hN
  have hrest : b.drop (b.length - y.r.length) = y.r := by
    rw [List.drop_drop] at hj
    rw [hj, List.length_drop]
    rcases Nat.lt_or_ge b.length (x.i + j) with h | h
    · rw [show b.length - (b.length - (x.i + j)) = b.length by omega, List.drop_length, List.drop_eq_nil_of_le (by omega)]
    · rw [show b.length - (b.length - (x.i + j)) = x.i + j by omega]
  exact ⟨⟨rfl, by dsimp only; rw [hrest, ← r1]; exact hx.run, r5, by dsimp only; omega, by dsimp only; omega, r4, by dsimp only; rw [hrest]; exact r3⟩, by omega⟩
theorem con_Take {s : Ps} {b : List UInt8} {R : Except Int (Ps × Hs × List UInt8)} (hok : s.ok) (he : s.ended = false) (hb : b.length ≤ 1000000000) (hR : runB s hs0 b = R) : Con Tryd.prog 10 [.ptr 0 0, .v (.sl (bs b))] (s.ah 0) 3 (.ret (tkD b R)) (tkAH R) := by
  obtain ⟨q, hq⟩ : ∃ q, s.fb = q := ⟨_, rfl⟩
  rw [show s.ah 0 = s.ahB s.fb s.ended 0 from rfl, hq]
  have hbl := bs_length b
  refine con_rec Tryd.func10 rfl (by show _ ≤ 51; simp) rfl fun X R0 hP hnt hnp hdf hR0 => ?_
  obtain ⟨P0, nt0, w0, K0, S0, np0, pin0, df0⟩ := X
  simp only at hP hnt hnp hdf
  subst hP hnp hdf
  obtain rfl : nt0 = 51 := hnt
  refine awR_region fun K hK => ?_
  refine aL (z_box 3) ?_
  refine aL (z_alloc 4 zc_28 zl_28) ?_
  refine aL (z_alloc 5 zc_3 zl_3) ?_
  refine aL (z_alloc 6 zc_29 zl_29) ?_
  refine awl_nil (hK _ _ ?_)
  clear hK K
  refine awR_regionF fun K hK => ?_
  refine aL (z_load sz_24) ?_
  refine aL (z_eqlP Tryd.underlying24) ?_
  refine aL z_move ?_
  refine gL rfl rfl (ev_tmp rfl) (fun hg => z_load sz_24) ?_
  refine gL rfl rfl (ev_tmp rfl) (fun hg => z_nilCheck) ?_
  refine gL rfl rfl (ev_tmp rfl) (fun hg => z_fieldAddr fo_54_8) ?_
  refine gL rfl rfl (ev_tmp rfl) (fun hg => z_load sz_4) ?_
  refine aL z_or ?_
  refine awl_nil (hK _ _ _ (ev_tmp rfl) (by rw [he]; rfl) ?_)
  clear hK K
  refine awR_defer 7 (caps := tkCaps) (eC (eC (eC (eC .nil)))) (fun Y d us hW e1 e2 e3 e4 e5 e6 e7 hpin => ?_)
  refine awR_of (hR0 Y 20 tkCaps d us hW e1 e2 e3 e4 e5 e7 (by kernel_rfl) conD_idle (fun i o hi ho hf => by
    obtain rfl := tk_pin ho hf
    exact ⟨by rw [e6]; decide, hpin 0 _ (show 0 < 3 by decide) rfl rfl⟩)) ?_
  obtain ⟨P1, nt1, w1, K1, S1, np1, pin1, df1⟩ := Y
  simp only at e1 e2 e3 e4 e5 e6 e7
  subst e1 e2 e3 e4 e5 e6 e7
  have hret : ∀ (fr : Fm) (ah : AH) rs ds dd, Tryd.f10.results.toList = rs → ResIs Tryd.prog fr ah rs ds → retD ds = dd → Out.ret (tkD b R) = .ret dd → KeepA ah (dom (tkAH R)) (tkAH R) → D.live (dom (tkAH R)) dd = true → recQ Tryd.prog Tryd.f10.results.toList ⟨Tryd.prog, 51, w1, K1, S1, 7, pin1, [d]⟩ 20 tkCaps (tkD b R) (tkAH R) .ret fr ah ∧ recQ Tryd.prog Tryd.f10.results.toList ⟨Tryd.prog, 51, w1, K1, S1, 7, pin1, [d]⟩ 20 tkCaps (tkD b R) (tkAH R) .normal fr ah := fun fr ah rs ds dd h1 h2 h3 h4 h5 h6 => by
    subst h1
    injection h4 with h4
    subst h4
    exact ⟨⟨ds, h2, h3, h5, h6⟩, ⟨ds, h2, h3, h5, h6⟩⟩
  refine aw_region fun K1 hK1 => ?_
  refine aL z_move ?_
  refine aL (z_build (pC (pC .nil)) pl_60 zc_60 zl_60) ?_
  refine aL (z_box 7) ?_
  refine aL z_assign ?_
  refine awl_nil (hK1 _ _ ?_)
  clear hK1 K1
  refine aw_weak (weak_boxD 7 4 (d' := .v (.sl (fdV []))) rfl rfl rfl (fun G w m u h => nil_sl h)) ?_
  refine aw_seq fun K2 hK2 => ?_
  refine aw_block ?_
  refine aw_loop (α := {x : TkS // x.ok b R}) (fun x => ([(2, .ptr 3 0), (4, .ptr 4 0), (5, .ptr 5 0), (6, .ptr 6 0), (7, .ptr 7 0)], [(0, .box (x.1.s.csV x.1.q x.1.s.ended 0 0)), (1, rwB 0 x.1.s.ln), (2, rwF 0 (fsR x.1.q x.1.s.fs)), (3, .box [.ptr 0 0]), (4, .box zH), (5, .box [.v (.int .i64 0)]), (6, .box [.v (.int .i64 0)]), (7, .box (feC b (x.1.i : Int) x.1.h x.1.m))])) (fun x => b.length - x.1.i) ⟨⟨s, q, hs0, 0, true⟩, ⟨hq, hR, hok, Nat.zero_le _, Nat.le_refl _, fun _ => he, fun h => by cases h⟩⟩ ?_ ?_
  · dsimp only
    cases q <;> exact wK
  · rintro ⟨⟨s1, q1, h1, i, m⟩, hx⟩ K3 hK3
    dsimp only
    refine aw_seq fun K4 hK4 => ?_
    refine aw_regionD mx_all (by kernel_rfl) fun K5 hK5 => ?_
    refine aD z_move ?_
    refine aD z_nilCheck ?_
    refine aD (z_fieldAddr fo_60_3) ?_
    refine aD (z_load sz_4) ?_
    refine aD z_move ?_
    refine gD rfl rfl (ev_tmp rfl) (fun hg => z_move) ?_
    refine gD rfl rfl (ev_tmp rfl) (fun hg => z_nilCheck) ?_
    refine gD rfl rfl (ev_tmp rfl) (fun hg => z_fieldAddr fo_60_1) ?_
    refine gD rfl rfl (ev_tmp rfl) (fun hg => z_load sz_3) ?_
    refine gD rfl rfl (ev_tmp rfl) (fun hg => z_move) ?_
    refine gD rfl rfl (ev_tmp rfl) (fun hg => z_nilCheck) ?_
    refine gD rfl rfl (ev_tmp rfl) (fun hg => z_fieldAddr fo_60_0) ?_
    refine gD rfl rfl (ev_tmp rfl) (fun hg => z_load sz_32) ?_
    refine gD rfl rfl (ev_tmp rfl) (fun hg => z_lenB Tryd.underlying32) ?_
    refine gD rfl rfl (ev_tmp rfl) (fun hg => z_lss) ?_
    refine aD z_and ?_
    refine awd_nil (by kernel_rfl) (hK5 _ _ ?_)
    clear hK5 K5
    refine aC (fun r1 c1 => ?_) (fun r1 c1 => ?_)
    · refine aw_skip ?_
      refine hK4 _ _ ?_
      clear hK4
      refine aw_block ?_
      refine aw_region_last ?_
      refine aL (z_load sz_24) ?_
      refine aL z_nilCheck ?_
      refine aL (z_fieldAddr fo_54_1) ?_
      refine aL (z_load sz_52) ?_
      refine aL z_move ?_
      obtain ⟨hm, hil⟩ := c1
      subst hm
      have hil2 : i < b.length := by omega
      have he1 : s1.ended = false := hx.live rfl
      have hfq : s1.fb = q1 := hx.fb
      have hdl : h1.data.length ≤ 1000000000 := by have := hx.data; dsimp only at this; omega
      have hne : ¬ b.drop i = [] := fun e => by have := congrArg List.length e; simp at this; omega
      have hnr := next_run (h := h1) hx.inv he1 hne
      rcases hN : nextM s1 h1 (b.drop i) with e | ⟨s2, r2, h2, m2⟩
      · rw [hN] at hnr
        refine awl_callPC [0, 1, 2, 7] (eC .nil) (enters_knd s1.k) (show Con Tryd.prog s1.k.fn [.ptr 0 0, .ptr 3 0] (rAB q1 s1 0 b (i : Int) h1 true) 4 (.pan (.v (.lit (fltV e)))) panAH from con_nextB hfq hx.inv he1 hb hil2 hdl hN) (by cases q1 <;> exact pA (pA (pA (pA .nil)))) ?_ (hB := by cases q1 <;> rfl) (hpl := by cases q1 <;> rfl)
        exact take_pan rfl (hx.run.symm.trans hnr) rfl rfl rfl rfl rfl rfl rfl rfl rfl rfl
      obtain ⟨q2, hq2⟩ : ∃ q2, s2.fb = q2 := ⟨_, rfl⟩
      refine aL (z_callC [0, 1, 2, 7] (eC .nil) (enters_knd s1.k) (con_nextO hfq hq2 hx.inv he1 hb hil2 hdl hN) (by cases q1 <;> exact pA (pA (pA (pA .nil)))) (hB := by cases q1 <;> rfl) (hpl := by cases q1 <;> rfl) (upd := [(0, .box (s2.csV q2 s2.ended 1 1)), (1, rwB 1 s2.ln), (2, rwF 1 (fsR q2 s2.fs)), (7, .box (feC b ((b.length - r2.length : Nat) : Int) h2 m2))]) (hu := by cases q2 <;> rfl)) ?_
      refine awl_nil ?_
      have hnx : TkS.ok ⟨s2, q2, h2, b.length - r2.length, m2⟩ b R := by subst hq2; exact (TkS.next hx rfl hil2 hN).1
      refine hK3 _ _ ⟨⟨s2, q2, h2, b.length - r2.length, m2⟩, hnx⟩ (TkS.next hx rfl hil2 hN).2 ?_
      cases q2 <;> first | exact Weak.trans (f2 := [(2, .ptr 3 0), (4, .ptr 4 0), (5, .ptr 5 0), (6, .ptr 6 0), (7, .ptr 7 0)]) (a2 := [(0, .box (s2.csV true s2.ended 1 1)), (1, rwB 1 s2.ln), (2, rwF 1 (fsR true s2.fs)), (3, .box [.ptr 0 0]), (4, .box zH), (5, .box [.v (.int .i64 0)]), (6, .box [.v (.int .i64 0)]), (7, .box (feC b ((b.length - r2.length : Nat) : Int) h2 m2))]) wK (Weak.trans (weak_rever 1 (v := 1) 0 rfl) (weak_rever 2 (v := 1) 0 rfl)) | exact Weak.trans (f2 := [(2, .ptr 3 0), (4, .ptr 4 0), (5, .ptr 5 0), (6, .ptr 6 0), (7, .ptr 7 0)]) (a2 := [(0, .box (s2.csV false s2.ended 1 1)), (1, rwB 1 s2.ln), (2, rwF 1 (fsR false s2.fs)), (3, .box [.ptr 0 0]), (4, .box zH), (5, .box [.v (.int .i64 0)]), (6, .box [.v (.int .i64 0)]), (7, .box (feC b ((b.length - r2.length : Nat) : Int) h2 m2))]) wK (Weak.trans (weak_rever 1 (v := 1) 0 rfl) (weak_rever 2 (v := 1) 0 rfl))
    · refine aw_exit ?_
      refine hK2 _ _ ?_
      clear hK2
      refine aw_regionD mx_all (by kernel_rfl) fun K6 hK6 => ?_
      refine aD z_move ?_
      refine aD z_nilCheck ?_
      refine aD (z_fieldAddr fo_60_2) ?_
      refine aD (z_load sz_28) ?_
      refine aD z_move ?_
      refine aD z_nilCheck ?_
      refine aD (z_fieldAddr fo_60_1) ?_
      refine aD (z_load sz_3) ?_
      refine aD (z_store sz_28) ?_
      refine aD (z_store sz_3) ?_
      refine aD (z_store sz_29) ?_
      refine awd_nil (by kernel_rfl) (hK6 _ _ ?_)
      clear hK6 K6
      have hst : b.drop i = [] ∨ s1.ended = true := by
        cases m with
        | false => exact hx.stop rfl
        | true => left; exact List.drop_eq_nil_of_le (by simp at c1; omega)
      have heR := hx.run.symm.trans (runB_stop hst)
      dsimp only at heR
      subst heR
      have hpost : tkAH (.ok (s1, h1, b.drop i)) = s1.ahB q1 s1.ended 1 := by show s1.ahB s1.fb s1.ended 1 = _; rw [hx.fb]
      have hu : ((b.length - (b.drop i).length : Nat) : Int) = (i : Int) := by have := hx.le; dsimp only at this; rw [List.length_drop]; omega
      refine aw_weak (fr' := [(4, .ptr 4 0), (5, .ptr 5 0), (6, .ptr 6 0)]) (ah' := s1.ahB q1 s1.ended 1 ++ [(4, .box h1.cs), (5, .box [.v (.int .i64 (i : Int))]), (6, .box [.v (.int .i64 0)])]) (by cases q1 <;> first | exact Weak.trans (f2 := [(4, .ptr 4 0), (5, .ptr 5 0), (6, .ptr 6 0)]) (a2 := s1.ahB true s1.ended 0 ++ [(4, .box h1.cs), (5, .box [.v (.int .i64 (i : Int))]), (6, .box [.v (.int .i64 0)])]) wK (Weak.trans (weak_rever 1 (v := 0) 1 rfl) (weak_rever 2 (v := 0) 1 rfl)) | exact Weak.trans (f2 := [(4, .ptr 4 0), (5, .ptr 5 0), (6, .ptr 6 0)]) (a2 := s1.ahB false s1.ended 0 ++ [(4, .box h1.cs), (5, .box [.v (.int .i64 (i : Int))]), (6, .box [.v (.int .i64 0)])]) wK (Weak.trans (weak_rever 1 (v := 0) 1 rfl) (weak_rever 2 (v := 0) 1 rfl))) ?_
      refine aw_ret ?_
      refine (hret _ _ _ _ _ rfl (rCe sz_28 (rCe sz_3 (rCe sz_29 .nil))) rfl ?_ (by rw [hpost]; exact .box rfl (by cases q1 <;> rfl) (.row rfl (.row rfl .nil))) rfl).1
      simp only [tkD, hu]
      rfl
end Go.Proofs.YthflfnehdlpmdaaDoor
