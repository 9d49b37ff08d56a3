/- Layer 14: the buffer's other functions; the program's Put. No condition. -/
import Derived.Test.YtnjbfiejgiaibaaGreatDoorAkA
import Derived.Test.YtnjbfiejgiaibaaGreatDoorShelf
namespace Go.Proofs.YtnjbfiejgiaibaaGreatDoor
set_option linter.all false
open Go Go.RowKit
set_option maxRecDepth 10000
set_option maxHeartbeats 4000000
theorem bufW : BufW Tryz.prog 39 5 := fun T B b cs s w h hB h1 hl => Any.Buffer_WriteString_at Tryz.lays178 T _ B b 0 cs s w h hB h1 hl
/-- A buffer's cells. -/
abbrev bfC (r v n : Nat) (lr : Int) : List D := [.view r v 0 n, .v (.int .i64 0), .v (.int .i8 lr)]
theorem con_BufLen {l : List UInt8} {lr : Int} (hl : l.length ≤ 9223372036854775807) : Con Tryz.prog 42 [.ref [.sl (bs l), .int .i64 0, .int .i8 lr]] [] 0 (.ret (.v (.int .i64 (l.length : Int)))) [] := by
  have hbl := bs_length l
  refine con_of Tryz.func42 rfl (by show _ ≤ 13; simp) fun X Q hP hnt hnp hret hpan => ?_
  obtain ⟨P0, nt0, w0, K0, S0, np0, pin0, df0⟩ := X
  simp only at hP hnt hnp
  subst hP hnp
  obtain rfl : nt0 = 13 := hnt
  refine aw_region fun K1 hK1 => ?_
  refine aL z_assign ?_
  refine awl_nil (hK1 _ _ ?_)
  clear hK1 K1
  refine aw_regionD mx_all (by kernel_rfl) fun K2 hK2 => ?_
  refine aD z_move ?_
  refine aD z_nilCheckR ?_
  first
    | refine aD (z_fieldAddr fo_80_0) ?_
    | refine aD (z_fieldRef fo_80_0) ?_
    | refine aD (z_fieldV fo_80_0) ?_
  first
    | refine aD (z_load sz_22) ?_
    | refine aD (z_loadRef sz_22) ?_
    | refine aD (z_loadV sz_22) ?_
  first
    | refine aD (z_lenB Tryz.underlying22) ?_
    | refine aD (z_len Tryz.underlying22) ?_
    | refine aD (z_lenV Tryz.underlying22) ?_
  refine aD z_move ?_
  refine aD z_nilCheckR ?_
  first
    | refine aD (z_fieldAddr fo_80_1) ?_
    | refine aD (z_fieldRef fo_80_1) ?_
    | refine aD (z_fieldV fo_80_1) ?_
  first
    | refine aD (z_load sz_3) ?_
    | refine aD (z_loadRef sz_3) ?_
    | refine aD (z_loadV sz_3) ?_
  refine aD z_sub ?_
  refine aD z_assign ?_
  refine awd_nil (by kernel_rfl) (hK2 _ _ ?_)
  clear hK2 K2
  refine aw_ret ?_
  refine (hret _ _ _ _ _ rfl (.tmp rfl .nil) rfl ?_ .nil rfl).1
  rw [← hbl]
  simp [retD]
theorem weak_upB {X : Cx} {v n : Nat} {lr : Int} {l : List UInt8} {fr fr' : Fm} (v' : Nat) (hf : Fm.rever 1 v v' fr = fr') : Weak X fr [(0, .box (bfC 1 v n lr)), (1, .row v 1 5 (bs l))] fr' [(0, .box (bfC 1 v' n lr)), (1, .row v' 1 5 (bs l))] := by
  have h := weak_rever (X := X) (fr := fr) (ah := [(0, .box (bfC 1 v n lr)), (1, .row v 1 5 (bs l))]) 1 (v := v) v' rfl
  rw [hf] at h
  have e : AH.rever 1 v v' [(0, .box (bfC 1 v n lr)), (1, .row v 1 5 (bs l))] = [(0, .box (bfC 1 v' n lr)), (1, .row v' 1 5 (bs l))] := by simp [AH.rever, Ob.rever, D.revers, D.rever]
  rwa [e] at h
theorem con_BufBytes {l : List UInt8} {lr : Int} (v : Nat) : Con Tryz.prog 43 [.ptr 0 0] [(0, .box (bfC 1 v l.length lr)), (1, .row v 1 5 (bs l))] 2 (.ret (.view 1 (v + 1) 0 l.length)) [(0, .box (bfC 1 (v + 1) l.length lr)), (1, .row (v + 1) 1 5 (bs l))] := by
  refine con_of Tryz.func43 rfl (by show _ ≤ 12; simp) fun X Q hP hnt hnp hret hpan => ?_
  obtain ⟨P0, nt0, w0, K0, S0, np0, pin0, df0⟩ := X
  simp only at hP hnt hnp
  subst hP hnp
  obtain rfl : nt0 = 12 := hnt
  refine aw_region fun K1 hK1 => ?_
  refine aL z_assign ?_
  refine awl_nil (hK1 _ _ ?_)
  clear hK1 K1
  refine aw_regionD mx_all (by kernel_rfl) fun K2 hK2 => ?_
  refine aD z_move ?_
  refine aD z_nilCheck ?_
  first
    | refine aD (z_fieldAddr fo_80_0) ?_
    | refine aD (z_fieldRef fo_80_0) ?_
    | refine aD (z_fieldV fo_80_0) ?_
  first
    | refine aD (z_load sz_22) ?_
    | refine aD (z_loadRef sz_22) ?_
    | refine aD (z_loadV sz_22) ?_
  refine aD z_move ?_
  refine aD z_nilCheck ?_
  first
    | refine aD (z_fieldAddr fo_80_1) ?_
    | refine aD (z_fieldRef fo_80_1) ?_
    | refine aD (z_fieldV fo_80_1) ?_
  first
    | refine aD (z_load sz_3) ?_
    | refine aD (z_loadRef sz_3) ?_
    | refine aD (z_loadV sz_3) ?_
  first
    | refine aD (z_slice Tryz.underlying22 sz_5) ?_
    | refine aD (z_sliceV Tryz.underlying22 sz_5) ?_
  refine aD z_assign ?_
  refine awd_nil (by kernel_rfl) (hK2 _ _ ?_)
  clear hK2 K2
  refine aw_weak (fr' := [(2, .view 1 v 0 l.length)]) (ah' := [(0, .box (bfC 1 v l.length lr)), (1, .row v 1 5 (bs l))]) wK (aw_weak (weak_upB (fr' := [(2, .view 1 (v + 1) 0 l.length)]) (v + 1) (by simp [Fm.rever, D.rever])) ?_)
  refine aw_ret ?_
  refine (hret _ _ _ _ _ rfl (.tmp rfl .nil) rfl ?_ (.box rfl rfl (.row rfl .nil)) rfl).1
  rfl
/-- What ref cells hold, one of them exactly. -/
theorem ref_lit {G : Gh} {w : World} {m : Mem} {ys : List V} {u : Value} {i : Nat} {x : V} (h : RepD G w m (.ref ys) u) (hi : ys[i]? = some x) : ∃ v, RepD G w m (.v x) v ∧ RepD G w m (.ref (ys.set i (.lit v))) u := by
  cases h with
  | ref _ g o us hz hc hr =>
    have hlt := (List.getElem?_eq_some_iff.1 hi).1
    refine ⟨us i, .v _ _ (hr i x hi), .ref _ g o us hz (fun j y hj => ?_) (fun j y hj => ?_)⟩
    · by_cases hij : i = j
      · subst hij; exact hc i x hi
      · rw [List.getElem?_set_ne hij] at hj; exact hc j y hj
    · by_cases hij : i = j
      · subst hij
        rw [List.getElem?_set_self hlt] at hj
        injection hj with hj; subst hj
        exact .lit _ (hr i x hi).one
      · rw [List.getElem?_set_ne hij] at hj; exact hr j y hj
def lineF (f : Fd) : List UInt8 := f.n ++ [58, 32] ++ f.v ++ [13, 10]
def askH (a : Ak) : List UInt8 := a.m ++ [32] ++ a.t ++ [32, 72, 84, 84, 80, 47, 49, 46, 49] ++ [13, 10]
def askL (a : Ak) : List UInt8 := if lngM a = true then [99, 111, 110, 116, 101, 110, 116, 45, 108, 101, 110, 103, 116, 104, 58, 32] ++ digs 10 (a.b.length : Int) ++ [13, 10] else []
def askK (a : Ak) (k : Nat) : List UInt8 := askH a ++ (a.fs.take k).flatMap lineF
def askA (a : Ak) : List UInt8 := askH a ++ a.fs.flatMap lineF ++ askL a ++ [13, 10]
def putAE (a : Ak) : Int := if mayM a = true then (if 65536 < (askA a).length then 2 else 0) else 10
def putA (a : Ak) : List UInt8 := if putAE a = 0 then askA a ++ a.b else []
/-- A request of a size that is played. -/
def Ak.small (a : Ak) : Prop := a.m.length + a.t.length ≤ 1000000 ∧ szM a.fs ≤ 1000000 ∧ a.b.length ≤ 1000000
theorem Ak.small.fits {a : Ak} (h : a.small) : a.fits := by
  obtain ⟨h1, h2, h3⟩ := h
  have := szM_len a.fs
  exact ⟨by omega, by omega, by omega, by omega, fun f hf => by have := szM_mem hf; omega⟩
theorem line_len (f : Fd) : (lineF f).length = f.n.length + f.v.length + 4 := by simp [lineF]; omega
theorem lines_len : ∀ l : List Fd, (l.flatMap lineF).length ≤ szM l
  | [] => by simp
  | f :: l => by
    have := lines_len l
    rw [List.flatMap_cons, List.length_append, line_len, szM_cons]; omega
theorem askH_len (a : Ak) : (askH a).length = a.m.length + a.t.length + 12 := by simp [askH]; omega
theorem askK_len (a : Ak) (k : Nat) : (askK a k).length ≤ a.m.length + a.t.length + 12 + szM a.fs := by
  unfold askK
  rw [List.length_append, askH_len]
  have := lines_len (a.fs.take k)
  have := szM_take a.fs k
  omega
theorem askK_succ {a : Ak} {k : Nat} (h : k < a.fs.length) : askK a (k + 1) = askK a k ++ lineF a.fs[k] := by
  unfold askK; rw [take_succ' h, List.flatMap_append]; simp
theorem askA_K (a : Ak) {k : Nat} (h : k = a.fs.length) : askA a = askK a k ++ askL a ++ [13, 10] := by
  subst h; unfold askA askK; rw [List.take_length]
theorem askA_len (a : Ak) : (askA a).length ≤ a.m.length + a.t.length + 14 + szM a.fs + (askL a).length := by
  rw [askA_K a rfl]
  have := askK_len a a.fs.length
  rw [List.length_append, List.length_append]
  simp only [List.length_cons, List.length_nil]; omega
@[local simp] theorem askH_s (a : Ak) : askH a = a.m ++ 32 :: (a.t ++ [32, 72, 84, 84, 80, 47, 49, 46, 49, 13, 10]) := by simp [askH]
@[local simp] theorem lineF_s (f : Fd) : lineF f = f.n ++ 58 :: 32 :: (f.v ++ [13, 10]) := by simp [lineF]
theorem askK_0 (a : Ak) : askK a 0 = askH a := by unfold askK; rw [List.take_zero]; simp
theorem lentB {r v : Nat} {l : List UInt8} {lr : Int} : Lent r v (bs l) (bfC r v l.length lr) (([.sl (bs l), .int .i64 0, .int .i8 lr] : List V).map .v) :=
  .view (by have := cut_all (bs l); rwa [bs_length] at this) (.same rfl (.same rfl .nil))
theorem ev_at' {t : Nat} {d : D} (f0 : Nat → D) (h : f0 t = d) : Ev f0 (.tmp t) d := fun f' hf G w m a hF => by
  have h1 := hF t
  rw [hf t rfl, h] at h1
  exact h1
def clL (a : Ak) : List UInt8 := [99, 111, 110, 116, 101, 110, 116, 45, 108, 101, 110, 103, 116, 104, 58, 32] ++ digs 10 (a.b.length : Int) ++ [13, 10]
@[local simp] theorem clL_s (a : Ak) : clL a = 99 :: 111 :: 110 :: 116 :: 101 :: 110 :: 116 :: 45 :: 108 :: 101 :: 110 :: 103 :: 116 :: 104 :: 58 :: 32 :: (digs 10 (a.b.length : Int) ++ [13, 10]) := by simp [clL]
theorem askL_yes {a : Ak} (h : lngM a = true) : askL a = clL a := by unfold askL; rw [if_pos h]; rfl
theorem askL_no {a : Ak} (h : lngM a = false) : askL a = [] := by unfold askL; rw [if_neg (by rw [h]; decide)]
theorem clL_len (a : Ak) : (clL a).length = 18 + (digs 10 (a.b.length : Int)).length := by simp; omega
theorem con_PutA {a : Ak} (ha : a.small) : Con Tryz.prog 15 [.agg a.cs] [] 0 (.ret (.tup [.view 0 0 0 (putA a).length, .v (.int .i64 (putAE a))])) [(0, .row 0 1 5 (bs (putA a)))] := by
  have hfit := ha.fits
  obtain ⟨h1, h2, h3⟩ := ha
  have hfl := fdV_len a.fs
  have hll := szM_len a.fs
  have hdl := digs_length 10 (by decide) (a.b.length : Int) (by omega)
  refine con_of Tryz.func15 rfl (by show _ ≤ 50; simp) fun X Q hP hnt hnp hret hpan => ?_
  obtain ⟨P0, nt0, w0, K0, S0, np0, pin0, df0⟩ := X
  simp only at hP hnt hnp
  subst hP hnp
  obtain rfl : nt0 = 50 := hnt
  refine aw_region fun K1 hK1 => ?_
  refine aL (z_box 5) ?_
  refine aL z_assign ?_
  refine aL z_assign ?_
  refine awl_nil (hK1 _ _ ?_)
  clear hK1 K1
  refine aw_seq fun K2 hK2 => ?_
  refine aw_region fun K3 hK3 => ?_
  first
    | refine aL (z_load sz_26) ?_
    | refine aL (z_loadRef sz_26) ?_
    | refine aL (z_loadV sz_26) ?_
  refine aL (z_call0 (eC .nil) en_38 (con_may hfit)) ?_
  refine aL z_not ?_
  refine awl_nil (hK3 _ _ ?_)
  clear hK3 K3
  refine aC (fun r1 c1 => ?_) (fun r1 c1 => ?_)
  · refine aw_region fun K4 hK4 => ?_
    refine aL z_assign ?_
    refine aL z_assign ?_
    refine awl_nil (hK4 _ _ ?_)
    clear hK4 K4
    first
      | (have e1 : putAE a = 10 := (by unfold putAE; rw [c1]; rfl)
         have e2 : putA a = [] := (by unfold putA; rw [e1]; rfl)
         refine aw_weak (fr' := [(2, NIL), (3, .v (.int .i64 10))]) (ah' := []) wK (aw_weak (weak_nil (t := 2) 0 1 5 (by decide) (Nat.zero_le _) rfl rfl) ?_)
         rw [e1, e2] at hret)
      | (have hA := askA_K a rfl
         have e1 : putAE a = 2 := (by unfold putAE; rw [if_pos (by simpa using c1), hA, if_pos (by omega)])
         have e2 : putA a = [] := (by unfold putA; rw [e1]; rfl)
         refine aw_weak (fr' := [(2, NIL), (3, .v (.int .i64 2))]) (ah' := []) wK (aw_weak (weak_nil (t := 2) 0 1 5 (by decide) (Nat.zero_le _) rfl rfl) ?_)
         rw [e1, e2] at hret)
      | (have hA := askA_K a rfl
         have e1 : putAE a = 0 := (by unfold putAE; rw [if_pos (by simpa using c1), hA, if_neg (by omega)])
         have e2 : putA a = askK a a.fs.length ++ askL a ++ [13, 10] ++ a.b := (by unfold putA; rw [if_pos e1, hA])
         rw [e1, e2] at hret
         refine aw_weak (fr' := [(2, .view 0 (0 + 1 + 1 + 1) 0 (askK a a.fs.length ++ askL a ++ [13, 10] ++ a.b).length), (3, .v (.int .i64 0))]) (ah' := [(0, .row (0 + 1 + 1 + 1) 1 5 (bs (askK a a.fs.length ++ askL a ++ [13, 10] ++ a.b)))]) wK (aw_weak (fr' := [(2, .view 0 0 0 (askK a a.fs.length ++ askL a ++ [13, 10] ++ a.b).length), (3, .v (.int .i64 0))]) (ah' := [(0, .row 0 1 5 (bs (askK a a.fs.length ++ askL a ++ [13, 10] ++ a.b)))]) (Weak.trans (weak_rever 0 0 rfl) wK) ?_))
    refine aw_ret ?_
    first | refine from_ret rfl rfl ?_ | refine from_ret rfl (free_row _) ?_ | skip
    refine (hret _ _ _ _ _ rfl (.tmp rfl (.tmp rfl .nil)) rfl ?_ (.row rfl .nil) rfl).1
    all_goals rfl
  · refine aw_skip ?_
    refine hK2 _ _ ?_
    clear hK2
    refine aw_from rfl (fun Y G w a0 hS hY => ?_)
    have hub : RepD (gAll w) w (look []) (.ref a.vs) (a0.tmps.getD 1 undef) := all_refV hS.ok (show RepD G w _ (.ptr 5 0) _ from hS.fr 1) rfl
    obtain ⟨u2, hu2, hul⟩ := ref_lit (i := 2) (x := .sl (fdV a.fs)) hub rfl
    have ho1 : (a0.tmps.getD 1 undef).oneCell' = true := hub.one rfl
    refine ⟨[(1, .v (.lit (a0.tmps.getD 1 undef)))], frok_cons (all_lit ho1) frok_nil, ?_⟩
    generalize a0.tmps.getD 1 undef = u1 at hub hul ho1 ⊢
    have hY2 := hY
    obtain ⟨PY, nY, wY, KY, SY, mY, pY, dY⟩ := Y
    obtain ⟨e1, e2, e3, e4, e5, e6, e7⟩ := hY
    simp only at e1 e2 e3 e4 e5 e6 e7
    subst e1 e2 e3 e6
    refine aw_region fun K5 hK5 => ?_
    refine aL (z_alloc 1 zc_80 zl_80) ?_
    refine awl_nil (hK5 _ _ ?_)
    clear hK5 K5
    refine aw_weak (weak_nilB 1 0 0 1 5 rfl rfl rfl (by decide) (by exact Nat.zero_le _) rfl) ?_
    refine aw_weak (fr' := [(1, .v (.lit u1)), (4, .ptr 1 0)]) (ah' := [(1, .box (bfC 0 0 ([] : List UInt8).length 0)), (0, .row 0 1 5 (bs []))]) wK ?_
    refine aw_region fun K6 hK6 => ?_
    refine aL (stepU_lit hY2 1 hub (z_fieldRef fo_26_0 (hx := ev_fput))) ?_
    first
      | refine aL (z_load sz_9) ?_
      | refine aL (z_loadRef sz_9) ?_
      | refine aL (z_loadV sz_9) ?_
    refine aL z_addS ?_
    refine aL (stepU_lit hY2 1 hub (z_fieldRef fo_26_1 (hx := ev_fput))) ?_
    first
      | refine aL (z_load sz_9) ?_
      | refine aL (z_loadRef sz_9) ?_
      | refine aL (z_loadV sz_9) ?_
    refine aL z_addS ?_
    refine aL z_addS ?_
    refine awl_weak (fr' := [(1, .v (.lit u1)), (4, .ptr 1 0), (16, .v (.str (askH a)))]) (ah' := [(1, .box (bfC 0 0 ([] : List UInt8).length 0)), (0, .row 0 1 5 (bs []))]) wK ?_
    refine awl_callW hY2 bufW en_39 (s := askH a) (by rw [askH_len]; simp only [List.length_nil]; omega) (fun lr1 => ?_)
    refine awl_nil (hK6 _ _ ?_)
    clear hK6 K6
    refine aw_seq fun K7 hK7 => ?_
    refine aw_region fun K8 hK8 => ?_
    refine aL (stepU_lit hY2 1 hul (z_fieldRef fo_26_2 (hx := ev_fput))) ?_
    first
      | refine aL (z_load sz_24) ?_
      | refine aL (z_loadRef sz_24) ?_
      | refine aL (z_loadV sz_24) ?_
    refine aL (stepU_lit hY2 19 hu2 (z_len Tryz.underlying24 (hx := ev_fput))) ?_
    refine aL z_move ?_
    refine awl_nil (hK8 _ _ ?_)
    clear hK8 K8
    refine aw_block ?_
    refine aw_loop (α := {x : Nat × Int // x.1 ≤ a.fs.length}) (fun x => ([(1, .v (.lit u1)), (4, .ptr 1 0), (19, .v (.lit u2)), (20, .v (.int .i64 (a.fs.length : Int))), (21, .v (.int .i64 (x.1.1 : Int)))], [(1, .box (bfC 0 0 (askK a x.1.1).length x.1.2)), (0, .row 0 1 5 (bs (askK a x.1.1)))])) (fun x => a.fs.length - x.1.1) ⟨(0, lr1), Nat.zero_le _⟩ ?_ ?_
    · dsimp only
      rw [hfl, askK_0]
      exact Weak.trans (weak_rever 0 0 rfl) wK
    · rintro ⟨⟨k, lr⟩, hk⟩ K9 hK9
      dsimp only
      dsimp only at hk
      refine aw_region fun K10 hK10 => ?_
      refine aL z_lss ?_
      refine awl_nil (hK10 _ _ ?_)
      clear hK10 K10
      refine aw_seq fun K11 hK11 => ?_
      refine aC (fun r2 c2 => ?_) (fun r2 c2 => ?_)
      · refine aw_skip ?_
        refine hK11 _ _ ?_
        clear hK11
        refine aw_seq fun K12 hK12 => ?_
        refine aw_block ?_
        refine aw_region fun K13 hK13 => ?_
        have hlt : k < a.fs.length := by omega
        have hi := fdV_get hlt
        have hK1 := askK_len a k
        have hsz := szM_at hlt
        refine aL (stepU_lit hY2 19 hu2 (z_indexAddr Tryz.underlying24 sz_46 (hx := ev_fput) (hy := ev_fput_ne (by decide) fun f0 h => ev_at' f0 h))) ?_
        first
          | refine aL (z_load sz_46) ?_
          | refine aL (z_loadRef sz_46) ?_
          | refine aL (z_loadV sz_46) ?_
        refine aL (z_alloc 6 zc_46 zl_46) ?_
        refine aL (z_store sz_46) ?_
        refine awl_nil (hK13 _ _ ?_)
        clear hK13 K13
        refine aw_region_last ?_
        first
          | refine aL (z_fieldAddr fo_46_0) ?_
          | refine aL (z_fieldRef fo_46_0) ?_
          | refine aL (z_fieldV fo_46_0) ?_
        first
          | refine aL (z_load sz_9) ?_
          | refine aL (z_loadRef sz_9) ?_
          | refine aL (z_loadV sz_9) ?_
        refine aL z_addS ?_
        first
          | refine aL (z_fieldAddr fo_46_1) ?_
          | refine aL (z_fieldRef fo_46_1) ?_
          | refine aL (z_fieldV fo_46_1) ?_
        first
          | refine aL (z_load sz_9) ?_
          | refine aL (z_loadRef sz_9) ?_
          | refine aL (z_loadV sz_9) ?_
        refine aL z_addS ?_
        refine aL z_addS ?_
        refine awl_weak (fr' := [(1, .v (.lit u1)), (4, .ptr 1 0), (19, .v (.lit u2)), (20, .v (.int .i64 (a.fs.length : Int))), (21, .v (.int .i64 (k : Int))), (31, .v (.str (lineF a.fs[k])))]) (ah' := [(1, .box (bfC 0 0 (askK a k).length lr)), (0, .row 0 1 5 (bs (askK a k)))]) wK ?_
        refine awl_callW hY2 bufW en_39 (s := lineF a.fs[k]) (by rw [line_len]; omega) (fun lr2 => ?_)
        refine awl_nil ?_
        refine hK12 _ _ ?_
        clear hK12
        refine aw_region_last ?_
        refine aL z_add ?_
        refine aL z_move ?_
        refine awl_nil ?_
        refine hK9 _ _ ⟨(k + 1, lr2), by dsimp only; omega⟩ (by dsimp only; omega) ?_
        dsimp only
        rw [askK_succ hlt]
        exact Weak.trans (weak_rever 0 0 rfl) wK
      · refine aw_exit ?_
        refine hK7 _ _ ?_
        clear hK7
        refine aw_cutE (α := Int) (fun lrz => (([(1, .v (.lit u1)), (4, .ptr 1 0)], [(1, .box (bfC 0 0 (askK a a.fs.length ++ askL a).length lrz)), (0, .row 0 1 5 (bs (askK a a.fs.length ++ askL a)))]))) (fun K14 hK14 => ?_) ?_
        rotate_left
        focus
          rintro lrz
          dsimp only
          refine aw_region fun K15 hK15 => ?_
          have hK1 := askK_len a a.fs.length
          have hL1 : (askL a).length ≤ 40 := (by unfold askL; split; rw [show [99, 111, 110, 116, 101, 110, 116, 45, 108, 101, 110, 103, 116, 104, 58, 32] ++ digs 10 (a.b.length : Int) ++ [13, 10] = clL a from rfl, clL_len]; omega; simp)
          refine awl_callW hY2 bufW en_39 (s := [13, 10]) (by rw [List.length_append]; simp only [List.length_cons, List.length_nil]; omega) (fun lr6 => ?_)
          refine awl_nil (hK15 _ _ ?_)
          clear hK15 K15
          refine aw_seq fun K16 hK16 => ?_
          refine aw_region fun K17 hK17 => ?_
          refine aL (z_callF 1 0 en_42 (con_BufLen (l := askK a a.fs.length ++ askL a ++ [13, 10]) (lr := lr6) (by rw [List.length_append, List.length_append]; simp only [List.length_cons, List.length_nil]; omega)) lentB) ?_
          refine aL z_gtr ?_
          refine awl_nil (hK17 _ _ ?_)
          clear hK17 K17
          refine aC (fun r3 c3 => ?_) (fun r3 c3 => ?_)
          · refine aw_region fun K18 hK18 => ?_
            refine aL z_assign ?_
            refine aL z_assign ?_
            refine awl_nil (hK18 _ _ ?_)
            clear hK18 K18
            first
              | (have e1 : putAE a = 10 := (by unfold putAE; rw [c1]; rfl)
                 have e2 : putA a = [] := (by unfold putA; rw [e1]; rfl)
                 refine aw_weak (fr' := [(2, NIL), (3, .v (.int .i64 10))]) (ah' := []) wK (aw_weak (weak_nil (t := 2) 0 1 5 (by decide) (Nat.zero_le _) rfl rfl) ?_)
                 rw [e1, e2] at hret)
              | (have hA := askA_K a rfl
                 have e1 : putAE a = 2 := (by unfold putAE; rw [if_pos (by simpa using c1), hA, if_pos (by omega)])
                 have e2 : putA a = [] := (by unfold putA; rw [e1]; rfl)
                 refine aw_weak (fr' := [(2, NIL), (3, .v (.int .i64 2))]) (ah' := []) wK (aw_weak (weak_nil (t := 2) 0 1 5 (by decide) (Nat.zero_le _) rfl rfl) ?_)
                 rw [e1, e2] at hret)
              | (have hA := askA_K a rfl
                 have e1 : putAE a = 0 := (by unfold putAE; rw [if_pos (by simpa using c1), hA, if_neg (by omega)])
                 have e2 : putA a = askK a a.fs.length ++ askL a ++ [13, 10] ++ a.b := (by unfold putA; rw [if_pos e1, hA])
                 rw [e1, e2] at hret
                 refine aw_weak (fr' := [(2, .view 0 (0 + 1 + 1 + 1) 0 (askK a a.fs.length ++ askL a ++ [13, 10] ++ a.b).length), (3, .v (.int .i64 0))]) (ah' := [(0, .row (0 + 1 + 1 + 1) 1 5 (bs (askK a a.fs.length ++ askL a ++ [13, 10] ++ a.b)))]) wK (aw_weak (fr' := [(2, .view 0 0 0 (askK a a.fs.length ++ askL a ++ [13, 10] ++ a.b).length), (3, .v (.int .i64 0))]) (ah' := [(0, .row 0 1 5 (bs (askK a a.fs.length ++ askL a ++ [13, 10] ++ a.b)))]) (Weak.trans (weak_rever 0 0 rfl) wK) ?_))
            refine aw_ret ?_
            first | refine from_ret rfl rfl ?_ | refine from_ret rfl (free_row _) ?_ | skip
            refine (hret _ _ _ _ _ rfl (.tmp rfl (.tmp rfl .nil)) rfl ?_ (.row rfl .nil) rfl).1
            all_goals rfl
          · refine aw_skip ?_
            refine hK16 _ _ ?_
            clear hK16
            refine aw_region fun K19 hK19 => ?_
            refine aL (stepU_lit hY2 1 hub (z_fieldRef fo_26_3 (hx := ev_fput))) ?_
            first
              | refine aL (z_load sz_9) ?_
              | refine aL (z_loadRef sz_9) ?_
              | refine aL (z_loadV sz_9) ?_
            refine awl_weak (fr' := [(4, .ptr 1 0), (47, .v (.str a.b))]) (ah' := [(1, .box (bfC 0 (0 + 1) (askK a a.fs.length ++ askL a ++ [13, 10]).length lr6)), (0, .row (0 + 1) 1 5 (bs (askK a a.fs.length ++ askL a ++ [13, 10])))]) wK ?_
            refine awl_callW hY2 bufW en_39 (s := a.b) (by rw [List.length_append, List.length_append]; simp only [List.length_cons, List.length_nil]; omega) (fun lr7 => ?_)
            refine awl_nil (hK19 _ _ ?_)
            clear hK19 K19
            refine aw_region fun K20 hK20 => ?_
            refine aL (z_callG [1, 0] (eC .nil) en_43 (con_BufBytes (l := askK a a.fs.length ++ askL a ++ [13, 10] ++ a.b) (lr := lr7) (0 + 1 + 1)) (pA (pA .nil))) ?_
            refine aL z_assign ?_
            refine aL z_assign ?_
            refine awl_nil (hK20 _ _ ?_)
            clear hK20 K20
            first
              | (have e1 : putAE a = 10 := (by unfold putAE; rw [c1]; rfl)
                 have e2 : putA a = [] := (by unfold putA; rw [e1]; rfl)
                 refine aw_weak (fr' := [(2, NIL), (3, .v (.int .i64 10))]) (ah' := []) wK (aw_weak (weak_nil (t := 2) 0 1 5 (by decide) (Nat.zero_le _) rfl rfl) ?_)
                 rw [e1, e2] at hret)
              | (have hA := askA_K a rfl
                 have e1 : putAE a = 2 := (by unfold putAE; rw [if_pos (by simpa using c1), hA, if_pos (by omega)])
                 have e2 : putA a = [] := (by unfold putA; rw [e1]; rfl)
                 refine aw_weak (fr' := [(2, NIL), (3, .v (.int .i64 2))]) (ah' := []) wK (aw_weak (weak_nil (t := 2) 0 1 5 (by decide) (Nat.zero_le _) rfl rfl) ?_)
                 rw [e1, e2] at hret)
              | (have hA := askA_K a rfl
                 have e1 : putAE a = 0 := (by unfold putAE; rw [if_pos (by simpa using c1), hA, if_neg (by omega)])
                 have e2 : putA a = askK a a.fs.length ++ askL a ++ [13, 10] ++ a.b := (by unfold putA; rw [if_pos e1, hA])
                 rw [e1, e2] at hret
                 refine aw_weak (fr' := [(2, .view 0 (0 + 1 + 1 + 1) 0 (askK a a.fs.length ++ askL a ++ [13, 10] ++ a.b).length), (3, .v (.int .i64 0))]) (ah' := [(0, .row (0 + 1 + 1 + 1) 1 5 (bs (askK a a.fs.length ++ askL a ++ [13, 10] ++ a.b)))]) wK (aw_weak (fr' := [(2, .view 0 0 0 (askK a a.fs.length ++ askL a ++ [13, 10] ++ a.b).length), (3, .v (.int .i64 0))]) (ah' := [(0, .row 0 1 5 (bs (askK a a.fs.length ++ askL a ++ [13, 10] ++ a.b)))]) (Weak.trans (weak_rever 0 0 rfl) wK) ?_))
            refine aw_ret ?_
            first | refine from_ret rfl rfl ?_ | refine from_ret rfl (free_row _) ?_ | skip
            refine (hret _ _ _ _ _ rfl (.tmp rfl (.tmp rfl .nil)) rfl ?_ (.row rfl .nil) rfl).1
            all_goals rfl
        refine aw_region fun K21 hK21 => ?_
        refine aL (stepU_lit hY2 1 hub (z_loadRef sz_26 (hx := ev_fput))) ?_
        refine aL (z_call0 (eC .nil) en_40 (con_lengthy (a := a))) ?_
        refine awl_nil (hK21 _ _ ?_)
        clear hK21 K21
        refine aC (fun r4 c4 => ?_) (fun r4 c4 => ?_)
        · refine aw_region_last ?_
          refine aL (stepU_lit hY2 1 hub (z_fieldRef fo_26_3 (hx := ev_fput))) ?_
          first
            | refine aL (z_load sz_9) ?_
            | refine aL (z_loadRef sz_9) ?_
            | refine aL (z_loadV sz_9) ?_
          refine aL (z_lenS Tryz.underlying9) ?_
          refine aL (z_call0 (eC .nil) en_41 (con_Digits (n := (a.b.length : Int)) (by omega))) ?_
          refine aL z_addS ?_
          refine aL z_addS ?_
          have hK1 := askK_len a k
          refine awl_weak (fr' := [(1, .v (.lit u1)), (4, .ptr 1 0), (41, .v (.str (clL a)))]) (ah' := [(1, .box (bfC 0 0 (askK a k).length lr)), (0, .row 0 1 5 (bs (askK a k)))]) wK ?_
          refine awl_callW hY2 bufW en_39 (s := clL a) (by rw [clL_len]; omega) (fun lr3 => ?_)
          refine awl_nil ?_
          refine hK14 _ _ (by first | exact lr3 | exact lr) ?_
          have hke : k = a.fs.length := by omega
          subst hke
          first
            | (rw [askL_yes c4]; exact Weak.trans (weak_rever 0 0 rfl) wK)
            | (rw [askL_no c4, List.append_nil]; exact wK)
        · refine aw_skip ?_
          refine hK14 _ _ (by first | exact lr3 | exact lr) ?_
          have hke : k = a.fs.length := by omega
          subst hke
          first
            | (rw [askL_yes c4]; exact Weak.trans (weak_rever 0 0 rfl) wK)
            | (rw [askL_no c4, List.append_nil]; exact wK)
/-- Put, what it wrote settled. -/
theorem con_Put {a : Ak} (ha : a.small) : Con Tryz.prog 15 [.agg a.cs] [] 0 (.ret (.tup [.v (.sl (bs (putA a))), .v (.int .i64 (putAE a))])) [] :=
  con_weak (con_PutA ha) fun X _ => weak_all (some (0, 0, bs (putA a))) ⟨rfl, _, _, rfl⟩ .nil (.cons rfl (.tup (.cons (.view rfl (by simp)) (.cons (.keep rfl) .nil))) .nil)
end Go.Proofs.YtnjbfiejgiaibaaGreatDoor
