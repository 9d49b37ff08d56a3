/- Layer 6: a payload's fields. No condition. -/
import Derived.Test.YtigodfnckjidoaaFrU
import Derived.Test.YtigodfnckjidoaaA3
namespace Go.Proofs.Ytigodfnckjidoaa
set_option linter.all false
open Go Go.RowKit
set_option maxRecDepth 10000
set_option maxHeartbeats 4000000
def openP (f : Fr) (p : List UInt8) : Int := if bitB f.fl 8 then ((p.getD 0 0).toNat : Int) else f.pad
def openG (f : Fr) (p : List UInt8) : Fr := { f with pad := openP f p }
def openQ (f : Fr) (p : List UInt8) : List UInt8 := if bitB f.fl 8 then p.drop 1 else p
def openK (f : Fr) (p : List UInt8) : Fr := { f with pad := openP f p, sole := if f.ty = 1 ∧ bitB f.fl 32 = true then decide (2147483647 < at4 (openQ f p) 0) else f.sole, dep := if f.ty = 1 ∧ bitB f.fl 32 = true then lowM (at4 (openQ f p) 0) else f.dep, wt := if f.ty = 1 ∧ bitB f.fl 32 = true then (((openQ f p).getD 4 0).toNat : Int) else f.wt }
theorem openK_yes {f : Fr} {p : List UInt8} (h : f.ty = 1 ∧ bitB f.fl 32 = true) : openK f p = placeM (openG f p) (openQ f p) := by
  simp only [openK, if_pos h]; rfl
theorem openK_no {f : Fr} {p : List UInt8} (h : ¬ (f.ty = 1 ∧ bitB f.fl 32 = true)) : openK f p = openG f p := by
  simp only [openK, if_neg h]; rfl
def openR (f : Fr) (p : List UInt8) : List UInt8 := if f.ty = 1 ∧ bitB f.fl 32 = true then (openQ f p).drop 5 else openQ f p
theorem openR_yes {f : Fr} {p : List UInt8} (h : f.ty = 1 ∧ bitB f.fl 32 = true) : openR f p = (openQ f p).drop 5 := if_pos h
theorem openR_no {f : Fr} {p : List UInt8} (h : ¬ (f.ty = 1 ∧ bitB f.fl 32 = true)) : openR f p = openQ f p := if_neg h
theorem openQ_yes {f : Fr} {p : List UInt8} (h : bitB f.fl 8 = true) : openQ f p = p.drop 1 := if_pos h
theorem openQ_no {f : Fr} {p : List UInt8} (h : bitB f.fl 8 = false) : openQ f p = p := if_neg (by simp [h])
theorem openG_yes {f : Fr} {p : List UInt8} (h : bitB f.fl 8 = true) : openG f p = { f with pad := ((p.getD 0 0).toNat : Int) } := by unfold openG openP; rw [if_pos h]
theorem openG_no {f : Fr} {p : List UInt8} (h : bitB f.fl 8 = false) : openG f p = f := by unfold openG openP; rw [if_neg (by simp [h])]
theorem openM_eq (f : Fr) (p : List UInt8) : openM f p =
  if f.ty = 0 ∨ f.ty = 1 then (if ((openR f p).length : Int) < (openK f p).pad then none else some { openK f p with data := (openR f p).take ((openR f p).length - (openK f p).pad.toNat) })
  else if f.ty = 2 then some (placeM f p)
  else if f.ty = 3 then some { f with code := at4 p 0 }
  else if f.ty = 8 then some { f with inc := lowM (at4 p 0) }
  else if f.ty = 4 then some { f with sets := setsM (p.length / 6) p }
  else if f.ty = 7 then some { f with last := lowM (at4 p 0), code := at4 p 4, data := p.drop 8 }
  else some { f with data := p } := by
  by_cases h : f.ty = 1 ∧ bitB f.fl 32 = true
  · rw [openK_yes h, openR, if_pos h]
    unfold openM openG openP openQ
    simp only [if_pos h]
    by_cases h8 : bitB f.fl 8 = true <;> simp only [h8, if_true, if_false, Bool.false_eq_true, reduceIte]
  · rw [openK_no h, openR, if_neg h]
    unfold openM openG openP openQ
    simp only [if_neg h]
    by_cases h8 : bitB f.fl 8 = true <;> simp only [h8, if_true, if_false, Bool.false_eq_true, reduceIte]
/-- Ahead of the data. -/
def openZ (f : Fr) (p : List UInt8) : Fr := if f.ty = 0 ∨ f.ty = 1 then openK f p else if f.ty = 7 then { f with last := lowM (at4 p 0), code := at4 p 4 } else f
def openD (f : Fr) (p : List UInt8) : List UInt8 := if f.ty = 0 ∨ f.ty = 1 then (openR f p).take ((openR f p).length - (openK f p).pad.toNat) else if f.ty = 7 then p.drop 8 else p
theorem openZ_1 {f : Fr} {p : List UInt8} (h : f.ty = 0 ∨ f.ty = 1) : openZ f p = openK f p ∧ openD f p = (openR f p).take ((openR f p).length - (openP f p).toNat) := ⟨if_pos h, if_pos h⟩
theorem openZ_7 {f : Fr} {p : List UInt8} (h : f.ty = 7) : openZ f p = { f with last := lowM (at4 p 0), code := at4 p 4 } ∧ openD f p = p.drop 8 := by simp [openZ, openD, h]
theorem openZ_n {f : Fr} {p : List UInt8} (h0 : ¬ f.ty = 0) (h1 : ¬ f.ty = 1) (h : ¬ f.ty = 7) : openZ f p = f ∧ openD f p = p := by simp [openZ, openD, h, h0, h1]
def openB (f : Fr) (p : List UInt8) : Bool := (openM f p).isSome
def openL (f : Fr) (p : List UInt8) : Fr := (openM f p).getD (openK f p)
theorem openK_sets (f : Fr) (p : List UInt8) : (openK f p).sets = f.sets := rfl
theorem setsM_succ : ∀ (k : Nat) (p : List UInt8), setsM (k + 1) p = setsM k p ++ [((beN ((p.drop (6 * k)).take 2) : Int), (at4 p (6 * k + 2) : Int))]
  | 0, p => by simp [setsM]
  | k + 1, p => by
    rw [setsM, setsM_succ k (p.drop 6), setsM]
    simp only [List.cons_append, List.drop_drop, at4]
    rw [show 6 + 6 * k = 6 * (k + 1) from by omega, show 6 + (6 * k + 2) = 6 * (k + 1) + 2 from by omega]
@[simp] theorem setV_len (l : List (Int × Int)) : (setV l).length = l.length := by simp [setV]
theorem setV_app (l r : List (Int × Int)) : setV l ++ setV r = setV (l ++ r) := by simp [setV]
@[simp] theorem setsM_len : ∀ (k : Nat) (p : List UInt8), (setsM k p).length = k
  | 0, _ => rfl
  | k + 1, p => by simp [setsM, setsM_len k]
theorem boxW {X : Cx} {fr fr' : Fm} {ah : AH} {cs es es' : List D} (s : Sid) (hs : SidOk ah [(0, .box es')] s) (h : look ah 0 = some (.box cs)) (hd : DWs s (dom [(0, .box es')]) cs es) (he : es = es') (hf : FW fr s (dom [(0, .box es')]) fr') : Weak X fr ah fr' [(0, .box es')] := by
  subst he
  exact weak_all s hs (.box h hd .nil) hf
abbrev NIL : D := .v (.lit (.slice none 0 0))
theorem con_open {f : Fr} {p : List UInt8} (h0 : 0 ≤ f.fl) (h255 : f.fl ≤ 255) (hm : missB f.ty f.fl p.length = false) (hl : p.length ≤ 1000000000) (hs : f.sets = []) (hp0 : f.pad = 0) :
    Con Try.prog 40 [.ptr 0 0, .v (.sl (bs p))] [(0, .box (f.csX NIL))] 1 (.ret (.v (.bool (openB f p)))) [(0, .box (openL f p).cs)] := by
  obtain ⟨e8, e32, e1⟩ := flags f.fl h0 h255
  have hlow := low_of (at4 p (Int.toNat 0)) (at4_le _ _).1 (at4_le _ _).2
  have hah : f.ty = 0 ∨ f.ty = 1 → (if bitB f.fl 8 then 1 else 0) + (if f.ty = 1 ∧ bitB f.fl 32 = true then 5 else 0) ≤ p.length := fun h => by
    simp only [missB, if_pos h, decide_eq_false_iff_not, aheadM] at hm
    revert hm
    by_cases h8' : bitB f.fl 8 = true <;> by_cases h32 : f.ty = 1 ∧ bitB f.fl 32 = true <;> simp [h8', h32] <;> omega
  have hi0 : 0 < p.length → (bs p)[0]? = some [V.int .u8 ((p.getD 0 0).toNat : Int)] := fun h => bs_get (by rw [List.getD_eq_getElem?_getD, List.getElem?_eq_getElem (by omega)]; rfl)
  have hq1 : f.ty = 0 ∨ f.ty = 1 → bitB f.fl 8 = true → 1 ≤ p.length := fun h h8 => by
    have := hah h
    rw [if_pos h8] at this
    omega
  have h2 : f.ty = 2 → 5 ≤ p.length := fun h => by simp [missB, h] at hm; omega
  have h3 : f.ty = 3 → 4 ≤ p.length := fun h => by simp [missB, h] at hm; omega
  have h8 : f.ty = 8 → 4 ≤ p.length := fun h => by simp [missB, h] at hm; omega
  have h7 : f.ty = 7 → 8 ≤ p.length := fun h => by simp [missB, h] at hm; omega
  have h4 : f.ty = 4 → p.length % 6 = 0 := fun h => by simp [missB, h] at hm; omega
  have hu8 : ∀ b : UInt8, (b.toNat : Int) ≤ 255 := fun b => by have := b.toNat_lt; omega
  have hpad : 0 ≤ openP f p ∧ openP f p ≤ 255 := by
    unfold openP; split <;> simp [hp0] <;> (try exact hu8 _)
  have hk0 : (openK f p).sets = [] := hs
  have hkp : (openK f p).pad = openP f p := rfl
  have hGt : (openG f p).ty = f.ty := rfl
  have hrl : (openR f p).length ≤ p.length := by unfold openR openQ; split <;> split <;> simp <;> omega
  have hq5 : f.ty = 1 ∧ bitB f.fl 32 = true → 5 ≤ (openQ f p).length := fun h => by
    have := hah (.inr h.1)
    rw [if_pos h] at this
    revert this
    unfold openQ; split <;> simp <;> omega
  have hz0 : (openZ f p).sets = [] := by unfold openZ; split; · rw [openK_sets, hs]
                                         split <;> exact hs
  refine con_of Try.func40 rfl (by show _ ≤ 134; simp) fun X Q hP hnt hnp hret hpan => ?_
  obtain ⟨P0, nt0, w0, K0, S0, np0, pin0, df0⟩ := X
  simp only at hP hnt hnp
  subst hP hnp
  obtain rfl : nt0 = 134 := hnt
  refine aw_region fun K1 hK1 => ?_
  refine aL z_assign ?_
  refine awl_nil (hK1 _ _ ?_)
  clear hK1 K1
  refine aw_cutE (α := PLift (openM f p = some { openZ f p with data := openD f p })) (fun z => (([(0, .ptr 0 0), (1, .v (.sl (bs (openD f p))))], [(0, .box ((openZ f p).csX NIL))]))) (fun K2 hK2 => ?_) ?_
  rotate_left
  focus
    rintro ⟨hz⟩
    dsimp only
    refine aw_region fun K3 hK3 => ?_
    refine aL z_move ?_
    refine aL z_move ?_
    first
      | refine aL (z_convS Try.underlying24 Try.underlying5 Try.underlying9) ?_
      | refine aL (z_convSV Try.underlying24 Try.underlying5 Try.underlying9) ?_
    refine aL z_nilCheck ?_
    first
      | refine aL (z_fieldAddr fo_40_3) ?_
      | refine aL (z_fieldRef fo_40_3) ?_
      | refine aL (z_fieldV fo_40_3) ?_
    refine aL (z_store sz_9) ?_
    refine awl_nil (hK3 _ _ ?_)
    clear hK3 K3
    refine aw_region fun K4 hK4 => ?_
    refine aL z_assign ?_
    refine awl_nil (hK4 _ _ ?_)
    clear hK4 K4
    first
      | refine aw_weak (boxW (es' := (openL f p).cs) (fr' := [(4, .v (.bool (openB f p)))]) none trivial rfl (by (repeat (first | apply DWs.cons .nil | apply DWs.cons (.keep rfl))); exact .nil) (by first | (simp [openL, hz, Fr.cs, setV, hz0]; done) | (simp [openL, openM_eq, Fr.cs, setV, placeM, *]; done)) (.cons rfl (.eq (d_bool (by first | (simp [openB, hz]; done) | (simp [openB, openM_eq, *]; done))) (.keep rfl)) .nil)) ?_
      | refine aw_weak (boxW (es' := (openL f p).cs) (fr' := [(4, .v (.bool (openB f p)))]) (some (1, k, setV (setsM k p))) ⟨rfl, _, _, rfl⟩ rfl (by (repeat (first | apply DWs.cons .nil | apply DWs.cons (.keep rfl) | apply DWs.cons (.view rfl hcut))); exact .nil) (by first | (simp [openL, hz, Fr.cs, setV, hz0]; done) | (simp [openL, openM_eq, Fr.cs, setV, placeM, *]; done)) (.cons rfl (.eq (d_bool (by first | (simp [openB, hz]; done) | (simp [openB, openM_eq, *]; done))) (.keep rfl)) .nil)) ?_
    refine aw_ret ?_
    refine (hret _ _ _ _ _ rfl (.tmp rfl .nil) rfl ?_ (.box' rfl rfl rfl .nil) rfl).1
    rfl
  refine aw_region fun K5 hK5 => ?_
  refine aL z_move ?_
  refine aL z_nilCheck ?_
  first
    | refine aL (z_fieldAddr fo_40_0) ?_
    | refine aL (z_fieldRef fo_40_0) ?_
    | refine aL (z_fieldV fo_40_0) ?_
  first
    | refine aL (z_load sz_3) ?_
    | refine aL (z_loadRef sz_3) ?_
    | refine aL (z_loadV sz_3) ?_
  refine awl_nil (hK5 _ _ ?_)
  clear hK5 K5
  refine aw_block ?_
  refine aw_seq fun K6 hK6 => ?_
  refine aw_region fun K7 hK7 => ?_
  refine aL z_eql ?_
  refine aL z_assign ?_
  refine awl_nil (hK7 _ _ ?_)
  clear hK7 K7
  refine aC (fun r1 c1 => ?_) (fun r1 c1 => ?_)
  · try simp [hkp, hGt] at c1
    refine aw_skip ?_
    refine hK6 _ _ ?_
    clear hK6
    refine aw_condT (ev_tmp rfl) r1 ?_
    refine aw_cut ([(0, .ptr 0 0), (1, .v (.sl (bs (openQ f p))))], [(0, .box ((openG f p).csX NIL))]) (fun K8 hK8 => ?_) ?_
    rotate_left
    focus
      refine aw_cut ([(0, .ptr 0 0), (1, .v (.sl (bs (openR f p))))], [(0, .box ((openK f p).csX NIL))]) (fun K9 hK9 => ?_) ?_
      rotate_left
      focus
        refine aw_seq fun K10 hK10 => ?_
        refine aw_region fun K11 hK11 => ?_
        refine aL z_move ?_
        refine aL z_nilCheck ?_
        first
          | refine aL (z_fieldAddr fo_40_4) ?_
          | refine aL (z_fieldRef fo_40_4) ?_
          | refine aL (z_fieldV fo_40_4) ?_
        first
          | refine aL (z_load sz_3) ?_
          | refine aL (z_loadRef sz_3) ?_
          | refine aL (z_loadV sz_3) ?_
        refine aL z_move ?_
        first
          | refine aL (z_lenB Try.underlying24) ?_
          | refine aL (z_len Try.underlying24) ?_
          | refine aL (z_lenV Try.underlying24) ?_
        refine aL z_gtr ?_
        refine awl_nil (hK11 _ _ ?_)
        clear hK11 K11
        refine aC (fun r2 c2 => ?_) (fun r2 c2 => ?_)
        · try simp [hkp, hGt] at c2
          refine aw_region fun K12 hK12 => ?_
          refine aL z_assign ?_
          refine awl_nil (hK12 _ _ ?_)
          clear hK12 K12
          first
            | refine aw_weak (boxW (es' := (openL f p).cs) (fr' := [(4, .v (.bool (openB f p)))]) none trivial rfl (by (repeat (first | apply DWs.cons .nil | apply DWs.cons (.keep rfl))); exact .nil) (by first | (simp [openL, hz, Fr.cs, setV, hz0]; done) | (simp [openL, openM_eq, Fr.cs, setV, placeM, *]; done)) (.cons rfl (.eq (d_bool (by first | (simp [openB, hz]; done) | (simp [openB, openM_eq, *]; done))) (.keep rfl)) .nil)) ?_
            | refine aw_weak (boxW (es' := (openL f p).cs) (fr' := [(4, .v (.bool (openB f p)))]) (some (1, k, setV (setsM k p))) ⟨rfl, _, _, rfl⟩ rfl (by (repeat (first | apply DWs.cons .nil | apply DWs.cons (.keep rfl) | apply DWs.cons (.view rfl hcut))); exact .nil) (by first | (simp [openL, hz, Fr.cs, setV, hz0]; done) | (simp [openL, openM_eq, Fr.cs, setV, placeM, *]; done)) (.cons rfl (.eq (d_bool (by first | (simp [openB, hz]; done) | (simp [openB, openM_eq, *]; done))) (.keep rfl)) .nil)) ?_
          refine aw_ret ?_
          refine (hret _ _ _ _ _ rfl (.tmp rfl .nil) rfl ?_ (.box' rfl rfl rfl .nil) rfl).1
          rfl
        · try simp [hkp, hGt] at c2
          refine aw_skip ?_
          refine hK10 _ _ ?_
          clear hK10
          refine aw_region_last ?_
          refine aL z_move ?_
          refine aL z_move ?_
          first
            | refine aL (z_lenB Try.underlying24) ?_
            | refine aL (z_len Try.underlying24) ?_
            | refine aL (z_lenV Try.underlying24) ?_
          refine aL z_move ?_
          refine aL z_nilCheck ?_
          first
            | refine aL (z_fieldAddr fo_40_4) ?_
            | refine aL (z_fieldRef fo_40_4) ?_
            | refine aL (z_fieldV fo_40_4) ?_
          first
            | refine aL (z_load sz_3) ?_
            | refine aL (z_loadRef sz_3) ?_
            | refine aL (z_loadV sz_3) ?_
          have hw : IntKind.i64.wrap (((openR f p).length : Int) - openP f p) = (((openR f p).length - (openP f p).toNat : Nat) : Int) := by
            have c9 : openP f p ≤ (openR f p).length := by first | assumption | (simp only [hkp] at *; omega)
            rw [i64_wrap (by omega) (by omega)]; omega
          refine aL z_sub ?_
          refine aL (stepU_slice (j := some ((openR f p).length - (openP f p).toNat)) rfl Try.underlying24 sz_5 (bs_one _) (ev_tmp rfl) .no (.yes (ev_tmp rfl) rfl) (by simp) (by simp) rfl) ?_
          refine aL z_assign ?_
          refine awl_nil ?_
          refine hK2 _ _ ⟨by simp [openM_eq, openZ, openD, *]; try omega⟩ ?_
          first
            | (rw [(openZ_1 (by omega)).1, (openZ_1 (by omega)).2]; exact wK)
            | (rw [(openZ_7 (by omega)).1, (openZ_7 (by omega)).2]; exact wK)
            | (rw [(openZ_n (by omega) (by omega) (by omega)).1, (openZ_n (by omega) (by omega) (by omega)).2]; exact wK)
      refine aw_region fun K13 hK13 => ?_
      refine aL z_move ?_
      refine aL z_nilCheck ?_
      first
        | refine aL (z_fieldAddr fo_40_0) ?_
        | refine aL (z_fieldRef fo_40_0) ?_
        | refine aL (z_fieldV fo_40_0) ?_
      first
        | refine aL (z_load sz_3) ?_
        | refine aL (z_loadRef sz_3) ?_
        | refine aL (z_loadV sz_3) ?_
      refine aL z_eql ?_
      refine aL z_move ?_
      first
        | refine gL rfl rfl (ev_tmp rfl) (fun hg => z_move) ?_
        | refine hL rfl rfl (ev_tmp rfl) (fun hg => z_move) ?_
      first
        | refine gL rfl rfl (ev_tmp rfl) (fun hg => z_nilCheck) ?_
        | refine hL rfl rfl (ev_tmp rfl) (fun hg => z_nilCheck) ?_
      first
        | refine gL rfl rfl (ev_tmp rfl) (fun hg => z_fieldAddr fo_40_1) ?_
        | refine gL rfl rfl (ev_tmp rfl) (fun hg => z_fieldRef fo_40_1) ?_
        | refine gL rfl rfl (ev_tmp rfl) (fun hg => z_fieldV fo_40_1) ?_
        | refine hL rfl rfl (ev_tmp rfl) (fun hg => z_fieldAddr fo_40_1) ?_
        | refine hL rfl rfl (ev_tmp rfl) (fun hg => z_fieldRef fo_40_1) ?_
        | refine hL rfl rfl (ev_tmp rfl) (fun hg => z_fieldV fo_40_1) ?_
      first
        | refine gL rfl rfl (ev_tmp rfl) (fun hg => z_load sz_3) ?_
        | refine gL rfl rfl (ev_tmp rfl) (fun hg => z_loadRef sz_3) ?_
        | refine gL rfl rfl (ev_tmp rfl) (fun hg => z_loadV sz_3) ?_
        | refine hL rfl rfl (ev_tmp rfl) (fun hg => z_load sz_3) ?_
        | refine hL rfl rfl (ev_tmp rfl) (fun hg => z_loadRef sz_3) ?_
        | refine hL rfl rfl (ev_tmp rfl) (fun hg => z_loadV sz_3) ?_
      first
        | refine gL rfl rfl (ev_tmp rfl) (fun hg => z_band) ?_
        | refine hL rfl rfl (ev_tmp rfl) (fun hg => z_band) ?_
      first
        | refine gL rfl rfl (ev_tmp rfl) (fun hg => z_neq) ?_
        | refine hL rfl rfl (ev_tmp rfl) (fun hg => z_neq) ?_
      refine aL z_and ?_
      refine awl_nil (hK13 _ _ ?_)
      clear hK13 K13
      refine aC (fun r3 c3 => ?_) (fun r3 c3 => ?_)
      · try simp [hkp, hGt] at c3
        refine aw_region fun K14 hK14 => ?_
        refine aL z_move ?_
        refine aL z_move ?_
        first
          | refine aL (z_callB _ (eC (eC .nil)) en_43 (con_place (f := openG f p) (x := .lit (.slice none 0 0)) (hq5 (by first | assumption | simp_all)))) ?_
          | refine aL (z_callB _ (eC (eC .nil)) en_43 (con_place (f := f) (x := .lit (.slice none 0 0)) (by have := h2 (by assumption); omega))) ?_
        refine awl_nil (hK14 _ _ ?_)
        clear hK14 K14
        refine aw_region_last ?_
        have h5 := hq5 (by first | assumption | simp_all)
        refine aL z_move ?_
        refine aL (z_slice Try.underlying24 sz_5) ?_
        refine aL z_assign ?_
        refine awl_nil ?_
        refine hK9 _ _ ?_
        by_cases hC : f.ty = 1 ∧ bitB f.fl 32 = true
        · rw [openR_yes hC, openK_yes hC]
          first
            | (exfalso; simp_all; done)
            | (simp only [placeM, openG]; exact wK)
        · rw [openR_no hC, openK_no hC]
          first
            | (exfalso; simp_all; done)
            | (simp only [openG]; exact wK)
      · try simp [hkp, hGt] at c3
        refine aw_skip ?_
        refine hK9 _ _ ?_
        by_cases hC : f.ty = 1 ∧ bitB f.fl 32 = true
        · rw [openR_yes hC, openK_yes hC]
          first
            | (exfalso; simp_all; done)
            | (simp only [placeM, openG]; exact wK)
        · rw [openR_no hC, openK_no hC]
          first
            | (exfalso; simp_all; done)
            | (simp only [openG]; exact wK)
    refine aw_region fun K15 hK15 => ?_
    refine aL z_move ?_
    refine aL z_nilCheck ?_
    first
      | refine aL (z_fieldAddr fo_40_1) ?_
      | refine aL (z_fieldRef fo_40_1) ?_
      | refine aL (z_fieldV fo_40_1) ?_
    first
      | refine aL (z_load sz_3) ?_
      | refine aL (z_loadRef sz_3) ?_
      | refine aL (z_loadV sz_3) ?_
    refine aL z_band ?_
    refine aL z_neq ?_
    refine awl_nil (hK15 _ _ ?_)
    clear hK15 K15
    refine aC (fun r4 c4 => ?_) (fun r4 c4 => ?_)
    · try simp [hkp, hGt] at c4
      refine aw_regionD_last mx_all (by kernel_rfl) ?_
      have hp1 : 1 ≤ p.length := hq1 (by omega) (by assumption)
      have hix := hi0 hp1
      refine aD z_move ?_
      refine aD z_move ?_
      first
        | refine aD (z_indexAddr Try.underlying24 sz_5) ?_
        | refine aD (z_indexAddrV Try.underlying24 sz_5) ?_
      first
        | refine aD (z_load sz_5) ?_
        | refine aD (z_loadRef sz_5) ?_
        | refine aD (z_loadV sz_5) ?_
      refine aD (z_conv Try.underlying3 ⟨_, Try.underlying5⟩) ?_
      refine aD z_move ?_
      refine aD (z_slice Try.underlying24 sz_5) ?_
      refine aD z_nilCheck ?_
      first
        | refine aD (z_fieldAddr fo_40_4) ?_
        | refine aD (z_fieldRef fo_40_4) ?_
        | refine aD (z_fieldV fo_40_4) ?_
      refine aD (z_store sz_3) ?_
      refine aD z_assign ?_
      refine awd_nil (by kernel_rfl) ?_
      refine hK8 _ _ ?_
      first
        | (rw [openQ_yes (by assumption), openG_yes (by assumption)]; exact wK)
        | (rw [openQ_no (by assumption), openG_no (by assumption)]; exact wK)
    · try simp [hkp, hGt] at c4
      refine aw_skip ?_
      refine hK8 _ _ ?_
      first
        | (rw [openQ_yes (by assumption), openG_yes (by assumption)]; exact wK)
        | (rw [openQ_no (by assumption), openG_no (by assumption)]; exact wK)
  · try simp [hkp, hGt] at c1
    refine aw_region_last ?_
    refine aL z_eql ?_
    refine aL z_assign ?_
    refine awl_nil ?_
    refine hK6 _ _ ?_
    clear hK6
    refine aC (fun r5 c5 => ?_) (fun r5 c5 => ?_)
    · try simp [hkp, hGt] at c5
      refine aw_cut ([(0, .ptr 0 0), (1, .v (.sl (bs (openQ f p))))], [(0, .box ((openG f p).csX NIL))]) (fun K16 hK16 => ?_) ?_
      rotate_left
      focus
        refine aw_cut ([(0, .ptr 0 0), (1, .v (.sl (bs (openR f p))))], [(0, .box ((openK f p).csX NIL))]) (fun K17 hK17 => ?_) ?_
        rotate_left
        focus
          refine aw_seq fun K18 hK18 => ?_
          refine aw_region fun K19 hK19 => ?_
          refine aL z_move ?_
          refine aL z_nilCheck ?_
          first
            | refine aL (z_fieldAddr fo_40_4) ?_
            | refine aL (z_fieldRef fo_40_4) ?_
            | refine aL (z_fieldV fo_40_4) ?_
          first
            | refine aL (z_load sz_3) ?_
            | refine aL (z_loadRef sz_3) ?_
            | refine aL (z_loadV sz_3) ?_
          refine aL z_move ?_
          first
            | refine aL (z_lenB Try.underlying24) ?_
            | refine aL (z_len Try.underlying24) ?_
            | refine aL (z_lenV Try.underlying24) ?_
          refine aL z_gtr ?_
          refine awl_nil (hK19 _ _ ?_)
          clear hK19 K19
          refine aC (fun r6 c6 => ?_) (fun r6 c6 => ?_)
          · try simp [hkp, hGt] at c6
            refine aw_region fun K20 hK20 => ?_
            refine aL z_assign ?_
            refine awl_nil (hK20 _ _ ?_)
            clear hK20 K20
            first
              | refine aw_weak (boxW (es' := (openL f p).cs) (fr' := [(4, .v (.bool (openB f p)))]) none trivial rfl (by (repeat (first | apply DWs.cons .nil | apply DWs.cons (.keep rfl))); exact .nil) (by first | (simp [openL, hz, Fr.cs, setV, hz0]; done) | (simp [openL, openM_eq, Fr.cs, setV, placeM, *]; done)) (.cons rfl (.eq (d_bool (by first | (simp [openB, hz]; done) | (simp [openB, openM_eq, *]; done))) (.keep rfl)) .nil)) ?_
              | refine aw_weak (boxW (es' := (openL f p).cs) (fr' := [(4, .v (.bool (openB f p)))]) (some (1, k, setV (setsM k p))) ⟨rfl, _, _, rfl⟩ rfl (by (repeat (first | apply DWs.cons .nil | apply DWs.cons (.keep rfl) | apply DWs.cons (.view rfl hcut))); exact .nil) (by first | (simp [openL, hz, Fr.cs, setV, hz0]; done) | (simp [openL, openM_eq, Fr.cs, setV, placeM, *]; done)) (.cons rfl (.eq (d_bool (by first | (simp [openB, hz]; done) | (simp [openB, openM_eq, *]; done))) (.keep rfl)) .nil)) ?_
            refine aw_ret ?_
            refine (hret _ _ _ _ _ rfl (.tmp rfl .nil) rfl ?_ (.box' rfl rfl rfl .nil) rfl).1
            rfl
          · try simp [hkp, hGt] at c6
            refine aw_skip ?_
            refine hK18 _ _ ?_
            clear hK18
            refine aw_region_last ?_
            refine aL z_move ?_
            refine aL z_move ?_
            first
              | refine aL (z_lenB Try.underlying24) ?_
              | refine aL (z_len Try.underlying24) ?_
              | refine aL (z_lenV Try.underlying24) ?_
            refine aL z_move ?_
            refine aL z_nilCheck ?_
            first
              | refine aL (z_fieldAddr fo_40_4) ?_
              | refine aL (z_fieldRef fo_40_4) ?_
              | refine aL (z_fieldV fo_40_4) ?_
            first
              | refine aL (z_load sz_3) ?_
              | refine aL (z_loadRef sz_3) ?_
              | refine aL (z_loadV sz_3) ?_
            have hw : IntKind.i64.wrap (((openR f p).length : Int) - openP f p) = (((openR f p).length - (openP f p).toNat : Nat) : Int) := by
              have c9 : openP f p ≤ (openR f p).length := by first | assumption | (simp only [hkp] at *; omega)
              rw [i64_wrap (by omega) (by omega)]; omega
            refine aL z_sub ?_
            refine aL (stepU_slice (j := some ((openR f p).length - (openP f p).toNat)) rfl Try.underlying24 sz_5 (bs_one _) (ev_tmp rfl) .no (.yes (ev_tmp rfl) rfl) (by simp) (by simp) rfl) ?_
            refine aL z_assign ?_
            refine awl_nil ?_
            refine hK2 _ _ ⟨by simp [openM_eq, openZ, openD, *]; try omega⟩ ?_
            first
              | (rw [(openZ_1 (by omega)).1, (openZ_1 (by omega)).2]; exact wK)
              | (rw [(openZ_7 (by omega)).1, (openZ_7 (by omega)).2]; exact wK)
              | (rw [(openZ_n (by omega) (by omega) (by omega)).1, (openZ_n (by omega) (by omega) (by omega)).2]; exact wK)
        refine aw_region fun K21 hK21 => ?_
        refine aL z_move ?_
        refine aL z_nilCheck ?_
        first
          | refine aL (z_fieldAddr fo_40_0) ?_
          | refine aL (z_fieldRef fo_40_0) ?_
          | refine aL (z_fieldV fo_40_0) ?_
        first
          | refine aL (z_load sz_3) ?_
          | refine aL (z_loadRef sz_3) ?_
          | refine aL (z_loadV sz_3) ?_
        refine aL z_eql ?_
        refine aL z_move ?_
        first
          | refine gL rfl rfl (ev_tmp rfl) (fun hg => z_move) ?_
          | refine hL rfl rfl (ev_tmp rfl) (fun hg => z_move) ?_
        first
          | refine gL rfl rfl (ev_tmp rfl) (fun hg => z_nilCheck) ?_
          | refine hL rfl rfl (ev_tmp rfl) (fun hg => z_nilCheck) ?_
        first
          | refine gL rfl rfl (ev_tmp rfl) (fun hg => z_fieldAddr fo_40_1) ?_
          | refine gL rfl rfl (ev_tmp rfl) (fun hg => z_fieldRef fo_40_1) ?_
          | refine gL rfl rfl (ev_tmp rfl) (fun hg => z_fieldV fo_40_1) ?_
          | refine hL rfl rfl (ev_tmp rfl) (fun hg => z_fieldAddr fo_40_1) ?_
          | refine hL rfl rfl (ev_tmp rfl) (fun hg => z_fieldRef fo_40_1) ?_
          | refine hL rfl rfl (ev_tmp rfl) (fun hg => z_fieldV fo_40_1) ?_
        first
          | refine gL rfl rfl (ev_tmp rfl) (fun hg => z_load sz_3) ?_
          | refine gL rfl rfl (ev_tmp rfl) (fun hg => z_loadRef sz_3) ?_
          | refine gL rfl rfl (ev_tmp rfl) (fun hg => z_loadV sz_3) ?_
          | refine hL rfl rfl (ev_tmp rfl) (fun hg => z_load sz_3) ?_
          | refine hL rfl rfl (ev_tmp rfl) (fun hg => z_loadRef sz_3) ?_
          | refine hL rfl rfl (ev_tmp rfl) (fun hg => z_loadV sz_3) ?_
        first
          | refine gL rfl rfl (ev_tmp rfl) (fun hg => z_band) ?_
          | refine hL rfl rfl (ev_tmp rfl) (fun hg => z_band) ?_
        first
          | refine gL rfl rfl (ev_tmp rfl) (fun hg => z_neq) ?_
          | refine hL rfl rfl (ev_tmp rfl) (fun hg => z_neq) ?_
        refine aL z_and ?_
        refine awl_nil (hK21 _ _ ?_)
        clear hK21 K21
        refine aC (fun r7 c7 => ?_) (fun r7 c7 => ?_)
        · try simp [hkp, hGt] at c7
          refine aw_region fun K22 hK22 => ?_
          refine aL z_move ?_
          refine aL z_move ?_
          first
            | refine aL (z_callB _ (eC (eC .nil)) en_43 (con_place (f := openG f p) (x := .lit (.slice none 0 0)) (hq5 (by first | assumption | simp_all)))) ?_
            | refine aL (z_callB _ (eC (eC .nil)) en_43 (con_place (f := f) (x := .lit (.slice none 0 0)) (by have := h2 (by assumption); omega))) ?_
          refine awl_nil (hK22 _ _ ?_)
          clear hK22 K22
          refine aw_region_last ?_
          have h5 := hq5 (by first | assumption | simp_all)
          refine aL z_move ?_
          refine aL (z_slice Try.underlying24 sz_5) ?_
          refine aL z_assign ?_
          refine awl_nil ?_
          refine hK17 _ _ ?_
          by_cases hC : f.ty = 1 ∧ bitB f.fl 32 = true
          · rw [openR_yes hC, openK_yes hC]
            first
              | (exfalso; simp_all; done)
              | (simp only [placeM, openG]; exact wK)
          · rw [openR_no hC, openK_no hC]
            first
              | (exfalso; simp_all; done)
              | (simp only [openG]; exact wK)
        · try simp [hkp, hGt] at c7
          refine aw_skip ?_
          refine hK17 _ _ ?_
          by_cases hC : f.ty = 1 ∧ bitB f.fl 32 = true
          · rw [openR_yes hC, openK_yes hC]
            first
              | (exfalso; simp_all; done)
              | (simp only [placeM, openG]; exact wK)
          · rw [openR_no hC, openK_no hC]
            first
              | (exfalso; simp_all; done)
              | (simp only [openG]; exact wK)
      refine aw_region fun K23 hK23 => ?_
      refine aL z_move ?_
      refine aL z_nilCheck ?_
      first
        | refine aL (z_fieldAddr fo_40_1) ?_
        | refine aL (z_fieldRef fo_40_1) ?_
        | refine aL (z_fieldV fo_40_1) ?_
      first
        | refine aL (z_load sz_3) ?_
        | refine aL (z_loadRef sz_3) ?_
        | refine aL (z_loadV sz_3) ?_
      refine aL z_band ?_
      refine aL z_neq ?_
      refine awl_nil (hK23 _ _ ?_)
      clear hK23 K23
      refine aC (fun r8 c8 => ?_) (fun r8 c8 => ?_)
      · try simp [hkp, hGt] at c8
        refine aw_regionD_last mx_all (by kernel_rfl) ?_
        have hp1 : 1 ≤ p.length := hq1 (by omega) (by assumption)
        have hix := hi0 hp1
        refine aD z_move ?_
        refine aD z_move ?_
        first
          | refine aD (z_indexAddr Try.underlying24 sz_5) ?_
          | refine aD (z_indexAddrV Try.underlying24 sz_5) ?_
        first
          | refine aD (z_load sz_5) ?_
          | refine aD (z_loadRef sz_5) ?_
          | refine aD (z_loadV sz_5) ?_
        refine aD (z_conv Try.underlying3 ⟨_, Try.underlying5⟩) ?_
        refine aD z_move ?_
        refine aD (z_slice Try.underlying24 sz_5) ?_
        refine aD z_nilCheck ?_
        first
          | refine aD (z_fieldAddr fo_40_4) ?_
          | refine aD (z_fieldRef fo_40_4) ?_
          | refine aD (z_fieldV fo_40_4) ?_
        refine aD (z_store sz_3) ?_
        refine aD z_assign ?_
        refine awd_nil (by kernel_rfl) ?_
        refine hK16 _ _ ?_
        first
          | (rw [openQ_yes (by assumption), openG_yes (by assumption)]; exact wK)
          | (rw [openQ_no (by assumption), openG_no (by assumption)]; exact wK)
      · try simp [hkp, hGt] at c8
        refine aw_skip ?_
        refine hK16 _ _ ?_
        first
          | (rw [openQ_yes (by assumption), openG_yes (by assumption)]; exact wK)
          | (rw [openQ_no (by assumption), openG_no (by assumption)]; exact wK)
    · try simp [hkp, hGt] at c5
      refine aw_region fun K24 hK24 => ?_
      refine aL z_eql ?_
      refine aL z_assign ?_
      refine awl_nil (hK24 _ _ ?_)
      clear hK24 K24
      refine aC (fun r9 c9 => ?_) (fun r9 c9 => ?_)
      · try simp [hkp, hGt] at c9
        refine aw_region fun K25 hK25 => ?_
        refine aL z_move ?_
        refine aL z_move ?_
        first
          | refine aL (z_callB _ (eC (eC .nil)) en_43 (con_place (f := openG f p) (x := .lit (.slice none 0 0)) (hq5 (by first | assumption | simp_all)))) ?_
          | refine aL (z_callB _ (eC (eC .nil)) en_43 (con_place (f := f) (x := .lit (.slice none 0 0)) (by have := h2 (by assumption); omega))) ?_
        refine awl_nil (hK25 _ _ ?_)
        clear hK25 K25
        refine aw_region fun K26 hK26 => ?_
        refine aL z_assign ?_
        refine awl_nil (hK26 _ _ ?_)
        clear hK26 K26
        first
          | refine aw_weak (boxW (es' := (openL f p).cs) (fr' := [(4, .v (.bool (openB f p)))]) none trivial rfl (by (repeat (first | apply DWs.cons .nil | apply DWs.cons (.keep rfl))); exact .nil) (by first | (simp [openL, hz, Fr.cs, setV, hz0]; done) | (simp [openL, openM_eq, Fr.cs, setV, placeM, *]; done)) (.cons rfl (.eq (d_bool (by first | (simp [openB, hz]; done) | (simp [openB, openM_eq, *]; done))) (.keep rfl)) .nil)) ?_
          | refine aw_weak (boxW (es' := (openL f p).cs) (fr' := [(4, .v (.bool (openB f p)))]) (some (1, k, setV (setsM k p))) ⟨rfl, _, _, rfl⟩ rfl (by (repeat (first | apply DWs.cons .nil | apply DWs.cons (.keep rfl) | apply DWs.cons (.view rfl hcut))); exact .nil) (by first | (simp [openL, hz, Fr.cs, setV, hz0]; done) | (simp [openL, openM_eq, Fr.cs, setV, placeM, *]; done)) (.cons rfl (.eq (d_bool (by first | (simp [openB, hz]; done) | (simp [openB, openM_eq, *]; done))) (.keep rfl)) .nil)) ?_
        refine aw_ret ?_
        refine (hret _ _ _ _ _ rfl (.tmp rfl .nil) rfl ?_ (.box' rfl rfl rfl .nil) rfl).1
        rfl
      · try simp [hkp, hGt] at c9
        refine aw_region fun K27 hK27 => ?_
        refine aL z_eql ?_
        refine aL z_assign ?_
        refine awl_nil (hK27 _ _ ?_)
        clear hK27 K27
        refine aC (fun r10 c10 => ?_) (fun r10 c10 => ?_)
        · try simp [hkp, hGt] at c10
          refine aw_region fun K28 hK28 => ?_
          refine aL z_move ?_
          refine aL z_move ?_
          refine aL (z_call0 (eC (eC .nil)) en_37 (con_number (by omega) (by omega) (by first | (simp; omega) | (have := h3 (by assumption); simp; omega) | (have := h8 (by assumption); simp; omega) | (have := h7 (by assumption); simp; omega)))) ?_
          refine aL z_nilCheck ?_
          first
            | refine aL (z_fieldAddr fo_40_6) ?_
            | refine aL (z_fieldRef fo_40_6) ?_
            | refine aL (z_fieldV fo_40_6) ?_
          refine aL (z_store sz_2) ?_
          refine awl_nil (hK28 _ _ ?_)
          clear hK28 K28
          refine aw_region fun K29 hK29 => ?_
          refine aL z_assign ?_
          refine awl_nil (hK29 _ _ ?_)
          clear hK29 K29
          first
            | refine aw_weak (boxW (es' := (openL f p).cs) (fr' := [(4, .v (.bool (openB f p)))]) none trivial rfl (by (repeat (first | apply DWs.cons .nil | apply DWs.cons (.keep rfl))); exact .nil) (by first | (simp [openL, hz, Fr.cs, setV, hz0]; done) | (simp [openL, openM_eq, Fr.cs, setV, placeM, *]; done)) (.cons rfl (.eq (d_bool (by first | (simp [openB, hz]; done) | (simp [openB, openM_eq, *]; done))) (.keep rfl)) .nil)) ?_
            | refine aw_weak (boxW (es' := (openL f p).cs) (fr' := [(4, .v (.bool (openB f p)))]) (some (1, k, setV (setsM k p))) ⟨rfl, _, _, rfl⟩ rfl (by (repeat (first | apply DWs.cons .nil | apply DWs.cons (.keep rfl) | apply DWs.cons (.view rfl hcut))); exact .nil) (by first | (simp [openL, hz, Fr.cs, setV, hz0]; done) | (simp [openL, openM_eq, Fr.cs, setV, placeM, *]; done)) (.cons rfl (.eq (d_bool (by first | (simp [openB, hz]; done) | (simp [openB, openM_eq, *]; done))) (.keep rfl)) .nil)) ?_
          refine aw_ret ?_
          refine (hret _ _ _ _ _ rfl (.tmp rfl .nil) rfl ?_ (.box' rfl rfl rfl .nil) rfl).1
          rfl
        · try simp [hkp, hGt] at c10
          refine aw_region fun K30 hK30 => ?_
          refine aL z_eql ?_
          refine aL z_assign ?_
          refine awl_nil (hK30 _ _ ?_)
          clear hK30 K30
          refine aC (fun r11 c11 => ?_) (fun r11 c11 => ?_)
          · try simp [hkp, hGt] at c11
            refine aw_region fun K31 hK31 => ?_
            refine aL z_move ?_
            refine aL z_move ?_
            refine aL (z_call0 (eC (eC .nil)) en_37 (con_number (by omega) (by omega) (by first | (simp; omega) | (have := h3 (by assumption); simp; omega) | (have := h8 (by assumption); simp; omega) | (have := h7 (by assumption); simp; omega)))) ?_
            refine aL z_band ?_
            refine aL z_nilCheck ?_
            first
              | refine aL (z_fieldAddr fo_40_8) ?_
              | refine aL (z_fieldRef fo_40_8) ?_
              | refine aL (z_fieldV fo_40_8) ?_
            refine aL (z_store sz_2) ?_
            refine awl_nil (hK31 _ _ ?_)
            clear hK31 K31
            refine aw_region fun K32 hK32 => ?_
            refine aL z_assign ?_
            refine awl_nil (hK32 _ _ ?_)
            clear hK32 K32
            first
              | refine aw_weak (boxW (es' := (openL f p).cs) (fr' := [(4, .v (.bool (openB f p)))]) none trivial rfl (by (repeat (first | apply DWs.cons .nil | apply DWs.cons (.keep rfl))); exact .nil) (by first | (simp [openL, hz, Fr.cs, setV, hz0]; done) | (simp [openL, openM_eq, Fr.cs, setV, placeM, *]; done)) (.cons rfl (.eq (d_bool (by first | (simp [openB, hz]; done) | (simp [openB, openM_eq, *]; done))) (.keep rfl)) .nil)) ?_
              | refine aw_weak (boxW (es' := (openL f p).cs) (fr' := [(4, .v (.bool (openB f p)))]) (some (1, k, setV (setsM k p))) ⟨rfl, _, _, rfl⟩ rfl (by (repeat (first | apply DWs.cons .nil | apply DWs.cons (.keep rfl) | apply DWs.cons (.view rfl hcut))); exact .nil) (by first | (simp [openL, hz, Fr.cs, setV, hz0]; done) | (simp [openL, openM_eq, Fr.cs, setV, placeM, *]; done)) (.cons rfl (.eq (d_bool (by first | (simp [openB, hz]; done) | (simp [openB, openM_eq, *]; done))) (.keep rfl)) .nil)) ?_
            refine aw_ret ?_
            refine (hret _ _ _ _ _ rfl (.tmp rfl .nil) rfl ?_ (.box' rfl rfl rfl .nil) rfl).1
            rfl
          · try simp [hkp, hGt] at c11
            refine aw_region fun K33 hK33 => ?_
            refine aL z_eql ?_
            refine aL z_assign ?_
            refine awl_nil (hK33 _ _ ?_)
            clear hK33 K33
            refine aC (fun r12 c12 => ?_) (fun r12 c12 => ?_)
            · try simp [hkp, hGt] at c12
              refine aw_seq fun K34 hK34 => ?_
              refine aw_region fun K35 hK35 => ?_
              refine aL z_assign ?_
              refine awl_nil (hK35 _ _ ?_)
              clear hK35 K35
              refine aw_block ?_
              refine aw_loop (α := {k : Nat // 6 * k ≤ p.length}) (fun x => ([(0, .ptr 0 0), (1, .v (.sl (bs p))), (5, .v (.int .i64 ((6 * x.1 : Nat) : Int)))], [(0, .box (f.csX (.view 1 x.1 0 x.1))), (1, .row x.1 2 70 (setV (setsM x.1 p)))])) (fun x => p.length - 6 * x.1) ⟨0, by omega⟩ ?_ ?_
              · dsimp only
                refine Weak.trans (weak_nilB 0 5 1 2 70 rfl rfl rfl (by decide) (Nat.le_of_ble_eq_true rfl) rfl) ?_
                exact wK
              · rintro ⟨k, hk⟩ K36 hK36
                dsimp only
                have hk6 : p.length % 6 = 0 := h4 (by assumption)
                refine aw_seq fun K37 hK37 => ?_
                refine aw_region fun K38 hK38 => ?_
                refine aL z_move ?_
                refine aL z_move ?_
                first
                  | refine aL (z_lenB Try.underlying24) ?_
                  | refine aL (z_len Try.underlying24) ?_
                  | refine aL (z_lenV Try.underlying24) ?_
                refine aL z_lss ?_
                refine awl_nil (hK38 _ _ ?_)
                clear hK38 K38
                refine aC (fun r13 c13 => ?_) (fun r13 c13 => ?_)
                · try simp [hkp, hGt] at c13
                  refine aw_skip ?_
                  refine hK37 _ _ ?_
                  clear hK37
                  refine aw_seq fun K39 hK39 => ?_
                  refine aw_block ?_
                  refine aw_region fun K40 hK40 => ?_
                  refine aL z_move ?_
                  refine aL z_move ?_
                  refine aL (z_call0 (eC (eC (eC .nil))) en_35 (con_take (by omega))) ?_
                  refine aL z_move ?_
                  refine aL z_extract ?_
                  refine aL z_extract ?_
                  refine aL z_assign ?_
                  refine aL z_assign ?_
                  refine awl_nil (hK40 _ _ ?_)
                  clear hK40 K40
                  refine aw_regionD_last mx_all (by kernel_rfl) ?_
                  refine aD z_move ?_
                  refine aD z_move ?_
                  refine aD z_nilCheck ?_
                  first
                    | refine aD (z_fieldAddr fo_40_5) ?_
                    | refine aD (z_fieldRef fo_40_5) ?_
                    | refine aD (z_fieldV fo_40_5) ?_
                  first
                    | refine aD (z_load sz_38) ?_
                    | refine aD (z_loadRef sz_38) ?_
                    | refine aD (z_loadV sz_38) ?_
                  refine aD z_move ?_
                  refine aD (z_conv Try.underlying3 ⟨_, Try.underlying62⟩) ?_
                  refine aD z_move ?_
                  refine aD z_move ?_
                  refine aD z_add ?_
                  refine aD (z_call0 (eC (eC .nil)) en_37 (con_number (by omega) (by omega) (by first | (simp; omega) | (have := h3 (by assumption); simp; omega) | (have := h8 (by assumption); simp; omega) | (have := h7 (by assumption); simp; omega)))) ?_
                  refine aD (z_build (pC (pC .nil)) pl_70 zc_70 zl_70) ?_
                  have e2 : takeV p ((6 * k : Nat) : Int) 2 = beN ((p.drop (6 * k)).take 2) := by unfold takeV; rw [if_neg (by omega)]; rfl
                  have e3 : (((6 * k : Nat) : Int) + 2).toNat = 6 * k + 2 := by omega
                  have e4 : (beN ((p.drop (6 * k)).take 2) : Int) < 65536 := by have := beN_small (p.drop (6 * k)) 2 2 (by decide); omega
                  have e5 : IntKind.i64.wrap (takeV p ((6 * k : Nat) : Int) 2) = beN ((p.drop (6 * k)).take 2) := by rw [e2, i64_wrap (by omega) (by omega)]
                  rw [e5, e3]
                  refine aD (z_lits (pC .nil) Try.underlying38 sz_70 zc_70 zl_70 (c := [[.int .i64 (beN ((p.drop (6 * k)).take 2)), .int .i64 (at4 p (6 * k + 2))]])) ?_
                  first
                    | refine aD (z_app Try.underlying38 zi_70) ?_
                    | refine aD (z_appV Try.underlying38 zi_70) ?_
                    | refine aD (z_appN 1 Try.underlying38 zi_70) ?_
                    | refine aD (z_appNV 1 Try.underlying38 zi_70) ?_
                  refine aD z_nilCheck ?_
                  first
                    | refine aD (z_fieldAddr fo_40_5) ?_
                    | refine aD (z_fieldRef fo_40_5) ?_
                    | refine aD (z_fieldV fo_40_5) ?_
                  refine aD (z_store sz_38) ?_
                  refine awd_nil (by kernel_rfl) ?_
                  refine hK39 _ _ ?_
                  clear hK39
                  refine aw_region_last ?_
                  refine aL z_move ?_
                  refine aL z_add ?_
                  refine aL z_assign ?_
                  refine awl_nil ?_
                  have er : List.take k (setV (setsM k p)) ++ [[V.int .i64 (beN ((p.drop (6 * k)).take 2)), V.int .i64 (at4 p (6 * k + 2))]] = setV (setsM (k + 1) p) := by
                    rw [List.take_of_length_le (by simp), setsM_succ, ← setV_app]; rfl
                  refine hK36 _ _ ⟨k + 1, by omega⟩ (by dsimp only; omega) ?_
                  dsimp only
                  rw [← er]
                  exact wK
                · try simp [hkp, hGt] at c13
                  refine aw_exit ?_
                  refine hK34 _ _ ?_
                  clear hK34
                  refine aw_region fun K41 hK41 => ?_
                  have hkk : k = p.length / 6 := by omega
                  have hcut : cut 0 (0 + k) (setV (setsM k p)) = setV (setsM (p.length / 6) p) := by
                    rw [← hkk]; unfold cut; rw [List.drop_zero, List.take_of_length_le (by simp)]
                  refine aL z_assign ?_
                  refine awl_nil (hK41 _ _ ?_)
                  clear hK41 K41
                  first
                    | refine aw_weak (boxW (es' := (openL f p).cs) (fr' := [(4, .v (.bool (openB f p)))]) none trivial rfl (by (repeat (first | apply DWs.cons .nil | apply DWs.cons (.keep rfl))); exact .nil) (by first | (simp [openL, hz, Fr.cs, setV, hz0]; done) | (simp [openL, openM_eq, Fr.cs, setV, placeM, *]; done)) (.cons rfl (.eq (d_bool (by first | (simp [openB, hz]; done) | (simp [openB, openM_eq, *]; done))) (.keep rfl)) .nil)) ?_
                    | refine aw_weak (boxW (es' := (openL f p).cs) (fr' := [(4, .v (.bool (openB f p)))]) (some (1, k, setV (setsM k p))) ⟨rfl, _, _, rfl⟩ rfl (by (repeat (first | apply DWs.cons .nil | apply DWs.cons (.keep rfl) | apply DWs.cons (.view rfl hcut))); exact .nil) (by first | (simp [openL, hz, Fr.cs, setV, hz0]; done) | (simp [openL, openM_eq, Fr.cs, setV, placeM, *]; done)) (.cons rfl (.eq (d_bool (by first | (simp [openB, hz]; done) | (simp [openB, openM_eq, *]; done))) (.keep rfl)) .nil)) ?_
                  refine aw_ret ?_
                  refine (hret _ _ _ _ _ rfl (.tmp rfl .nil) rfl ?_ (.box' rfl rfl rfl .nil) rfl).1
                  rfl
            · try simp [hkp, hGt] at c12
              refine aw_region fun K42 hK42 => ?_
              refine aL z_eql ?_
              refine aL z_assign ?_
              refine awl_nil (hK42 _ _ ?_)
              clear hK42 K42
              refine aC (fun r14 c14 => ?_) (fun r14 c14 => ?_)
              · try simp [hkp, hGt] at c14
                refine aw_regionD_last mx_all (by kernel_rfl) ?_
                refine aD z_move ?_
                refine aD z_move ?_
                refine aD z_move ?_
                refine aD (z_call0 (eC (eC .nil)) en_37 (con_number (by omega) (by omega) (by first | (simp; omega) | (have := h3 (by assumption); simp; omega) | (have := h8 (by assumption); simp; omega) | (have := h7 (by assumption); simp; omega)))) ?_
                refine aD z_band ?_
                refine aD z_move ?_
                refine aD (z_call0 (eC (eC .nil)) en_37 (con_number (by omega) (by omega) (by first | (simp; omega) | (have := h3 (by assumption); simp; omega) | (have := h8 (by assumption); simp; omega) | (have := h7 (by assumption); simp; omega)))) ?_
                refine aD z_move ?_
                refine aD (z_slice Try.underlying24 sz_5) ?_
                refine aD z_nilCheck ?_
                first
                  | refine aD (z_fieldAddr fo_40_7) ?_
                  | refine aD (z_fieldRef fo_40_7) ?_
                  | refine aD (z_fieldV fo_40_7) ?_
                refine aD (z_store sz_3) ?_
                refine aD z_nilCheck ?_
                first
                  | refine aD (z_fieldAddr fo_40_6) ?_
                  | refine aD (z_fieldRef fo_40_6) ?_
                  | refine aD (z_fieldV fo_40_6) ?_
                refine aD (z_store sz_2) ?_
                refine aD z_assign ?_
                refine awd_nil (by kernel_rfl) ?_
                refine hK2 _ _ ⟨by simp [openM_eq, openZ, openD, *]; try omega⟩ ?_
                first
                  | (rw [(openZ_1 (by omega)).1, (openZ_1 (by omega)).2]; exact wK)
                  | (rw [(openZ_7 (by omega)).1, (openZ_7 (by omega)).2]; exact wK)
                  | (rw [(openZ_n (by omega) (by omega) (by omega)).1, (openZ_n (by omega) (by omega) (by omega)).2]; exact wK)
              · try simp [hkp, hGt] at c14
                refine aw_skip ?_
                refine hK2 _ _ ⟨by simp [openM_eq, openZ, openD, *]; try omega⟩ ?_
                first
                  | (rw [(openZ_1 (by omega)).1, (openZ_1 (by omega)).2]; exact wK)
                  | (rw [(openZ_7 (by omega)).1, (openZ_7 (by omega)).2]; exact wK)
                  | (rw [(openZ_n (by omega) (by omega) (by omega)).1, (openZ_n (by omega) (by omega) (by omega)).2]; exact wK)
end Go.Proofs.Ytigodfnckjidoaa
