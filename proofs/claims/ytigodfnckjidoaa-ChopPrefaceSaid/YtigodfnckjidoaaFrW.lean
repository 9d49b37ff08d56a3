/- Layer 6: Take. No condition. -/
import Derived.Test.YtigodfnckjidoaaFrV
namespace Go.Proofs.Ytigodfnckjidoaa
set_option linter.all false
open Go Go.RowKit
set_option maxRecDepth 10000
set_option maxHeartbeats 4000000
def tyB (b : List UInt8) : Int := (b.getD 3 0).toNat
def flB (b : List UInt8) : Int := (b.getD 4 0).toNat
def stB (b : List UInt8) : Int := lowM (at4 b 5)
def f0B (b : List UInt8) : Fr := { Fr.nil with ty := tyB b, fl := flB b, st := stB b }
def pB (b : List UInt8) : List UInt8 := (b.drop 9).take (beN (b.take 3))
section
variable {b : List UInt8} {most : Int}
theorem takeF_1 (h : (b.length : Int) < 9) : takeF b most = ⟨Fr.nil, 0, Flt.no⟩ := by
  unfold takeF; rw [if_pos (by omega)]
theorem takeF_2 (h : 9 ≤ (b.length : Int)) (h2 : most < (beN (b.take 3) : Int)) : takeF b most = ⟨Fr.nil, 0, Flt.whole 6⟩ := by
  unfold takeF; rw [if_neg (by omega)]; simp only; rw [if_pos h2]
theorem takeF_3 (h : 9 ≤ (b.length : Int)) (h2 : (beN (b.take 3) : Int) ≤ most) (h3 : (b.length : Int) < 9 + (beN (b.take 3) : Int)) : takeF b most = ⟨Fr.nil, 0, Flt.no⟩ := by
  unfold takeF; rw [if_neg (by omega)]; simp only; rw [if_neg (by omega), if_pos (by omega)]
theorem takeF_0 (h2 : (beN (b.take 3) : Int) ≤ most) (h3 : 9 + (beN (b.take 3) : Int) ≤ (b.length : Int)) : takeF b most =
   (if misB (tyB b) (stB b) then ⟨Fr.nil, 0, Flt.whole 1⟩
      else if missB (tyB b) (flB b) (beN (b.take 3) : Int) then (if (tyB b) = 2 then ⟨Fr.nil, 9 + beN (b.take 3), ⟨true, 6, (stB b)⟩⟩ else ⟨Fr.nil, 0, Flt.whole 6⟩)
      else match openM (f0B b) (pB b) with
        | none => ⟨Fr.nil, 0, Flt.whole 1⟩
        | some f =>
          if (tyB b) = 8 ∧ f.inc = 0 then (if (stB b) ≠ 0 then ⟨Fr.nil, 9 + beN (b.take 3), ⟨true, 1, (stB b)⟩⟩ else ⟨Fr.nil, 0, Flt.whole 1⟩)
          else if (unfitM f.sets).is then ⟨Fr.nil, 0, unfitM f.sets⟩
          else ⟨f, 9 + beN (b.take 3), Flt.no⟩) := by
  unfold takeF; rw [if_neg (by omega)]; simp only; rw [if_neg (by omega), if_neg (by omega)]; rfl
variable (h2 : (beN (b.take 3) : Int) ≤ most) (h3 : 9 + (beN (b.take 3) : Int) ≤ (b.length : Int))
include h2 h3
theorem takeF_4 (hm : misB (tyB b) (stB b) = true) : takeF b most = ⟨Fr.nil, 0, Flt.whole 1⟩ := by rw [takeF_0 h2 h3, hm]; rfl
theorem takeF_5 (hm : misB (tyB b) (stB b) = false) (hs : missB (tyB b) (flB b) (beN (b.take 3) : Int) = true) (ht : tyB b = 2) : takeF b most = ⟨Fr.nil, 9 + beN (b.take 3), ⟨true, 6, (stB b)⟩⟩ := by rw [takeF_0 h2 h3, hm, hs, if_pos ht]; rfl
theorem takeF_6 (hm : misB (tyB b) (stB b) = false) (hs : missB (tyB b) (flB b) (beN (b.take 3) : Int) = true) (ht : ¬ tyB b = 2) : takeF b most = ⟨Fr.nil, 0, Flt.whole 6⟩ := by rw [takeF_0 h2 h3, hm, hs, if_neg ht]; rfl
theorem takeF_7 (hm : misB (tyB b) (stB b) = false) (hs : missB (tyB b) (flB b) (beN (b.take 3) : Int) = false) (ho : openB (f0B b) (pB b) = false) : takeF b most = ⟨Fr.nil, 0, Flt.whole 1⟩ := by
  rw [takeF_0 h2 h3, hm, hs]
  unfold openB at ho
  cases h : openM (f0B b) (pB b) with
  | none => rfl
  | some g => rw [h] at ho; cases ho
end
theorem openM_keeps {f g : Fr} {p : List UInt8} (h : openM f p = some g) : g.ty = f.ty ∧ g.fl = f.fl ∧ g.st = f.st := by
  rw [openM_eq] at h
  repeat' split at h
  all_goals first | (cases h; done) | (injection h with h; subst h; exact ⟨rfl, rfl, rfl⟩)
theorem openL_sets {f : Fr} {p : List UInt8} (hs : f.sets = []) : (openL f p).sets.length ≤ p.length := by
  unfold openL
  rw [openM_eq]
  repeat' split
  all_goals simp [openK, placeM, hs]
  omega
theorem boxW2 {X : Cx} {fr fr' : Fm} {ah : AH} {cs es es' cs2 es2 es2' : List D} (h : look ah 0 = some (.box cs)) (h2 : look ah 1 = some (.box cs2)) (hd : DWs none (dom [(0, .box es'), (1, .box es2')]) cs es) (he : es = es') (hd2 : DWs none (dom [(0, .box es'), (1, .box es2')]) cs2 es2) (he2 : es2 = es2') (hf : FW fr none (dom [(0, .box es'), (1, .box es2')]) fr') : Weak X fr ah fr' [(0, .box es'), (1, .box es2')] := by
  subst he he2
  exact weak_all none trivial (.box h hd (.box h2 hd2 .nil)) hf
theorem wTake {X : Cx} {b : List UInt8} {most : Int} {t : Took} {fr : Fm} {ah : AH} {cs es cs2 es2 : List D} {n : Int} (ht : takeF b most = t) (h : look ah 0 = some (.box cs) := by exact rfl) (h2 : look ah 1 = some (.box cs2) := by exact rfl)
    (hd : DWs none (dom [(0, .box (takeF b most).f.cs), (1, .box (takeF b most).x.cs)]) cs es := by (repeat (first | exact .nil | apply DWs.cons .nil | apply DWs.cons (.keep rfl)))) (he : es = t.f.cs := by rfl)
    (hd2 : DWs none (dom [(0, .box (takeF b most).f.cs), (1, .box (takeF b most).x.cs)]) cs2 es2 := by (repeat (first | exact .nil | apply DWs.cons .nil | apply DWs.cons (.keep rfl)))) (he2 : es2 = t.x.cs := by rfl)
    (h4 : look fr 4 = some (.ptr 0 0) := by exact rfl) (h6 : look fr 6 = some (.ptr 1 0) := by exact rfl) (h5 : look fr 5 = some (.v (.int .i64 n)) := by exact rfl) (hn : n = (t.n : Int) := by first | rfl | omega | (simp; done)) :
    Weak X fr ah [(4, .ptr 0 0), (6, .ptr 1 0), (5, .v (.int .i64 ((takeF b most).n : Int)))] [(0, .box (takeF b most).f.cs), (1, .box (takeF b most).x.cs)] := by
  subst hn he he2 ht
  exact boxW2 h h2 hd rfl hd2 rfl (.cons h4 (.keep rfl) (.cons h6 (.keep rfl) (.cons h5 (.keep rfl) .nil)))
theorem open_keeps {f : Fr} {p : List UInt8} : (openL f p).ty = f.ty ∧ (openL f p).fl = f.fl ∧ (openL f p).st = f.st := by
  unfold openL
  cases h : openM f p with
  | none => exact ⟨rfl, rfl, rfl⟩
  | some g => exact openM_keeps h
theorem takeF_8 {b : List UInt8} {most : Int} (h2 : (beN (b.take 3) : Int) ≤ most) (h3 : 9 + (beN (b.take 3) : Int) ≤ (b.length : Int)) (hm : misB (tyB b) (stB b) = false) (hs : missB (tyB b) (flB b) (beN (b.take 3) : Int) = false) (ho : openB (f0B b) (pB b) = true) : takeF b most =
   (if (openL (f0B b) (pB b)).ty = 8 ∧ (openL (f0B b) (pB b)).inc = 0 then (if (openL (f0B b) (pB b)).st ≠ 0 then ⟨Fr.nil, 9 + beN (b.take 3), ⟨true, 1, (openL (f0B b) (pB b)).st⟩⟩ else ⟨Fr.nil, 0, Flt.whole 1⟩)
          else if (unfitM (openL (f0B b) (pB b)).sets).is then ⟨Fr.nil, 0, unfitM (openL (f0B b) (pB b)).sets⟩
          else ⟨openL (f0B b) (pB b), 9 + beN (b.take 3), Flt.no⟩) := by
  obtain ⟨k1, k2, k3⟩ := open_keeps (f := f0B b) (p := pB b)
  rw [k1, k3, takeF_0 h2 h3, hm, hs]
  unfold openB at ho
  unfold openL
  cases h : openM (f0B b) (pB b) with
  | none => rw [h] at ho; cases ho
  | some g => rfl
theorem con_frTake {b : List UInt8} {most : Int} (hb : b.length ≤ 1000000000) : Con Try.prog 30 [.v (.sl (bs b)), .v (.int .i64 most)] [] 0 (.ret (.tup [.agg (takeF b most).f.cs, .v (.int .i64 ((takeF b most).n : Int)), .agg (takeF b most).x.cs])) [] := by
  have hn := beN_small b 3 3 (by decide)
  have hu8 : ∀ b : UInt8, 0 ≤ (b.toNat : Int) ∧ (b.toNat : Int) ≤ 255 := fun b => by have := b.toNat_lt; omega
  have hlow : IntKind.i64.wrap ((BitVec.ofInt IntKind.i64.bits (at4 b (Int.toNat 5)) &&& BitVec.ofInt IntKind.i64.bits 2147483647).toNat) = stB b := low_of (at4 b (Int.toNat 5)) (at4_le _ _).1 (at4_le _ _).2
  have e0 : 9 ≤ b.length → IntKind.i64.wrap (takeV b 0 3) = (beN (b.take 3) : Int) := fun h => by
    have : takeV b 0 3 = (beN (b.take 3) : Int) := by unfold takeV; rw [if_neg (by omega)]; rfl
    rw [this, i64_wrap (by omega) (by omega)]
  have hi3 : 9 ≤ b.length → (bs b)[3]? = some [V.int .u8 (tyB b)] := fun h => bs_get (by rw [List.getD_eq_getElem?_getD, List.getElem?_eq_getElem (by omega)]; rfl)
  have hi4 : 9 ≤ b.length → (bs b)[4]? = some [V.int .u8 (flB b)] := fun h => bs_get (by rw [List.getD_eq_getElem?_getD, List.getElem?_eq_getElem (by omega)]; rfl)
  have hw3 : IntKind.i64.wrap (tyB b) = tyB b := wrap_byte _
  have hw4 : IntKind.i64.wrap (flB b) = flB b := wrap_byte _
  have hpl : 9 + (beN (b.take 3) : Int) ≤ (b.length : Int) → (pB b).length = beN (b.take 3) := fun h => by unfold pB; simp; omega
  have hfl : 0 ≤ flB b ∧ flB b ≤ 255 := hu8 _
  obtain ⟨hk1, hk2, hk3⟩ := open_keeps (f := f0B b) (p := pB b)
  have hks := openL_sets (f := f0B b) (p := pB b) rfl
  refine con_of Try.func30 rfl (by show _ ≤ 132; simp) fun X Q hP hnt hnp hret hpan => ?_
  obtain ⟨P0, nt0, w0, K0, S0, np0, pin0, df0⟩ := X
  simp only at hP hnt hnp
  subst hP hnp
  obtain rfl : nt0 = 132 := hnt
  refine aw_region fun K1 hK1 => ?_
  refine aL (z_alloc 0 zc_40 zl_40) ?_
  refine aL z_assign ?_
  refine aL (z_alloc 1 zc_37 zl_37) ?_
  refine awl_nil (hK1 _ _ ?_)
  clear hK1 K1
  refine aw_seq fun K2 hK2 => ?_
  refine aw_region fun K3 hK3 => ?_
  refine aL z_move ?_
  first
    | refine aL (z_lenB Try.underlying24) ?_
    | refine aL (z_len Try.underlying24) ?_
    | refine aL (z_lenV Try.underlying24) ?_
  refine aL z_lss ?_
  refine awl_nil (hK3 _ _ ?_)
  clear hK3 K3
  refine aC (fun r1 c1 => ?_) (fun r1 c1 => ?_)
  · refine aw_region fun K4 hK4 => ?_
    refine aL (z_build .nil pl_40 zc_40 zl_40) ?_
    refine aL (z_build .nil pl_37 zc_37 zl_37) ?_
    refine aL (z_store sz_40) ?_
    refine aL z_assign ?_
    refine aL (z_store sz_37) ?_
    refine awl_nil (hK4 _ _ ?_)
    clear hK4 K4
    first
      | (have he := takeF_1 (b := b) (most := most) (by omega); refine aw_weak (wTake he) ?_)
      | (have he := takeF_2 (b := b) (most := most) (by omega) (by omega); refine aw_weak (wTake he) ?_)
      | (have he := takeF_3 (b := b) (most := most) (by omega) (by omega) (by omega); refine aw_weak (wTake he) ?_)
      | (have he := takeF_4 (b := b) (most := most) (by omega) (by omega) (by assumption); refine aw_weak (wTake he) ?_)
      | (have hs : missB (tyB b) (flB b) (beN (b.take 3) : Int) = true := c5.1; have ht : tyB b = 2 := c5.2; have he := takeF_5 (b := b) (most := most) (by omega) (by omega) (by assumption) hs ht; refine aw_weak (wTake he) ?_)
      | (have hs : missB (tyB b) (flB b) (beN (b.take 3) : Int) = true := (by assumption); have ht : ¬ tyB b = 2 := (by rcases c5 with h | h; (rw [h] at hs; cases hs); exact h); have he := takeF_6 (b := b) (most := most) (by omega) (by omega) (by assumption) hs ht; refine aw_weak (wTake he) ?_)
      | (have he := takeF_7 (b := b) (most := most) (by omega) (by omega) (by assumption) (by assumption) (by assumption); refine aw_weak (wTake he) ?_)
      | (have he := takeF_8 (b := b) (most := most) (by omega) (by omega) (by assumption) (by assumption) (by assumption); rw [if_pos (show (openL (f0B b) (pB b)).ty = 8 ∧ (openL (f0B b) (pB b)).inc = 0 by omega), if_pos (show (openL (f0B b) (pB b)).st ≠ 0 by omega)] at he; refine aw_weak (wTake he) ?_)
      | (have he := takeF_8 (b := b) (most := most) (by omega) (by omega) (by assumption) (by assumption) (by assumption); rw [if_pos (show (openL (f0B b) (pB b)).ty = 8 ∧ (openL (f0B b) (pB b)).inc = 0 by omega), if_neg (show ¬ (openL (f0B b) (pB b)).st ≠ 0 by omega)] at he; refine aw_weak (wTake he) ?_)
      | (have he := takeF_8 (b := b) (most := most) (by omega) (by omega) (by assumption) (by assumption) (by assumption); rw [if_neg (show ¬ ((openL (f0B b) (pB b)).ty = 8 ∧ (openL (f0B b) (pB b)).inc = 0) by omega), if_pos (by assumption)] at he; refine aw_weak (wTake he) ?_)
      | (have he := takeF_8 (b := b) (most := most) (by omega) (by omega) (by assumption) (by assumption) (by assumption); rw [if_neg (show ¬ ((openL (f0B b) (pB b)).ty = 8 ∧ (openL (f0B b) (pB b)).inc = 0) by omega), if_neg (by simp_all)] at he; refine aw_weak (wTake he) ?_)
    refine aw_ret ?_
    refine (hret _ _ _ _ _ rfl (rCe sz_40 (.tmp rfl (rCe sz_37 .nil))) rfl ?_ .nil rfl).1
    rfl
  · refine aw_skip ?_
    refine hK2 _ _ ?_
    clear hK2
    refine aw_region fun K5 hK5 => ?_
    refine aL z_move ?_
    refine aL (z_call0 (eC (eC (eC .nil))) en_35 (con_take (by omega))) ?_
    refine aL z_move ?_
    refine aL z_extract ?_
    refine aL z_extract ?_
    refine aL z_assign ?_
    refine aL z_assign ?_
    refine awl_nil (hK5 _ _ ?_)
    clear hK5 K5
    refine aw_region fun K6 hK6 => ?_
    refine aL z_move ?_
    have e := e0 (by omega)
    refine aL (z_conv Try.underlying3 ⟨_, Try.underlying62⟩) ?_
    refine aL z_assign ?_
    refine awl_nil (hK6 _ _ ?_)
    clear hK6 K6
    refine aw_seq fun K7 hK7 => ?_
    refine aw_region fun K8 hK8 => ?_
    refine aL z_move ?_
    refine aL z_move ?_
    refine aL z_gtr ?_
    refine awl_nil (hK8 _ _ ?_)
    clear hK8 K8
    refine aC (fun r2 c2 => ?_) (fun r2 c2 => ?_)
    · refine aw_region fun K9 hK9 => ?_
      refine aL (z_build .nil pl_40 zc_40 zl_40) ?_
      refine aL (z_call0 (eC .nil) en_36 (con_whole)) ?_
      refine aL (z_store sz_40) ?_
      refine aL z_assign ?_
      refine aL (z_store sz_37) ?_
      refine awl_nil (hK9 _ _ ?_)
      clear hK9 K9
      first
        | (have he := takeF_1 (b := b) (most := most) (by omega); refine aw_weak (wTake he) ?_)
        | (have he := takeF_2 (b := b) (most := most) (by omega) (by omega); refine aw_weak (wTake he) ?_)
        | (have he := takeF_3 (b := b) (most := most) (by omega) (by omega) (by omega); refine aw_weak (wTake he) ?_)
        | (have he := takeF_4 (b := b) (most := most) (by omega) (by omega) (by assumption); refine aw_weak (wTake he) ?_)
        | (have hs : missB (tyB b) (flB b) (beN (b.take 3) : Int) = true := c5.1; have ht : tyB b = 2 := c5.2; have he := takeF_5 (b := b) (most := most) (by omega) (by omega) (by assumption) hs ht; refine aw_weak (wTake he) ?_)
        | (have hs : missB (tyB b) (flB b) (beN (b.take 3) : Int) = true := (by assumption); have ht : ¬ tyB b = 2 := (by rcases c5 with h | h; (rw [h] at hs; cases hs); exact h); have he := takeF_6 (b := b) (most := most) (by omega) (by omega) (by assumption) hs ht; refine aw_weak (wTake he) ?_)
        | (have he := takeF_7 (b := b) (most := most) (by omega) (by omega) (by assumption) (by assumption) (by assumption); refine aw_weak (wTake he) ?_)
        | (have he := takeF_8 (b := b) (most := most) (by omega) (by omega) (by assumption) (by assumption) (by assumption); rw [if_pos (show (openL (f0B b) (pB b)).ty = 8 ∧ (openL (f0B b) (pB b)).inc = 0 by omega), if_pos (show (openL (f0B b) (pB b)).st ≠ 0 by omega)] at he; refine aw_weak (wTake he) ?_)
        | (have he := takeF_8 (b := b) (most := most) (by omega) (by omega) (by assumption) (by assumption) (by assumption); rw [if_pos (show (openL (f0B b) (pB b)).ty = 8 ∧ (openL (f0B b) (pB b)).inc = 0 by omega), if_neg (show ¬ (openL (f0B b) (pB b)).st ≠ 0 by omega)] at he; refine aw_weak (wTake he) ?_)
        | (have he := takeF_8 (b := b) (most := most) (by omega) (by omega) (by assumption) (by assumption) (by assumption); rw [if_neg (show ¬ ((openL (f0B b) (pB b)).ty = 8 ∧ (openL (f0B b) (pB b)).inc = 0) by omega), if_pos (by assumption)] at he; refine aw_weak (wTake he) ?_)
        | (have he := takeF_8 (b := b) (most := most) (by omega) (by omega) (by assumption) (by assumption) (by assumption); rw [if_neg (show ¬ ((openL (f0B b) (pB b)).ty = 8 ∧ (openL (f0B b) (pB b)).inc = 0) by omega), if_neg (by simp_all)] at he; refine aw_weak (wTake he) ?_)
      refine aw_ret ?_
      refine (hret _ _ _ _ _ rfl (rCe sz_40 (.tmp rfl (rCe sz_37 .nil))) rfl ?_ .nil rfl).1
      rfl
    · refine aw_skip ?_
      refine hK7 _ _ ?_
      clear hK7
      refine aw_region fun K10 hK10 => ?_
      refine aL z_move ?_
      refine aL z_add ?_
      refine aL z_assign ?_
      refine awl_nil (hK10 _ _ ?_)
      clear hK10 K10
      refine aw_seq fun K11 hK11 => ?_
      refine aw_region fun K12 hK12 => ?_
      refine aL z_move ?_
      first
        | refine aL (z_lenB Try.underlying24) ?_
        | refine aL (z_len Try.underlying24) ?_
        | refine aL (z_lenV Try.underlying24) ?_
      refine aL z_move ?_
      refine aL z_lss ?_
      refine awl_nil (hK12 _ _ ?_)
      clear hK12 K12
      refine aC (fun r3 c3 => ?_) (fun r3 c3 => ?_)
      · refine aw_region fun K13 hK13 => ?_
        refine aL (z_build .nil pl_40 zc_40 zl_40) ?_
        refine aL (z_build .nil pl_37 zc_37 zl_37) ?_
        refine aL (z_store sz_40) ?_
        refine aL z_assign ?_
        refine aL (z_store sz_37) ?_
        refine awl_nil (hK13 _ _ ?_)
        clear hK13 K13
        first
          | (have he := takeF_1 (b := b) (most := most) (by omega); refine aw_weak (wTake he) ?_)
          | (have he := takeF_2 (b := b) (most := most) (by omega) (by omega); refine aw_weak (wTake he) ?_)
          | (have he := takeF_3 (b := b) (most := most) (by omega) (by omega) (by omega); refine aw_weak (wTake he) ?_)
          | (have he := takeF_4 (b := b) (most := most) (by omega) (by omega) (by assumption); refine aw_weak (wTake he) ?_)
          | (have hs : missB (tyB b) (flB b) (beN (b.take 3) : Int) = true := c5.1; have ht : tyB b = 2 := c5.2; have he := takeF_5 (b := b) (most := most) (by omega) (by omega) (by assumption) hs ht; refine aw_weak (wTake he) ?_)
          | (have hs : missB (tyB b) (flB b) (beN (b.take 3) : Int) = true := (by assumption); have ht : ¬ tyB b = 2 := (by rcases c5 with h | h; (rw [h] at hs; cases hs); exact h); have he := takeF_6 (b := b) (most := most) (by omega) (by omega) (by assumption) hs ht; refine aw_weak (wTake he) ?_)
          | (have he := takeF_7 (b := b) (most := most) (by omega) (by omega) (by assumption) (by assumption) (by assumption); refine aw_weak (wTake he) ?_)
          | (have he := takeF_8 (b := b) (most := most) (by omega) (by omega) (by assumption) (by assumption) (by assumption); rw [if_pos (show (openL (f0B b) (pB b)).ty = 8 ∧ (openL (f0B b) (pB b)).inc = 0 by omega), if_pos (show (openL (f0B b) (pB b)).st ≠ 0 by omega)] at he; refine aw_weak (wTake he) ?_)
          | (have he := takeF_8 (b := b) (most := most) (by omega) (by omega) (by assumption) (by assumption) (by assumption); rw [if_pos (show (openL (f0B b) (pB b)).ty = 8 ∧ (openL (f0B b) (pB b)).inc = 0 by omega), if_neg (show ¬ (openL (f0B b) (pB b)).st ≠ 0 by omega)] at he; refine aw_weak (wTake he) ?_)
          | (have he := takeF_8 (b := b) (most := most) (by omega) (by omega) (by assumption) (by assumption) (by assumption); rw [if_neg (show ¬ ((openL (f0B b) (pB b)).ty = 8 ∧ (openL (f0B b) (pB b)).inc = 0) by omega), if_pos (by assumption)] at he; refine aw_weak (wTake he) ?_)
          | (have he := takeF_8 (b := b) (most := most) (by omega) (by omega) (by assumption) (by assumption) (by assumption); rw [if_neg (show ¬ ((openL (f0B b) (pB b)).ty = 8 ∧ (openL (f0B b) (pB b)).inc = 0) by omega), if_neg (by simp_all)] at he; refine aw_weak (wTake he) ?_)
        refine aw_ret ?_
        refine (hret _ _ _ _ _ rfl (rCe sz_40 (.tmp rfl (rCe sz_37 .nil))) rfl ?_ .nil rfl).1
        rfl
      · refine aw_skip ?_
        refine hK11 _ _ ?_
        clear hK11
        refine aw_regionD mx_all (by kernel_rfl) fun K14 hK14 => ?_
        refine aD z_move ?_
        have i3 := hi3 (by omega)
        have i4 := hi4 (by omega)
        first
          | refine aD (z_indexAddr Try.underlying24 sz_5) ?_
          | refine aD (z_indexAddrV Try.underlying24 sz_5) ?_
        first
          | refine aD (z_load sz_5) ?_
          | refine aD (z_loadRef sz_5) ?_
          | refine aD (z_loadV sz_5) ?_
        refine aD (z_conv Try.underlying3 ⟨_, Try.underlying5⟩) ?_
        refine aD z_move ?_
        first
          | refine aD (z_indexAddr Try.underlying24 sz_5) ?_
          | refine aD (z_indexAddrV Try.underlying24 sz_5) ?_
        first
          | refine aD (z_load sz_5) ?_
          | refine aD (z_loadRef sz_5) ?_
          | refine aD (z_loadV sz_5) ?_
        refine aD (z_conv Try.underlying3 ⟨_, Try.underlying5⟩) ?_
        refine aD z_move ?_
        refine aD (z_call0 (eC (eC .nil)) en_37 (con_number (by omega) (by omega) (by simp; omega))) ?_
        refine aD z_band ?_
        refine aD (z_build (pC (pC (pC .nil))) pl_40 zc_40 zl_40) ?_
        refine aD (z_alloc 2 zc_40 zl_40) ?_
        refine aD (z_store sz_40) ?_
        refine awd_nil (by kernel_rfl) (hK14 _ _ ?_)
        clear hK14 K14
        refine aw_seq fun K15 hK15 => ?_
        refine aw_block ?_
        refine aw_region fun K16 hK16 => ?_
        first
          | refine aL (z_fieldAddr fo_40_0) ?_
          | refine aL (z_fieldRef fo_40_0) ?_
          | refine aL (z_fieldV fo_40_0) ?_
        first
          | refine aL (z_load sz_3) ?_
          | refine aL (z_loadRef sz_3) ?_
          | refine aL (z_loadV sz_3) ?_
        first
          | refine aL (z_fieldAddr fo_40_2) ?_
          | refine aL (z_fieldRef fo_40_2) ?_
          | refine aL (z_fieldV fo_40_2) ?_
        first
          | refine aL (z_load sz_3) ?_
          | refine aL (z_loadRef sz_3) ?_
          | refine aL (z_loadV sz_3) ?_
        refine aL (z_call0 (eC (eC .nil)) en_38 (con_misplaced)) ?_
        refine aL z_assign ?_
        refine awl_nil (hK16 _ _ ?_)
        clear hK16 K16
        refine aC (fun r4 c4 => ?_) (fun r4 c4 => ?_)
        · refine aw_region fun K17 hK17 => ?_
          refine aL (z_build .nil pl_40 zc_40 zl_40) ?_
          refine aL (z_call0 (eC .nil) en_36 (con_whole)) ?_
          refine aL (z_store sz_40) ?_
          refine aL z_assign ?_
          refine aL (z_store sz_37) ?_
          refine awl_nil (hK17 _ _ ?_)
          clear hK17 K17
          first
            | (have he := takeF_1 (b := b) (most := most) (by omega); refine aw_weak (wTake he) ?_)
            | (have he := takeF_2 (b := b) (most := most) (by omega) (by omega); refine aw_weak (wTake he) ?_)
            | (have he := takeF_3 (b := b) (most := most) (by omega) (by omega) (by omega); refine aw_weak (wTake he) ?_)
            | (have he := takeF_4 (b := b) (most := most) (by omega) (by omega) (by assumption); refine aw_weak (wTake he) ?_)
            | (have hs : missB (tyB b) (flB b) (beN (b.take 3) : Int) = true := c5.1; have ht : tyB b = 2 := c5.2; have he := takeF_5 (b := b) (most := most) (by omega) (by omega) (by assumption) hs ht; refine aw_weak (wTake he) ?_)
            | (have hs : missB (tyB b) (flB b) (beN (b.take 3) : Int) = true := (by assumption); have ht : ¬ tyB b = 2 := (by rcases c5 with h | h; (rw [h] at hs; cases hs); exact h); have he := takeF_6 (b := b) (most := most) (by omega) (by omega) (by assumption) hs ht; refine aw_weak (wTake he) ?_)
            | (have he := takeF_7 (b := b) (most := most) (by omega) (by omega) (by assumption) (by assumption) (by assumption); refine aw_weak (wTake he) ?_)
            | (have he := takeF_8 (b := b) (most := most) (by omega) (by omega) (by assumption) (by assumption) (by assumption); rw [if_pos (show (openL (f0B b) (pB b)).ty = 8 ∧ (openL (f0B b) (pB b)).inc = 0 by omega), if_pos (show (openL (f0B b) (pB b)).st ≠ 0 by omega)] at he; refine aw_weak (wTake he) ?_)
            | (have he := takeF_8 (b := b) (most := most) (by omega) (by omega) (by assumption) (by assumption) (by assumption); rw [if_pos (show (openL (f0B b) (pB b)).ty = 8 ∧ (openL (f0B b) (pB b)).inc = 0 by omega), if_neg (show ¬ (openL (f0B b) (pB b)).st ≠ 0 by omega)] at he; refine aw_weak (wTake he) ?_)
            | (have he := takeF_8 (b := b) (most := most) (by omega) (by omega) (by assumption) (by assumption) (by assumption); rw [if_neg (show ¬ ((openL (f0B b) (pB b)).ty = 8 ∧ (openL (f0B b) (pB b)).inc = 0) by omega), if_pos (by assumption)] at he; refine aw_weak (wTake he) ?_)
            | (have he := takeF_8 (b := b) (most := most) (by omega) (by omega) (by assumption) (by assumption) (by assumption); rw [if_neg (show ¬ ((openL (f0B b) (pB b)).ty = 8 ∧ (openL (f0B b) (pB b)).inc = 0) by omega), if_neg (by simp_all)] at he; refine aw_weak (wTake he) ?_)
          refine aw_ret ?_
          refine (hret _ _ _ _ _ rfl (rCe sz_40 (.tmp rfl (rCe sz_37 .nil))) rfl ?_ .nil rfl).1
          rfl
        · refine aw_region fun K18 hK18 => ?_
          first
            | refine aL (z_fieldAddr fo_40_0) ?_
            | refine aL (z_fieldRef fo_40_0) ?_
            | refine aL (z_fieldV fo_40_0) ?_
          first
            | refine aL (z_load sz_3) ?_
            | refine aL (z_loadRef sz_3) ?_
            | refine aL (z_loadV sz_3) ?_
          first
            | refine aL (z_fieldAddr fo_40_1) ?_
            | refine aL (z_fieldRef fo_40_1) ?_
            | refine aL (z_fieldV fo_40_1) ?_
          first
            | refine aL (z_load sz_3) ?_
            | refine aL (z_loadRef sz_3) ?_
            | refine aL (z_loadV sz_3) ?_
          refine aL z_move ?_
          refine aL (z_call0 (eC (eC (eC .nil))) en_39 (con_missized (fl := flB b) hfl.1 hfl.2 (by omega))) ?_
          refine aL z_move ?_
          first
            | refine gL rfl rfl (ev_tmp rfl) (fun hg => z_fieldAddr fo_40_0) ?_
            | refine gL rfl rfl (ev_tmp rfl) (fun hg => z_fieldRef fo_40_0) ?_
            | refine gL rfl rfl (ev_tmp rfl) (fun hg => z_fieldV fo_40_0) ?_
            | refine hL rfl rfl (ev_tmp rfl) (fun hg => z_fieldAddr fo_40_0) ?_
            | refine hL rfl rfl (ev_tmp rfl) (fun hg => z_fieldRef fo_40_0) ?_
            | refine hL rfl rfl (ev_tmp rfl) (fun hg => z_fieldV fo_40_0) ?_
          first
            | refine gL rfl rfl (ev_tmp rfl) (fun hg => z_load sz_3) ?_
            | refine gL rfl rfl (ev_tmp rfl) (fun hg => z_loadRef sz_3) ?_
            | refine gL rfl rfl (ev_tmp rfl) (fun hg => z_loadV sz_3) ?_
            | refine hL rfl rfl (ev_tmp rfl) (fun hg => z_load sz_3) ?_
            | refine hL rfl rfl (ev_tmp rfl) (fun hg => z_loadRef sz_3) ?_
            | refine hL rfl rfl (ev_tmp rfl) (fun hg => z_loadV sz_3) ?_
          first
            | refine gL rfl rfl (ev_tmp rfl) (fun hg => z_eql) ?_
            | refine hL rfl rfl (ev_tmp rfl) (fun hg => z_eql) ?_
          refine aL z_and ?_
          refine aL z_assign ?_
          refine awl_nil (hK18 _ _ ?_)
          clear hK18 K18
          refine aC (fun r5 c5 => ?_) (fun r5 c5 => ?_)
          · refine aw_regionD mx_all (by kernel_rfl) fun K19 hK19 => ?_
            refine aD (z_build .nil pl_40 zc_40 zl_40) ?_
            refine aD z_move ?_
            first
              | refine aD (z_fieldAddr fo_40_2) ?_
              | refine aD (z_fieldRef fo_40_2) ?_
              | refine aD (z_fieldV fo_40_2) ?_
            first
              | refine aD (z_load sz_3) ?_
              | refine aD (z_loadRef sz_3) ?_
              | refine aD (z_loadV sz_3) ?_
            refine aD (z_build (pC (pC (pC .nil))) pl_37 zc_37 zl_37) ?_
            refine aD (z_store sz_40) ?_
            refine aD z_assign ?_
            refine aD (z_store sz_37) ?_
            refine awd_nil (by kernel_rfl) (hK19 _ _ ?_)
            clear hK19 K19
            first
              | (have he := takeF_1 (b := b) (most := most) (by omega); refine aw_weak (wTake he) ?_)
              | (have he := takeF_2 (b := b) (most := most) (by omega) (by omega); refine aw_weak (wTake he) ?_)
              | (have he := takeF_3 (b := b) (most := most) (by omega) (by omega) (by omega); refine aw_weak (wTake he) ?_)
              | (have he := takeF_4 (b := b) (most := most) (by omega) (by omega) (by assumption); refine aw_weak (wTake he) ?_)
              | (have hs : missB (tyB b) (flB b) (beN (b.take 3) : Int) = true := c5.1; have ht : tyB b = 2 := c5.2; have he := takeF_5 (b := b) (most := most) (by omega) (by omega) (by assumption) hs ht; refine aw_weak (wTake he) ?_)
              | (have hs : missB (tyB b) (flB b) (beN (b.take 3) : Int) = true := (by assumption); have ht : ¬ tyB b = 2 := (by rcases c5 with h | h; (rw [h] at hs; cases hs); exact h); have he := takeF_6 (b := b) (most := most) (by omega) (by omega) (by assumption) hs ht; refine aw_weak (wTake he) ?_)
              | (have he := takeF_7 (b := b) (most := most) (by omega) (by omega) (by assumption) (by assumption) (by assumption); refine aw_weak (wTake he) ?_)
              | (have he := takeF_8 (b := b) (most := most) (by omega) (by omega) (by assumption) (by assumption) (by assumption); rw [if_pos (show (openL (f0B b) (pB b)).ty = 8 ∧ (openL (f0B b) (pB b)).inc = 0 by omega), if_pos (show (openL (f0B b) (pB b)).st ≠ 0 by omega)] at he; refine aw_weak (wTake he) ?_)
              | (have he := takeF_8 (b := b) (most := most) (by omega) (by omega) (by assumption) (by assumption) (by assumption); rw [if_pos (show (openL (f0B b) (pB b)).ty = 8 ∧ (openL (f0B b) (pB b)).inc = 0 by omega), if_neg (show ¬ (openL (f0B b) (pB b)).st ≠ 0 by omega)] at he; refine aw_weak (wTake he) ?_)
              | (have he := takeF_8 (b := b) (most := most) (by omega) (by omega) (by assumption) (by assumption) (by assumption); rw [if_neg (show ¬ ((openL (f0B b) (pB b)).ty = 8 ∧ (openL (f0B b) (pB b)).inc = 0) by omega), if_pos (by assumption)] at he; refine aw_weak (wTake he) ?_)
              | (have he := takeF_8 (b := b) (most := most) (by omega) (by omega) (by assumption) (by assumption) (by assumption); rw [if_neg (show ¬ ((openL (f0B b) (pB b)).ty = 8 ∧ (openL (f0B b) (pB b)).inc = 0) by omega), if_neg (by simp_all)] at he; refine aw_weak (wTake he) ?_)
            refine aw_ret ?_
            refine (hret _ _ _ _ _ rfl (rCe sz_40 (.tmp rfl (rCe sz_37 .nil))) rfl ?_ .nil rfl).1
            rfl
          · refine aw_region fun K20 hK20 => ?_
            first
              | refine aL (z_fieldAddr fo_40_0) ?_
              | refine aL (z_fieldRef fo_40_0) ?_
              | refine aL (z_fieldV fo_40_0) ?_
            first
              | refine aL (z_load sz_3) ?_
              | refine aL (z_loadRef sz_3) ?_
              | refine aL (z_loadV sz_3) ?_
            first
              | refine aL (z_fieldAddr fo_40_1) ?_
              | refine aL (z_fieldRef fo_40_1) ?_
              | refine aL (z_fieldV fo_40_1) ?_
            first
              | refine aL (z_load sz_3) ?_
              | refine aL (z_loadRef sz_3) ?_
              | refine aL (z_loadV sz_3) ?_
            refine aL z_move ?_
            refine aL (z_call0 (eC (eC (eC .nil))) en_39 (con_missized (fl := flB b) hfl.1 hfl.2 (by omega))) ?_
            refine aL z_assign ?_
            refine awl_nil (hK20 _ _ ?_)
            clear hK20 K20
            refine aC (fun r6 c6 => ?_) (fun r6 c6 => ?_)
            · refine aw_region fun K21 hK21 => ?_
              refine aL (z_build .nil pl_40 zc_40 zl_40) ?_
              refine aL (z_call0 (eC .nil) en_36 (con_whole)) ?_
              refine aL (z_store sz_40) ?_
              refine aL z_assign ?_
              refine aL (z_store sz_37) ?_
              refine awl_nil (hK21 _ _ ?_)
              clear hK21 K21
              first
                | (have he := takeF_1 (b := b) (most := most) (by omega); refine aw_weak (wTake he) ?_)
                | (have he := takeF_2 (b := b) (most := most) (by omega) (by omega); refine aw_weak (wTake he) ?_)
                | (have he := takeF_3 (b := b) (most := most) (by omega) (by omega) (by omega); refine aw_weak (wTake he) ?_)
                | (have he := takeF_4 (b := b) (most := most) (by omega) (by omega) (by assumption); refine aw_weak (wTake he) ?_)
                | (have hs : missB (tyB b) (flB b) (beN (b.take 3) : Int) = true := c5.1; have ht : tyB b = 2 := c5.2; have he := takeF_5 (b := b) (most := most) (by omega) (by omega) (by assumption) hs ht; refine aw_weak (wTake he) ?_)
                | (have hs : missB (tyB b) (flB b) (beN (b.take 3) : Int) = true := (by assumption); have ht : ¬ tyB b = 2 := (by rcases c5 with h | h; (rw [h] at hs; cases hs); exact h); have he := takeF_6 (b := b) (most := most) (by omega) (by omega) (by assumption) hs ht; refine aw_weak (wTake he) ?_)
                | (have he := takeF_7 (b := b) (most := most) (by omega) (by omega) (by assumption) (by assumption) (by assumption); refine aw_weak (wTake he) ?_)
                | (have he := takeF_8 (b := b) (most := most) (by omega) (by omega) (by assumption) (by assumption) (by assumption); rw [if_pos (show (openL (f0B b) (pB b)).ty = 8 ∧ (openL (f0B b) (pB b)).inc = 0 by omega), if_pos (show (openL (f0B b) (pB b)).st ≠ 0 by omega)] at he; refine aw_weak (wTake he) ?_)
                | (have he := takeF_8 (b := b) (most := most) (by omega) (by omega) (by assumption) (by assumption) (by assumption); rw [if_pos (show (openL (f0B b) (pB b)).ty = 8 ∧ (openL (f0B b) (pB b)).inc = 0 by omega), if_neg (show ¬ (openL (f0B b) (pB b)).st ≠ 0 by omega)] at he; refine aw_weak (wTake he) ?_)
                | (have he := takeF_8 (b := b) (most := most) (by omega) (by omega) (by assumption) (by assumption) (by assumption); rw [if_neg (show ¬ ((openL (f0B b) (pB b)).ty = 8 ∧ (openL (f0B b) (pB b)).inc = 0) by omega), if_pos (by assumption)] at he; refine aw_weak (wTake he) ?_)
                | (have he := takeF_8 (b := b) (most := most) (by omega) (by omega) (by assumption) (by assumption) (by assumption); rw [if_neg (show ¬ ((openL (f0B b) (pB b)).ty = 8 ∧ (openL (f0B b) (pB b)).inc = 0) by omega), if_neg (by simp_all)] at he; refine aw_weak (wTake he) ?_)
              refine aw_ret ?_
              refine (hret _ _ _ _ _ rfl (rCe sz_40 (.tmp rfl (rCe sz_37 .nil))) rfl ?_ .nil rfl).1
              rfl
            · refine aw_region fun K22 hK22 => ?_
              refine aL z_move ?_
              refine aL z_move ?_
              have hl := hpl (by omega)
              have hmiss : missB (f0B b).ty (f0B b).fl ((pB b).length : Int) = false := by rw [hl]; assumption
              refine aL (stepU_slice (j := some (9 + beN (b.take 3))) (c' := bs (pB b)) rfl Try.underlying24 sz_5 (bs_one _) (ev_tmp rfl) (.yes (ev_int _ _) rfl) (.yes (ev_tmp rfl) (by omega)) (by simp) (by simp; omega) (by simp [pB])) ?_
              refine aL (z_callB _ (eC (eC .nil)) en_40 (con_open (f := f0B b) (p := pB b) (hu8 _).1 (hu8 _).2 hmiss (by omega) rfl rfl)) ?_
              refine aL z_not ?_
              refine aL z_assign ?_
              refine awl_nil (hK22 _ _ ?_)
              clear hK22 K22
              refine aC (fun r7 c7 => ?_) (fun r7 c7 => ?_)
              · refine aw_region fun K23 hK23 => ?_
                refine aL (z_build .nil pl_40 zc_40 zl_40) ?_
                refine aL (z_call0 (eC .nil) en_36 (con_whole)) ?_
                refine aL (z_store sz_40) ?_
                refine aL z_assign ?_
                refine aL (z_store sz_37) ?_
                refine awl_nil (hK23 _ _ ?_)
                clear hK23 K23
                first
                  | (have he := takeF_1 (b := b) (most := most) (by omega); refine aw_weak (wTake he) ?_)
                  | (have he := takeF_2 (b := b) (most := most) (by omega) (by omega); refine aw_weak (wTake he) ?_)
                  | (have he := takeF_3 (b := b) (most := most) (by omega) (by omega) (by omega); refine aw_weak (wTake he) ?_)
                  | (have he := takeF_4 (b := b) (most := most) (by omega) (by omega) (by assumption); refine aw_weak (wTake he) ?_)
                  | (have hs : missB (tyB b) (flB b) (beN (b.take 3) : Int) = true := c5.1; have ht : tyB b = 2 := c5.2; have he := takeF_5 (b := b) (most := most) (by omega) (by omega) (by assumption) hs ht; refine aw_weak (wTake he) ?_)
                  | (have hs : missB (tyB b) (flB b) (beN (b.take 3) : Int) = true := (by assumption); have ht : ¬ tyB b = 2 := (by rcases c5 with h | h; (rw [h] at hs; cases hs); exact h); have he := takeF_6 (b := b) (most := most) (by omega) (by omega) (by assumption) hs ht; refine aw_weak (wTake he) ?_)
                  | (have he := takeF_7 (b := b) (most := most) (by omega) (by omega) (by assumption) (by assumption) (by assumption); refine aw_weak (wTake he) ?_)
                  | (have he := takeF_8 (b := b) (most := most) (by omega) (by omega) (by assumption) (by assumption) (by assumption); rw [if_pos (show (openL (f0B b) (pB b)).ty = 8 ∧ (openL (f0B b) (pB b)).inc = 0 by omega), if_pos (show (openL (f0B b) (pB b)).st ≠ 0 by omega)] at he; refine aw_weak (wTake he) ?_)
                  | (have he := takeF_8 (b := b) (most := most) (by omega) (by omega) (by assumption) (by assumption) (by assumption); rw [if_pos (show (openL (f0B b) (pB b)).ty = 8 ∧ (openL (f0B b) (pB b)).inc = 0 by omega), if_neg (show ¬ (openL (f0B b) (pB b)).st ≠ 0 by omega)] at he; refine aw_weak (wTake he) ?_)
                  | (have he := takeF_8 (b := b) (most := most) (by omega) (by omega) (by assumption) (by assumption) (by assumption); rw [if_neg (show ¬ ((openL (f0B b) (pB b)).ty = 8 ∧ (openL (f0B b) (pB b)).inc = 0) by omega), if_pos (by assumption)] at he; refine aw_weak (wTake he) ?_)
                  | (have he := takeF_8 (b := b) (most := most) (by omega) (by omega) (by assumption) (by assumption) (by assumption); rw [if_neg (show ¬ ((openL (f0B b) (pB b)).ty = 8 ∧ (openL (f0B b) (pB b)).inc = 0) by omega), if_neg (by simp_all)] at he; refine aw_weak (wTake he) ?_)
                refine aw_ret ?_
                refine (hret _ _ _ _ _ rfl (rCe sz_40 (.tmp rfl (rCe sz_37 .nil))) rfl ?_ .nil rfl).1
                rfl
              · refine aw_region fun K24 hK24 => ?_
                first
                  | refine aL (z_fieldAddr fo_40_0) ?_
                  | refine aL (z_fieldRef fo_40_0) ?_
                  | refine aL (z_fieldV fo_40_0) ?_
                first
                  | refine aL (z_load sz_3) ?_
                  | refine aL (z_loadRef sz_3) ?_
                  | refine aL (z_loadV sz_3) ?_
                refine aL z_eql ?_
                refine aL z_move ?_
                first
                  | refine gL rfl rfl (ev_tmp rfl) (fun hg => z_fieldAddr fo_40_8) ?_
                  | refine gL rfl rfl (ev_tmp rfl) (fun hg => z_fieldRef fo_40_8) ?_
                  | refine gL rfl rfl (ev_tmp rfl) (fun hg => z_fieldV fo_40_8) ?_
                  | refine hL rfl rfl (ev_tmp rfl) (fun hg => z_fieldAddr fo_40_8) ?_
                  | refine hL rfl rfl (ev_tmp rfl) (fun hg => z_fieldRef fo_40_8) ?_
                  | refine hL rfl rfl (ev_tmp rfl) (fun hg => z_fieldV fo_40_8) ?_
                first
                  | refine gL rfl rfl (ev_tmp rfl) (fun hg => z_load sz_2) ?_
                  | refine gL rfl rfl (ev_tmp rfl) (fun hg => z_loadRef sz_2) ?_
                  | refine gL rfl rfl (ev_tmp rfl) (fun hg => z_loadV sz_2) ?_
                  | refine hL rfl rfl (ev_tmp rfl) (fun hg => z_load sz_2) ?_
                  | refine hL rfl rfl (ev_tmp rfl) (fun hg => z_loadRef sz_2) ?_
                  | refine hL rfl rfl (ev_tmp rfl) (fun hg => z_loadV sz_2) ?_
                first
                  | refine gL rfl rfl (ev_tmp rfl) (fun hg => z_eql) ?_
                  | refine hL rfl rfl (ev_tmp rfl) (fun hg => z_eql) ?_
                refine aL z_and ?_
                refine aL z_move ?_
                first
                  | refine gL rfl rfl (ev_tmp rfl) (fun hg => z_fieldAddr fo_40_2) ?_
                  | refine gL rfl rfl (ev_tmp rfl) (fun hg => z_fieldRef fo_40_2) ?_
                  | refine gL rfl rfl (ev_tmp rfl) (fun hg => z_fieldV fo_40_2) ?_
                  | refine hL rfl rfl (ev_tmp rfl) (fun hg => z_fieldAddr fo_40_2) ?_
                  | refine hL rfl rfl (ev_tmp rfl) (fun hg => z_fieldRef fo_40_2) ?_
                  | refine hL rfl rfl (ev_tmp rfl) (fun hg => z_fieldV fo_40_2) ?_
                first
                  | refine gL rfl rfl (ev_tmp rfl) (fun hg => z_load sz_3) ?_
                  | refine gL rfl rfl (ev_tmp rfl) (fun hg => z_loadRef sz_3) ?_
                  | refine gL rfl rfl (ev_tmp rfl) (fun hg => z_loadV sz_3) ?_
                  | refine hL rfl rfl (ev_tmp rfl) (fun hg => z_load sz_3) ?_
                  | refine hL rfl rfl (ev_tmp rfl) (fun hg => z_loadRef sz_3) ?_
                  | refine hL rfl rfl (ev_tmp rfl) (fun hg => z_loadV sz_3) ?_
                first
                  | refine gL rfl rfl (ev_tmp rfl) (fun hg => z_neq) ?_
                  | refine hL rfl rfl (ev_tmp rfl) (fun hg => z_neq) ?_
                refine aL z_and ?_
                refine aL z_assign ?_
                refine awl_nil (hK24 _ _ ?_)
                clear hK24 K24
                refine aC (fun r8 c8 => ?_) (fun r8 c8 => ?_)
                · refine aw_regionD mx_all (by kernel_rfl) fun K25 hK25 => ?_
                  refine aD (z_build .nil pl_40 zc_40 zl_40) ?_
                  refine aD z_move ?_
                  first
                    | refine aD (z_fieldAddr fo_40_2) ?_
                    | refine aD (z_fieldRef fo_40_2) ?_
                    | refine aD (z_fieldV fo_40_2) ?_
                  first
                    | refine aD (z_load sz_3) ?_
                    | refine aD (z_loadRef sz_3) ?_
                    | refine aD (z_loadV sz_3) ?_
                  refine aD (z_build (pC (pC (pC .nil))) pl_37 zc_37 zl_37) ?_
                  refine aD (z_store sz_40) ?_
                  refine aD z_assign ?_
                  refine aD (z_store sz_37) ?_
                  refine awd_nil (by kernel_rfl) (hK25 _ _ ?_)
                  clear hK25 K25
                  first
                    | (have he := takeF_1 (b := b) (most := most) (by omega); refine aw_weak (wTake he) ?_)
                    | (have he := takeF_2 (b := b) (most := most) (by omega) (by omega); refine aw_weak (wTake he) ?_)
                    | (have he := takeF_3 (b := b) (most := most) (by omega) (by omega) (by omega); refine aw_weak (wTake he) ?_)
                    | (have he := takeF_4 (b := b) (most := most) (by omega) (by omega) (by assumption); refine aw_weak (wTake he) ?_)
                    | (have hs : missB (tyB b) (flB b) (beN (b.take 3) : Int) = true := c5.1; have ht : tyB b = 2 := c5.2; have he := takeF_5 (b := b) (most := most) (by omega) (by omega) (by assumption) hs ht; refine aw_weak (wTake he) ?_)
                    | (have hs : missB (tyB b) (flB b) (beN (b.take 3) : Int) = true := (by assumption); have ht : ¬ tyB b = 2 := (by rcases c5 with h | h; (rw [h] at hs; cases hs); exact h); have he := takeF_6 (b := b) (most := most) (by omega) (by omega) (by assumption) hs ht; refine aw_weak (wTake he) ?_)
                    | (have he := takeF_7 (b := b) (most := most) (by omega) (by omega) (by assumption) (by assumption) (by assumption); refine aw_weak (wTake he) ?_)
                    | (have he := takeF_8 (b := b) (most := most) (by omega) (by omega) (by assumption) (by assumption) (by assumption); rw [if_pos (show (openL (f0B b) (pB b)).ty = 8 ∧ (openL (f0B b) (pB b)).inc = 0 by omega), if_pos (show (openL (f0B b) (pB b)).st ≠ 0 by omega)] at he; refine aw_weak (wTake he) ?_)
                    | (have he := takeF_8 (b := b) (most := most) (by omega) (by omega) (by assumption) (by assumption) (by assumption); rw [if_pos (show (openL (f0B b) (pB b)).ty = 8 ∧ (openL (f0B b) (pB b)).inc = 0 by omega), if_neg (show ¬ (openL (f0B b) (pB b)).st ≠ 0 by omega)] at he; refine aw_weak (wTake he) ?_)
                    | (have he := takeF_8 (b := b) (most := most) (by omega) (by omega) (by assumption) (by assumption) (by assumption); rw [if_neg (show ¬ ((openL (f0B b) (pB b)).ty = 8 ∧ (openL (f0B b) (pB b)).inc = 0) by omega), if_pos (by assumption)] at he; refine aw_weak (wTake he) ?_)
                    | (have he := takeF_8 (b := b) (most := most) (by omega) (by omega) (by assumption) (by assumption) (by assumption); rw [if_neg (show ¬ ((openL (f0B b) (pB b)).ty = 8 ∧ (openL (f0B b) (pB b)).inc = 0) by omega), if_neg (by simp_all)] at he; refine aw_weak (wTake he) ?_)
                  refine aw_ret ?_
                  refine (hret _ _ _ _ _ rfl (rCe sz_40 (.tmp rfl (rCe sz_37 .nil))) rfl ?_ .nil rfl).1
                  rfl
                · refine aw_region fun K26 hK26 => ?_
                  first
                    | refine aL (z_fieldAddr fo_40_0) ?_
                    | refine aL (z_fieldRef fo_40_0) ?_
                    | refine aL (z_fieldV fo_40_0) ?_
                  first
                    | refine aL (z_load sz_3) ?_
                    | refine aL (z_loadRef sz_3) ?_
                    | refine aL (z_loadV sz_3) ?_
                  refine aL z_eql ?_
                  refine aL z_move ?_
                  first
                    | refine gL rfl rfl (ev_tmp rfl) (fun hg => z_fieldAddr fo_40_8) ?_
                    | refine gL rfl rfl (ev_tmp rfl) (fun hg => z_fieldRef fo_40_8) ?_
                    | refine gL rfl rfl (ev_tmp rfl) (fun hg => z_fieldV fo_40_8) ?_
                    | refine hL rfl rfl (ev_tmp rfl) (fun hg => z_fieldAddr fo_40_8) ?_
                    | refine hL rfl rfl (ev_tmp rfl) (fun hg => z_fieldRef fo_40_8) ?_
                    | refine hL rfl rfl (ev_tmp rfl) (fun hg => z_fieldV fo_40_8) ?_
                  first
                    | refine gL rfl rfl (ev_tmp rfl) (fun hg => z_load sz_2) ?_
                    | refine gL rfl rfl (ev_tmp rfl) (fun hg => z_loadRef sz_2) ?_
                    | refine gL rfl rfl (ev_tmp rfl) (fun hg => z_loadV sz_2) ?_
                    | refine hL rfl rfl (ev_tmp rfl) (fun hg => z_load sz_2) ?_
                    | refine hL rfl rfl (ev_tmp rfl) (fun hg => z_loadRef sz_2) ?_
                    | refine hL rfl rfl (ev_tmp rfl) (fun hg => z_loadV sz_2) ?_
                  first
                    | refine gL rfl rfl (ev_tmp rfl) (fun hg => z_eql) ?_
                    | refine hL rfl rfl (ev_tmp rfl) (fun hg => z_eql) ?_
                  refine aL z_and ?_
                  refine aL z_assign ?_
                  refine awl_nil (hK26 _ _ ?_)
                  clear hK26 K26
                  refine aC (fun r9 c9 => ?_) (fun r9 c9 => ?_)
                  · refine aw_region fun K27 hK27 => ?_
                    refine aL (z_build .nil pl_40 zc_40 zl_40) ?_
                    refine aL (z_call0 (eC .nil) en_36 (con_whole)) ?_
                    refine aL (z_store sz_40) ?_
                    refine aL z_assign ?_
                    refine aL (z_store sz_37) ?_
                    refine awl_nil (hK27 _ _ ?_)
                    clear hK27 K27
                    first
                      | (have he := takeF_1 (b := b) (most := most) (by omega); refine aw_weak (wTake he) ?_)
                      | (have he := takeF_2 (b := b) (most := most) (by omega) (by omega); refine aw_weak (wTake he) ?_)
                      | (have he := takeF_3 (b := b) (most := most) (by omega) (by omega) (by omega); refine aw_weak (wTake he) ?_)
                      | (have he := takeF_4 (b := b) (most := most) (by omega) (by omega) (by assumption); refine aw_weak (wTake he) ?_)
                      | (have hs : missB (tyB b) (flB b) (beN (b.take 3) : Int) = true := c5.1; have ht : tyB b = 2 := c5.2; have he := takeF_5 (b := b) (most := most) (by omega) (by omega) (by assumption) hs ht; refine aw_weak (wTake he) ?_)
                      | (have hs : missB (tyB b) (flB b) (beN (b.take 3) : Int) = true := (by assumption); have ht : ¬ tyB b = 2 := (by rcases c5 with h | h; (rw [h] at hs; cases hs); exact h); have he := takeF_6 (b := b) (most := most) (by omega) (by omega) (by assumption) hs ht; refine aw_weak (wTake he) ?_)
                      | (have he := takeF_7 (b := b) (most := most) (by omega) (by omega) (by assumption) (by assumption) (by assumption); refine aw_weak (wTake he) ?_)
                      | (have he := takeF_8 (b := b) (most := most) (by omega) (by omega) (by assumption) (by assumption) (by assumption); rw [if_pos (show (openL (f0B b) (pB b)).ty = 8 ∧ (openL (f0B b) (pB b)).inc = 0 by omega), if_pos (show (openL (f0B b) (pB b)).st ≠ 0 by omega)] at he; refine aw_weak (wTake he) ?_)
                      | (have he := takeF_8 (b := b) (most := most) (by omega) (by omega) (by assumption) (by assumption) (by assumption); rw [if_pos (show (openL (f0B b) (pB b)).ty = 8 ∧ (openL (f0B b) (pB b)).inc = 0 by omega), if_neg (show ¬ (openL (f0B b) (pB b)).st ≠ 0 by omega)] at he; refine aw_weak (wTake he) ?_)
                      | (have he := takeF_8 (b := b) (most := most) (by omega) (by omega) (by assumption) (by assumption) (by assumption); rw [if_neg (show ¬ ((openL (f0B b) (pB b)).ty = 8 ∧ (openL (f0B b) (pB b)).inc = 0) by omega), if_pos (by assumption)] at he; refine aw_weak (wTake he) ?_)
                      | (have he := takeF_8 (b := b) (most := most) (by omega) (by omega) (by assumption) (by assumption) (by assumption); rw [if_neg (show ¬ ((openL (f0B b) (pB b)).ty = 8 ∧ (openL (f0B b) (pB b)).inc = 0) by omega), if_neg (by simp_all)] at he; refine aw_weak (wTake he) ?_)
                    refine aw_ret ?_
                    refine (hret _ _ _ _ _ rfl (rCe sz_40 (.tmp rfl (rCe sz_37 .nil))) rfl ?_ .nil rfl).1
                    rfl
                  · refine aw_skip ?_
                    refine hK15 _ _ ?_
                    clear hK15
                    refine aw_seq fun K28 hK28 => ?_
                    refine aw_region fun K29 hK29 => ?_
                    first
                      | refine aL (z_fieldAddr fo_40_5) ?_
                      | refine aL (z_fieldRef fo_40_5) ?_
                      | refine aL (z_fieldV fo_40_5) ?_
                    first
                      | refine aL (z_load sz_38) ?_
                      | refine aL (z_loadRef sz_38) ?_
                      | refine aL (z_loadV sz_38) ?_
                    refine aL (z_call0 (eC .nil) en_41 (con_unfit (l := (openL (f0B b) (pB b)).sets) (by have := hpl (by omega); omega))) ?_
                    refine aL (z_alloc 3 zc_37 zl_37) ?_
                    refine aL (z_store sz_37) ?_
                    refine awl_nil (hK29 _ _ ?_)
                    clear hK29 K29
                    refine aw_region fun K30 hK30 => ?_
                    first
                      | refine aL (z_fieldAddr fo_37_0) ?_
                      | refine aL (z_fieldRef fo_37_0) ?_
                      | refine aL (z_fieldV fo_37_0) ?_
                    first
                      | refine aL (z_load sz_4) ?_
                      | refine aL (z_loadRef sz_4) ?_
                      | refine aL (z_loadV sz_4) ?_
                    refine awl_nil (hK30 _ _ ?_)
                    clear hK30 K30
                    refine aC (fun r10 c10 => ?_) (fun r10 c10 => ?_)
                    · refine aw_regionD mx_all (by kernel_rfl) fun K31 hK31 => ?_
                      refine aD (z_build .nil pl_40 zc_40 zl_40) ?_
                      first
                        | refine aD (z_load sz_37) ?_
                        | refine aD (z_loadRef sz_37) ?_
                        | refine aD (z_loadV sz_37) ?_
                      refine aD (z_store sz_40) ?_
                      refine aD z_assign ?_
                      refine aD (z_store sz_37) ?_
                      refine awd_nil (by kernel_rfl) (hK31 _ _ ?_)
                      clear hK31 K31
                      first
                        | (have he := takeF_1 (b := b) (most := most) (by omega); refine aw_weak (wTake he) ?_)
                        | (have he := takeF_2 (b := b) (most := most) (by omega) (by omega); refine aw_weak (wTake he) ?_)
                        | (have he := takeF_3 (b := b) (most := most) (by omega) (by omega) (by omega); refine aw_weak (wTake he) ?_)
                        | (have he := takeF_4 (b := b) (most := most) (by omega) (by omega) (by assumption); refine aw_weak (wTake he) ?_)
                        | (have hs : missB (tyB b) (flB b) (beN (b.take 3) : Int) = true := c5.1; have ht : tyB b = 2 := c5.2; have he := takeF_5 (b := b) (most := most) (by omega) (by omega) (by assumption) hs ht; refine aw_weak (wTake he) ?_)
                        | (have hs : missB (tyB b) (flB b) (beN (b.take 3) : Int) = true := (by assumption); have ht : ¬ tyB b = 2 := (by rcases c5 with h | h; (rw [h] at hs; cases hs); exact h); have he := takeF_6 (b := b) (most := most) (by omega) (by omega) (by assumption) hs ht; refine aw_weak (wTake he) ?_)
                        | (have he := takeF_7 (b := b) (most := most) (by omega) (by omega) (by assumption) (by assumption) (by assumption); refine aw_weak (wTake he) ?_)
                        | (have he := takeF_8 (b := b) (most := most) (by omega) (by omega) (by assumption) (by assumption) (by assumption); rw [if_pos (show (openL (f0B b) (pB b)).ty = 8 ∧ (openL (f0B b) (pB b)).inc = 0 by omega), if_pos (show (openL (f0B b) (pB b)).st ≠ 0 by omega)] at he; refine aw_weak (wTake he) ?_)
                        | (have he := takeF_8 (b := b) (most := most) (by omega) (by omega) (by assumption) (by assumption) (by assumption); rw [if_pos (show (openL (f0B b) (pB b)).ty = 8 ∧ (openL (f0B b) (pB b)).inc = 0 by omega), if_neg (show ¬ (openL (f0B b) (pB b)).st ≠ 0 by omega)] at he; refine aw_weak (wTake he) ?_)
                        | (have he := takeF_8 (b := b) (most := most) (by omega) (by omega) (by assumption) (by assumption) (by assumption); rw [if_neg (show ¬ ((openL (f0B b) (pB b)).ty = 8 ∧ (openL (f0B b) (pB b)).inc = 0) by omega), if_pos (by assumption)] at he; refine aw_weak (wTake he) ?_)
                        | (have he := takeF_8 (b := b) (most := most) (by omega) (by omega) (by assumption) (by assumption) (by assumption); rw [if_neg (show ¬ ((openL (f0B b) (pB b)).ty = 8 ∧ (openL (f0B b) (pB b)).inc = 0) by omega), if_neg (by simp_all)] at he; refine aw_weak (wTake he) ?_)
                      refine aw_ret ?_
                      refine (hret _ _ _ _ _ rfl (rCe sz_40 (.tmp rfl (rCe sz_37 .nil))) rfl ?_ .nil rfl).1
                      rfl
                    · refine aw_skip ?_
                      refine hK28 _ _ ?_
                      clear hK28
                      refine aw_region fun K32 hK32 => ?_
                      first
                        | refine aL (z_load sz_40) ?_
                        | refine aL (z_loadRef sz_40) ?_
                        | refine aL (z_loadV sz_40) ?_
                      refine aL z_move ?_
                      refine aL (z_build .nil pl_37 zc_37 zl_37) ?_
                      refine aL (z_store sz_40) ?_
                      refine aL z_assign ?_
                      refine aL (z_store sz_37) ?_
                      refine awl_nil (hK32 _ _ ?_)
                      clear hK32 K32
                      first
                        | (have he := takeF_1 (b := b) (most := most) (by omega); refine aw_weak (wTake he) ?_)
                        | (have he := takeF_2 (b := b) (most := most) (by omega) (by omega); refine aw_weak (wTake he) ?_)
                        | (have he := takeF_3 (b := b) (most := most) (by omega) (by omega) (by omega); refine aw_weak (wTake he) ?_)
                        | (have he := takeF_4 (b := b) (most := most) (by omega) (by omega) (by assumption); refine aw_weak (wTake he) ?_)
                        | (have hs : missB (tyB b) (flB b) (beN (b.take 3) : Int) = true := c5.1; have ht : tyB b = 2 := c5.2; have he := takeF_5 (b := b) (most := most) (by omega) (by omega) (by assumption) hs ht; refine aw_weak (wTake he) ?_)
                        | (have hs : missB (tyB b) (flB b) (beN (b.take 3) : Int) = true := (by assumption); have ht : ¬ tyB b = 2 := (by rcases c5 with h | h; (rw [h] at hs; cases hs); exact h); have he := takeF_6 (b := b) (most := most) (by omega) (by omega) (by assumption) hs ht; refine aw_weak (wTake he) ?_)
                        | (have he := takeF_7 (b := b) (most := most) (by omega) (by omega) (by assumption) (by assumption) (by assumption); refine aw_weak (wTake he) ?_)
                        | (have he := takeF_8 (b := b) (most := most) (by omega) (by omega) (by assumption) (by assumption) (by assumption); rw [if_pos (show (openL (f0B b) (pB b)).ty = 8 ∧ (openL (f0B b) (pB b)).inc = 0 by omega), if_pos (show (openL (f0B b) (pB b)).st ≠ 0 by omega)] at he; refine aw_weak (wTake he) ?_)
                        | (have he := takeF_8 (b := b) (most := most) (by omega) (by omega) (by assumption) (by assumption) (by assumption); rw [if_pos (show (openL (f0B b) (pB b)).ty = 8 ∧ (openL (f0B b) (pB b)).inc = 0 by omega), if_neg (show ¬ (openL (f0B b) (pB b)).st ≠ 0 by omega)] at he; refine aw_weak (wTake he) ?_)
                        | (have he := takeF_8 (b := b) (most := most) (by omega) (by omega) (by assumption) (by assumption) (by assumption); rw [if_neg (show ¬ ((openL (f0B b) (pB b)).ty = 8 ∧ (openL (f0B b) (pB b)).inc = 0) by omega), if_pos (by assumption)] at he; refine aw_weak (wTake he) ?_)
                        | (have he := takeF_8 (b := b) (most := most) (by omega) (by omega) (by assumption) (by assumption) (by assumption); rw [if_neg (show ¬ ((openL (f0B b) (pB b)).ty = 8 ∧ (openL (f0B b) (pB b)).inc = 0) by omega), if_neg (by simp_all)] at he; refine aw_weak (wTake he) ?_)
                      refine aw_ret ?_
                      refine (hret _ _ _ _ _ rfl (rCe sz_40 (.tmp rfl (rCe sz_37 .nil))) rfl ?_ .nil rfl).1
                      rfl
end Go.Proofs.Ytigodfnckjidoaa
