/- Layer 6: the document's Take. No condition. -/
import Derived.Test.YtigodfnckjidoaaFrRd
namespace Go.Proofs.Ytigodfnckjidoaa
set_option linter.all false
open Go Go.RowKit
set_option maxRecDepth 10000
set_option maxHeartbeats 4000000
theorem con_fieldsAll {f : Fr} {p : List UInt8} (hf : 0 ≤ f.fl) (hf2 : f.fl ≤ 255) (ht : 0 ≤ f.ty) (hm : missB f.ty f.fl p.length = false) (hl : p.length ≤ 1000000000) (hs : f.sets = []) (hp0 : f.pad = 0) (hd0 : f.data = []) :
    Con Try.prog 28 [.agg (f.csX NIL), .v (.sl (bs p))] [] 0 (.ret (.tup [.agg (openL f p).cs, .v (.bool (openB f p))])) [] := by
  by_cases h4 : f.ty = 4
  · exact con_fieldsS hf hf2 hm hl hp0 hd0 h4
  · exact con_fields hf hf2 ht hm hl hs hp0 hd0 h4
theorem misB_iff (ty st : Int) : misB ty st = true ↔ (ty = 5 ∨ (ty = 4 ∨ ty = 6 ∨ ty = 7) ∧ ¬ st = 0 ∨ (ty = 0 ∨ ty = 1 ∨ ty = 2 ∨ ty = 3 ∨ ty = 9) ∧ st = 0) := by
  unfold misB
  split
  · simp [*]
  · split
    · simp; omega
    · split
      · simp; omega
      · simp; omega
theorem con_refTakeF {b : List UInt8} {most : Int} (hb : b.length ≤ 1000000000) : Con Try.prog 17 [.v (.sl (bs b)), .v (.int .i64 most)] [] 0 (.ret (.tup [.agg (takeF b most).f.cs, .v (.int .i64 ((takeF b most).n : Int)), .agg (takeF b most).x.cs])) [] := by
  have hn := beN_small b 3 3 (by decide)
  have hu8 : ∀ b : UInt8, 0 ≤ (b.toNat : Int) ∧ (b.toNat : Int) ≤ 255 := fun b => by have := b.toNat_lt; omega
  have e0 : 9 ≤ b.length → takeV b 0 3 = (beN (b.take 3) : Int) := fun h => by
    unfold takeV; rw [if_neg (by omega)]; rfl
  have e5 : 9 ≤ b.length → (takeV b 5 4).tmod 2147483648 = stB b := fun h => by
    rw [show takeV b 5 4 = at4 b 5 from takeV_4 b 5 (by omega), Int.tmod_eq_emod_of_nonneg (at4_le _ _).1]; rfl
  have hi3 : 9 ≤ b.length → (bs b)[3]? = some [V.int .u8 (tyB b)] := fun h => bs_get (by rw [List.getD_eq_getElem?_getD, List.getElem?_eq_getElem (by omega)]; rfl)
  have hi4 : 9 ≤ b.length → (bs b)[4]? = some [V.int .u8 (flB b)] := fun h => bs_get (by rw [List.getD_eq_getElem?_getD, List.getElem?_eq_getElem (by omega)]; rfl)
  have hw3 : IntKind.i64.wrap (tyB b) = tyB b := wrap_byte _
  have hw4 : IntKind.i64.wrap (flB b) = flB b := wrap_byte _
  have hpl : 9 + (beN (b.take 3) : Int) ≤ (b.length : Int) → (pB b).length = beN (b.take 3) := fun h => by unfold pB; simp; omega
  have hfl : 0 ≤ flB b ∧ flB b ≤ 255 := hu8 _
  have hty : 0 ≤ tyB b := (hu8 _).1
  obtain ⟨hk1, hk2, hk3⟩ := open_keeps (f := f0B b) (p := pB b)
  have hks := openL_sets (f := f0B b) (p := pB b) rfl
  have hz : (setV (openL (f0B b) (pB b)).sets).length = (openL (f0B b) (pB b)).sets.length := by simp
  refine con_of Try.func17 rfl (by show _ ≤ 208; simp) fun X Q hP hnt hnp hret hpan => ?_
  obtain ⟨P0, nt0, w0, K0, S0, np0, pin0, df0⟩ := X
  simp only at hP hnt hnp
  subst hP hnp
  obtain rfl : nt0 = 208 := hnt
  refine aw_region fun K1 hK1 => ?_
  refine aL (z_alloc 0 zc_40 zl_40) ?_
  refine aL z_assign ?_
  refine aL (z_alloc 1 zc_37 zl_37) ?_
  refine awl_nil (hK1 _ _ ?_)
  clear hK1 K1
  refine aw_region fun K2 hK2 => ?_
  refine aL (z_build .nil pl_40 zc_40 zl_40) ?_
  refine aL (z_alloc 2 zc_40 zl_40) ?_
  refine aL (z_store sz_40) ?_
  refine awl_nil (hK2 _ _ ?_)
  clear hK2 K2
  refine aw_seq fun K3 hK3 => ?_
  refine aw_region fun K4 hK4 => ?_
  refine aL z_move ?_
  first
    | refine aL (z_lenB Try.underlying24) ?_
    | refine aL (z_len Try.underlying24) ?_
    | refine aL (z_lenV Try.underlying24) ?_
  refine aL z_lss ?_
  refine awl_nil (hK4 _ _ ?_)
  clear hK4 K4
  refine aC (fun r1 c1 => ?_) (fun r1 c1 => ?_)
  · refine aw_region fun K5 hK5 => ?_
    first
      | refine aL (z_load sz_40) ?_
      | refine aL (z_loadRef sz_40) ?_
      | refine aL (z_loadV sz_40) ?_
    refine aL (z_build .nil pl_37 zc_37 zl_37) ?_
    refine aL (z_store sz_40) ?_
    refine aL z_assign ?_
    refine aL (z_store sz_37) ?_
    refine awl_nil (hK5 _ _ ?_)
    clear hK5 K5
    first
      | (have he := takeF_1 (b := b) (most := most) (by omega); refine aw_weak (wTake he) ?_)
      | (have he := takeF_2 (b := b) (most := most) (by omega) (by omega); refine aw_weak (wTake he) ?_)
      | (have he := takeF_3 (b := b) (most := most) (by omega) (by omega) (by omega); refine aw_weak (wTake he) ?_)
      | (have hm : misB (tyB b) (stB b) = true := (misB_iff _ _).2 (by omega); have he := takeF_4 (b := b) (most := most) (by omega) (by omega) hm; refine aw_weak (wTake he) ?_)
      | (have hm : misB (tyB b) (stB b) = false := (by rw [Bool.eq_false_iff]; intro h; have h2 := (misB_iff _ _).1 h; omega); have he := takeF_5 (b := b) (most := most) (by omega) (by omega) hm c5.1 c5.2; refine aw_weak (wTake he) ?_)
      | (have hm : misB (tyB b) (stB b) = false := (by rw [Bool.eq_false_iff]; intro h; have h2 := (misB_iff _ _).1 h; omega); have hs : missB (tyB b) (flB b) (beN (b.take 3) : Int) = true := c6; have ht : ¬ tyB b = 2 := (by rcases c5 with h | h; exact absurd (h.symm.trans hs) (by decide); exact h); have he := takeF_6 (b := b) (most := most) (by omega) (by omega) hm hs ht; refine aw_weak (wTake he) ?_)
      | (have hm : misB (tyB b) (stB b) = false := (by rw [Bool.eq_false_iff]; intro h; have h2 := (misB_iff _ _).1 h; omega); have he := takeF_7 (b := b) (most := most) (by omega) (by omega) hm c6 (by assumption); refine aw_weak (wTake he) ?_)
      | (have hm : misB (tyB b) (stB b) = false := (by rw [Bool.eq_false_iff]; intro h; have h2 := (misB_iff _ _).1 h; omega); have he := takeF_8 (b := b) (most := most) (by omega) (by omega) hm c6 (by assumption); rw [if_pos (show (openL (f0B b) (pB b)).ty = 8 ∧ (openL (f0B b) (pB b)).inc = 0 by omega), if_pos (show (openL (f0B b) (pB b)).st ≠ 0 by omega)] at he; refine aw_weak (wTake he) ?_)
      | (have hm : misB (tyB b) (stB b) = false := (by rw [Bool.eq_false_iff]; intro h; have h2 := (misB_iff _ _).1 h; omega); have he := takeF_8 (b := b) (most := most) (by omega) (by omega) hm c6 (by assumption); rw [if_pos (show (openL (f0B b) (pB b)).ty = 8 ∧ (openL (f0B b) (pB b)).inc = 0 by omega), if_neg (show ¬ (openL (f0B b) (pB b)).st ≠ 0 by omega)] at he; refine aw_weak (wTake he) ?_)
      | (have hm : misB (tyB b) (stB b) = false := (by rw [Bool.eq_false_iff]; intro h; have h2 := (misB_iff _ _).1 h; omega); have he := takeF_8 (b := b) (most := most) (by omega) (by omega) hm c6 (by assumption); have hu := unfit_at (openL (f0B b) (pB b)).sets k (by omega) 1 hq (by unfold badSet; rw [if_pos (by omega)]); rw [if_neg (show ¬ ((openL (f0B b) (pB b)).ty = 8 ∧ (openL (f0B b) (pB b)).inc = 0) by omega), hu, if_pos (show (Flt.whole 1).is = true from rfl)] at he; refine aw_weak (wTake he) ?_)
      | (have hm : misB (tyB b) (stB b) = false := (by rw [Bool.eq_false_iff]; intro h; have h2 := (misB_iff _ _).1 h; omega); have he := takeF_8 (b := b) (most := most) (by omega) (by omega) hm c6 (by assumption); have hu := unfit_at (openL (f0B b) (pB b)).sets k (by omega) 3 hq (by unfold badSet; rw [if_neg (by omega), if_pos (by omega)]); rw [if_neg (show ¬ ((openL (f0B b) (pB b)).ty = 8 ∧ (openL (f0B b) (pB b)).inc = 0) by omega), hu, if_pos (show (Flt.whole 3).is = true from rfl)] at he; refine aw_weak (wTake he) ?_)
      | (have hm : misB (tyB b) (stB b) = false := (by rw [Bool.eq_false_iff]; intro h; have h2 := (misB_iff _ _).1 h; omega); have he := takeF_8 (b := b) (most := most) (by omega) (by omega) hm c6 (by assumption); have hu := unfit_no (openL (f0B b) (pB b)).sets (fun j hj => hq j hj (by omega)); rw [if_neg (show ¬ ((openL (f0B b) (pB b)).ty = 8 ∧ (openL (f0B b) (pB b)).inc = 0) by omega), hu, if_neg (show ¬ Flt.no.is = true by decide)] at he; refine aw_weak (wTake he) ?_)
    refine aw_ret ?_
    refine (hret _ _ _ _ _ rfl (rCe sz_40 (.tmp rfl (rCe sz_37 .nil))) rfl ?_ .nil rfl).1
    rfl
  · refine aw_skip ?_
    refine hK3 _ _ ?_
    clear hK3
    refine aw_region fun K6 hK6 => ?_
    refine aL z_move ?_
    have e := e0 (by omega)
    refine aL (z_call0 (eC (eC (eC .nil))) en_25 (con_at (by omega))) ?_
    rw [e]
    refine aL z_assign ?_
    refine awl_nil (hK6 _ _ ?_)
    clear hK6 K6
    refine aw_seq fun K7 hK7 => ?_
    refine aw_region fun K8 hK8 => ?_
    refine aL z_move ?_
    refine aL z_move ?_
    refine aL z_gtr ?_
    refine awl_nil (hK8 _ _ ?_)
    clear hK8 K8
    refine aC (fun r2 c2 => ?_) (fun r2 c2 => ?_)
    · refine aw_regionD mx_all (by kernel_rfl) fun K9 hK9 => ?_
      first
        | refine aD (z_load sz_40) ?_
        | refine aD (z_loadRef sz_40) ?_
        | refine aD (z_loadV sz_40) ?_
      refine aD (z_call0 (eC .nil) en_26 (con_rof)) ?_
      refine aD (z_store sz_40) ?_
      refine aD z_assign ?_
      refine aD (z_store sz_37) ?_
      refine awd_nil (by kernel_rfl) (hK9 _ _ ?_)
      clear hK9 K9
      first
        | (have he := takeF_1 (b := b) (most := most) (by omega); refine aw_weak (wTake he) ?_)
        | (have he := takeF_2 (b := b) (most := most) (by omega) (by omega); refine aw_weak (wTake he) ?_)
        | (have he := takeF_3 (b := b) (most := most) (by omega) (by omega) (by omega); refine aw_weak (wTake he) ?_)
        | (have hm : misB (tyB b) (stB b) = true := (misB_iff _ _).2 (by omega); have he := takeF_4 (b := b) (most := most) (by omega) (by omega) hm; refine aw_weak (wTake he) ?_)
        | (have hm : misB (tyB b) (stB b) = false := (by rw [Bool.eq_false_iff]; intro h; have h2 := (misB_iff _ _).1 h; omega); have he := takeF_5 (b := b) (most := most) (by omega) (by omega) hm c5.1 c5.2; refine aw_weak (wTake he) ?_)
        | (have hm : misB (tyB b) (stB b) = false := (by rw [Bool.eq_false_iff]; intro h; have h2 := (misB_iff _ _).1 h; omega); have hs : missB (tyB b) (flB b) (beN (b.take 3) : Int) = true := c6; have ht : ¬ tyB b = 2 := (by rcases c5 with h | h; exact absurd (h.symm.trans hs) (by decide); exact h); have he := takeF_6 (b := b) (most := most) (by omega) (by omega) hm hs ht; refine aw_weak (wTake he) ?_)
        | (have hm : misB (tyB b) (stB b) = false := (by rw [Bool.eq_false_iff]; intro h; have h2 := (misB_iff _ _).1 h; omega); have he := takeF_7 (b := b) (most := most) (by omega) (by omega) hm c6 (by assumption); refine aw_weak (wTake he) ?_)
        | (have hm : misB (tyB b) (stB b) = false := (by rw [Bool.eq_false_iff]; intro h; have h2 := (misB_iff _ _).1 h; omega); have he := takeF_8 (b := b) (most := most) (by omega) (by omega) hm c6 (by assumption); rw [if_pos (show (openL (f0B b) (pB b)).ty = 8 ∧ (openL (f0B b) (pB b)).inc = 0 by omega), if_pos (show (openL (f0B b) (pB b)).st ≠ 0 by omega)] at he; refine aw_weak (wTake he) ?_)
        | (have hm : misB (tyB b) (stB b) = false := (by rw [Bool.eq_false_iff]; intro h; have h2 := (misB_iff _ _).1 h; omega); have he := takeF_8 (b := b) (most := most) (by omega) (by omega) hm c6 (by assumption); rw [if_pos (show (openL (f0B b) (pB b)).ty = 8 ∧ (openL (f0B b) (pB b)).inc = 0 by omega), if_neg (show ¬ (openL (f0B b) (pB b)).st ≠ 0 by omega)] at he; refine aw_weak (wTake he) ?_)
        | (have hm : misB (tyB b) (stB b) = false := (by rw [Bool.eq_false_iff]; intro h; have h2 := (misB_iff _ _).1 h; omega); have he := takeF_8 (b := b) (most := most) (by omega) (by omega) hm c6 (by assumption); have hu := unfit_at (openL (f0B b) (pB b)).sets k (by omega) 1 hq (by unfold badSet; rw [if_pos (by omega)]); rw [if_neg (show ¬ ((openL (f0B b) (pB b)).ty = 8 ∧ (openL (f0B b) (pB b)).inc = 0) by omega), hu, if_pos (show (Flt.whole 1).is = true from rfl)] at he; refine aw_weak (wTake he) ?_)
        | (have hm : misB (tyB b) (stB b) = false := (by rw [Bool.eq_false_iff]; intro h; have h2 := (misB_iff _ _).1 h; omega); have he := takeF_8 (b := b) (most := most) (by omega) (by omega) hm c6 (by assumption); have hu := unfit_at (openL (f0B b) (pB b)).sets k (by omega) 3 hq (by unfold badSet; rw [if_neg (by omega), if_pos (by omega)]); rw [if_neg (show ¬ ((openL (f0B b) (pB b)).ty = 8 ∧ (openL (f0B b) (pB b)).inc = 0) by omega), hu, if_pos (show (Flt.whole 3).is = true from rfl)] at he; refine aw_weak (wTake he) ?_)
        | (have hm : misB (tyB b) (stB b) = false := (by rw [Bool.eq_false_iff]; intro h; have h2 := (misB_iff _ _).1 h; omega); have he := takeF_8 (b := b) (most := most) (by omega) (by omega) hm c6 (by assumption); have hu := unfit_no (openL (f0B b) (pB b)).sets (fun j hj => hq j hj (by omega)); rw [if_neg (show ¬ ((openL (f0B b) (pB b)).ty = 8 ∧ (openL (f0B b) (pB b)).inc = 0) by omega), hu, if_neg (show ¬ Flt.no.is = true by decide)] at he; refine aw_weak (wTake he) ?_)
      refine aw_ret ?_
      refine (hret _ _ _ _ _ rfl (rCe sz_40 (.tmp rfl (rCe sz_37 .nil))) rfl ?_ .nil rfl).1
      rfl
    · refine aw_skip ?_
      refine hK7 _ _ ?_
      clear hK7
      refine aw_seq fun K10 hK10 => ?_
      refine aw_region fun K11 hK11 => ?_
      refine aL z_move ?_
      first
        | refine aL (z_lenB Try.underlying24) ?_
        | refine aL (z_len Try.underlying24) ?_
        | refine aL (z_lenV Try.underlying24) ?_
      refine aL z_sub ?_
      refine aL z_move ?_
      refine aL z_lss ?_
      refine awl_nil (hK11 _ _ ?_)
      clear hK11 K11
      refine aC (fun r3 c3 => ?_) (fun r3 c3 => ?_)
      · refine aw_region fun K12 hK12 => ?_
        first
          | refine aL (z_load sz_40) ?_
          | refine aL (z_loadRef sz_40) ?_
          | refine aL (z_loadV sz_40) ?_
        refine aL (z_build .nil pl_37 zc_37 zl_37) ?_
        refine aL (z_store sz_40) ?_
        refine aL z_assign ?_
        refine aL (z_store sz_37) ?_
        refine awl_nil (hK12 _ _ ?_)
        clear hK12 K12
        first
          | (have he := takeF_1 (b := b) (most := most) (by omega); refine aw_weak (wTake he) ?_)
          | (have he := takeF_2 (b := b) (most := most) (by omega) (by omega); refine aw_weak (wTake he) ?_)
          | (have he := takeF_3 (b := b) (most := most) (by omega) (by omega) (by omega); refine aw_weak (wTake he) ?_)
          | (have hm : misB (tyB b) (stB b) = true := (misB_iff _ _).2 (by omega); have he := takeF_4 (b := b) (most := most) (by omega) (by omega) hm; refine aw_weak (wTake he) ?_)
          | (have hm : misB (tyB b) (stB b) = false := (by rw [Bool.eq_false_iff]; intro h; have h2 := (misB_iff _ _).1 h; omega); have he := takeF_5 (b := b) (most := most) (by omega) (by omega) hm c5.1 c5.2; refine aw_weak (wTake he) ?_)
          | (have hm : misB (tyB b) (stB b) = false := (by rw [Bool.eq_false_iff]; intro h; have h2 := (misB_iff _ _).1 h; omega); have hs : missB (tyB b) (flB b) (beN (b.take 3) : Int) = true := c6; have ht : ¬ tyB b = 2 := (by rcases c5 with h | h; exact absurd (h.symm.trans hs) (by decide); exact h); have he := takeF_6 (b := b) (most := most) (by omega) (by omega) hm hs ht; refine aw_weak (wTake he) ?_)
          | (have hm : misB (tyB b) (stB b) = false := (by rw [Bool.eq_false_iff]; intro h; have h2 := (misB_iff _ _).1 h; omega); have he := takeF_7 (b := b) (most := most) (by omega) (by omega) hm c6 (by assumption); refine aw_weak (wTake he) ?_)
          | (have hm : misB (tyB b) (stB b) = false := (by rw [Bool.eq_false_iff]; intro h; have h2 := (misB_iff _ _).1 h; omega); have he := takeF_8 (b := b) (most := most) (by omega) (by omega) hm c6 (by assumption); rw [if_pos (show (openL (f0B b) (pB b)).ty = 8 ∧ (openL (f0B b) (pB b)).inc = 0 by omega), if_pos (show (openL (f0B b) (pB b)).st ≠ 0 by omega)] at he; refine aw_weak (wTake he) ?_)
          | (have hm : misB (tyB b) (stB b) = false := (by rw [Bool.eq_false_iff]; intro h; have h2 := (misB_iff _ _).1 h; omega); have he := takeF_8 (b := b) (most := most) (by omega) (by omega) hm c6 (by assumption); rw [if_pos (show (openL (f0B b) (pB b)).ty = 8 ∧ (openL (f0B b) (pB b)).inc = 0 by omega), if_neg (show ¬ (openL (f0B b) (pB b)).st ≠ 0 by omega)] at he; refine aw_weak (wTake he) ?_)
          | (have hm : misB (tyB b) (stB b) = false := (by rw [Bool.eq_false_iff]; intro h; have h2 := (misB_iff _ _).1 h; omega); have he := takeF_8 (b := b) (most := most) (by omega) (by omega) hm c6 (by assumption); have hu := unfit_at (openL (f0B b) (pB b)).sets k (by omega) 1 hq (by unfold badSet; rw [if_pos (by omega)]); rw [if_neg (show ¬ ((openL (f0B b) (pB b)).ty = 8 ∧ (openL (f0B b) (pB b)).inc = 0) by omega), hu, if_pos (show (Flt.whole 1).is = true from rfl)] at he; refine aw_weak (wTake he) ?_)
          | (have hm : misB (tyB b) (stB b) = false := (by rw [Bool.eq_false_iff]; intro h; have h2 := (misB_iff _ _).1 h; omega); have he := takeF_8 (b := b) (most := most) (by omega) (by omega) hm c6 (by assumption); have hu := unfit_at (openL (f0B b) (pB b)).sets k (by omega) 3 hq (by unfold badSet; rw [if_neg (by omega), if_pos (by omega)]); rw [if_neg (show ¬ ((openL (f0B b) (pB b)).ty = 8 ∧ (openL (f0B b) (pB b)).inc = 0) by omega), hu, if_pos (show (Flt.whole 3).is = true from rfl)] at he; refine aw_weak (wTake he) ?_)
          | (have hm : misB (tyB b) (stB b) = false := (by rw [Bool.eq_false_iff]; intro h; have h2 := (misB_iff _ _).1 h; omega); have he := takeF_8 (b := b) (most := most) (by omega) (by omega) hm c6 (by assumption); have hu := unfit_no (openL (f0B b) (pB b)).sets (fun j hj => hq j hj (by omega)); rw [if_neg (show ¬ ((openL (f0B b) (pB b)).ty = 8 ∧ (openL (f0B b) (pB b)).inc = 0) by omega), hu, if_neg (show ¬ Flt.no.is = true by decide)] at he; refine aw_weak (wTake he) ?_)
        refine aw_ret ?_
        refine (hret _ _ _ _ _ rfl (rCe sz_40 (.tmp rfl (rCe sz_37 .nil))) rfl ?_ .nil rfl).1
        rfl
      · refine aw_skip ?_
        refine hK10 _ _ ?_
        clear hK10
        refine aw_regionD mx_all (by kernel_rfl) fun K13 hK13 => ?_
        refine aD z_move ?_
        have i3 := hi3 (by omega)
        have i4 := hi4 (by omega)
        have i5 := e5 (by omega)
        first
          | refine aD (z_indexAddr Try.underlying24 sz_5) ?_
          | refine aD (z_indexAddrV Try.underlying24 sz_5) ?_
        first
          | refine aD (z_load sz_5) ?_
          | refine aD (z_loadRef sz_5) ?_
          | refine aD (z_loadV sz_5) ?_
        refine aD (z_conv Try.underlying3 ⟨_, Try.underlying5⟩) ?_
        refine aD z_move ?_
        first
          | refine aD (z_indexAddr Try.underlying24 sz_5) ?_
          | refine aD (z_indexAddrV Try.underlying24 sz_5) ?_
        first
          | refine aD (z_load sz_5) ?_
          | refine aD (z_loadRef sz_5) ?_
          | refine aD (z_loadV sz_5) ?_
        refine aD (z_conv Try.underlying3 ⟨_, Try.underlying5⟩) ?_
        refine aD z_move ?_
        refine aD (z_call0 (eC (eC (eC .nil))) en_25 (con_at (by omega))) ?_
        refine aD z_rem ?_
        refine aD (z_build (pC (pC (pC .nil))) pl_40 zc_40 zl_40) ?_
        refine aD (z_alloc 3 zc_40 zl_40) ?_
        refine aD (z_store sz_40) ?_
        refine awd_nil (by kernel_rfl) (hK13 _ _ ?_)
        clear hK13 K13
        refine aw_region fun K14 hK14 => ?_
        first
          | refine aL (z_fieldAddr fo_40_0) ?_
          | refine aL (z_fieldRef fo_40_0) ?_
          | refine aL (z_fieldV fo_40_0) ?_
        first
          | refine aL (z_load sz_3) ?_
          | refine aL (z_loadRef sz_3) ?_
          | refine aL (z_loadV sz_3) ?_
        refine aL z_eql ?_
        refine aL z_move ?_
        first
          | refine gL rfl rfl (ev_tmp rfl) (fun hg => z_fieldAddr fo_40_0) ?_
          | refine gL rfl rfl (ev_tmp rfl) (fun hg => z_fieldRef fo_40_0) ?_
          | refine gL rfl rfl (ev_tmp rfl) (fun hg => z_fieldV fo_40_0) ?_
          | refine hL rfl rfl (ev_tmp rfl) (fun hg => z_fieldAddr fo_40_0) ?_
          | refine hL rfl rfl (ev_tmp rfl) (fun hg => z_fieldRef fo_40_0) ?_
          | refine hL rfl rfl (ev_tmp rfl) (fun hg => z_fieldV fo_40_0) ?_
        first
          | refine gL rfl rfl (ev_tmp rfl) (fun hg => z_load sz_3) ?_
          | refine gL rfl rfl (ev_tmp rfl) (fun hg => z_loadRef sz_3) ?_
          | refine gL rfl rfl (ev_tmp rfl) (fun hg => z_loadV sz_3) ?_
          | refine hL rfl rfl (ev_tmp rfl) (fun hg => z_load sz_3) ?_
          | refine hL rfl rfl (ev_tmp rfl) (fun hg => z_loadRef sz_3) ?_
          | refine hL rfl rfl (ev_tmp rfl) (fun hg => z_loadV sz_3) ?_
        first
          | refine gL rfl rfl (ev_tmp rfl) (fun hg => z_eql) ?_
          | refine hL rfl rfl (ev_tmp rfl) (fun hg => z_eql) ?_
        refine aL z_or ?_
        refine aL z_move ?_
        first
          | refine gL rfl rfl (ev_tmp rfl) (fun hg => z_fieldAddr fo_40_0) ?_
          | refine gL rfl rfl (ev_tmp rfl) (fun hg => z_fieldRef fo_40_0) ?_
          | refine gL rfl rfl (ev_tmp rfl) (fun hg => z_fieldV fo_40_0) ?_
          | refine hL rfl rfl (ev_tmp rfl) (fun hg => z_fieldAddr fo_40_0) ?_
          | refine hL rfl rfl (ev_tmp rfl) (fun hg => z_fieldRef fo_40_0) ?_
          | refine hL rfl rfl (ev_tmp rfl) (fun hg => z_fieldV fo_40_0) ?_
        first
          | refine gL rfl rfl (ev_tmp rfl) (fun hg => z_load sz_3) ?_
          | refine gL rfl rfl (ev_tmp rfl) (fun hg => z_loadRef sz_3) ?_
          | refine gL rfl rfl (ev_tmp rfl) (fun hg => z_loadV sz_3) ?_
          | refine hL rfl rfl (ev_tmp rfl) (fun hg => z_load sz_3) ?_
          | refine hL rfl rfl (ev_tmp rfl) (fun hg => z_loadRef sz_3) ?_
          | refine hL rfl rfl (ev_tmp rfl) (fun hg => z_loadV sz_3) ?_
        first
          | refine gL rfl rfl (ev_tmp rfl) (fun hg => z_eql) ?_
          | refine hL rfl rfl (ev_tmp rfl) (fun hg => z_eql) ?_
        refine aL z_or ?_
        refine aL z_move ?_
        first
          | refine gL rfl rfl (ev_tmp rfl) (fun hg => z_fieldAddr fo_40_0) ?_
          | refine gL rfl rfl (ev_tmp rfl) (fun hg => z_fieldRef fo_40_0) ?_
          | refine gL rfl rfl (ev_tmp rfl) (fun hg => z_fieldV fo_40_0) ?_
          | refine hL rfl rfl (ev_tmp rfl) (fun hg => z_fieldAddr fo_40_0) ?_
          | refine hL rfl rfl (ev_tmp rfl) (fun hg => z_fieldRef fo_40_0) ?_
          | refine hL rfl rfl (ev_tmp rfl) (fun hg => z_fieldV fo_40_0) ?_
        first
          | refine gL rfl rfl (ev_tmp rfl) (fun hg => z_load sz_3) ?_
          | refine gL rfl rfl (ev_tmp rfl) (fun hg => z_loadRef sz_3) ?_
          | refine gL rfl rfl (ev_tmp rfl) (fun hg => z_loadV sz_3) ?_
          | refine hL rfl rfl (ev_tmp rfl) (fun hg => z_load sz_3) ?_
          | refine hL rfl rfl (ev_tmp rfl) (fun hg => z_loadRef sz_3) ?_
          | refine hL rfl rfl (ev_tmp rfl) (fun hg => z_loadV sz_3) ?_
        first
          | refine gL rfl rfl (ev_tmp rfl) (fun hg => z_eql) ?_
          | refine hL rfl rfl (ev_tmp rfl) (fun hg => z_eql) ?_
        refine aL z_or ?_
        refine aL z_move ?_
        first
          | refine gL rfl rfl (ev_tmp rfl) (fun hg => z_fieldAddr fo_40_0) ?_
          | refine gL rfl rfl (ev_tmp rfl) (fun hg => z_fieldRef fo_40_0) ?_
          | refine gL rfl rfl (ev_tmp rfl) (fun hg => z_fieldV fo_40_0) ?_
          | refine hL rfl rfl (ev_tmp rfl) (fun hg => z_fieldAddr fo_40_0) ?_
          | refine hL rfl rfl (ev_tmp rfl) (fun hg => z_fieldRef fo_40_0) ?_
          | refine hL rfl rfl (ev_tmp rfl) (fun hg => z_fieldV fo_40_0) ?_
        first
          | refine gL rfl rfl (ev_tmp rfl) (fun hg => z_load sz_3) ?_
          | refine gL rfl rfl (ev_tmp rfl) (fun hg => z_loadRef sz_3) ?_
          | refine gL rfl rfl (ev_tmp rfl) (fun hg => z_loadV sz_3) ?_
          | refine hL rfl rfl (ev_tmp rfl) (fun hg => z_load sz_3) ?_
          | refine hL rfl rfl (ev_tmp rfl) (fun hg => z_loadRef sz_3) ?_
          | refine hL rfl rfl (ev_tmp rfl) (fun hg => z_loadV sz_3) ?_
        first
          | refine gL rfl rfl (ev_tmp rfl) (fun hg => z_eql) ?_
          | refine hL rfl rfl (ev_tmp rfl) (fun hg => z_eql) ?_
        refine aL z_or ?_
        refine aL z_assign ?_
        refine awl_nil (hK14 _ _ ?_)
        clear hK14 K14
        refine aw_region fun K15 hK15 => ?_
        first
          | refine aL (z_fieldAddr fo_40_0) ?_
          | refine aL (z_fieldRef fo_40_0) ?_
          | refine aL (z_fieldV fo_40_0) ?_
        first
          | refine aL (z_load sz_3) ?_
          | refine aL (z_loadRef sz_3) ?_
          | refine aL (z_loadV sz_3) ?_
        refine aL z_eql ?_
        refine aL z_move ?_
        first
          | refine gL rfl rfl (ev_tmp rfl) (fun hg => z_fieldAddr fo_40_0) ?_
          | refine gL rfl rfl (ev_tmp rfl) (fun hg => z_fieldRef fo_40_0) ?_
          | refine gL rfl rfl (ev_tmp rfl) (fun hg => z_fieldV fo_40_0) ?_
          | refine hL rfl rfl (ev_tmp rfl) (fun hg => z_fieldAddr fo_40_0) ?_
          | refine hL rfl rfl (ev_tmp rfl) (fun hg => z_fieldRef fo_40_0) ?_
          | refine hL rfl rfl (ev_tmp rfl) (fun hg => z_fieldV fo_40_0) ?_
        first
          | refine gL rfl rfl (ev_tmp rfl) (fun hg => z_load sz_3) ?_
          | refine gL rfl rfl (ev_tmp rfl) (fun hg => z_loadRef sz_3) ?_
          | refine gL rfl rfl (ev_tmp rfl) (fun hg => z_loadV sz_3) ?_
          | refine hL rfl rfl (ev_tmp rfl) (fun hg => z_load sz_3) ?_
          | refine hL rfl rfl (ev_tmp rfl) (fun hg => z_loadRef sz_3) ?_
          | refine hL rfl rfl (ev_tmp rfl) (fun hg => z_loadV sz_3) ?_
        first
          | refine gL rfl rfl (ev_tmp rfl) (fun hg => z_eql) ?_
          | refine hL rfl rfl (ev_tmp rfl) (fun hg => z_eql) ?_
        refine aL z_or ?_
        refine aL z_move ?_
        first
          | refine gL rfl rfl (ev_tmp rfl) (fun hg => z_fieldAddr fo_40_0) ?_
          | refine gL rfl rfl (ev_tmp rfl) (fun hg => z_fieldRef fo_40_0) ?_
          | refine gL rfl rfl (ev_tmp rfl) (fun hg => z_fieldV fo_40_0) ?_
          | refine hL rfl rfl (ev_tmp rfl) (fun hg => z_fieldAddr fo_40_0) ?_
          | refine hL rfl rfl (ev_tmp rfl) (fun hg => z_fieldRef fo_40_0) ?_
          | refine hL rfl rfl (ev_tmp rfl) (fun hg => z_fieldV fo_40_0) ?_
        first
          | refine gL rfl rfl (ev_tmp rfl) (fun hg => z_load sz_3) ?_
          | refine gL rfl rfl (ev_tmp rfl) (fun hg => z_loadRef sz_3) ?_
          | refine gL rfl rfl (ev_tmp rfl) (fun hg => z_loadV sz_3) ?_
          | refine hL rfl rfl (ev_tmp rfl) (fun hg => z_load sz_3) ?_
          | refine hL rfl rfl (ev_tmp rfl) (fun hg => z_loadRef sz_3) ?_
          | refine hL rfl rfl (ev_tmp rfl) (fun hg => z_loadV sz_3) ?_
        first
          | refine gL rfl rfl (ev_tmp rfl) (fun hg => z_eql) ?_
          | refine hL rfl rfl (ev_tmp rfl) (fun hg => z_eql) ?_
        refine aL z_or ?_
        refine aL z_assign ?_
        refine awl_nil (hK15 _ _ ?_)
        clear hK15 K15
        refine aw_seq fun K16 hK16 => ?_
        refine aw_region fun K17 hK17 => ?_
        refine aL z_move ?_
        refine aL z_move ?_
        first
          | refine gL rfl rfl (ev_tmp rfl) (fun hg => z_fieldAddr fo_40_2) ?_
          | refine gL rfl rfl (ev_tmp rfl) (fun hg => z_fieldRef fo_40_2) ?_
          | refine gL rfl rfl (ev_tmp rfl) (fun hg => z_fieldV fo_40_2) ?_
          | refine hL rfl rfl (ev_tmp rfl) (fun hg => z_fieldAddr fo_40_2) ?_
          | refine hL rfl rfl (ev_tmp rfl) (fun hg => z_fieldRef fo_40_2) ?_
          | refine hL rfl rfl (ev_tmp rfl) (fun hg => z_fieldV fo_40_2) ?_
        first
          | refine gL rfl rfl (ev_tmp rfl) (fun hg => z_load sz_3) ?_
          | refine gL rfl rfl (ev_tmp rfl) (fun hg => z_loadRef sz_3) ?_
          | refine gL rfl rfl (ev_tmp rfl) (fun hg => z_loadV sz_3) ?_
          | refine hL rfl rfl (ev_tmp rfl) (fun hg => z_load sz_3) ?_
          | refine hL rfl rfl (ev_tmp rfl) (fun hg => z_loadRef sz_3) ?_
          | refine hL rfl rfl (ev_tmp rfl) (fun hg => z_loadV sz_3) ?_
        first
          | refine gL rfl rfl (ev_tmp rfl) (fun hg => z_eql) ?_
          | refine hL rfl rfl (ev_tmp rfl) (fun hg => z_eql) ?_
        refine aL z_and ?_
        refine aL z_move ?_
        first
          | refine gL rfl rfl (ev_tmp rfl) (fun hg => z_move) ?_
          | refine hL rfl rfl (ev_tmp rfl) (fun hg => z_move) ?_
        first
          | refine gL rfl rfl (ev_tmp rfl) (fun hg => z_move) ?_
          | refine hL rfl rfl (ev_tmp rfl) (fun hg => z_move) ?_
        first
          | refine gL rfl rfl (ev_tmp rfl) (fun hg => z_fieldAddr fo_40_2) ?_
          | refine gL rfl rfl (ev_tmp rfl) (fun hg => z_fieldRef fo_40_2) ?_
          | refine gL rfl rfl (ev_tmp rfl) (fun hg => z_fieldV fo_40_2) ?_
          | refine hL rfl rfl (ev_tmp rfl) (fun hg => z_fieldAddr fo_40_2) ?_
          | refine hL rfl rfl (ev_tmp rfl) (fun hg => z_fieldRef fo_40_2) ?_
          | refine hL rfl rfl (ev_tmp rfl) (fun hg => z_fieldV fo_40_2) ?_
        first
          | refine gL rfl rfl (ev_tmp rfl) (fun hg => z_load sz_3) ?_
          | refine gL rfl rfl (ev_tmp rfl) (fun hg => z_loadRef sz_3) ?_
          | refine gL rfl rfl (ev_tmp rfl) (fun hg => z_loadV sz_3) ?_
          | refine hL rfl rfl (ev_tmp rfl) (fun hg => z_load sz_3) ?_
          | refine hL rfl rfl (ev_tmp rfl) (fun hg => z_loadRef sz_3) ?_
          | refine hL rfl rfl (ev_tmp rfl) (fun hg => z_loadV sz_3) ?_
        first
          | refine gL rfl rfl (ev_tmp rfl) (fun hg => z_neq) ?_
          | refine hL rfl rfl (ev_tmp rfl) (fun hg => z_neq) ?_
        first
          | refine gL rfl rfl (ev_tmp rfl) (fun hg => z_and) ?_
          | refine hL rfl rfl (ev_tmp rfl) (fun hg => z_and) ?_
        refine aL z_or ?_
        refine aL z_move ?_
        first
          | refine gL rfl rfl (ev_tmp rfl) (fun hg => z_fieldAddr fo_40_0) ?_
          | refine gL rfl rfl (ev_tmp rfl) (fun hg => z_fieldRef fo_40_0) ?_
          | refine gL rfl rfl (ev_tmp rfl) (fun hg => z_fieldV fo_40_0) ?_
          | refine hL rfl rfl (ev_tmp rfl) (fun hg => z_fieldAddr fo_40_0) ?_
          | refine hL rfl rfl (ev_tmp rfl) (fun hg => z_fieldRef fo_40_0) ?_
          | refine hL rfl rfl (ev_tmp rfl) (fun hg => z_fieldV fo_40_0) ?_
        first
          | refine gL rfl rfl (ev_tmp rfl) (fun hg => z_load sz_3) ?_
          | refine gL rfl rfl (ev_tmp rfl) (fun hg => z_loadRef sz_3) ?_
          | refine gL rfl rfl (ev_tmp rfl) (fun hg => z_loadV sz_3) ?_
          | refine hL rfl rfl (ev_tmp rfl) (fun hg => z_load sz_3) ?_
          | refine hL rfl rfl (ev_tmp rfl) (fun hg => z_loadRef sz_3) ?_
          | refine hL rfl rfl (ev_tmp rfl) (fun hg => z_loadV sz_3) ?_
        first
          | refine gL rfl rfl (ev_tmp rfl) (fun hg => z_eql) ?_
          | refine hL rfl rfl (ev_tmp rfl) (fun hg => z_eql) ?_
        refine aL z_or ?_
        refine awl_nil (hK17 _ _ ?_)
        clear hK17 K17
        refine aC (fun r4 c4 => ?_) (fun r4 c4 => ?_)
        · refine aw_regionD mx_all (by kernel_rfl) fun K18 hK18 => ?_
          first
            | refine aD (z_load sz_40) ?_
            | refine aD (z_loadRef sz_40) ?_
            | refine aD (z_loadV sz_40) ?_
          refine aD (z_call0 (eC .nil) en_26 (con_rof)) ?_
          refine aD (z_store sz_40) ?_
          refine aD z_assign ?_
          refine aD (z_store sz_37) ?_
          refine awd_nil (by kernel_rfl) (hK18 _ _ ?_)
          clear hK18 K18
          first
            | (have he := takeF_1 (b := b) (most := most) (by omega); refine aw_weak (wTake he) ?_)
            | (have he := takeF_2 (b := b) (most := most) (by omega) (by omega); refine aw_weak (wTake he) ?_)
            | (have he := takeF_3 (b := b) (most := most) (by omega) (by omega) (by omega); refine aw_weak (wTake he) ?_)
            | (have hm : misB (tyB b) (stB b) = true := (misB_iff _ _).2 (by omega); have he := takeF_4 (b := b) (most := most) (by omega) (by omega) hm; refine aw_weak (wTake he) ?_)
            | (have hm : misB (tyB b) (stB b) = false := (by rw [Bool.eq_false_iff]; intro h; have h2 := (misB_iff _ _).1 h; omega); have he := takeF_5 (b := b) (most := most) (by omega) (by omega) hm c5.1 c5.2; refine aw_weak (wTake he) ?_)
            | (have hm : misB (tyB b) (stB b) = false := (by rw [Bool.eq_false_iff]; intro h; have h2 := (misB_iff _ _).1 h; omega); have hs : missB (tyB b) (flB b) (beN (b.take 3) : Int) = true := c6; have ht : ¬ tyB b = 2 := (by rcases c5 with h | h; exact absurd (h.symm.trans hs) (by decide); exact h); have he := takeF_6 (b := b) (most := most) (by omega) (by omega) hm hs ht; refine aw_weak (wTake he) ?_)
            | (have hm : misB (tyB b) (stB b) = false := (by rw [Bool.eq_false_iff]; intro h; have h2 := (misB_iff _ _).1 h; omega); have he := takeF_7 (b := b) (most := most) (by omega) (by omega) hm c6 (by assumption); refine aw_weak (wTake he) ?_)
            | (have hm : misB (tyB b) (stB b) = false := (by rw [Bool.eq_false_iff]; intro h; have h2 := (misB_iff _ _).1 h; omega); have he := takeF_8 (b := b) (most := most) (by omega) (by omega) hm c6 (by assumption); rw [if_pos (show (openL (f0B b) (pB b)).ty = 8 ∧ (openL (f0B b) (pB b)).inc = 0 by omega), if_pos (show (openL (f0B b) (pB b)).st ≠ 0 by omega)] at he; refine aw_weak (wTake he) ?_)
            | (have hm : misB (tyB b) (stB b) = false := (by rw [Bool.eq_false_iff]; intro h; have h2 := (misB_iff _ _).1 h; omega); have he := takeF_8 (b := b) (most := most) (by omega) (by omega) hm c6 (by assumption); rw [if_pos (show (openL (f0B b) (pB b)).ty = 8 ∧ (openL (f0B b) (pB b)).inc = 0 by omega), if_neg (show ¬ (openL (f0B b) (pB b)).st ≠ 0 by omega)] at he; refine aw_weak (wTake he) ?_)
            | (have hm : misB (tyB b) (stB b) = false := (by rw [Bool.eq_false_iff]; intro h; have h2 := (misB_iff _ _).1 h; omega); have he := takeF_8 (b := b) (most := most) (by omega) (by omega) hm c6 (by assumption); have hu := unfit_at (openL (f0B b) (pB b)).sets k (by omega) 1 hq (by unfold badSet; rw [if_pos (by omega)]); rw [if_neg (show ¬ ((openL (f0B b) (pB b)).ty = 8 ∧ (openL (f0B b) (pB b)).inc = 0) by omega), hu, if_pos (show (Flt.whole 1).is = true from rfl)] at he; refine aw_weak (wTake he) ?_)
            | (have hm : misB (tyB b) (stB b) = false := (by rw [Bool.eq_false_iff]; intro h; have h2 := (misB_iff _ _).1 h; omega); have he := takeF_8 (b := b) (most := most) (by omega) (by omega) hm c6 (by assumption); have hu := unfit_at (openL (f0B b) (pB b)).sets k (by omega) 3 hq (by unfold badSet; rw [if_neg (by omega), if_pos (by omega)]); rw [if_neg (show ¬ ((openL (f0B b) (pB b)).ty = 8 ∧ (openL (f0B b) (pB b)).inc = 0) by omega), hu, if_pos (show (Flt.whole 3).is = true from rfl)] at he; refine aw_weak (wTake he) ?_)
            | (have hm : misB (tyB b) (stB b) = false := (by rw [Bool.eq_false_iff]; intro h; have h2 := (misB_iff _ _).1 h; omega); have he := takeF_8 (b := b) (most := most) (by omega) (by omega) hm c6 (by assumption); have hu := unfit_no (openL (f0B b) (pB b)).sets (fun j hj => hq j hj (by omega)); rw [if_neg (show ¬ ((openL (f0B b) (pB b)).ty = 8 ∧ (openL (f0B b) (pB b)).inc = 0) by omega), hu, if_neg (show ¬ Flt.no.is = true by decide)] at he; refine aw_weak (wTake he) ?_)
          refine aw_ret ?_
          refine (hret _ _ _ _ _ rfl (rCe sz_40 (.tmp rfl (rCe sz_37 .nil))) rfl ?_ .nil rfl).1
          rfl
        · refine aw_skip ?_
          refine hK16 _ _ ?_
          clear hK16
          refine aw_seq fun K19 hK19 => ?_
          refine aw_region fun K20 hK20 => ?_
          first
            | refine aL (z_load sz_40) ?_
            | refine aL (z_loadRef sz_40) ?_
            | refine aL (z_loadV sz_40) ?_
          refine aL z_move ?_
          refine aL (z_call0 (eC (eC .nil)) en_27 (con_sized (f := f0B b) (x := .lit (.slice none 0 0)) hfl.1 hfl.2 (by omega))) ?_
          refine aL z_not ?_
          refine aL z_move ?_
          first
            | refine gL rfl rfl (ev_tmp rfl) (fun hg => z_fieldAddr fo_40_0) ?_
            | refine gL rfl rfl (ev_tmp rfl) (fun hg => z_fieldRef fo_40_0) ?_
            | refine gL rfl rfl (ev_tmp rfl) (fun hg => z_fieldV fo_40_0) ?_
            | refine hL rfl rfl (ev_tmp rfl) (fun hg => z_fieldAddr fo_40_0) ?_
            | refine hL rfl rfl (ev_tmp rfl) (fun hg => z_fieldRef fo_40_0) ?_
            | refine hL rfl rfl (ev_tmp rfl) (fun hg => z_fieldV fo_40_0) ?_
          first
            | refine gL rfl rfl (ev_tmp rfl) (fun hg => z_load sz_3) ?_
            | refine gL rfl rfl (ev_tmp rfl) (fun hg => z_loadRef sz_3) ?_
            | refine gL rfl rfl (ev_tmp rfl) (fun hg => z_loadV sz_3) ?_
            | refine hL rfl rfl (ev_tmp rfl) (fun hg => z_load sz_3) ?_
            | refine hL rfl rfl (ev_tmp rfl) (fun hg => z_loadRef sz_3) ?_
            | refine hL rfl rfl (ev_tmp rfl) (fun hg => z_loadV sz_3) ?_
          first
            | refine gL rfl rfl (ev_tmp rfl) (fun hg => z_eql) ?_
            | refine hL rfl rfl (ev_tmp rfl) (fun hg => z_eql) ?_
          refine aL z_and ?_
          refine awl_nil (hK20 _ _ ?_)
          clear hK20 K20
          refine aC (fun r5 c5 => ?_) (fun r5 c5 => ?_)
          · refine aw_regionD mx_all (by kernel_rfl) fun K21 hK21 => ?_
            first
              | refine aD (z_load sz_40) ?_
              | refine aD (z_loadRef sz_40) ?_
              | refine aD (z_loadV sz_40) ?_
            refine aD z_move ?_
            refine aD z_add ?_
            first
              | refine aD (z_fieldAddr fo_40_2) ?_
              | refine aD (z_fieldRef fo_40_2) ?_
              | refine aD (z_fieldV fo_40_2) ?_
            first
              | refine aD (z_load sz_3) ?_
              | refine aD (z_loadRef sz_3) ?_
              | refine aD (z_loadV sz_3) ?_
            refine aD (z_build (pC (pC (pC .nil))) pl_37 zc_37 zl_37) ?_
            refine aD (z_store sz_40) ?_
            refine aD z_assign ?_
            refine aD (z_store sz_37) ?_
            refine awd_nil (by kernel_rfl) (hK21 _ _ ?_)
            clear hK21 K21
            first
              | (have he := takeF_1 (b := b) (most := most) (by omega); refine aw_weak (wTake he) ?_)
              | (have he := takeF_2 (b := b) (most := most) (by omega) (by omega); refine aw_weak (wTake he) ?_)
              | (have he := takeF_3 (b := b) (most := most) (by omega) (by omega) (by omega); refine aw_weak (wTake he) ?_)
              | (have hm : misB (tyB b) (stB b) = true := (misB_iff _ _).2 (by omega); have he := takeF_4 (b := b) (most := most) (by omega) (by omega) hm; refine aw_weak (wTake he) ?_)
              | (have hm : misB (tyB b) (stB b) = false := (by rw [Bool.eq_false_iff]; intro h; have h2 := (misB_iff _ _).1 h; omega); have he := takeF_5 (b := b) (most := most) (by omega) (by omega) hm c5.1 c5.2; refine aw_weak (wTake he) ?_)
              | (have hm : misB (tyB b) (stB b) = false := (by rw [Bool.eq_false_iff]; intro h; have h2 := (misB_iff _ _).1 h; omega); have hs : missB (tyB b) (flB b) (beN (b.take 3) : Int) = true := c6; have ht : ¬ tyB b = 2 := (by rcases c5 with h | h; exact absurd (h.symm.trans hs) (by decide); exact h); have he := takeF_6 (b := b) (most := most) (by omega) (by omega) hm hs ht; refine aw_weak (wTake he) ?_)
              | (have hm : misB (tyB b) (stB b) = false := (by rw [Bool.eq_false_iff]; intro h; have h2 := (misB_iff _ _).1 h; omega); have he := takeF_7 (b := b) (most := most) (by omega) (by omega) hm c6 (by assumption); refine aw_weak (wTake he) ?_)
              | (have hm : misB (tyB b) (stB b) = false := (by rw [Bool.eq_false_iff]; intro h; have h2 := (misB_iff _ _).1 h; omega); have he := takeF_8 (b := b) (most := most) (by omega) (by omega) hm c6 (by assumption); rw [if_pos (show (openL (f0B b) (pB b)).ty = 8 ∧ (openL (f0B b) (pB b)).inc = 0 by omega), if_pos (show (openL (f0B b) (pB b)).st ≠ 0 by omega)] at he; refine aw_weak (wTake he) ?_)
              | (have hm : misB (tyB b) (stB b) = false := (by rw [Bool.eq_false_iff]; intro h; have h2 := (misB_iff _ _).1 h; omega); have he := takeF_8 (b := b) (most := most) (by omega) (by omega) hm c6 (by assumption); rw [if_pos (show (openL (f0B b) (pB b)).ty = 8 ∧ (openL (f0B b) (pB b)).inc = 0 by omega), if_neg (show ¬ (openL (f0B b) (pB b)).st ≠ 0 by omega)] at he; refine aw_weak (wTake he) ?_)
              | (have hm : misB (tyB b) (stB b) = false := (by rw [Bool.eq_false_iff]; intro h; have h2 := (misB_iff _ _).1 h; omega); have he := takeF_8 (b := b) (most := most) (by omega) (by omega) hm c6 (by assumption); have hu := unfit_at (openL (f0B b) (pB b)).sets k (by omega) 1 hq (by unfold badSet; rw [if_pos (by omega)]); rw [if_neg (show ¬ ((openL (f0B b) (pB b)).ty = 8 ∧ (openL (f0B b) (pB b)).inc = 0) by omega), hu, if_pos (show (Flt.whole 1).is = true from rfl)] at he; refine aw_weak (wTake he) ?_)
              | (have hm : misB (tyB b) (stB b) = false := (by rw [Bool.eq_false_iff]; intro h; have h2 := (misB_iff _ _).1 h; omega); have he := takeF_8 (b := b) (most := most) (by omega) (by omega) hm c6 (by assumption); have hu := unfit_at (openL (f0B b) (pB b)).sets k (by omega) 3 hq (by unfold badSet; rw [if_neg (by omega), if_pos (by omega)]); rw [if_neg (show ¬ ((openL (f0B b) (pB b)).ty = 8 ∧ (openL (f0B b) (pB b)).inc = 0) by omega), hu, if_pos (show (Flt.whole 3).is = true from rfl)] at he; refine aw_weak (wTake he) ?_)
              | (have hm : misB (tyB b) (stB b) = false := (by rw [Bool.eq_false_iff]; intro h; have h2 := (misB_iff _ _).1 h; omega); have he := takeF_8 (b := b) (most := most) (by omega) (by omega) hm c6 (by assumption); have hu := unfit_no (openL (f0B b) (pB b)).sets (fun j hj => hq j hj (by omega)); rw [if_neg (show ¬ ((openL (f0B b) (pB b)).ty = 8 ∧ (openL (f0B b) (pB b)).inc = 0) by omega), hu, if_neg (show ¬ Flt.no.is = true by decide)] at he; refine aw_weak (wTake he) ?_)
            refine aw_ret ?_
            refine (hret _ _ _ _ _ rfl (rCe sz_40 (.tmp rfl (rCe sz_37 .nil))) rfl ?_ .nil rfl).1
            rfl
          · refine aw_skip ?_
            refine hK19 _ _ ?_
            clear hK19
            refine aw_seq fun K22 hK22 => ?_
            refine aw_region fun K23 hK23 => ?_
            first
              | refine aL (z_load sz_40) ?_
              | refine aL (z_loadRef sz_40) ?_
              | refine aL (z_loadV sz_40) ?_
            refine aL z_move ?_
            refine aL (z_call0 (eC (eC .nil)) en_27 (con_sized (f := f0B b) (x := .lit (.slice none 0 0)) hfl.1 hfl.2 (by omega))) ?_
            refine aL z_not ?_
            refine awl_nil (hK23 _ _ ?_)
            clear hK23 K23
            refine aC (fun r6 c6 => ?_) (fun r6 c6 => ?_)
            · refine aw_regionD mx_all (by kernel_rfl) fun K24 hK24 => ?_
              first
                | refine aD (z_load sz_40) ?_
                | refine aD (z_loadRef sz_40) ?_
                | refine aD (z_loadV sz_40) ?_
              refine aD (z_call0 (eC .nil) en_26 (con_rof)) ?_
              refine aD (z_store sz_40) ?_
              refine aD z_assign ?_
              refine aD (z_store sz_37) ?_
              refine awd_nil (by kernel_rfl) (hK24 _ _ ?_)
              clear hK24 K24
              first
                | (have he := takeF_1 (b := b) (most := most) (by omega); refine aw_weak (wTake he) ?_)
                | (have he := takeF_2 (b := b) (most := most) (by omega) (by omega); refine aw_weak (wTake he) ?_)
                | (have he := takeF_3 (b := b) (most := most) (by omega) (by omega) (by omega); refine aw_weak (wTake he) ?_)
                | (have hm : misB (tyB b) (stB b) = true := (misB_iff _ _).2 (by omega); have he := takeF_4 (b := b) (most := most) (by omega) (by omega) hm; refine aw_weak (wTake he) ?_)
                | (have hm : misB (tyB b) (stB b) = false := (by rw [Bool.eq_false_iff]; intro h; have h2 := (misB_iff _ _).1 h; omega); have he := takeF_5 (b := b) (most := most) (by omega) (by omega) hm c5.1 c5.2; refine aw_weak (wTake he) ?_)
                | (have hm : misB (tyB b) (stB b) = false := (by rw [Bool.eq_false_iff]; intro h; have h2 := (misB_iff _ _).1 h; omega); have hs : missB (tyB b) (flB b) (beN (b.take 3) : Int) = true := c6; have ht : ¬ tyB b = 2 := (by rcases c5 with h | h; exact absurd (h.symm.trans hs) (by decide); exact h); have he := takeF_6 (b := b) (most := most) (by omega) (by omega) hm hs ht; refine aw_weak (wTake he) ?_)
                | (have hm : misB (tyB b) (stB b) = false := (by rw [Bool.eq_false_iff]; intro h; have h2 := (misB_iff _ _).1 h; omega); have he := takeF_7 (b := b) (most := most) (by omega) (by omega) hm c6 (by assumption); refine aw_weak (wTake he) ?_)
                | (have hm : misB (tyB b) (stB b) = false := (by rw [Bool.eq_false_iff]; intro h; have h2 := (misB_iff _ _).1 h; omega); have he := takeF_8 (b := b) (most := most) (by omega) (by omega) hm c6 (by assumption); rw [if_pos (show (openL (f0B b) (pB b)).ty = 8 ∧ (openL (f0B b) (pB b)).inc = 0 by omega), if_pos (show (openL (f0B b) (pB b)).st ≠ 0 by omega)] at he; refine aw_weak (wTake he) ?_)
                | (have hm : misB (tyB b) (stB b) = false := (by rw [Bool.eq_false_iff]; intro h; have h2 := (misB_iff _ _).1 h; omega); have he := takeF_8 (b := b) (most := most) (by omega) (by omega) hm c6 (by assumption); rw [if_pos (show (openL (f0B b) (pB b)).ty = 8 ∧ (openL (f0B b) (pB b)).inc = 0 by omega), if_neg (show ¬ (openL (f0B b) (pB b)).st ≠ 0 by omega)] at he; refine aw_weak (wTake he) ?_)
                | (have hm : misB (tyB b) (stB b) = false := (by rw [Bool.eq_false_iff]; intro h; have h2 := (misB_iff _ _).1 h; omega); have he := takeF_8 (b := b) (most := most) (by omega) (by omega) hm c6 (by assumption); have hu := unfit_at (openL (f0B b) (pB b)).sets k (by omega) 1 hq (by unfold badSet; rw [if_pos (by omega)]); rw [if_neg (show ¬ ((openL (f0B b) (pB b)).ty = 8 ∧ (openL (f0B b) (pB b)).inc = 0) by omega), hu, if_pos (show (Flt.whole 1).is = true from rfl)] at he; refine aw_weak (wTake he) ?_)
                | (have hm : misB (tyB b) (stB b) = false := (by rw [Bool.eq_false_iff]; intro h; have h2 := (misB_iff _ _).1 h; omega); have he := takeF_8 (b := b) (most := most) (by omega) (by omega) hm c6 (by assumption); have hu := unfit_at (openL (f0B b) (pB b)).sets k (by omega) 3 hq (by unfold badSet; rw [if_neg (by omega), if_pos (by omega)]); rw [if_neg (show ¬ ((openL (f0B b) (pB b)).ty = 8 ∧ (openL (f0B b) (pB b)).inc = 0) by omega), hu, if_pos (show (Flt.whole 3).is = true from rfl)] at he; refine aw_weak (wTake he) ?_)
                | (have hm : misB (tyB b) (stB b) = false := (by rw [Bool.eq_false_iff]; intro h; have h2 := (misB_iff _ _).1 h; omega); have he := takeF_8 (b := b) (most := most) (by omega) (by omega) hm c6 (by assumption); have hu := unfit_no (openL (f0B b) (pB b)).sets (fun j hj => hq j hj (by omega)); rw [if_neg (show ¬ ((openL (f0B b) (pB b)).ty = 8 ∧ (openL (f0B b) (pB b)).inc = 0) by omega), hu, if_neg (show ¬ Flt.no.is = true by decide)] at he; refine aw_weak (wTake he) ?_)
              refine aw_ret ?_
              refine (hret _ _ _ _ _ rfl (rCe sz_40 (.tmp rfl (rCe sz_37 .nil))) rfl ?_ .nil rfl).1
              rfl
            · refine aw_skip ?_
              refine hK22 _ _ ?_
              clear hK22
              refine aw_regionD mx_all (by kernel_rfl) fun K25 hK25 => ?_
              first
                | refine aD (z_load sz_40) ?_
                | refine aD (z_loadRef sz_40) ?_
                | refine aD (z_loadV sz_40) ?_
              refine aD z_move ?_
              refine aD z_move ?_
              refine aD z_add ?_
              have hl := hpl (by omega)
              have hmiss : missB (f0B b).ty (f0B b).fl ((pB b).length : Int) = false := by rw [hl]; assumption
              refine aD (stepU_slice (j := some (9 + beN (b.take 3))) (c' := bs (pB b)) rfl Try.underlying24 sz_5 (bs_one _) (ev_tmp rfl) (.yes (ev_int _ _) rfl) (.yes (ev_tmp rfl) (by omega)) (by simp) (by simp; omega) (by simp [pB])) ?_
              refine aD (z_call0 (eC (eC .nil)) en_28 (con_fieldsAll (f := f0B b) (p := pB b) hfl.1 hfl.2 hty hmiss (by omega) rfl rfl rfl)) ?_
              refine aD z_move ?_
              refine aD z_extract ?_
              refine aD z_extract ?_
              refine aD (z_store sz_40) ?_
              refine aD z_assign ?_
              refine awd_nil (by kernel_rfl) (hK25 _ _ ?_)
              clear hK25 K25
              refine aw_seq fun K26 hK26 => ?_
              refine aw_region fun K27 hK27 => ?_
              refine aL z_move ?_
              refine aL z_not ?_
              refine awl_nil (hK27 _ _ ?_)
              clear hK27 K27
              refine aC (fun r7 c7 => ?_) (fun r7 c7 => ?_)
              · refine aw_regionD mx_all (by kernel_rfl) fun K28 hK28 => ?_
                first
                  | refine aD (z_load sz_40) ?_
                  | refine aD (z_loadRef sz_40) ?_
                  | refine aD (z_loadV sz_40) ?_
                refine aD (z_call0 (eC .nil) en_26 (con_rof)) ?_
                refine aD (z_store sz_40) ?_
                refine aD z_assign ?_
                refine aD (z_store sz_37) ?_
                refine awd_nil (by kernel_rfl) (hK28 _ _ ?_)
                clear hK28 K28
                first
                  | (have he := takeF_1 (b := b) (most := most) (by omega); refine aw_weak (wTake he) ?_)
                  | (have he := takeF_2 (b := b) (most := most) (by omega) (by omega); refine aw_weak (wTake he) ?_)
                  | (have he := takeF_3 (b := b) (most := most) (by omega) (by omega) (by omega); refine aw_weak (wTake he) ?_)
                  | (have hm : misB (tyB b) (stB b) = true := (misB_iff _ _).2 (by omega); have he := takeF_4 (b := b) (most := most) (by omega) (by omega) hm; refine aw_weak (wTake he) ?_)
                  | (have hm : misB (tyB b) (stB b) = false := (by rw [Bool.eq_false_iff]; intro h; have h2 := (misB_iff _ _).1 h; omega); have he := takeF_5 (b := b) (most := most) (by omega) (by omega) hm c5.1 c5.2; refine aw_weak (wTake he) ?_)
                  | (have hm : misB (tyB b) (stB b) = false := (by rw [Bool.eq_false_iff]; intro h; have h2 := (misB_iff _ _).1 h; omega); have hs : missB (tyB b) (flB b) (beN (b.take 3) : Int) = true := c6; have ht : ¬ tyB b = 2 := (by rcases c5 with h | h; exact absurd (h.symm.trans hs) (by decide); exact h); have he := takeF_6 (b := b) (most := most) (by omega) (by omega) hm hs ht; refine aw_weak (wTake he) ?_)
                  | (have hm : misB (tyB b) (stB b) = false := (by rw [Bool.eq_false_iff]; intro h; have h2 := (misB_iff _ _).1 h; omega); have he := takeF_7 (b := b) (most := most) (by omega) (by omega) hm c6 (by assumption); refine aw_weak (wTake he) ?_)
                  | (have hm : misB (tyB b) (stB b) = false := (by rw [Bool.eq_false_iff]; intro h; have h2 := (misB_iff _ _).1 h; omega); have he := takeF_8 (b := b) (most := most) (by omega) (by omega) hm c6 (by assumption); rw [if_pos (show (openL (f0B b) (pB b)).ty = 8 ∧ (openL (f0B b) (pB b)).inc = 0 by omega), if_pos (show (openL (f0B b) (pB b)).st ≠ 0 by omega)] at he; refine aw_weak (wTake he) ?_)
                  | (have hm : misB (tyB b) (stB b) = false := (by rw [Bool.eq_false_iff]; intro h; have h2 := (misB_iff _ _).1 h; omega); have he := takeF_8 (b := b) (most := most) (by omega) (by omega) hm c6 (by assumption); rw [if_pos (show (openL (f0B b) (pB b)).ty = 8 ∧ (openL (f0B b) (pB b)).inc = 0 by omega), if_neg (show ¬ (openL (f0B b) (pB b)).st ≠ 0 by omega)] at he; refine aw_weak (wTake he) ?_)
                  | (have hm : misB (tyB b) (stB b) = false := (by rw [Bool.eq_false_iff]; intro h; have h2 := (misB_iff _ _).1 h; omega); have he := takeF_8 (b := b) (most := most) (by omega) (by omega) hm c6 (by assumption); have hu := unfit_at (openL (f0B b) (pB b)).sets k (by omega) 1 hq (by unfold badSet; rw [if_pos (by omega)]); rw [if_neg (show ¬ ((openL (f0B b) (pB b)).ty = 8 ∧ (openL (f0B b) (pB b)).inc = 0) by omega), hu, if_pos (show (Flt.whole 1).is = true from rfl)] at he; refine aw_weak (wTake he) ?_)
                  | (have hm : misB (tyB b) (stB b) = false := (by rw [Bool.eq_false_iff]; intro h; have h2 := (misB_iff _ _).1 h; omega); have he := takeF_8 (b := b) (most := most) (by omega) (by omega) hm c6 (by assumption); have hu := unfit_at (openL (f0B b) (pB b)).sets k (by omega) 3 hq (by unfold badSet; rw [if_neg (by omega), if_pos (by omega)]); rw [if_neg (show ¬ ((openL (f0B b) (pB b)).ty = 8 ∧ (openL (f0B b) (pB b)).inc = 0) by omega), hu, if_pos (show (Flt.whole 3).is = true from rfl)] at he; refine aw_weak (wTake he) ?_)
                  | (have hm : misB (tyB b) (stB b) = false := (by rw [Bool.eq_false_iff]; intro h; have h2 := (misB_iff _ _).1 h; omega); have he := takeF_8 (b := b) (most := most) (by omega) (by omega) hm c6 (by assumption); have hu := unfit_no (openL (f0B b) (pB b)).sets (fun j hj => hq j hj (by omega)); rw [if_neg (show ¬ ((openL (f0B b) (pB b)).ty = 8 ∧ (openL (f0B b) (pB b)).inc = 0) by omega), hu, if_neg (show ¬ Flt.no.is = true by decide)] at he; refine aw_weak (wTake he) ?_)
                refine aw_ret ?_
                refine (hret _ _ _ _ _ rfl (rCe sz_40 (.tmp rfl (rCe sz_37 .nil))) rfl ?_ .nil rfl).1
                rfl
              · refine aw_skip ?_
                refine hK26 _ _ ?_
                clear hK26
                refine aw_seq fun K29 hK29 => ?_
                refine aw_region fun K30 hK30 => ?_
                first
                  | refine aL (z_fieldAddr fo_40_0) ?_
                  | refine aL (z_fieldRef fo_40_0) ?_
                  | refine aL (z_fieldV fo_40_0) ?_
                first
                  | refine aL (z_load sz_3) ?_
                  | refine aL (z_loadRef sz_3) ?_
                  | refine aL (z_loadV sz_3) ?_
                refine aL z_eql ?_
                refine aL z_move ?_
                first
                  | refine gL rfl rfl (ev_tmp rfl) (fun hg => z_fieldAddr fo_40_8) ?_
                  | refine gL rfl rfl (ev_tmp rfl) (fun hg => z_fieldRef fo_40_8) ?_
                  | refine gL rfl rfl (ev_tmp rfl) (fun hg => z_fieldV fo_40_8) ?_
                  | refine hL rfl rfl (ev_tmp rfl) (fun hg => z_fieldAddr fo_40_8) ?_
                  | refine hL rfl rfl (ev_tmp rfl) (fun hg => z_fieldRef fo_40_8) ?_
                  | refine hL rfl rfl (ev_tmp rfl) (fun hg => z_fieldV fo_40_8) ?_
                first
                  | refine gL rfl rfl (ev_tmp rfl) (fun hg => z_load sz_2) ?_
                  | refine gL rfl rfl (ev_tmp rfl) (fun hg => z_loadRef sz_2) ?_
                  | refine gL rfl rfl (ev_tmp rfl) (fun hg => z_loadV sz_2) ?_
                  | refine hL rfl rfl (ev_tmp rfl) (fun hg => z_load sz_2) ?_
                  | refine hL rfl rfl (ev_tmp rfl) (fun hg => z_loadRef sz_2) ?_
                  | refine hL rfl rfl (ev_tmp rfl) (fun hg => z_loadV sz_2) ?_
                first
                  | refine gL rfl rfl (ev_tmp rfl) (fun hg => z_eql) ?_
                  | refine hL rfl rfl (ev_tmp rfl) (fun hg => z_eql) ?_
                refine aL z_and ?_
                refine awl_nil (hK30 _ _ ?_)
                clear hK30 K30
                refine aC (fun r8 c8 => ?_) (fun r8 c8 => ?_)
                · refine aw_seq fun K31 hK31 => ?_
                  refine aw_region fun K32 hK32 => ?_
                  first
                    | refine aL (z_fieldAddr fo_40_2) ?_
                    | refine aL (z_fieldRef fo_40_2) ?_
                    | refine aL (z_fieldV fo_40_2) ?_
                  first
                    | refine aL (z_load sz_3) ?_
                    | refine aL (z_loadRef sz_3) ?_
                    | refine aL (z_loadV sz_3) ?_
                  refine aL z_eql ?_
                  refine awl_nil (hK32 _ _ ?_)
                  clear hK32 K32
                  refine aC (fun r9 c9 => ?_) (fun r9 c9 => ?_)
                  · refine aw_regionD mx_all (by kernel_rfl) fun K33 hK33 => ?_
                    first
                      | refine aD (z_load sz_40) ?_
                      | refine aD (z_loadRef sz_40) ?_
                      | refine aD (z_loadV sz_40) ?_
                    refine aD (z_call0 (eC .nil) en_26 (con_rof)) ?_
                    refine aD (z_store sz_40) ?_
                    refine aD z_assign ?_
                    refine aD (z_store sz_37) ?_
                    refine awd_nil (by kernel_rfl) (hK33 _ _ ?_)
                    clear hK33 K33
                    first
                      | (have he := takeF_1 (b := b) (most := most) (by omega); refine aw_weak (wTake he) ?_)
                      | (have he := takeF_2 (b := b) (most := most) (by omega) (by omega); refine aw_weak (wTake he) ?_)
                      | (have he := takeF_3 (b := b) (most := most) (by omega) (by omega) (by omega); refine aw_weak (wTake he) ?_)
                      | (have hm : misB (tyB b) (stB b) = true := (misB_iff _ _).2 (by omega); have he := takeF_4 (b := b) (most := most) (by omega) (by omega) hm; refine aw_weak (wTake he) ?_)
                      | (have hm : misB (tyB b) (stB b) = false := (by rw [Bool.eq_false_iff]; intro h; have h2 := (misB_iff _ _).1 h; omega); have he := takeF_5 (b := b) (most := most) (by omega) (by omega) hm c5.1 c5.2; refine aw_weak (wTake he) ?_)
                      | (have hm : misB (tyB b) (stB b) = false := (by rw [Bool.eq_false_iff]; intro h; have h2 := (misB_iff _ _).1 h; omega); have hs : missB (tyB b) (flB b) (beN (b.take 3) : Int) = true := c6; have ht : ¬ tyB b = 2 := (by rcases c5 with h | h; exact absurd (h.symm.trans hs) (by decide); exact h); have he := takeF_6 (b := b) (most := most) (by omega) (by omega) hm hs ht; refine aw_weak (wTake he) ?_)
                      | (have hm : misB (tyB b) (stB b) = false := (by rw [Bool.eq_false_iff]; intro h; have h2 := (misB_iff _ _).1 h; omega); have he := takeF_7 (b := b) (most := most) (by omega) (by omega) hm c6 (by assumption); refine aw_weak (wTake he) ?_)
                      | (have hm : misB (tyB b) (stB b) = false := (by rw [Bool.eq_false_iff]; intro h; have h2 := (misB_iff _ _).1 h; omega); have he := takeF_8 (b := b) (most := most) (by omega) (by omega) hm c6 (by assumption); rw [if_pos (show (openL (f0B b) (pB b)).ty = 8 ∧ (openL (f0B b) (pB b)).inc = 0 by omega), if_pos (show (openL (f0B b) (pB b)).st ≠ 0 by omega)] at he; refine aw_weak (wTake he) ?_)
                      | (have hm : misB (tyB b) (stB b) = false := (by rw [Bool.eq_false_iff]; intro h; have h2 := (misB_iff _ _).1 h; omega); have he := takeF_8 (b := b) (most := most) (by omega) (by omega) hm c6 (by assumption); rw [if_pos (show (openL (f0B b) (pB b)).ty = 8 ∧ (openL (f0B b) (pB b)).inc = 0 by omega), if_neg (show ¬ (openL (f0B b) (pB b)).st ≠ 0 by omega)] at he; refine aw_weak (wTake he) ?_)
                      | (have hm : misB (tyB b) (stB b) = false := (by rw [Bool.eq_false_iff]; intro h; have h2 := (misB_iff _ _).1 h; omega); have he := takeF_8 (b := b) (most := most) (by omega) (by omega) hm c6 (by assumption); have hu := unfit_at (openL (f0B b) (pB b)).sets k (by omega) 1 hq (by unfold badSet; rw [if_pos (by omega)]); rw [if_neg (show ¬ ((openL (f0B b) (pB b)).ty = 8 ∧ (openL (f0B b) (pB b)).inc = 0) by omega), hu, if_pos (show (Flt.whole 1).is = true from rfl)] at he; refine aw_weak (wTake he) ?_)
                      | (have hm : misB (tyB b) (stB b) = false := (by rw [Bool.eq_false_iff]; intro h; have h2 := (misB_iff _ _).1 h; omega); have he := takeF_8 (b := b) (most := most) (by omega) (by omega) hm c6 (by assumption); have hu := unfit_at (openL (f0B b) (pB b)).sets k (by omega) 3 hq (by unfold badSet; rw [if_neg (by omega), if_pos (by omega)]); rw [if_neg (show ¬ ((openL (f0B b) (pB b)).ty = 8 ∧ (openL (f0B b) (pB b)).inc = 0) by omega), hu, if_pos (show (Flt.whole 3).is = true from rfl)] at he; refine aw_weak (wTake he) ?_)
                      | (have hm : misB (tyB b) (stB b) = false := (by rw [Bool.eq_false_iff]; intro h; have h2 := (misB_iff _ _).1 h; omega); have he := takeF_8 (b := b) (most := most) (by omega) (by omega) hm c6 (by assumption); have hu := unfit_no (openL (f0B b) (pB b)).sets (fun j hj => hq j hj (by omega)); rw [if_neg (show ¬ ((openL (f0B b) (pB b)).ty = 8 ∧ (openL (f0B b) (pB b)).inc = 0) by omega), hu, if_neg (show ¬ Flt.no.is = true by decide)] at he; refine aw_weak (wTake he) ?_)
                    refine aw_ret ?_
                    refine (hret _ _ _ _ _ rfl (rCe sz_40 (.tmp rfl (rCe sz_37 .nil))) rfl ?_ .nil rfl).1
                    rfl
                  · refine aw_skip ?_
                    refine hK31 _ _ ?_
                    clear hK31
                    refine aw_regionD mx_all (by kernel_rfl) fun K34 hK34 => ?_
                    first
                      | refine aD (z_load sz_40) ?_
                      | refine aD (z_loadRef sz_40) ?_
                      | refine aD (z_loadV sz_40) ?_
                    refine aD z_move ?_
                    refine aD z_add ?_
                    first
                      | refine aD (z_fieldAddr fo_40_2) ?_
                      | refine aD (z_fieldRef fo_40_2) ?_
                      | refine aD (z_fieldV fo_40_2) ?_
                    first
                      | refine aD (z_load sz_3) ?_
                      | refine aD (z_loadRef sz_3) ?_
                      | refine aD (z_loadV sz_3) ?_
                    refine aD (z_build (pC (pC (pC .nil))) pl_37 zc_37 zl_37) ?_
                    refine aD (z_store sz_40) ?_
                    refine aD z_assign ?_
                    refine aD (z_store sz_37) ?_
                    refine awd_nil (by kernel_rfl) (hK34 _ _ ?_)
                    clear hK34 K34
                    first
                      | (have he := takeF_1 (b := b) (most := most) (by omega); refine aw_weak (wTake he) ?_)
                      | (have he := takeF_2 (b := b) (most := most) (by omega) (by omega); refine aw_weak (wTake he) ?_)
                      | (have he := takeF_3 (b := b) (most := most) (by omega) (by omega) (by omega); refine aw_weak (wTake he) ?_)
                      | (have hm : misB (tyB b) (stB b) = true := (misB_iff _ _).2 (by omega); have he := takeF_4 (b := b) (most := most) (by omega) (by omega) hm; refine aw_weak (wTake he) ?_)
                      | (have hm : misB (tyB b) (stB b) = false := (by rw [Bool.eq_false_iff]; intro h; have h2 := (misB_iff _ _).1 h; omega); have he := takeF_5 (b := b) (most := most) (by omega) (by omega) hm c5.1 c5.2; refine aw_weak (wTake he) ?_)
                      | (have hm : misB (tyB b) (stB b) = false := (by rw [Bool.eq_false_iff]; intro h; have h2 := (misB_iff _ _).1 h; omega); have hs : missB (tyB b) (flB b) (beN (b.take 3) : Int) = true := c6; have ht : ¬ tyB b = 2 := (by rcases c5 with h | h; exact absurd (h.symm.trans hs) (by decide); exact h); have he := takeF_6 (b := b) (most := most) (by omega) (by omega) hm hs ht; refine aw_weak (wTake he) ?_)
                      | (have hm : misB (tyB b) (stB b) = false := (by rw [Bool.eq_false_iff]; intro h; have h2 := (misB_iff _ _).1 h; omega); have he := takeF_7 (b := b) (most := most) (by omega) (by omega) hm c6 (by assumption); refine aw_weak (wTake he) ?_)
                      | (have hm : misB (tyB b) (stB b) = false := (by rw [Bool.eq_false_iff]; intro h; have h2 := (misB_iff _ _).1 h; omega); have he := takeF_8 (b := b) (most := most) (by omega) (by omega) hm c6 (by assumption); rw [if_pos (show (openL (f0B b) (pB b)).ty = 8 ∧ (openL (f0B b) (pB b)).inc = 0 by omega), if_pos (show (openL (f0B b) (pB b)).st ≠ 0 by omega)] at he; refine aw_weak (wTake he) ?_)
                      | (have hm : misB (tyB b) (stB b) = false := (by rw [Bool.eq_false_iff]; intro h; have h2 := (misB_iff _ _).1 h; omega); have he := takeF_8 (b := b) (most := most) (by omega) (by omega) hm c6 (by assumption); rw [if_pos (show (openL (f0B b) (pB b)).ty = 8 ∧ (openL (f0B b) (pB b)).inc = 0 by omega), if_neg (show ¬ (openL (f0B b) (pB b)).st ≠ 0 by omega)] at he; refine aw_weak (wTake he) ?_)
                      | (have hm : misB (tyB b) (stB b) = false := (by rw [Bool.eq_false_iff]; intro h; have h2 := (misB_iff _ _).1 h; omega); have he := takeF_8 (b := b) (most := most) (by omega) (by omega) hm c6 (by assumption); have hu := unfit_at (openL (f0B b) (pB b)).sets k (by omega) 1 hq (by unfold badSet; rw [if_pos (by omega)]); rw [if_neg (show ¬ ((openL (f0B b) (pB b)).ty = 8 ∧ (openL (f0B b) (pB b)).inc = 0) by omega), hu, if_pos (show (Flt.whole 1).is = true from rfl)] at he; refine aw_weak (wTake he) ?_)
                      | (have hm : misB (tyB b) (stB b) = false := (by rw [Bool.eq_false_iff]; intro h; have h2 := (misB_iff _ _).1 h; omega); have he := takeF_8 (b := b) (most := most) (by omega) (by omega) hm c6 (by assumption); have hu := unfit_at (openL (f0B b) (pB b)).sets k (by omega) 3 hq (by unfold badSet; rw [if_neg (by omega), if_pos (by omega)]); rw [if_neg (show ¬ ((openL (f0B b) (pB b)).ty = 8 ∧ (openL (f0B b) (pB b)).inc = 0) by omega), hu, if_pos (show (Flt.whole 3).is = true from rfl)] at he; refine aw_weak (wTake he) ?_)
                      | (have hm : misB (tyB b) (stB b) = false := (by rw [Bool.eq_false_iff]; intro h; have h2 := (misB_iff _ _).1 h; omega); have he := takeF_8 (b := b) (most := most) (by omega) (by omega) hm c6 (by assumption); have hu := unfit_no (openL (f0B b) (pB b)).sets (fun j hj => hq j hj (by omega)); rw [if_neg (show ¬ ((openL (f0B b) (pB b)).ty = 8 ∧ (openL (f0B b) (pB b)).inc = 0) by omega), hu, if_neg (show ¬ Flt.no.is = true by decide)] at he; refine aw_weak (wTake he) ?_)
                    refine aw_ret ?_
                    refine (hret _ _ _ _ _ rfl (rCe sz_40 (.tmp rfl (rCe sz_37 .nil))) rfl ?_ .nil rfl).1
                    rfl
                · refine aw_skip ?_
                  refine hK29 _ _ ?_
                  clear hK29
                  refine aw_seq fun K35 hK35 => ?_
                  refine aw_region fun K36 hK36 => ?_
                  refine aL z_assign ?_
                  refine awl_nil (hK36 _ _ ?_)
                  clear hK36 K36
                  refine aw_block ?_
                  refine aw_loop (α := {k : Nat // k ≤ (openL (f0B b) (pB b)).sets.length ∧ ∀ j (hj : j < (openL (f0B b) (pB b)).sets.length), j < k → badSet (openL (f0B b) (pB b)).sets[j] = none}) (fun x => ([(4, .ptr 0 0), (6, .ptr 1 0), (7, .ptr 2 0), (9, .ptr 3 0), (8, .v (.int .i64 (beN (b.take 3)))), (13, .v (.int .i64 (x.1 : Int)))], [(0, .box (Fr.nil.csX NIL)), (1, .box Flt.no.cs), (2, .box (Fr.nil.csX NIL)), (3, .box (openL (f0B b) (pB b)).cs)])) (fun x => (openL (f0B b) (pB b)).sets.length - x.1) ⟨0, by omega, fun j _ h => by omega⟩ ?_ ?_
                  · dsimp only
                    exact wK
                  · rintro ⟨k, hk, hq⟩ K37 hK37
                    dsimp only
                    refine aw_seq fun K38 hK38 => ?_
                    refine aw_region fun K39 hK39 => ?_
                    refine aL z_move ?_
                    first
                      | refine aL (z_fieldAddr fo_40_5) ?_
                      | refine aL (z_fieldRef fo_40_5) ?_
                      | refine aL (z_fieldV fo_40_5) ?_
                    first
                      | refine aL (z_load sz_38) ?_
                      | refine aL (z_loadRef sz_38) ?_
                      | refine aL (z_loadV sz_38) ?_
                    first
                      | refine aL (z_lenB Try.underlying38) ?_
                      | refine aL (z_len Try.underlying38) ?_
                      | refine aL (z_lenV Try.underlying38) ?_
                    refine aL z_lss ?_
                    refine awl_nil (hK39 _ _ ?_)
                    clear hK39 K39
                    rw [hz]
                    refine aC (fun r10 c10 => ?_) (fun r10 c10 => ?_)
                    · refine aw_skip ?_
                      refine hK38 _ _ ?_
                      clear hK38
                      refine aw_seq fun K40 hK40 => ?_
                      refine aw_block ?_
                      refine aw_region fun K41 hK41 => ?_
                      first
                        | refine aL (z_fieldAddr fo_40_5) ?_
                        | refine aL (z_fieldRef fo_40_5) ?_
                        | refine aL (z_fieldV fo_40_5) ?_
                      have hlt : k < (openL (f0B b) (pB b)).sets.length := by omega
                      have hi : (setV (openL (f0B b) (pB b)).sets)[k]? = some [V.int .i64 ((openL (f0B b) (pB b)).sets[k]).1, V.int .i64 ((openL (f0B b) (pB b)).sets[k]).2] := by simp [setV, hlt]
                      first
                        | refine aL (z_load sz_38) ?_
                        | refine aL (z_loadRef sz_38) ?_
                        | refine aL (z_loadV sz_38) ?_
                      refine aL z_move ?_
                      first
                        | refine aL (z_indexAddr Try.underlying38 sz_70) ?_
                        | refine aL (z_indexAddrV Try.underlying38 sz_70) ?_
                      first
                        | refine aL (z_load sz_70) ?_
                        | refine aL (z_loadRef sz_70) ?_
                        | refine aL (z_loadV sz_70) ?_
                      refine aL (z_alloc 4 zc_70 zl_70) ?_
                      refine aL (z_store sz_70) ?_
                      refine awl_nil (hK41 _ _ ?_)
                      clear hK41 K41
                      refine aw_seq fun K42 hK42 => ?_
                      refine aw_region fun K43 hK43 => ?_
                      first
                        | refine aL (z_fieldAddr fo_70_0) ?_
                        | refine aL (z_fieldRef fo_70_0) ?_
                        | refine aL (z_fieldV fo_70_0) ?_
                      first
                        | refine aL (z_load sz_3) ?_
                        | refine aL (z_loadRef sz_3) ?_
                        | refine aL (z_loadV sz_3) ?_
                      refine aL z_eql ?_
                      refine aL z_move ?_
                      first
                        | refine gL rfl rfl (ev_tmp rfl) (fun hg => z_fieldAddr fo_70_1) ?_
                        | refine gL rfl rfl (ev_tmp rfl) (fun hg => z_fieldRef fo_70_1) ?_
                        | refine gL rfl rfl (ev_tmp rfl) (fun hg => z_fieldV fo_70_1) ?_
                        | refine hL rfl rfl (ev_tmp rfl) (fun hg => z_fieldAddr fo_70_1) ?_
                        | refine hL rfl rfl (ev_tmp rfl) (fun hg => z_fieldRef fo_70_1) ?_
                        | refine hL rfl rfl (ev_tmp rfl) (fun hg => z_fieldV fo_70_1) ?_
                      first
                        | refine gL rfl rfl (ev_tmp rfl) (fun hg => z_load sz_2) ?_
                        | refine gL rfl rfl (ev_tmp rfl) (fun hg => z_loadRef sz_2) ?_
                        | refine gL rfl rfl (ev_tmp rfl) (fun hg => z_loadV sz_2) ?_
                        | refine hL rfl rfl (ev_tmp rfl) (fun hg => z_load sz_2) ?_
                        | refine hL rfl rfl (ev_tmp rfl) (fun hg => z_loadRef sz_2) ?_
                        | refine hL rfl rfl (ev_tmp rfl) (fun hg => z_loadV sz_2) ?_
                      first
                        | refine gL rfl rfl (ev_tmp rfl) (fun hg => z_gtr) ?_
                        | refine hL rfl rfl (ev_tmp rfl) (fun hg => z_gtr) ?_
                      refine aL z_and ?_
                      refine aL z_move ?_
                      first
                        | refine gL rfl rfl (ev_tmp rfl) (fun hg => z_fieldAddr fo_70_0) ?_
                        | refine gL rfl rfl (ev_tmp rfl) (fun hg => z_fieldRef fo_70_0) ?_
                        | refine gL rfl rfl (ev_tmp rfl) (fun hg => z_fieldV fo_70_0) ?_
                        | refine hL rfl rfl (ev_tmp rfl) (fun hg => z_fieldAddr fo_70_0) ?_
                        | refine hL rfl rfl (ev_tmp rfl) (fun hg => z_fieldRef fo_70_0) ?_
                        | refine hL rfl rfl (ev_tmp rfl) (fun hg => z_fieldV fo_70_0) ?_
                      first
                        | refine gL rfl rfl (ev_tmp rfl) (fun hg => z_load sz_3) ?_
                        | refine gL rfl rfl (ev_tmp rfl) (fun hg => z_loadRef sz_3) ?_
                        | refine gL rfl rfl (ev_tmp rfl) (fun hg => z_loadV sz_3) ?_
                        | refine hL rfl rfl (ev_tmp rfl) (fun hg => z_load sz_3) ?_
                        | refine hL rfl rfl (ev_tmp rfl) (fun hg => z_loadRef sz_3) ?_
                        | refine hL rfl rfl (ev_tmp rfl) (fun hg => z_loadV sz_3) ?_
                      first
                        | refine gL rfl rfl (ev_tmp rfl) (fun hg => z_eql) ?_
                        | refine hL rfl rfl (ev_tmp rfl) (fun hg => z_eql) ?_
                      first
                        | refine gL rfl rfl (ev_tmp rfl) (fun hg => z_move) ?_
                        | refine hL rfl rfl (ev_tmp rfl) (fun hg => z_move) ?_
                      first
                        | refine gL rfl rfl (ev_tmp rfl) (fun hg => z_fieldAddr fo_70_1) ?_
                        | refine gL rfl rfl (ev_tmp rfl) (fun hg => z_fieldRef fo_70_1) ?_
                        | refine gL rfl rfl (ev_tmp rfl) (fun hg => z_fieldV fo_70_1) ?_
                        | refine hL rfl rfl (ev_tmp rfl) (fun hg => z_fieldAddr fo_70_1) ?_
                        | refine hL rfl rfl (ev_tmp rfl) (fun hg => z_fieldRef fo_70_1) ?_
                        | refine hL rfl rfl (ev_tmp rfl) (fun hg => z_fieldV fo_70_1) ?_
                      first
                        | refine gL rfl rfl (ev_tmp rfl) (fun hg => z_load sz_2) ?_
                        | refine gL rfl rfl (ev_tmp rfl) (fun hg => z_loadRef sz_2) ?_
                        | refine gL rfl rfl (ev_tmp rfl) (fun hg => z_loadV sz_2) ?_
                        | refine hL rfl rfl (ev_tmp rfl) (fun hg => z_load sz_2) ?_
                        | refine hL rfl rfl (ev_tmp rfl) (fun hg => z_loadRef sz_2) ?_
                        | refine hL rfl rfl (ev_tmp rfl) (fun hg => z_loadV sz_2) ?_
                      first
                        | refine gL rfl rfl (ev_tmp rfl) (fun hg => z_lss) ?_
                        | refine hL rfl rfl (ev_tmp rfl) (fun hg => z_lss) ?_
                      first
                        | refine gL rfl rfl (ev_tmp rfl) (fun hg => z_move) ?_
                        | refine hL rfl rfl (ev_tmp rfl) (fun hg => z_move) ?_
                      first
                        | refine gL rfl rfl (ev_tmp rfl) (fun hg => z_fieldAddr fo_70_1) ?_
                        | refine gL rfl rfl (ev_tmp rfl) (fun hg => z_fieldRef fo_70_1) ?_
                        | refine gL rfl rfl (ev_tmp rfl) (fun hg => z_fieldV fo_70_1) ?_
                        | refine hL rfl rfl (ev_tmp rfl) (fun hg => z_fieldAddr fo_70_1) ?_
                        | refine hL rfl rfl (ev_tmp rfl) (fun hg => z_fieldRef fo_70_1) ?_
                        | refine hL rfl rfl (ev_tmp rfl) (fun hg => z_fieldV fo_70_1) ?_
                      first
                        | refine gL rfl rfl (ev_tmp rfl) (fun hg => z_load sz_2) ?_
                        | refine gL rfl rfl (ev_tmp rfl) (fun hg => z_loadRef sz_2) ?_
                        | refine gL rfl rfl (ev_tmp rfl) (fun hg => z_loadV sz_2) ?_
                        | refine hL rfl rfl (ev_tmp rfl) (fun hg => z_load sz_2) ?_
                        | refine hL rfl rfl (ev_tmp rfl) (fun hg => z_loadRef sz_2) ?_
                        | refine hL rfl rfl (ev_tmp rfl) (fun hg => z_loadV sz_2) ?_
                      first
                        | refine gL rfl rfl (ev_tmp rfl) (fun hg => z_gtr) ?_
                        | refine hL rfl rfl (ev_tmp rfl) (fun hg => z_gtr) ?_
                      first
                        | refine gL rfl rfl (ev_tmp rfl) (fun hg => z_or) ?_
                        | refine hL rfl rfl (ev_tmp rfl) (fun hg => z_or) ?_
                      first
                        | refine gL rfl rfl (ev_tmp rfl) (fun hg => z_and) ?_
                        | refine hL rfl rfl (ev_tmp rfl) (fun hg => z_and) ?_
                      refine aL z_or ?_
                      refine awl_nil (hK43 _ _ ?_)
                      clear hK43 K43
                      refine aC (fun r11 c11 => ?_) (fun r11 c11 => ?_)
                      · refine aw_regionD mx_all (by kernel_rfl) fun K44 hK44 => ?_
                        first
                          | refine aD (z_load sz_40) ?_
                          | refine aD (z_loadRef sz_40) ?_
                          | refine aD (z_loadV sz_40) ?_
                        refine aD (z_call0 (eC .nil) en_26 (con_rof)) ?_
                        refine aD (z_store sz_40) ?_
                        refine aD z_assign ?_
                        refine aD (z_store sz_37) ?_
                        refine awd_nil (by kernel_rfl) (hK44 _ _ ?_)
                        clear hK44 K44
                        first
                          | (have he := takeF_1 (b := b) (most := most) (by omega); refine aw_weak (wTake he) ?_)
                          | (have he := takeF_2 (b := b) (most := most) (by omega) (by omega); refine aw_weak (wTake he) ?_)
                          | (have he := takeF_3 (b := b) (most := most) (by omega) (by omega) (by omega); refine aw_weak (wTake he) ?_)
                          | (have hm : misB (tyB b) (stB b) = true := (misB_iff _ _).2 (by omega); have he := takeF_4 (b := b) (most := most) (by omega) (by omega) hm; refine aw_weak (wTake he) ?_)
                          | (have hm : misB (tyB b) (stB b) = false := (by rw [Bool.eq_false_iff]; intro h; have h2 := (misB_iff _ _).1 h; omega); have he := takeF_5 (b := b) (most := most) (by omega) (by omega) hm c5.1 c5.2; refine aw_weak (wTake he) ?_)
                          | (have hm : misB (tyB b) (stB b) = false := (by rw [Bool.eq_false_iff]; intro h; have h2 := (misB_iff _ _).1 h; omega); have hs : missB (tyB b) (flB b) (beN (b.take 3) : Int) = true := c6; have ht : ¬ tyB b = 2 := (by rcases c5 with h | h; exact absurd (h.symm.trans hs) (by decide); exact h); have he := takeF_6 (b := b) (most := most) (by omega) (by omega) hm hs ht; refine aw_weak (wTake he) ?_)
                          | (have hm : misB (tyB b) (stB b) = false := (by rw [Bool.eq_false_iff]; intro h; have h2 := (misB_iff _ _).1 h; omega); have he := takeF_7 (b := b) (most := most) (by omega) (by omega) hm c6 (by assumption); refine aw_weak (wTake he) ?_)
                          | (have hm : misB (tyB b) (stB b) = false := (by rw [Bool.eq_false_iff]; intro h; have h2 := (misB_iff _ _).1 h; omega); have he := takeF_8 (b := b) (most := most) (by omega) (by omega) hm c6 (by assumption); rw [if_pos (show (openL (f0B b) (pB b)).ty = 8 ∧ (openL (f0B b) (pB b)).inc = 0 by omega), if_pos (show (openL (f0B b) (pB b)).st ≠ 0 by omega)] at he; refine aw_weak (wTake he) ?_)
                          | (have hm : misB (tyB b) (stB b) = false := (by rw [Bool.eq_false_iff]; intro h; have h2 := (misB_iff _ _).1 h; omega); have he := takeF_8 (b := b) (most := most) (by omega) (by omega) hm c6 (by assumption); rw [if_pos (show (openL (f0B b) (pB b)).ty = 8 ∧ (openL (f0B b) (pB b)).inc = 0 by omega), if_neg (show ¬ (openL (f0B b) (pB b)).st ≠ 0 by omega)] at he; refine aw_weak (wTake he) ?_)
                          | (have hm : misB (tyB b) (stB b) = false := (by rw [Bool.eq_false_iff]; intro h; have h2 := (misB_iff _ _).1 h; omega); have he := takeF_8 (b := b) (most := most) (by omega) (by omega) hm c6 (by assumption); have hu := unfit_at (openL (f0B b) (pB b)).sets k (by omega) 1 hq (by unfold badSet; rw [if_pos (by omega)]); rw [if_neg (show ¬ ((openL (f0B b) (pB b)).ty = 8 ∧ (openL (f0B b) (pB b)).inc = 0) by omega), hu, if_pos (show (Flt.whole 1).is = true from rfl)] at he; refine aw_weak (wTake he) ?_)
                          | (have hm : misB (tyB b) (stB b) = false := (by rw [Bool.eq_false_iff]; intro h; have h2 := (misB_iff _ _).1 h; omega); have he := takeF_8 (b := b) (most := most) (by omega) (by omega) hm c6 (by assumption); have hu := unfit_at (openL (f0B b) (pB b)).sets k (by omega) 3 hq (by unfold badSet; rw [if_neg (by omega), if_pos (by omega)]); rw [if_neg (show ¬ ((openL (f0B b) (pB b)).ty = 8 ∧ (openL (f0B b) (pB b)).inc = 0) by omega), hu, if_pos (show (Flt.whole 3).is = true from rfl)] at he; refine aw_weak (wTake he) ?_)
                          | (have hm : misB (tyB b) (stB b) = false := (by rw [Bool.eq_false_iff]; intro h; have h2 := (misB_iff _ _).1 h; omega); have he := takeF_8 (b := b) (most := most) (by omega) (by omega) hm c6 (by assumption); have hu := unfit_no (openL (f0B b) (pB b)).sets (fun j hj => hq j hj (by omega)); rw [if_neg (show ¬ ((openL (f0B b) (pB b)).ty = 8 ∧ (openL (f0B b) (pB b)).inc = 0) by omega), hu, if_neg (show ¬ Flt.no.is = true by decide)] at he; refine aw_weak (wTake he) ?_)
                        refine aw_ret ?_
                        refine (hret _ _ _ _ _ rfl (rCe sz_40 (.tmp rfl (rCe sz_37 .nil))) rfl ?_ .nil rfl).1
                        rfl
                      · refine aw_skip ?_
                        refine hK42 _ _ ?_
                        clear hK42
                        refine aw_region fun K45 hK45 => ?_
                        first
                          | refine aL (z_fieldAddr fo_70_0) ?_
                          | refine aL (z_fieldRef fo_70_0) ?_
                          | refine aL (z_fieldV fo_70_0) ?_
                        first
                          | refine aL (z_load sz_3) ?_
                          | refine aL (z_loadRef sz_3) ?_
                          | refine aL (z_loadV sz_3) ?_
                        refine aL z_eql ?_
                        refine aL z_move ?_
                        first
                          | refine gL rfl rfl (ev_tmp rfl) (fun hg => z_fieldAddr fo_70_1) ?_
                          | refine gL rfl rfl (ev_tmp rfl) (fun hg => z_fieldRef fo_70_1) ?_
                          | refine gL rfl rfl (ev_tmp rfl) (fun hg => z_fieldV fo_70_1) ?_
                          | refine hL rfl rfl (ev_tmp rfl) (fun hg => z_fieldAddr fo_70_1) ?_
                          | refine hL rfl rfl (ev_tmp rfl) (fun hg => z_fieldRef fo_70_1) ?_
                          | refine hL rfl rfl (ev_tmp rfl) (fun hg => z_fieldV fo_70_1) ?_
                        first
                          | refine gL rfl rfl (ev_tmp rfl) (fun hg => z_load sz_2) ?_
                          | refine gL rfl rfl (ev_tmp rfl) (fun hg => z_loadRef sz_2) ?_
                          | refine gL rfl rfl (ev_tmp rfl) (fun hg => z_loadV sz_2) ?_
                          | refine hL rfl rfl (ev_tmp rfl) (fun hg => z_load sz_2) ?_
                          | refine hL rfl rfl (ev_tmp rfl) (fun hg => z_loadRef sz_2) ?_
                          | refine hL rfl rfl (ev_tmp rfl) (fun hg => z_loadV sz_2) ?_
                        first
                          | refine gL rfl rfl (ev_tmp rfl) (fun hg => z_gtr) ?_
                          | refine hL rfl rfl (ev_tmp rfl) (fun hg => z_gtr) ?_
                        refine aL z_and ?_
                        refine awl_nil (hK45 _ _ ?_)
                        clear hK45 K45
                        refine aC (fun r12 c12 => ?_) (fun r12 c12 => ?_)
                        · refine aw_regionD mx_all (by kernel_rfl) fun K46 hK46 => ?_
                          first
                            | refine aD (z_load sz_40) ?_
                            | refine aD (z_loadRef sz_40) ?_
                            | refine aD (z_loadV sz_40) ?_
                          refine aD (z_call0 (eC .nil) en_26 (con_rof)) ?_
                          refine aD (z_store sz_40) ?_
                          refine aD z_assign ?_
                          refine aD (z_store sz_37) ?_
                          refine awd_nil (by kernel_rfl) (hK46 _ _ ?_)
                          clear hK46 K46
                          first
                            | (have he := takeF_1 (b := b) (most := most) (by omega); refine aw_weak (wTake he) ?_)
                            | (have he := takeF_2 (b := b) (most := most) (by omega) (by omega); refine aw_weak (wTake he) ?_)
                            | (have he := takeF_3 (b := b) (most := most) (by omega) (by omega) (by omega); refine aw_weak (wTake he) ?_)
                            | (have hm : misB (tyB b) (stB b) = true := (misB_iff _ _).2 (by omega); have he := takeF_4 (b := b) (most := most) (by omega) (by omega) hm; refine aw_weak (wTake he) ?_)
                            | (have hm : misB (tyB b) (stB b) = false := (by rw [Bool.eq_false_iff]; intro h; have h2 := (misB_iff _ _).1 h; omega); have he := takeF_5 (b := b) (most := most) (by omega) (by omega) hm c5.1 c5.2; refine aw_weak (wTake he) ?_)
                            | (have hm : misB (tyB b) (stB b) = false := (by rw [Bool.eq_false_iff]; intro h; have h2 := (misB_iff _ _).1 h; omega); have hs : missB (tyB b) (flB b) (beN (b.take 3) : Int) = true := c6; have ht : ¬ tyB b = 2 := (by rcases c5 with h | h; exact absurd (h.symm.trans hs) (by decide); exact h); have he := takeF_6 (b := b) (most := most) (by omega) (by omega) hm hs ht; refine aw_weak (wTake he) ?_)
                            | (have hm : misB (tyB b) (stB b) = false := (by rw [Bool.eq_false_iff]; intro h; have h2 := (misB_iff _ _).1 h; omega); have he := takeF_7 (b := b) (most := most) (by omega) (by omega) hm c6 (by assumption); refine aw_weak (wTake he) ?_)
                            | (have hm : misB (tyB b) (stB b) = false := (by rw [Bool.eq_false_iff]; intro h; have h2 := (misB_iff _ _).1 h; omega); have he := takeF_8 (b := b) (most := most) (by omega) (by omega) hm c6 (by assumption); rw [if_pos (show (openL (f0B b) (pB b)).ty = 8 ∧ (openL (f0B b) (pB b)).inc = 0 by omega), if_pos (show (openL (f0B b) (pB b)).st ≠ 0 by omega)] at he; refine aw_weak (wTake he) ?_)
                            | (have hm : misB (tyB b) (stB b) = false := (by rw [Bool.eq_false_iff]; intro h; have h2 := (misB_iff _ _).1 h; omega); have he := takeF_8 (b := b) (most := most) (by omega) (by omega) hm c6 (by assumption); rw [if_pos (show (openL (f0B b) (pB b)).ty = 8 ∧ (openL (f0B b) (pB b)).inc = 0 by omega), if_neg (show ¬ (openL (f0B b) (pB b)).st ≠ 0 by omega)] at he; refine aw_weak (wTake he) ?_)
                            | (have hm : misB (tyB b) (stB b) = false := (by rw [Bool.eq_false_iff]; intro h; have h2 := (misB_iff _ _).1 h; omega); have he := takeF_8 (b := b) (most := most) (by omega) (by omega) hm c6 (by assumption); have hu := unfit_at (openL (f0B b) (pB b)).sets k (by omega) 1 hq (by unfold badSet; rw [if_pos (by omega)]); rw [if_neg (show ¬ ((openL (f0B b) (pB b)).ty = 8 ∧ (openL (f0B b) (pB b)).inc = 0) by omega), hu, if_pos (show (Flt.whole 1).is = true from rfl)] at he; refine aw_weak (wTake he) ?_)
                            | (have hm : misB (tyB b) (stB b) = false := (by rw [Bool.eq_false_iff]; intro h; have h2 := (misB_iff _ _).1 h; omega); have he := takeF_8 (b := b) (most := most) (by omega) (by omega) hm c6 (by assumption); have hu := unfit_at (openL (f0B b) (pB b)).sets k (by omega) 3 hq (by unfold badSet; rw [if_neg (by omega), if_pos (by omega)]); rw [if_neg (show ¬ ((openL (f0B b) (pB b)).ty = 8 ∧ (openL (f0B b) (pB b)).inc = 0) by omega), hu, if_pos (show (Flt.whole 3).is = true from rfl)] at he; refine aw_weak (wTake he) ?_)
                            | (have hm : misB (tyB b) (stB b) = false := (by rw [Bool.eq_false_iff]; intro h; have h2 := (misB_iff _ _).1 h; omega); have he := takeF_8 (b := b) (most := most) (by omega) (by omega) hm c6 (by assumption); have hu := unfit_no (openL (f0B b) (pB b)).sets (fun j hj => hq j hj (by omega)); rw [if_neg (show ¬ ((openL (f0B b) (pB b)).ty = 8 ∧ (openL (f0B b) (pB b)).inc = 0) by omega), hu, if_neg (show ¬ Flt.no.is = true by decide)] at he; refine aw_weak (wTake he) ?_)
                          refine aw_ret ?_
                          refine (hret _ _ _ _ _ rfl (rCe sz_40 (.tmp rfl (rCe sz_37 .nil))) rfl ?_ .nil rfl).1
                          rfl
                        · refine aw_skip ?_
                          refine hK40 _ _ ?_
                          clear hK40
                          refine aw_region_last ?_
                          refine aL z_move ?_
                          refine aL z_add ?_
                          refine aL z_assign ?_
                          refine awl_nil ?_
                          refine hK37 _ _ ⟨k + 1, by omega, fun j hj h => ?_⟩ (by dsimp only; omega) ?_
                          · rcases (by omega : j < k ∨ j = k) with h' | rfl
                            · exact hq j hj h'
                            · show badSet _ = none
                              unfold badSet
                              rw [if_neg (by omega), if_neg (by omega)]
                          · exact wK
                    · refine aw_exit ?_
                      refine hK35 _ _ ?_
                      clear hK35
                      refine aw_region fun K47 hK47 => ?_
                      first
                        | refine aL (z_load sz_40) ?_
                        | refine aL (z_loadRef sz_40) ?_
                        | refine aL (z_loadV sz_40) ?_
                      refine aL z_move ?_
                      refine aL z_add ?_
                      refine aL (z_build .nil pl_37 zc_37 zl_37) ?_
                      refine aL (z_store sz_40) ?_
                      refine aL z_assign ?_
                      refine aL (z_store sz_37) ?_
                      refine awl_nil (hK47 _ _ ?_)
                      clear hK47 K47
                      first
                        | (have he := takeF_1 (b := b) (most := most) (by omega); refine aw_weak (wTake he) ?_)
                        | (have he := takeF_2 (b := b) (most := most) (by omega) (by omega); refine aw_weak (wTake he) ?_)
                        | (have he := takeF_3 (b := b) (most := most) (by omega) (by omega) (by omega); refine aw_weak (wTake he) ?_)
                        | (have hm : misB (tyB b) (stB b) = true := (misB_iff _ _).2 (by omega); have he := takeF_4 (b := b) (most := most) (by omega) (by omega) hm; refine aw_weak (wTake he) ?_)
                        | (have hm : misB (tyB b) (stB b) = false := (by rw [Bool.eq_false_iff]; intro h; have h2 := (misB_iff _ _).1 h; omega); have he := takeF_5 (b := b) (most := most) (by omega) (by omega) hm c5.1 c5.2; refine aw_weak (wTake he) ?_)
                        | (have hm : misB (tyB b) (stB b) = false := (by rw [Bool.eq_false_iff]; intro h; have h2 := (misB_iff _ _).1 h; omega); have hs : missB (tyB b) (flB b) (beN (b.take 3) : Int) = true := c6; have ht : ¬ tyB b = 2 := (by rcases c5 with h | h; exact absurd (h.symm.trans hs) (by decide); exact h); have he := takeF_6 (b := b) (most := most) (by omega) (by omega) hm hs ht; refine aw_weak (wTake he) ?_)
                        | (have hm : misB (tyB b) (stB b) = false := (by rw [Bool.eq_false_iff]; intro h; have h2 := (misB_iff _ _).1 h; omega); have he := takeF_7 (b := b) (most := most) (by omega) (by omega) hm c6 (by assumption); refine aw_weak (wTake he) ?_)
                        | (have hm : misB (tyB b) (stB b) = false := (by rw [Bool.eq_false_iff]; intro h; have h2 := (misB_iff _ _).1 h; omega); have he := takeF_8 (b := b) (most := most) (by omega) (by omega) hm c6 (by assumption); rw [if_pos (show (openL (f0B b) (pB b)).ty = 8 ∧ (openL (f0B b) (pB b)).inc = 0 by omega), if_pos (show (openL (f0B b) (pB b)).st ≠ 0 by omega)] at he; refine aw_weak (wTake he) ?_)
                        | (have hm : misB (tyB b) (stB b) = false := (by rw [Bool.eq_false_iff]; intro h; have h2 := (misB_iff _ _).1 h; omega); have he := takeF_8 (b := b) (most := most) (by omega) (by omega) hm c6 (by assumption); rw [if_pos (show (openL (f0B b) (pB b)).ty = 8 ∧ (openL (f0B b) (pB b)).inc = 0 by omega), if_neg (show ¬ (openL (f0B b) (pB b)).st ≠ 0 by omega)] at he; refine aw_weak (wTake he) ?_)
                        | (have hm : misB (tyB b) (stB b) = false := (by rw [Bool.eq_false_iff]; intro h; have h2 := (misB_iff _ _).1 h; omega); have he := takeF_8 (b := b) (most := most) (by omega) (by omega) hm c6 (by assumption); have hu := unfit_at (openL (f0B b) (pB b)).sets k (by omega) 1 hq (by unfold badSet; rw [if_pos (by omega)]); rw [if_neg (show ¬ ((openL (f0B b) (pB b)).ty = 8 ∧ (openL (f0B b) (pB b)).inc = 0) by omega), hu, if_pos (show (Flt.whole 1).is = true from rfl)] at he; refine aw_weak (wTake he) ?_)
                        | (have hm : misB (tyB b) (stB b) = false := (by rw [Bool.eq_false_iff]; intro h; have h2 := (misB_iff _ _).1 h; omega); have he := takeF_8 (b := b) (most := most) (by omega) (by omega) hm c6 (by assumption); have hu := unfit_at (openL (f0B b) (pB b)).sets k (by omega) 3 hq (by unfold badSet; rw [if_neg (by omega), if_pos (by omega)]); rw [if_neg (show ¬ ((openL (f0B b) (pB b)).ty = 8 ∧ (openL (f0B b) (pB b)).inc = 0) by omega), hu, if_pos (show (Flt.whole 3).is = true from rfl)] at he; refine aw_weak (wTake he) ?_)
                        | (have hm : misB (tyB b) (stB b) = false := (by rw [Bool.eq_false_iff]; intro h; have h2 := (misB_iff _ _).1 h; omega); have he := takeF_8 (b := b) (most := most) (by omega) (by omega) hm c6 (by assumption); have hu := unfit_no (openL (f0B b) (pB b)).sets (fun j hj => hq j hj (by omega)); rw [if_neg (show ¬ ((openL (f0B b) (pB b)).ty = 8 ∧ (openL (f0B b) (pB b)).inc = 0) by omega), hu, if_neg (show ¬ Flt.no.is = true by decide)] at he; refine aw_weak (wTake he) ?_)
                      refine aw_ret ?_
                      refine (hret _ _ _ _ _ rfl (rCe sz_40 (.tmp rfl (rCe sz_37 .nil))) rfl ?_ .nil rfl).1
                      rfl
end Go.Proofs.Ytigodfnckjidoaa
