/- Layer 6: the document's fields, walked. No condition. -/
import Derived.Test.YtigodfnckjidoaaFrRb
namespace Go.Proofs.Ytigodfnckjidoaa
set_option linter.all false
open Go Go.RowKit
set_option maxRecDepth 10000
set_option maxHeartbeats 4000000
theorem at4_high (l : List UInt8) (h : 4 ≤ l.length) : decide (((l.getD 0 0).toNat : Int) ≥ 128) = decide (2147483647 < at4 l 0) := by
  match l, h with
  | a :: b :: c :: d :: l, _ =>
    have h1 := a.toNat_lt
    have h2 := b.toNat_lt
    have h3 := c.toNat_lt
    have h4 := d.toNat_lt
    have e : at4 (a :: b :: c :: d :: l) 0 = ((((a.toNat * 256 + b.toNat) * 256 + c.toNat) * 256 + d.toNat : Nat) : Int) := by
      simp [at4, beN]
    rw [e]
    apply decide_eq_decide.2
    simp
    omega
theorem boxW1 {X : Cx} {fr fr' : Fm} {ah : AH} {cs2 es2 es2' : List D} (h2 : look ah 1 = some (.box cs2)) (hd2 : DWs none (dom [(1, .box es2')]) cs2 es2) (he2 : es2 = es2') (hf : FW fr none (dom [(1, .box es2')]) fr') : Weak X fr ah fr' [(1, .box es2')] := by
  subst he2
  exact weak_all none trivial (.box h2 hd2 .nil) hf
theorem con_fields {f : Fr} {p : List UInt8} (hf : 0 ≤ f.fl) (hf2 : f.fl ≤ 255) (ht : 0 ≤ f.ty) (hm : missB f.ty f.fl p.length = false) (hl : p.length ≤ 1000000000) (hs : f.sets = []) (hp0 : f.pad = 0) (hd0 : f.data = []) (h4 : ¬ f.ty = 4) :
    Con Try.prog 28 [.agg (f.csX NIL), .v (.sl (bs p))] [] 0 (.ret (.tup [.agg (openL f p).cs, .v (.bool (openB f p))])) [] := by
  obtain ⟨xa, ha⟩ : ∃ a, a = rA f p := ⟨_, rfl⟩
  obtain ⟨xb, hb⟩ : ∃ a, a = rB f xa := ⟨_, rfl⟩
  obtain ⟨xc, hc⟩ : ∃ a, a = rC f xb := ⟨_, rfl⟩
  obtain ⟨xd, hd⟩ : ∃ a, a = rD f xc := ⟨_, rfl⟩
  obtain ⟨xe, he⟩ : ∃ a, a = rE f xd := ⟨_, rfl⟩
  have ka : xa.1.ty = f.ty ∧ xa.1.fl = f.fl := by rw [ha]; exact rA_k f p
  have kb : xb.1.ty = f.ty := by rw [hb, (rB_k f xa).1]; exact ka.1
  have kc : xc.1.ty = f.ty := by rw [hc, rC_k]; exact kb
  have kd : xd.1.ty = f.ty := by rw [hd, rD_k]; exact kc
  have ke : xe.1.ty = f.ty := by rw [he, rE_k]; exact kd
  have hop : openM f p = (if (xe.2.length : Int) < xe.1.pad then none else some { xe.1 with data := xe.2.take (xe.2.length - xe.1.pad.toNat) }) := by
    rw [he, hd, hc, hb, ha]; exact ref_open ht hd0 hp0 hm h4
  have hlf : openM f p = none → xe.1 = openK f p := by rw [he, hd, hc, hb, ha]; exact ref_left ht hp0
  have hah : f.ty = 0 ∨ f.ty = 1 → (if bitB f.fl 8 then 1 else 0) + (if f.ty = 1 ∧ bitB f.fl 32 = true then 5 else 0) ≤ p.length := fun h => by
    simp only [missB, if_pos h, decide_eq_false_iff_not, aheadM] at hm
    revert hm
    by_cases h8' : bitB f.fl 8 = true <;> by_cases h32 : f.ty = 1 ∧ bitB f.fl 32 = true <;> simp [h8', h32] <;> omega
  have hq1 : f.ty ≤ 1 ∧ bitB f.fl 8 = true → 1 ≤ p.length := fun h => by
    have := hah (by omega)
    rw [if_pos h.2] at this
    omega
  have ea : ¬ f.ty ≤ 1 → xa = (f, p) := fun h => by rw [ha, rA, if_neg (fun hh => h hh.1)]
  have eb : ¬ f.ty = 2 → ¬ f.ty = 1 → xb = xa := fun h h' => by rw [hb, rB, if_neg (fun hh => by rcases hh with hh | hh; exact h hh; exact h' hh.1)]
  have ec : ¬ f.ty = 7 → xc = xb := fun h => by rw [hc, rC, if_neg h]
  have ed : ¬ f.ty = 3 → xd = xc := fun h => by rw [hd, rD, if_neg h]
  have la : f.ty = 2 ∨ f.ty = 1 ∧ bitB f.fl 32 = true → 5 ≤ xa.2.length := fun h => by
    rcases h with h | h
    · rw [ea (by omega)]
      simp [missB, h] at hm
      show 5 ≤ p.length
      omega
    · have := hah (.inr h.1)
      rw [if_pos h] at this
      rw [ha]
      unfold rA
      by_cases h8 : bitB f.fl 8 = true
      · rw [if_pos h8] at this
        rw [if_pos ⟨by omega, h8⟩]
        simp
        omega
      · rw [if_neg (fun hh => h8 hh.2)]
        show 5 ≤ p.length
        omega
  have lb : f.ty = 7 → 8 ≤ xb.2.length := fun h => by
    rw [eb (by omega) (by omega), ea (by omega)]
    simp [missB, h] at hm
    show 8 ≤ p.length
    omega
  have lc : f.ty = 3 → 4 ≤ xc.2.length := fun h => by
    rw [ec (by omega), eb (by omega) (by omega), ea (by omega)]
    simp [missB, h] at hm
    show 4 ≤ p.length
    omega
  have ld : f.ty = 8 → 4 ≤ xd.2.length := fun h => by
    rw [ed (by omega), ec (by omega), eb (by omega) (by omega), ea (by omega)]
    simp [missB, h] at hm
    show 4 ≤ p.length
    omega
  have qa := rA_l f p
  have qb := rB_l f xa
  have qc := rC_l f xb
  have qd := rD_l f xc
  have qe := rE_l f xd
  rw [← ha] at qa
  rw [← hb] at qb
  rw [← hc] at qc
  rw [← hd] at qd
  rw [← he] at qe
  have le : xe.2.length ≤ p.length := by omega
  have hpe : 0 ≤ xe.1.pad ∧ xe.1.pad ≤ 255 := by
    rw [qe.2.2, qd.2.2, qc.2.2, qb.2.2]
    rcases qa.2.2 with h | ⟨b, h⟩
    · rw [h, hp0]; omega
    · have := b.toNat_lt; rw [h]; omega
  have hse : xe.1.sets = [] := by rw [qe.2.1, qd.2.1, qc.2.1, qb.2.1, qa.2.1, hs]
  clear qa qb qc qd qe ea eb ec ed hah
  have hi0 : 0 < p.length → (bs p)[0]? = some [V.int .u8 ((p.getD 0 0).toNat : Int)] := fun h => bs_get (by rw [List.getD_eq_getElem?_getD, List.getElem?_eq_getElem (by omega)]; rfl)
  refine con_of Try.func28 rfl (by show _ ≤ 109; simp) fun X Q hP hnt hnp hret hpan => ?_
  obtain ⟨P0, nt0, w0, K0, S0, np0, pin0, df0⟩ := X
  simp only at hP hnt hnp
  subst hP hnp
  obtain rfl : nt0 = 109 := hnt
  refine aw_region fun K1 hK1 => ?_
  refine aL (z_box 0) ?_
  refine aL (z_alloc 1 zc_40 zl_40) ?_
  refine aL z_assign ?_
  refine awl_nil (hK1 _ _ ?_)
  clear hK1 K1
  refine aw_cut ([(2, .ptr 0 0), (4, .ptr 1 0), (1, .v (.sl (bs xa.2)))], [(0, .box (xa.1.csX NIL)), (1, .box (Fr.nil.csX NIL))]) (fun K2 hK2 => ?_) ?_
  rotate_left
  focus
    refine aw_cut ([(2, .ptr 0 0), (4, .ptr 1 0), (1, .v (.sl (bs xb.2)))], [(0, .box (xb.1.csX NIL)), (1, .box (Fr.nil.csX NIL))]) (fun K3 hK3 => ?_) ?_
    rotate_left
    focus
      refine aw_cut ([(2, .ptr 0 0), (4, .ptr 1 0), (1, .v (.sl (bs xc.2)))], [(0, .box (xc.1.csX NIL)), (1, .box (Fr.nil.csX NIL))]) (fun K4 hK4 => ?_) ?_
      rotate_left
      focus
        refine aw_cut ([(2, .ptr 0 0), (4, .ptr 1 0), (1, .v (.sl (bs xd.2)))], [(0, .box (xd.1.csX NIL)), (1, .box (Fr.nil.csX NIL))]) (fun K5 hK5 => ?_) ?_
        rotate_left
        focus
          refine aw_cut ([(2, .ptr 0 0), (4, .ptr 1 0), (1, .v (.sl (bs xe.2)))], [(0, .box (xe.1.csX NIL)), (1, .box (Fr.nil.csX NIL))]) (fun K6 hK6 => ?_) ?_
          rotate_left
          focus
            refine aw_seq fun K7 hK7 => ?_
            refine aw_block ?_
            refine aw_loop (α := Unit) (fun x => ([(2, .ptr 0 0), (4, .ptr 1 0), (1, .v (.sl (bs xe.2)))], [(0, .box (xe.1.csX NIL)), (1, .box (Fr.nil.csX NIL))])) (fun x => 0) () ?_ ?_
            · dsimp only
              exact wK
            · rintro ⟨⟩ K8 hK8
              dsimp only
              refine aw_seq fun K9 hK9 => ?_
              refine aw_region fun K10 hK10 => ?_
              first
                | refine aL (z_fieldAddr fo_40_0) ?_
                | refine aL (z_fieldRef fo_40_0) ?_
                | refine aL (z_fieldV fo_40_0) ?_
              first
                | refine aL (z_load sz_3) ?_
                | refine aL (z_loadRef sz_3) ?_
                | refine aL (z_loadV sz_3) ?_
              refine aL z_eql ?_
              refine aL z_move ?_
              first
                | refine gL rfl rfl (ev_tmp rfl) (fun hg => z_move) ?_
                | refine hL rfl rfl (ev_tmp rfl) (fun hg => z_move) ?_
              first
                | refine gL rfl rfl (ev_tmp rfl) (fun hg => z_lenB Try.underlying24) ?_
                | refine gL rfl rfl (ev_tmp rfl) (fun hg => z_len Try.underlying24) ?_
                | refine gL rfl rfl (ev_tmp rfl) (fun hg => z_lenV Try.underlying24) ?_
                | refine hL rfl rfl (ev_tmp rfl) (fun hg => z_lenB Try.underlying24) ?_
                | refine hL rfl rfl (ev_tmp rfl) (fun hg => z_len Try.underlying24) ?_
                | refine hL rfl rfl (ev_tmp rfl) (fun hg => z_lenV Try.underlying24) ?_
              first
                | refine gL rfl rfl (ev_tmp rfl) (fun hg => z_gtr) ?_
                | refine hL rfl rfl (ev_tmp rfl) (fun hg => z_gtr) ?_
              refine aL z_and ?_
              refine awl_nil (hK10 _ _ ?_)
              clear hK10 K10
              refine aC (fun r1 c1 => ?_) (fun r1 c1 => ?_)
              · try simp [ka.1, ka.2, kb, kc, kd, ke] at c1
                refine aw_skip ?_
                refine hK9 _ _ ?_
                clear hK9
                exfalso; omega
              · try simp [ka.1, ka.2, kb, kc, kd, ke] at c1
                refine aw_exit ?_
                refine hK7 _ _ ?_
                clear hK7
                refine aw_seq fun K11 hK11 => ?_
                refine aw_region fun K12 hK12 => ?_
                first
                  | refine aL (z_fieldAddr fo_40_4) ?_
                  | refine aL (z_fieldRef fo_40_4) ?_
                  | refine aL (z_fieldV fo_40_4) ?_
                first
                  | refine aL (z_load sz_3) ?_
                  | refine aL (z_loadRef sz_3) ?_
                  | refine aL (z_loadV sz_3) ?_
                refine aL z_move ?_
                first
                  | refine aL (z_lenB Try.underlying24) ?_
                  | refine aL (z_len Try.underlying24) ?_
                  | refine aL (z_lenV Try.underlying24) ?_
                refine aL z_gtr ?_
                refine awl_nil (hK12 _ _ ?_)
                clear hK12 K12
                refine aC (fun r2 c2 => ?_) (fun r2 c2 => ?_)
                · try simp [ka.1, ka.2, kb, kc, kd, ke] at c2
                  refine aw_region fun K13 hK13 => ?_
                  first
                    | refine aL (z_load sz_40) ?_
                    | refine aL (z_loadRef sz_40) ?_
                    | refine aL (z_loadV sz_40) ?_
                  refine aL (z_store sz_40) ?_
                  refine aL z_assign ?_
                  refine awl_nil (hK13 _ _ ?_)
                  clear hK13 K13
                  first
                    | (have hopN : openM f p = none := (by rw [hop, if_pos (by omega)]); have hlf2 := hlf hopN; have hk0 : (openK f p).sets = [] := (by rw [openK_sets, hs]); rw [hlf2]; refine aw_weak (boxW1 (es2' := (openL f p).cs) (fr' := [(4, .ptr 1 0), (5, .v (.bool (openB f p)))]) rfl (by (repeat (first | apply DWs.cons .nil | apply DWs.cons (.keep rfl))); exact .nil) (by first | (simp [openL, hopN, hlf2, Fr.cs, Fr.csX, setV, hk0]; done) | (simp [openL, hopS, Fr.cs, Fr.csX, setV, hse]; done)) (.cons rfl (.keep rfl) (.cons rfl (.eq (d_bool (by first | (simp [openB, hopN]; done) | (simp [openB, hopS]; done))) (.keep rfl)) .nil))) ?_)
                    | (have hopS : openM f p = some { xe.1 with data := xe.2.take (xe.2.length - xe.1.pad.toNat) } := (by rw [hop, if_neg (by omega)]); refine aw_weak (boxW1 (es2' := (openL f p).cs) (fr' := [(4, .ptr 1 0), (5, .v (.bool (openB f p)))]) rfl (by (repeat (first | apply DWs.cons .nil | apply DWs.cons (.keep rfl))); exact .nil) (by first | (simp [openL, hopS, Fr.cs, Fr.csX, setV, hse]; done)) (.cons rfl (.keep rfl) (.cons rfl (.eq (d_bool (by first | (simp [openB, hopS]; done))) (.keep rfl)) .nil))) ?_)
                  refine aw_ret ?_
                  refine (hret _ _ _ _ _ rfl (rCe sz_40 (.tmp rfl .nil)) rfl ?_ .nil rfl).1
                  rfl
                · try simp [ka.1, ka.2, kb, kc, kd, ke] at c2
                  refine aw_skip ?_
                  refine hK11 _ _ ?_
                  clear hK11
                  refine aw_region fun K14 hK14 => ?_
                  refine aL z_move ?_
                  refine aL z_move ?_
                  first
                    | refine aL (z_lenB Try.underlying24) ?_
                    | refine aL (z_len Try.underlying24) ?_
                    | refine aL (z_lenV Try.underlying24) ?_
                  first
                    | refine aL (z_fieldAddr fo_40_4) ?_
                    | refine aL (z_fieldRef fo_40_4) ?_
                    | refine aL (z_fieldV fo_40_4) ?_
                  first
                    | refine aL (z_load sz_3) ?_
                    | refine aL (z_loadRef sz_3) ?_
                    | refine aL (z_loadV sz_3) ?_
                  have hw : IntKind.i64.wrap ((xe.2.length : Int) - xe.1.pad) = ((xe.2.length - xe.1.pad.toNat : Nat) : Int) := by
                    rw [i64_wrap (by omega) (by omega)]; omega
                  refine aL z_sub ?_
                  refine aL (stepU_slice (j := some (xe.2.length - xe.1.pad.toNat)) (c' := bs (xe.2.take (xe.2.length - xe.1.pad.toNat))) rfl Try.underlying24 sz_5 (bs_one _) (ev_tmp rfl) .no (.yes (ev_tmp rfl) rfl) (by simp) (by simp) (by simp)) ?_
                  first
                    | refine aL (z_convS Try.underlying24 Try.underlying5 Try.underlying9) ?_
                    | refine aL (z_convSV Try.underlying24 Try.underlying5 Try.underlying9) ?_
                  first
                    | refine aL (z_fieldAddr fo_40_3) ?_
                    | refine aL (z_fieldRef fo_40_3) ?_
                    | refine aL (z_fieldV fo_40_3) ?_
                  refine aL (z_store sz_9) ?_
                  refine awl_nil (hK14 _ _ ?_)
                  clear hK14 K14
                  refine aw_region fun K15 hK15 => ?_
                  first
                    | refine aL (z_load sz_40) ?_
                    | refine aL (z_loadRef sz_40) ?_
                    | refine aL (z_loadV sz_40) ?_
                  refine aL (z_store sz_40) ?_
                  refine aL z_assign ?_
                  refine awl_nil (hK15 _ _ ?_)
                  clear hK15 K15
                  first
                    | (have hopN : openM f p = none := (by rw [hop, if_pos (by omega)]); have hlf2 := hlf hopN; have hk0 : (openK f p).sets = [] := (by rw [openK_sets, hs]); rw [hlf2]; refine aw_weak (boxW1 (es2' := (openL f p).cs) (fr' := [(4, .ptr 1 0), (5, .v (.bool (openB f p)))]) rfl (by (repeat (first | apply DWs.cons .nil | apply DWs.cons (.keep rfl))); exact .nil) (by first | (simp [openL, hopN, hlf2, Fr.cs, Fr.csX, setV, hk0]; done) | (simp [openL, hopS, Fr.cs, Fr.csX, setV, hse]; done)) (.cons rfl (.keep rfl) (.cons rfl (.eq (d_bool (by first | (simp [openB, hopN]; done) | (simp [openB, hopS]; done))) (.keep rfl)) .nil))) ?_)
                    | (have hopS : openM f p = some { xe.1 with data := xe.2.take (xe.2.length - xe.1.pad.toNat) } := (by rw [hop, if_neg (by omega)]); refine aw_weak (boxW1 (es2' := (openL f p).cs) (fr' := [(4, .ptr 1 0), (5, .v (.bool (openB f p)))]) rfl (by (repeat (first | apply DWs.cons .nil | apply DWs.cons (.keep rfl))); exact .nil) (by first | (simp [openL, hopS, Fr.cs, Fr.csX, setV, hse]; done)) (.cons rfl (.keep rfl) (.cons rfl (.eq (d_bool (by first | (simp [openB, hopS]; done))) (.keep rfl)) .nil))) ?_)
                  refine aw_ret ?_
                  refine (hret _ _ _ _ _ rfl (rCe sz_40 (.tmp rfl .nil)) rfl ?_ .nil rfl).1
                  rfl
          refine aw_region fun K16 hK16 => ?_
          first
            | refine aL (z_fieldAddr fo_40_0) ?_
            | refine aL (z_fieldRef fo_40_0) ?_
            | refine aL (z_fieldV fo_40_0) ?_
          first
            | refine aL (z_load sz_3) ?_
            | refine aL (z_loadRef sz_3) ?_
            | refine aL (z_loadV sz_3) ?_
          refine aL z_eql ?_
          refine awl_nil (hK16 _ _ ?_)
          clear hK16 K16
          refine aC (fun r3 c3 => ?_) (fun r3 c3 => ?_)
          · try simp [ka.1, ka.2, kb, kc, kd, ke] at c3
            refine aw_region fun K17 hK17 => ?_
            refine aL z_move ?_
            have l8 := ld (by assumption)
            have e4 : takeV xd.2 0 4 = at4 xd.2 0 := takeV_4 xd.2 0 (by omega)
            have e4' : (takeV xd.2 0 4).tmod 2147483648 = lowM (at4 xd.2 0) := by rw [e4, Int.tmod_eq_emod_of_nonneg (at4_le _ _).1]; rfl
            refine aL (z_call0 (eC (eC (eC .nil))) en_25 (con_at (by omega))) ?_
            refine aL z_rem ?_
            first
              | refine aL (z_fieldAddr fo_40_8) ?_
              | refine aL (z_fieldRef fo_40_8) ?_
              | refine aL (z_fieldV fo_40_8) ?_
            refine aL (z_store sz_2) ?_
            refine awl_nil (hK17 _ _ ?_)
            clear hK17 K17
            refine aw_region_last ?_
            refine aL z_assign ?_
            refine awl_nil ?_
            refine hK6 _ _ ?_
            by_cases hC : f.ty = 8
            · have hx : xe = ({ xd.1 with inc := lowM (at4 xd.2 0) }, []) := by rw [he, rE, if_pos hC]
              rw [hx]
              first
                | (exfalso; omega)
                | (exact wK)
            · have hx : xe = xd := by rw [he, rE, if_neg hC]
              rw [hx]
              first
                | (exfalso; omega)
                | (exact wK)
          · try simp [ka.1, ka.2, kb, kc, kd, ke] at c3
            refine aw_skip ?_
            refine hK6 _ _ ?_
            by_cases hC : f.ty = 8
            · have hx : xe = ({ xd.1 with inc := lowM (at4 xd.2 0) }, []) := by rw [he, rE, if_pos hC]
              rw [hx]
              first
                | (exfalso; omega)
                | (exact wK)
            · have hx : xe = xd := by rw [he, rE, if_neg hC]
              rw [hx]
              first
                | (exfalso; omega)
                | (exact wK)
        refine aw_region fun K18 hK18 => ?_
        first
          | refine aL (z_fieldAddr fo_40_0) ?_
          | refine aL (z_fieldRef fo_40_0) ?_
          | refine aL (z_fieldV fo_40_0) ?_
        first
          | refine aL (z_load sz_3) ?_
          | refine aL (z_loadRef sz_3) ?_
          | refine aL (z_loadV sz_3) ?_
        refine aL z_eql ?_
        refine awl_nil (hK18 _ _ ?_)
        clear hK18 K18
        refine aC (fun r4 c4 => ?_) (fun r4 c4 => ?_)
        · try simp [ka.1, ka.2, kb, kc, kd, ke] at c4
          refine aw_region fun K19 hK19 => ?_
          refine aL z_move ?_
          have l3 := lc (by assumption)
          have e4 : takeV xc.2 0 4 = at4 xc.2 0 := takeV_4 xc.2 0 (by omega)
          refine aL (z_call0 (eC (eC (eC .nil))) en_25 (con_at (by omega))) ?_
          rw [e4]
          first
            | refine aL (z_fieldAddr fo_40_6) ?_
            | refine aL (z_fieldRef fo_40_6) ?_
            | refine aL (z_fieldV fo_40_6) ?_
          refine aL (z_store sz_2) ?_
          refine awl_nil (hK19 _ _ ?_)
          clear hK19 K19
          refine aw_region_last ?_
          refine aL z_assign ?_
          refine awl_nil ?_
          refine hK5 _ _ ?_
          by_cases hC : f.ty = 3
          · have hx : xd = ({ xc.1 with code := at4 xc.2 0 }, []) := by rw [hd, rD, if_pos hC]
            rw [hx]
            first
              | (exfalso; omega)
              | (exact wK)
          · have hx : xd = xc := by rw [hd, rD, if_neg hC]
            rw [hx]
            first
              | (exfalso; omega)
              | (exact wK)
        · try simp [ka.1, ka.2, kb, kc, kd, ke] at c4
          refine aw_skip ?_
          refine hK5 _ _ ?_
          by_cases hC : f.ty = 3
          · have hx : xd = ({ xc.1 with code := at4 xc.2 0 }, []) := by rw [hd, rD, if_pos hC]
            rw [hx]
            first
              | (exfalso; omega)
              | (exact wK)
          · have hx : xd = xc := by rw [hd, rD, if_neg hC]
            rw [hx]
            first
              | (exfalso; omega)
              | (exact wK)
      refine aw_region fun K20 hK20 => ?_
      first
        | refine aL (z_fieldAddr fo_40_0) ?_
        | refine aL (z_fieldRef fo_40_0) ?_
        | refine aL (z_fieldV fo_40_0) ?_
      first
        | refine aL (z_load sz_3) ?_
        | refine aL (z_loadRef sz_3) ?_
        | refine aL (z_loadV sz_3) ?_
      refine aL z_eql ?_
      refine awl_nil (hK20 _ _ ?_)
      clear hK20 K20
      refine aC (fun r5 c5 => ?_) (fun r5 c5 => ?_)
      · try simp [ka.1, ka.2, kb, kc, kd, ke] at c5
        refine aw_region fun K21 hK21 => ?_
        refine aL z_move ?_
        have l7 := lb (by assumption)
        have e4 : takeV xb.2 0 4 = at4 xb.2 0 := takeV_4 xb.2 0 (by omega)
        have e4' : (takeV xb.2 0 4).tmod 2147483648 = lowM (at4 xb.2 0) := by rw [e4, Int.tmod_eq_emod_of_nonneg (at4_le _ _).1]; rfl
        have e5 : takeV xb.2 4 4 = at4 xb.2 4 := takeV_4 xb.2 4 (by omega)
        refine aL (z_call0 (eC (eC (eC .nil))) en_25 (con_at (by omega))) ?_
        refine aL z_rem ?_
        first
          | refine aL (z_fieldAddr fo_40_7) ?_
          | refine aL (z_fieldRef fo_40_7) ?_
          | refine aL (z_fieldV fo_40_7) ?_
        refine aL (z_store sz_3) ?_
        refine awl_nil (hK21 _ _ ?_)
        clear hK21 K21
        refine aw_region fun K22 hK22 => ?_
        refine aL z_move ?_
        refine aL (z_call0 (eC (eC (eC .nil))) en_25 (con_at (by omega))) ?_
        rw [e5]
        first
          | refine aL (z_fieldAddr fo_40_6) ?_
          | refine aL (z_fieldRef fo_40_6) ?_
          | refine aL (z_fieldV fo_40_6) ?_
        refine aL (z_store sz_2) ?_
        refine awl_nil (hK22 _ _ ?_)
        clear hK22 K22
        refine aw_region_last ?_
        refine aL z_move ?_
        refine aL (z_slice Try.underlying24 sz_5) ?_
        refine aL z_assign ?_
        refine awl_nil ?_
        refine hK4 _ _ ?_
        by_cases hC : f.ty = 7
        · have hx : xc = ({ xb.1 with last := lowM (at4 xb.2 0), code := at4 xb.2 4 }, xb.2.drop 8) := by rw [hc, rC, if_pos hC]
          rw [hx]
          first
            | (exfalso; omega)
            | (exact wK)
        · have hx : xc = xb := by rw [hc, rC, if_neg hC]
          rw [hx]
          first
            | (exfalso; omega)
            | (exact wK)
      · try simp [ka.1, ka.2, kb, kc, kd, ke] at c5
        refine aw_skip ?_
        refine hK4 _ _ ?_
        by_cases hC : f.ty = 7
        · have hx : xc = ({ xb.1 with last := lowM (at4 xb.2 0), code := at4 xb.2 4 }, xb.2.drop 8) := by rw [hc, rC, if_pos hC]
          rw [hx]
          first
            | (exfalso; omega)
            | (exact wK)
        · have hx : xc = xb := by rw [hc, rC, if_neg hC]
          rw [hx]
          first
            | (exfalso; omega)
            | (exact wK)
    refine aw_region fun K23 hK23 => ?_
    first
      | refine aL (z_fieldAddr fo_40_0) ?_
      | refine aL (z_fieldRef fo_40_0) ?_
      | refine aL (z_fieldV fo_40_0) ?_
    first
      | refine aL (z_load sz_3) ?_
      | refine aL (z_loadRef sz_3) ?_
      | refine aL (z_loadV sz_3) ?_
    refine aL z_eql ?_
    refine aL z_move ?_
    first
      | refine gL rfl rfl (ev_tmp rfl) (fun hg => z_fieldAddr fo_40_0) ?_
      | refine gL rfl rfl (ev_tmp rfl) (fun hg => z_fieldRef fo_40_0) ?_
      | refine gL rfl rfl (ev_tmp rfl) (fun hg => z_fieldV fo_40_0) ?_
      | refine hL rfl rfl (ev_tmp rfl) (fun hg => z_fieldAddr fo_40_0) ?_
      | refine hL rfl rfl (ev_tmp rfl) (fun hg => z_fieldRef fo_40_0) ?_
      | refine hL rfl rfl (ev_tmp rfl) (fun hg => z_fieldV fo_40_0) ?_
    first
      | refine gL rfl rfl (ev_tmp rfl) (fun hg => z_load sz_3) ?_
      | refine gL rfl rfl (ev_tmp rfl) (fun hg => z_loadRef sz_3) ?_
      | refine gL rfl rfl (ev_tmp rfl) (fun hg => z_loadV sz_3) ?_
      | refine hL rfl rfl (ev_tmp rfl) (fun hg => z_load sz_3) ?_
      | refine hL rfl rfl (ev_tmp rfl) (fun hg => z_loadRef sz_3) ?_
      | refine hL rfl rfl (ev_tmp rfl) (fun hg => z_loadV sz_3) ?_
    first
      | refine gL rfl rfl (ev_tmp rfl) (fun hg => z_eql) ?_
      | refine hL rfl rfl (ev_tmp rfl) (fun hg => z_eql) ?_
    first
      | refine gL rfl rfl (ev_tmp rfl) (fun hg => z_move) ?_
      | refine hL rfl rfl (ev_tmp rfl) (fun hg => z_move) ?_
    first
      | refine gL rfl rfl (ev_tmp rfl) (fun hg => z_load sz_40) ?_
      | refine gL rfl rfl (ev_tmp rfl) (fun hg => z_loadRef sz_40) ?_
      | refine gL rfl rfl (ev_tmp rfl) (fun hg => z_loadV sz_40) ?_
      | refine hL rfl rfl (ev_tmp rfl) (fun hg => z_load sz_40) ?_
      | refine hL rfl rfl (ev_tmp rfl) (fun hg => z_loadRef sz_40) ?_
      | refine hL rfl rfl (ev_tmp rfl) (fun hg => z_loadV sz_40) ?_
    first
      | refine gL rfl rfl (ev_tmp rfl) (fun hg => z_call0 (eC (eC .nil)) en_33 (con_Has (f := f) (x := NIL) (by simp) hf hf2 rfl)) ?_
      | refine gL rfl rfl (ev_tmp rfl) (fun hg => z_call0 (eC (eC .nil)) en_33 (con_Has (f := xa.1) (x := NIL) (by simp) (by omega) (by omega) rfl)) ?_
      | refine hL rfl rfl (ev_tmp rfl) (fun hg => z_call0 (eC (eC .nil)) en_33 (con_Has (f := f) (x := NIL) (by simp) hf hf2 rfl)) ?_
      | refine hL rfl rfl (ev_tmp rfl) (fun hg => z_call0 (eC (eC .nil)) en_33 (con_Has (f := xa.1) (x := NIL) (by simp) (by omega) (by omega) rfl)) ?_
    first
      | refine gL rfl rfl (ev_tmp rfl) (fun hg => z_and) ?_
      | refine hL rfl rfl (ev_tmp rfl) (fun hg => z_and) ?_
    refine aL z_or ?_
    refine awl_nil (hK23 _ _ ?_)
    clear hK23 K23
    refine aC (fun r6 c6 => ?_) (fun r6 c6 => ?_)
    · try simp [ka.1, ka.2, kb, kc, kd, ke] at c6
      refine aw_region fun K24 hK24 => ?_
      refine aL z_move ?_
      have l5 := la (by assumption)
      have hix : (bs xa.2)[0]? = some [V.int .u8 ((xa.2.getD 0 0).toNat : Int)] := bs_get (by rw [List.getD_eq_getElem?_getD, List.getElem?_eq_getElem (by omega)]; rfl)
      have hsole := at4_high xa.2 (by omega)
      first
        | refine aL (z_indexAddr Try.underlying24 sz_5) ?_
        | refine aL (z_indexAddrV Try.underlying24 sz_5) ?_
      first
        | refine aL (z_load sz_5) ?_
        | refine aL (z_loadRef sz_5) ?_
        | refine aL (z_loadV sz_5) ?_
      refine aL z_geq ?_
      rw [hsole]
      first
        | refine aL (z_fieldAddr fo_40_11) ?_
        | refine aL (z_fieldRef fo_40_11) ?_
        | refine aL (z_fieldV fo_40_11) ?_
      refine aL (z_store sz_4) ?_
      refine awl_nil (hK24 _ _ ?_)
      clear hK24 K24
      refine aw_region fun K25 hK25 => ?_
      refine aL z_move ?_
      have e4 : takeV xa.2 0 4 = at4 xa.2 0 := takeV_4 xa.2 0 (by omega)
      have e4' : (takeV xa.2 0 4).tmod 2147483648 = lowM (at4 xa.2 0) := by rw [e4, Int.tmod_eq_emod_of_nonneg (at4_le _ _).1]; rfl
      refine aL (z_call0 (eC (eC (eC .nil))) en_25 (con_at (by omega))) ?_
      refine aL z_rem ?_
      first
        | refine aL (z_fieldAddr fo_40_9) ?_
        | refine aL (z_fieldRef fo_40_9) ?_
        | refine aL (z_fieldV fo_40_9) ?_
      refine aL (z_store sz_3) ?_
      refine awl_nil (hK25 _ _ ?_)
      clear hK25 K25
      refine aw_region fun K26 hK26 => ?_
      refine aL z_move ?_
      have hix : (bs xa.2)[4]? = some [V.int .u8 ((xa.2.getD 4 0).toNat : Int)] := bs_get (by rw [List.getD_eq_getElem?_getD, List.getElem?_eq_getElem (by omega)]; rfl)
      first
        | refine aL (z_indexAddr Try.underlying24 sz_5) ?_
        | refine aL (z_indexAddrV Try.underlying24 sz_5) ?_
      first
        | refine aL (z_load sz_5) ?_
        | refine aL (z_loadRef sz_5) ?_
        | refine aL (z_loadV sz_5) ?_
      refine aL (z_conv Try.underlying3 ⟨_, Try.underlying5⟩) ?_
      first
        | refine aL (z_fieldAddr fo_40_10) ?_
        | refine aL (z_fieldRef fo_40_10) ?_
        | refine aL (z_fieldV fo_40_10) ?_
      refine aL (z_store sz_3) ?_
      refine awl_nil (hK26 _ _ ?_)
      clear hK26 K26
      refine aw_region_last ?_
      refine aL z_move ?_
      refine aL (z_slice Try.underlying24 sz_5) ?_
      refine aL z_assign ?_
      refine awl_nil ?_
      refine hK3 _ _ ?_
      by_cases hC : f.ty = 2 ∨ f.ty = 1 ∧ bitB f.fl 32 = true
      · have hx : xb = (placeM xa.1 xa.2, xa.2.drop 5) := by rw [hb, rB, if_pos hC]
        rw [hx]
        first
          | (exfalso; rcases hC with h | h <;> rcases c6 with ⟨q1, q2 | q2⟩ <;> simp_all; done)
          | (exact wK)
      · have hx : xb = xa := by rw [hb, rB, if_neg hC]
        rw [hx]
        first
          | (exfalso; exact hC c6)
          | (exact wK)
    · try simp [ka.1, ka.2, kb, kc, kd, ke] at c6
      refine aw_skip ?_
      refine hK3 _ _ ?_
      by_cases hC : f.ty = 2 ∨ f.ty = 1 ∧ bitB f.fl 32 = true
      · have hx : xb = (placeM xa.1 xa.2, xa.2.drop 5) := by rw [hb, rB, if_pos hC]
        rw [hx]
        first
          | (exfalso; rcases hC with h | h <;> rcases c6 with ⟨q1, q2 | q2⟩ <;> simp_all; done)
          | (exact wK)
      · have hx : xb = xa := by rw [hb, rB, if_neg hC]
        rw [hx]
        first
          | (exfalso; exact hC c6)
          | (exact wK)
  refine aw_region fun K27 hK27 => ?_
  first
    | refine aL (z_fieldAddr fo_40_0) ?_
    | refine aL (z_fieldRef fo_40_0) ?_
    | refine aL (z_fieldV fo_40_0) ?_
  first
    | refine aL (z_load sz_3) ?_
    | refine aL (z_loadRef sz_3) ?_
    | refine aL (z_loadV sz_3) ?_
  refine aL z_leq ?_
  refine aL z_move ?_
  first
    | refine gL rfl rfl (ev_tmp rfl) (fun hg => z_load sz_40) ?_
    | refine gL rfl rfl (ev_tmp rfl) (fun hg => z_loadRef sz_40) ?_
    | refine gL rfl rfl (ev_tmp rfl) (fun hg => z_loadV sz_40) ?_
    | refine hL rfl rfl (ev_tmp rfl) (fun hg => z_load sz_40) ?_
    | refine hL rfl rfl (ev_tmp rfl) (fun hg => z_loadRef sz_40) ?_
    | refine hL rfl rfl (ev_tmp rfl) (fun hg => z_loadV sz_40) ?_
  first
    | refine gL rfl rfl (ev_tmp rfl) (fun hg => z_call0 (eC (eC .nil)) en_33 (con_Has (f := f) (x := NIL) (by simp) hf hf2 rfl)) ?_
    | refine gL rfl rfl (ev_tmp rfl) (fun hg => z_call0 (eC (eC .nil)) en_33 (con_Has (f := xa.1) (x := NIL) (by simp) (by omega) (by omega) rfl)) ?_
    | refine hL rfl rfl (ev_tmp rfl) (fun hg => z_call0 (eC (eC .nil)) en_33 (con_Has (f := f) (x := NIL) (by simp) hf hf2 rfl)) ?_
    | refine hL rfl rfl (ev_tmp rfl) (fun hg => z_call0 (eC (eC .nil)) en_33 (con_Has (f := xa.1) (x := NIL) (by simp) (by omega) (by omega) rfl)) ?_
  refine aL z_and ?_
  refine awl_nil (hK27 _ _ ?_)
  clear hK27 K27
  refine aC (fun r7 c7 => ?_) (fun r7 c7 => ?_)
  · try simp [ka.1, ka.2, kb, kc, kd, ke] at c7
    refine aw_region fun K28 hK28 => ?_
    refine aL z_move ?_
    have hix := hi0 (by have := hq1 (by assumption); omega)
    first
      | refine aL (z_indexAddr Try.underlying24 sz_5) ?_
      | refine aL (z_indexAddrV Try.underlying24 sz_5) ?_
    first
      | refine aL (z_load sz_5) ?_
      | refine aL (z_loadRef sz_5) ?_
      | refine aL (z_loadV sz_5) ?_
    refine aL (z_conv Try.underlying3 ⟨_, Try.underlying5⟩) ?_
    first
      | refine aL (z_fieldAddr fo_40_4) ?_
      | refine aL (z_fieldRef fo_40_4) ?_
      | refine aL (z_fieldV fo_40_4) ?_
    refine aL (z_store sz_3) ?_
    refine awl_nil (hK28 _ _ ?_)
    clear hK28 K28
    refine aw_region_last ?_
    refine aL z_move ?_
    have hp1 := hq1 (by assumption)
    refine aL (z_slice Try.underlying24 sz_5) ?_
    refine aL z_assign ?_
    refine awl_nil ?_
    refine hK2 _ _ ?_
    by_cases hC : f.ty ≤ 1 ∧ bitB f.fl 8 = true
    · have hx : xa = ({ f with pad := ((p.getD 0 0).toNat : Int) }, p.drop 1) := by rw [ha, rA, if_pos hC]
      rw [hx]
      first
        | (exfalso; rcases c7 with q | q; omega; rw [hC.2] at q; cases q)
        | (exact wK)
    · have hx : xa = (f, p) := by rw [ha, rA, if_neg hC]
      rw [hx]
      first
        | (exfalso; exact hC c7)
        | (exact wK)
  · try simp [ka.1, ka.2, kb, kc, kd, ke] at c7
    refine aw_skip ?_
    refine hK2 _ _ ?_
    by_cases hC : f.ty ≤ 1 ∧ bitB f.fl 8 = true
    · have hx : xa = ({ f with pad := ((p.getD 0 0).toNat : Int) }, p.drop 1) := by rw [ha, rA, if_pos hC]
      rw [hx]
      first
        | (exfalso; rcases c7 with q | q; omega; rw [hC.2] at q; cases q)
        | (exact wK)
    · have hx : xa = (f, p) := by rw [ha, rA, if_neg hC]
      rw [hx]
      first
        | (exfalso; exact hC c7)
        | (exact wK)
end Go.Proofs.Ytigodfnckjidoaa
