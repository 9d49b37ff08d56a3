/- Layer 6: the document's fields of settings, walked. No condition. -/
import Derived.Test.YtigodfnckjidoaaFrRc
namespace Go.Proofs.Ytigodfnckjidoaa
set_option linter.all false
open Go Go.RowKit
set_option maxRecDepth 10000
set_option maxHeartbeats 4000000
theorem boxW1s {X : Cx} {fr fr' : Fm} {ah : AH} {cs2 es2 es2' : List D} (s : Sid) (hs : SidOk ah [(1, .box es2')] s) (h2 : look ah 1 = some (.box cs2)) (hd2 : DWs s (dom [(1, .box es2')]) cs2 es2) (he2 : es2 = es2') (hf : FW fr s (dom [(1, .box es2')]) fr') : Weak X fr ah fr' [(1, .box es2')] := by
  subst he2
  exact weak_all s hs (.box h2 hd2 .nil) hf
theorem con_fieldsS {f : Fr} {p : List UInt8} (hf : 0 ≤ f.fl) (hf2 : f.fl ≤ 255) (hm : missB f.ty f.fl p.length = false) (hl : p.length ≤ 1000000000) (hp0 : f.pad = 0) (hd0 : f.data = []) (h4 : f.ty = 4) :
    Con Try.prog 28 [.agg (f.csX NIL), .v (.sl (bs p))] [] 0 (.ret (.tup [.agg (openL f p).cs, .v (.bool (openB f p))])) [] := by
  have hk6 : p.length % 6 = 0 := by simp [missB, h4] at hm; omega
  have hop : openM f p = some { f with sets := setsM (p.length / 6) p } := by rw [openM_eq]; simp [h4]
  refine con_of Try.func28 rfl (by show _ ≤ 109; simp) fun X Q hP hnt hnp hret hpan => ?_
  obtain ⟨P0, nt0, w0, K0, S0, np0, pin0, df0⟩ := X
  simp only at hP hnt hnp
  subst hP hnp
  obtain rfl : nt0 = 109 := hnt
  refine aw_region fun K1 hK1 => ?_
  refine aL (z_box 0) ?_
  refine aL (z_alloc 1 zc_40 zl_40) ?_
  refine aL z_assign ?_
  refine awl_nil (hK1 _ _ ?_)
  clear hK1 K1
  refine aw_seq fun K2 hK2 => ?_
  refine aw_region fun K3 hK3 => ?_
  first
    | refine aL (z_fieldAddr fo_40_0) ?_
    | refine aL (z_fieldRef fo_40_0) ?_
    | refine aL (z_fieldV fo_40_0) ?_
  first
    | refine aL (z_load sz_3) ?_
    | refine aL (z_loadRef sz_3) ?_
    | refine aL (z_loadV sz_3) ?_
  refine aL z_leq ?_
  refine aL z_move ?_
  first
    | refine gL rfl rfl (ev_tmp rfl) (fun hg => z_load sz_40) ?_
    | refine gL rfl rfl (ev_tmp rfl) (fun hg => z_loadRef sz_40) ?_
    | refine gL rfl rfl (ev_tmp rfl) (fun hg => z_loadV sz_40) ?_
    | refine hL rfl rfl (ev_tmp rfl) (fun hg => z_load sz_40) ?_
    | refine hL rfl rfl (ev_tmp rfl) (fun hg => z_loadRef sz_40) ?_
    | refine hL rfl rfl (ev_tmp rfl) (fun hg => z_loadV sz_40) ?_
  first
    | refine gL rfl rfl (ev_tmp rfl) (fun hg => z_call0 (eC (eC .nil)) en_33 (con_Has (f := f) (x := NIL) (by simp) hf hf2 rfl)) ?_
    | refine hL rfl rfl (ev_tmp rfl) (fun hg => z_call0 (eC (eC .nil)) en_33 (con_Has (f := f) (x := NIL) (by simp) hf hf2 rfl)) ?_
  refine aL z_and ?_
  refine awl_nil (hK3 _ _ ?_)
  clear hK3 K3
  refine aC (fun r1 c1 => ?_) (fun r1 c1 => ?_)
  · try simp at c1
    exfalso; have := c1.1; omega
  · try simp at c1
    refine aw_skip ?_
    refine hK2 _ _ ?_
    clear hK2
    refine aw_seq fun K4 hK4 => ?_
    refine aw_region fun K5 hK5 => ?_
    first
      | refine aL (z_fieldAddr fo_40_0) ?_
      | refine aL (z_fieldRef fo_40_0) ?_
      | refine aL (z_fieldV fo_40_0) ?_
    first
      | refine aL (z_load sz_3) ?_
      | refine aL (z_loadRef sz_3) ?_
      | refine aL (z_loadV sz_3) ?_
    refine aL z_eql ?_
    refine aL z_move ?_
    first
      | refine gL rfl rfl (ev_tmp rfl) (fun hg => z_fieldAddr fo_40_0) ?_
      | refine gL rfl rfl (ev_tmp rfl) (fun hg => z_fieldRef fo_40_0) ?_
      | refine gL rfl rfl (ev_tmp rfl) (fun hg => z_fieldV fo_40_0) ?_
      | refine hL rfl rfl (ev_tmp rfl) (fun hg => z_fieldAddr fo_40_0) ?_
      | refine hL rfl rfl (ev_tmp rfl) (fun hg => z_fieldRef fo_40_0) ?_
      | refine hL rfl rfl (ev_tmp rfl) (fun hg => z_fieldV fo_40_0) ?_
    first
      | refine gL rfl rfl (ev_tmp rfl) (fun hg => z_load sz_3) ?_
      | refine gL rfl rfl (ev_tmp rfl) (fun hg => z_loadRef sz_3) ?_
      | refine gL rfl rfl (ev_tmp rfl) (fun hg => z_loadV sz_3) ?_
      | refine hL rfl rfl (ev_tmp rfl) (fun hg => z_load sz_3) ?_
      | refine hL rfl rfl (ev_tmp rfl) (fun hg => z_loadRef sz_3) ?_
      | refine hL rfl rfl (ev_tmp rfl) (fun hg => z_loadV sz_3) ?_
    first
      | refine gL rfl rfl (ev_tmp rfl) (fun hg => z_eql) ?_
      | refine hL rfl rfl (ev_tmp rfl) (fun hg => z_eql) ?_
    first
      | refine gL rfl rfl (ev_tmp rfl) (fun hg => z_move) ?_
      | refine hL rfl rfl (ev_tmp rfl) (fun hg => z_move) ?_
    first
      | refine gL rfl rfl (ev_tmp rfl) (fun hg => z_load sz_40) ?_
      | refine gL rfl rfl (ev_tmp rfl) (fun hg => z_loadRef sz_40) ?_
      | refine gL rfl rfl (ev_tmp rfl) (fun hg => z_loadV sz_40) ?_
      | refine hL rfl rfl (ev_tmp rfl) (fun hg => z_load sz_40) ?_
      | refine hL rfl rfl (ev_tmp rfl) (fun hg => z_loadRef sz_40) ?_
      | refine hL rfl rfl (ev_tmp rfl) (fun hg => z_loadV sz_40) ?_
    first
      | refine gL rfl rfl (ev_tmp rfl) (fun hg => z_call0 (eC (eC .nil)) en_33 (con_Has (f := f) (x := NIL) (by simp) hf hf2 rfl)) ?_
      | refine hL rfl rfl (ev_tmp rfl) (fun hg => z_call0 (eC (eC .nil)) en_33 (con_Has (f := f) (x := NIL) (by simp) hf hf2 rfl)) ?_
    first
      | refine gL rfl rfl (ev_tmp rfl) (fun hg => z_and) ?_
      | refine hL rfl rfl (ev_tmp rfl) (fun hg => z_and) ?_
    refine aL z_or ?_
    refine awl_nil (hK5 _ _ ?_)
    clear hK5 K5
    refine aC (fun r2 c2 => ?_) (fun r2 c2 => ?_)
    · try simp at c2
      exfalso; rcases c2 with h | h
      omega
      have := h.1
      omega
    · try simp at c2
      refine aw_skip ?_
      refine hK4 _ _ ?_
      clear hK4
      refine aw_seq fun K6 hK6 => ?_
      refine aw_region fun K7 hK7 => ?_
      first
        | refine aL (z_fieldAddr fo_40_0) ?_
        | refine aL (z_fieldRef fo_40_0) ?_
        | refine aL (z_fieldV fo_40_0) ?_
      first
        | refine aL (z_load sz_3) ?_
        | refine aL (z_loadRef sz_3) ?_
        | refine aL (z_loadV sz_3) ?_
      refine aL z_eql ?_
      refine awl_nil (hK7 _ _ ?_)
      clear hK7 K7
      refine aC (fun r3 c3 => ?_) (fun r3 c3 => ?_)
      · try simp at c3
        exfalso; omega
      · try simp at c3
        refine aw_skip ?_
        refine hK6 _ _ ?_
        clear hK6
        refine aw_seq fun K8 hK8 => ?_
        refine aw_region fun K9 hK9 => ?_
        first
          | refine aL (z_fieldAddr fo_40_0) ?_
          | refine aL (z_fieldRef fo_40_0) ?_
          | refine aL (z_fieldV fo_40_0) ?_
        first
          | refine aL (z_load sz_3) ?_
          | refine aL (z_loadRef sz_3) ?_
          | refine aL (z_loadV sz_3) ?_
        refine aL z_eql ?_
        refine awl_nil (hK9 _ _ ?_)
        clear hK9 K9
        refine aC (fun r4 c4 => ?_) (fun r4 c4 => ?_)
        · try simp at c4
          exfalso; omega
        · try simp at c4
          refine aw_skip ?_
          refine hK8 _ _ ?_
          clear hK8
          refine aw_seq fun K10 hK10 => ?_
          refine aw_region fun K11 hK11 => ?_
          first
            | refine aL (z_fieldAddr fo_40_0) ?_
            | refine aL (z_fieldRef fo_40_0) ?_
            | refine aL (z_fieldV fo_40_0) ?_
          first
            | refine aL (z_load sz_3) ?_
            | refine aL (z_loadRef sz_3) ?_
            | refine aL (z_loadV sz_3) ?_
          refine aL z_eql ?_
          refine awl_nil (hK11 _ _ ?_)
          clear hK11 K11
          refine aC (fun r5 c5 => ?_) (fun r5 c5 => ?_)
          · try simp at c5
            exfalso; omega
          · try simp at c5
            refine aw_skip ?_
            refine hK10 _ _ ?_
            clear hK10
            refine aw_seq fun K12 hK12 => ?_
            refine aw_block ?_
            refine aw_loop (α := {k : Nat // 6 * k ≤ p.length}) (fun x => ([(2, .ptr 0 0), (4, .ptr 1 0), (1, .v (.sl (bs (p.drop (6 * x.1)))))], [(0, .box (f.csX (.view 2 x.1 0 x.1))), (1, .box (Fr.nil.csX NIL)), (2, .row x.1 2 70 (setV (setsM x.1 p)))])) (fun x => p.length - 6 * x.1) ⟨0, by omega⟩ ?_ ?_
            · dsimp only
              refine Weak.trans (weak_nilB 0 5 2 2 70 rfl rfl rfl (by decide) (Nat.le_of_ble_eq_true rfl) rfl) ?_
              exact wK
            · rintro ⟨k, hk⟩ K13 hK13
              dsimp only
              refine aw_seq fun K14 hK14 => ?_
              refine aw_region fun K15 hK15 => ?_
              first
                | refine aL (z_fieldAddr fo_40_0) ?_
                | refine aL (z_fieldRef fo_40_0) ?_
                | refine aL (z_fieldV fo_40_0) ?_
              first
                | refine aL (z_load sz_3) ?_
                | refine aL (z_loadRef sz_3) ?_
                | refine aL (z_loadV sz_3) ?_
              refine aL z_eql ?_
              refine aL z_move ?_
              first
                | refine gL rfl rfl (ev_tmp rfl) (fun hg => z_move) ?_
                | refine hL rfl rfl (ev_tmp rfl) (fun hg => z_move) ?_
              first
                | refine gL rfl rfl (ev_tmp rfl) (fun hg => z_lenB Try.underlying24) ?_
                | refine gL rfl rfl (ev_tmp rfl) (fun hg => z_len Try.underlying24) ?_
                | refine gL rfl rfl (ev_tmp rfl) (fun hg => z_lenV Try.underlying24) ?_
                | refine hL rfl rfl (ev_tmp rfl) (fun hg => z_lenB Try.underlying24) ?_
                | refine hL rfl rfl (ev_tmp rfl) (fun hg => z_len Try.underlying24) ?_
                | refine hL rfl rfl (ev_tmp rfl) (fun hg => z_lenV Try.underlying24) ?_
              first
                | refine gL rfl rfl (ev_tmp rfl) (fun hg => z_gtr) ?_
                | refine hL rfl rfl (ev_tmp rfl) (fun hg => z_gtr) ?_
              refine aL z_and ?_
              refine awl_nil (hK15 _ _ ?_)
              clear hK15 K15
              refine aC (fun r6 c6 => ?_) (fun r6 c6 => ?_)
              · try simp at c6
                refine aw_skip ?_
                refine hK14 _ _ ?_
                clear hK14
                refine aw_block ?_
                refine aw_regionD mx_all (by kernel_rfl) fun K16 hK16 => ?_
                first
                  | refine aD (z_fieldAddr fo_40_5) ?_
                  | refine aD (z_fieldRef fo_40_5) ?_
                  | refine aD (z_fieldV fo_40_5) ?_
                first
                  | refine aD (z_load sz_38) ?_
                  | refine aD (z_loadRef sz_38) ?_
                  | refine aD (z_loadV sz_38) ?_
                refine aD z_move ?_
                refine aD (z_call0 (eC (eC (eC .nil))) en_25 (con_at (by omega))) ?_
                refine aD z_move ?_
                refine aD (z_call0 (eC (eC (eC .nil))) en_25 (con_at (by omega))) ?_
                have hp6 : 6 * k + 6 ≤ p.length := by have := c6.2; omega
                have e2 : takeV (p.drop (6 * k)) 0 2 = beN ((p.drop (6 * k)).take 2) := by unfold takeV; rw [if_neg (by simp; omega)]; rfl
                have e5 : takeV (p.drop (6 * k)) 2 4 = at4 p (6 * k + 2) := (takeV_4 (p.drop (6 * k)) 2 (by simp; omega)).trans (by unfold at4; rw [List.drop_drop])
                rw [e2, e5]
                refine aD (z_build (pC (pC .nil)) pl_70 zc_70 zl_70) ?_
                refine aD (z_lits (pC .nil) Try.underlying38 sz_70 zc_70 zl_70 (c := [[.int .i64 (beN ((p.drop (6 * k)).take 2)), .int .i64 (at4 p (6 * k + 2))]])) ?_
                first
                  | refine aD (z_app Try.underlying38 zi_70) ?_
                  | refine aD (z_appV Try.underlying38 zi_70) ?_
                  | refine aD (z_appN 2 Try.underlying38 zi_70) ?_
                  | refine aD (z_appNV 2 Try.underlying38 zi_70) ?_
                first
                  | refine aD (z_fieldAddr fo_40_5) ?_
                  | refine aD (z_fieldRef fo_40_5) ?_
                  | refine aD (z_fieldV fo_40_5) ?_
                refine aD (z_store sz_38) ?_
                refine awd_nil (by kernel_rfl) (hK16 _ _ ?_)
                clear hK16 K16
                refine aw_region_last ?_
                refine aL z_move ?_
                refine aL (stepU_slice (c' := bs (p.drop (6 * (k + 1)))) rfl Try.underlying24 sz_5 (bs_one _) (ev_tmp rfl) (.yes (ev_int _ _) rfl) .no (by simp; omega) (by simp) (by simp [Nat.mul_add]; rw [List.take_of_length_le (by simp; omega)])) ?_
                refine aL z_assign ?_
                refine awl_nil ?_
                have er : List.take k (setV (setsM k p)) ++ [[V.int .i64 (beN ((p.drop (6 * k)).take 2)), V.int .i64 (at4 p (6 * k + 2))]] = setV (setsM (k + 1) p) := by
                  rw [List.take_of_length_le (by simp), setsM_succ, ← setV_app]; rfl
                refine hK13 _ _ ⟨k + 1, by have := c6.2; omega⟩ (by have := c6.2; dsimp only; omega) ?_
                dsimp only
                rw [← er]
                exact wK
              · try simp at c6
                refine aw_exit ?_
                refine hK12 _ _ ?_
                clear hK12
                refine aw_seq fun K17 hK17 => ?_
                refine aw_region fun K18 hK18 => ?_
                first
                  | refine aL (z_fieldAddr fo_40_4) ?_
                  | refine aL (z_fieldRef fo_40_4) ?_
                  | refine aL (z_fieldV fo_40_4) ?_
                first
                  | refine aL (z_load sz_3) ?_
                  | refine aL (z_loadRef sz_3) ?_
                  | refine aL (z_loadV sz_3) ?_
                refine aL z_move ?_
                first
                  | refine aL (z_lenB Try.underlying24) ?_
                  | refine aL (z_len Try.underlying24) ?_
                  | refine aL (z_lenV Try.underlying24) ?_
                refine aL z_gtr ?_
                refine awl_nil (hK18 _ _ ?_)
                clear hK18 K18
                refine aC (fun r7 c7 => ?_) (fun r7 c7 => ?_)
                · try simp at c7
                  exfalso; have c6' : p.length - 6 * k = 0 := (by rcases c6 with h | h; exact absurd h4 h; exact h); omega
                · try simp at c7
                  refine aw_skip ?_
                  refine hK17 _ _ ?_
                  clear hK17
                  refine aw_region fun K19 hK19 => ?_
                  refine aL z_move ?_
                  refine aL z_move ?_
                  first
                    | refine aL (z_lenB Try.underlying24) ?_
                    | refine aL (z_len Try.underlying24) ?_
                    | refine aL (z_lenV Try.underlying24) ?_
                  first
                    | refine aL (z_fieldAddr fo_40_4) ?_
                    | refine aL (z_fieldRef fo_40_4) ?_
                    | refine aL (z_fieldV fo_40_4) ?_
                  first
                    | refine aL (z_load sz_3) ?_
                    | refine aL (z_loadRef sz_3) ?_
                    | refine aL (z_loadV sz_3) ?_
                  have c6' : p.length - 6 * k = 0 := (by rcases c6 with h | h; exact absurd h4 h; exact h)
                  have hw : IntKind.i64.wrap (((p.drop (6 * k)).length : Int) - f.pad) = ((0 : Nat) : Int) := by
                    rw [i64_wrap (by simp; omega) (by simp; omega)]; simp; omega
                  refine aL z_sub ?_
                  refine aL (stepU_slice (j := some 0) (c' := bs []) rfl Try.underlying24 sz_5 (bs_one _) (ev_tmp rfl) .no (.yes (ev_tmp rfl) rfl) (by simp) (by simp) (by simp)) ?_
                  first
                    | refine aL (z_convS Try.underlying24 Try.underlying5 Try.underlying9) ?_
                    | refine aL (z_convSV Try.underlying24 Try.underlying5 Try.underlying9) ?_
                  first
                    | refine aL (z_fieldAddr fo_40_3) ?_
                    | refine aL (z_fieldRef fo_40_3) ?_
                    | refine aL (z_fieldV fo_40_3) ?_
                  refine aL (z_store sz_9) ?_
                  refine awl_nil (hK19 _ _ ?_)
                  clear hK19 K19
                  refine aw_region fun K20 hK20 => ?_
                  first
                    | refine aL (z_load sz_40) ?_
                    | refine aL (z_loadRef sz_40) ?_
                    | refine aL (z_loadV sz_40) ?_
                  refine aL (z_store sz_40) ?_
                  refine aL z_assign ?_
                  refine awl_nil (hK20 _ _ ?_)
                  clear hK20 K20
                  have c6' : p.length - 6 * k = 0 := (by rcases c6 with h | h; exact absurd h4 h; exact h)
                  have hkk : k = p.length / 6 := by omega
                  have hcut : cut 0 (0 + k) (setV (setsM k p)) = setV (setsM (p.length / 6) p) := by
                    rw [← hkk]; unfold cut; rw [List.drop_zero, List.take_of_length_le (by simp)]
                  refine aw_weak (boxW1s (es2' := (openL f p).cs) (fr' := [(4, .ptr 1 0), (5, .v (.bool (openB f p)))]) (some (2, k, setV (setsM k p))) ⟨rfl, _, _, rfl⟩ rfl (by (repeat (first | apply DWs.cons .nil | apply DWs.cons (.keep rfl) | apply DWs.cons (.view rfl hcut))); exact .nil) (by simp [openL, hop, Fr.cs, hd0]) (.cons rfl (.keep rfl) (.cons rfl (.eq (d_bool (by simp [openB, hop])) (.keep rfl)) .nil))) ?_
                  refine aw_ret ?_
                  refine (hret _ _ _ _ _ rfl (rCe sz_40 (.tmp rfl .nil)) rfl ?_ .nil rfl).1
                  rfl
end Go.Proofs.Ytigodfnckjidoaa
