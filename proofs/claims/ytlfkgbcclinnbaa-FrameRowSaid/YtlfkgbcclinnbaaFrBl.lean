/- Layer 6: the law FrameBack, walked. No condition. -/
import Derived.Test.YtlfkgbcclinnbaaFrBk
import Derived.Test.YtlfkgbcclinnbaaFrZ2
import Derived.Test.YtlfkgbcclinnbaaFrPb
namespace Go.Proofs.Ytlfkgbcclinnbaa
set_option linter.all false
open Go Go.RowKit
set_option maxRecDepth 10000
set_option maxHeartbeats 4000000
theorem con_FrameBack {f : Fr} {behind : List UInt8} {cut : Int} : Con Try.prog 5 [.agg f.cs, .v (.sl (bs behind)), .v (.int .i64 cut)] [] 0 (.ret (.v (.bool true))) [] := by
  have hbad : ¬ putE f = 0 → (putF f).length = 0 := fun h => by rw [putF_bad h]; rfl
  have hlen : putE f = 0 → (putF f).length = 9 + (payL f).length := put_len
  have hbe : putE f = 0 → beN ((putF f).take 3) = (payL f).length := fun h => by have := (put_head h []).1; rwa [List.append_nil] at this
  have hmx : putE f = 0 → (payL f).length ≤ 16777215 := fun h => (put_ok h).2.1
  have hA : putE f = 0 → takeF (putF f ++ behind) 16777215 = takeF (putF f) 16777215 := fun h => take_app behind (by rw [hbe h]; have := hmx h; omega) (by rw [hlen h]; omega) (by rw [hbe h, hlen h]; omega)
  have hT : putE f = 0 → (∃ n x, takeF (putF f) 16777215 = ⟨Fr.nil, n, x⟩ ∧ x.is = true) ∨ takeF (putF f) 16777215 = ⟨f, (putF f).length, Flt.no⟩ := take_put
  have hC : ∀ k : Nat, putE f = 0 → k < (putF f).length → takeF ((putF f).take k) 16777215 = ⟨Fr.nil, 0, Flt.no⟩ := fun k h hk => take_cut (by rw [hbe h]; have := hmx h; omega) (by rw [hbe h]; have := hlen h; omega) (by rw [hbe h, hlen h]; omega)
  refine con_of Try.func5 rfl (by show _ ≤ 103; simp) fun X Q hP hnt hnp hret hpan => ?_
  obtain ⟨P0, nt0, w0, K0, S0, np0, pin0⟩ := X
  simp only at hP hnt hnp
  subst hP hnp
  obtain rfl : nt0 = 103 := hnt
  refine aw_region fun K1 hK1 => ?_
  refine aL (z_box 0) ?_
  refine aL z_assign ?_
  refine awl_nil (hK1 _ _ ?_)
  clear hK1 K1
  refine aw_seq fun K2 hK2 => ?_
  refine aw_region fun K3 hK3 => ?_
  refine aL (z_call0 .nil en_9 (con_awake)) ?_
  refine aL z_not ?_
  refine awl_nil (hK3 _ _ ?_)
  clear hK3 K3
  refine aC (fun r1 c1 => ?_) (fun r1 c1 => ?_)
  · refine aw_region fun K4 hK4 => ?_
    refine aL z_assign ?_
    refine awl_nil (hK4 _ _ ?_)
    clear hK4 K4
    refine aw_ret ?_
    refine (hret _ _ _ _ _ rfl (.tmp rfl .nil) rfl ?_ .nil rfl).1
    first
      | rfl
      | (exfalso; simp at *; done)
      | (simp [retD, hbad (by assumption)]; done)
      | (rcases hT (by assumption) with ⟨n, x, h1, h2⟩ | h1 <;> simp [hA (by assumption), h1, retD, eqXs, eqX, sameB, Fr.nil] at *; done)
      | (simp [retD, hC kc (by assumption) hkl, sameB, Fr.nil]; done)
      | (exfalso; have hl := hlen (by assumption); have hs := (sameB_iff f f).2 rfl; rcases hT (by assumption) with ⟨n, x, h1, h2⟩ | h1; (rw [hA (by assumption), h1] at c4; dsimp only at c4; rw [h2] at c4; cases c4); (rw [hA (by assumption), h1] at c5; dsimp only at c5; rcases c5 with (h | h) | h; exact h rfl; omega; rw [hs] at h; cases h))
  · refine aw_skip ?_
    refine hK2 _ _ ?_
    clear hK2
    refine aw_seq fun K5 hK5 => ?_
    refine aw_region fun K6 hK6 => ?_
    refine aL (z_load sz_24) ?_
    refine aL (z_call0 (eC .nil) en_10 (con_small)) ?_
    refine aL z_not ?_
    refine aL z_move ?_
    refine gL rfl rfl (ev_tmp rfl) (fun hg => z_move) ?_
    refine gL rfl rfl (ev_tmp rfl) (fun hg => z_lenB Try.underlying27) ?_
    refine gL rfl rfl (ev_tmp rfl) (fun hg => z_gtr) ?_
    refine aL z_or ?_
    refine awl_nil (hK6 _ _ ?_)
    clear hK6 K6
    refine aC (fun r2 c2 => ?_) (fun r2 c2 => ?_)
    · refine aw_region fun K7 hK7 => ?_
      refine aL z_assign ?_
      refine awl_nil (hK7 _ _ ?_)
      clear hK7 K7
      refine aw_ret ?_
      refine (hret _ _ _ _ _ rfl (.tmp rfl .nil) rfl ?_ .nil rfl).1
      first
        | rfl
        | (exfalso; simp at *; done)
        | (simp [retD, hbad (by assumption)]; done)
        | (rcases hT (by assumption) with ⟨n, x, h1, h2⟩ | h1 <;> simp [hA (by assumption), h1, retD, eqXs, eqX, sameB, Fr.nil] at *; done)
        | (simp [retD, hC kc (by assumption) hkl, sameB, Fr.nil]; done)
        | (exfalso; have hl := hlen (by assumption); have hs := (sameB_iff f f).2 rfl; rcases hT (by assumption) with ⟨n, x, h1, h2⟩ | h1; (rw [hA (by assumption), h1] at c4; dsimp only at c4; rw [h2] at c4; cases c4); (rw [hA (by assumption), h1] at c5; dsimp only at c5; rcases c5 with (h | h) | h; exact h rfl; omega; rw [hs] at h; cases h))
    · refine aw_skip ?_
      refine hK5 _ _ ?_
      clear hK5
      refine aw_region fun K8 hK8 => ?_
      refine aL (z_load sz_24) ?_
      refine aL (z_call0 (eC .nil) en_11 (con_putS (f := f) (by simp [smallB] at *; omega) (by simp [smallB] at *; omega))) ?_
      refine aL z_move ?_
      refine aL z_extract ?_
      refine aL z_extract ?_
      refine aL z_assign ?_
      refine aL z_assign ?_
      refine awl_nil (hK8 _ _ ?_)
      clear hK8 K8
      refine aw_seq fun K9 hK9 => ?_
      refine aw_region fun K10 hK10 => ?_
      refine aL z_move ?_
      refine aL z_neq ?_
      refine awl_nil (hK10 _ _ ?_)
      clear hK10 K10
      refine aC (fun r3 c3 => ?_) (fun r3 c3 => ?_)
      · refine aw_region fun K11 hK11 => ?_
        refine aL z_move ?_
        refine aL (z_lenB Try.underlying27) ?_
        refine aL z_eql ?_
        refine aL z_assign ?_
        refine awl_nil (hK11 _ _ ?_)
        clear hK11 K11
        refine aw_ret ?_
        refine (hret _ _ _ _ _ rfl (.tmp rfl .nil) rfl ?_ .nil rfl).1
        first
          | rfl
          | (exfalso; simp at *; done)
          | (simp [retD, hbad (by assumption)]; done)
          | (rcases hT (by assumption) with ⟨n, x, h1, h2⟩ | h1 <;> simp [hA (by assumption), h1, retD, eqXs, eqX, sameB, Fr.nil] at *; done)
          | (simp [retD, hC kc (by assumption) hkl, sameB, Fr.nil]; done)
          | (exfalso; have hl := hlen (by assumption); have hs := (sameB_iff f f).2 rfl; rcases hT (by assumption) with ⟨n, x, h1, h2⟩ | h1; (rw [hA (by assumption), h1] at c4; dsimp only at c4; rw [h2] at c4; cases c4); (rw [hA (by assumption), h1] at c5; dsimp only at c5; rcases c5 with (h | h) | h; exact h rfl; omega; rw [hs] at h; cases h))
      · refine aw_skip ?_
        refine hK9 _ _ ?_
        clear hK9
        refine aw_region fun K12 hK12 => ?_
        refine aL (z_row 1 .nil Try.underlying27 sz_5 zc_5 zl_5 (c := bs [])) ?_
        refine aL z_move ?_
        refine aL (z_app Try.underlying27 zi_5) ?_
        refine aL z_move ?_
        refine aL (z_app Try.underlying27 zi_5) ?_
        refine awl_weak (fr' := [(3, .ptr 0 0), (7, .v (.sl (bs (putF f)))), (2, .v (.int .i64 cut)), (43, .v (.sl (bs (putF f ++ behind))))]) (ah' := [(0, .box f.cs)]) (weak_all (some (1, 2, bs ([] ++ putF f ++ behind))) ⟨rfl, _, _, rfl⟩ (.box rfl (.same rfl) .nil) (.cons rfl (.keep rfl) (.cons rfl (.keep rfl) (.cons rfl (.keep rfl) (.cons rfl (.view rfl (cut_is (by simp))) .nil))))) ?_
        refine aL (z_call0 (eC (eC .nil)) en_14 (con_frTake (b := putF f ++ behind) (by have := hlen (by assumption); have := hmx (by assumption); simp; omega))) ?_
        refine aL z_move ?_
        refine aL z_extract ?_
        refine aL z_extract ?_
        refine aL z_extract ?_
        refine aL (z_alloc 4 zc_24 zl_24) ?_
        refine aL (z_alloc 5 zc_33 zl_33) ?_
        refine aL (z_store sz_24) ?_
        refine aL z_assign ?_
        refine aL (z_store sz_33) ?_
        refine awl_nil (hK12 _ _ ?_)
        clear hK12 K12
        refine aw_seq fun K13 hK13 => ?_
        refine aw_region fun K14 hK14 => ?_
        refine aL (z_fieldAddr fo_33_0) ?_
        refine aL (z_load sz_4) ?_
        refine awl_nil (hK14 _ _ ?_)
        clear hK14 K14
        refine aC (fun r4 c4 => ?_) (fun r4 c4 => ?_)
        · refine aw_region fun K15 hK15 => ?_
          refine aL z_move ?_
          refine aL (z_call0 (eC (eC .nil)) en_15 (con_refTakeF (b := putF f) (by have := hlen (by assumption); have := hmx (by assumption); omega))) ?_
          refine aL z_move ?_
          refine aL z_extract ?_
          refine aL z_extract ?_
          refine aL z_extract ?_
          refine aL (z_alloc 6 zc_24 zl_24) ?_
          refine aL (z_alloc 7 zc_33 zl_33) ?_
          refine aL (z_store sz_24) ?_
          refine aL z_assign ?_
          refine aL (z_store sz_33) ?_
          refine awl_nil (hK15 _ _ ?_)
          clear hK15 K15
          refine aw_region fun K16 hK16 => ?_
          refine aL (z_load sz_33) ?_
          refine aL (z_load sz_33) ?_
          refine aL (z_eqlA sk_33) ?_
          refine aL z_move ?_
          refine gL rfl rfl (ev_tmp rfl) (fun hg => z_load sz_24) ?_
          refine gL rfl rfl (ev_tmp rfl) (fun hg => z_build .nil pl_24 zc_24 zl_24) ?_
          refine gL rfl rfl (ev_tmp rfl) (fun hg => z_call0 (eC (eC .nil)) en_16 (con_SameN (g := Fr.nil) (by have h1 := take_sets (putF f ++ behind) 16777215; have h2 := hlen (by assumption); have h3 := hmx (by assumption); rw [List.length_append] at h1; omega) rfl)) ?_
          refine aL z_and ?_
          refine aL z_assign ?_
          refine awl_nil (hK16 _ _ ?_)
          clear hK16 K16
          refine aw_ret ?_
          refine (hret _ _ _ _ _ rfl (.tmp rfl .nil) rfl ?_ .nil rfl).1
          first
            | rfl
            | (exfalso; simp at *; done)
            | (simp [retD, hbad (by assumption)]; done)
            | (rcases hT (by assumption) with ⟨n, x, h1, h2⟩ | h1 <;> simp [hA (by assumption), h1, retD, eqXs, eqX, sameB, Fr.nil] at *; done)
            | (simp [retD, hC kc (by assumption) hkl, sameB, Fr.nil]; done)
            | (exfalso; have hl := hlen (by assumption); have hs := (sameB_iff f f).2 rfl; rcases hT (by assumption) with ⟨n, x, h1, h2⟩ | h1; (rw [hA (by assumption), h1] at c4; dsimp only at c4; rw [h2] at c4; cases c4); (rw [hA (by assumption), h1] at c5; dsimp only at c5; rcases c5 with (h | h) | h; exact h rfl; omega; rw [hs] at h; cases h))
        · refine aw_skip ?_
          refine hK13 _ _ ?_
          clear hK13
          refine aw_seq fun K17 hK17 => ?_
          refine aw_region fun K18 hK18 => ?_
          refine aL z_move ?_
          refine aL z_move ?_
          refine aL (z_lenB Try.underlying27) ?_
          refine aL z_neq ?_
          refine aL z_move ?_
          refine gL rfl rfl (ev_tmp rfl) (fun hg => z_move) ?_
          refine gL rfl rfl (ev_tmp rfl) (fun hg => z_eql) ?_
          refine aL z_or ?_
          refine aL z_move ?_
          refine gL rfl rfl (ev_tmp rfl) (fun hg => z_load sz_24) ?_
          refine gL rfl rfl (ev_tmp rfl) (fun hg => z_load sz_24) ?_
          refine gL rfl rfl (ev_tmp rfl) (fun hg => z_call0 (eC (eC .nil)) en_16 (con_Same (by simp [smallB] at *; omega))) ?_
          refine gL rfl rfl (ev_tmp rfl) (fun hg => z_not) ?_
          refine aL z_or ?_
          refine awl_nil (hK18 _ _ ?_)
          clear hK18 K18
          refine aC (fun r5 c5 => ?_) (fun r5 c5 => ?_)
          · refine aw_region fun K19 hK19 => ?_
            refine aL z_assign ?_
            refine awl_nil (hK19 _ _ ?_)
            clear hK19 K19
            refine aw_ret ?_
            refine (hret _ _ _ _ _ rfl (.tmp rfl .nil) rfl ?_ .nil rfl).1
            first
              | rfl
              | (exfalso; simp at *; done)
              | (simp [retD, hbad (by assumption)]; done)
              | (rcases hT (by assumption) with ⟨n, x, h1, h2⟩ | h1 <;> simp [hA (by assumption), h1, retD, eqXs, eqX, sameB, Fr.nil] at *; done)
              | (simp [retD, hC kc (by assumption) hkl, sameB, Fr.nil]; done)
              | (exfalso; have hl := hlen (by assumption); have hs := (sameB_iff f f).2 rfl; rcases hT (by assumption) with ⟨n, x, h1, h2⟩ | h1; (rw [hA (by assumption), h1] at c4; dsimp only at c4; rw [h2] at c4; cases c4); (rw [hA (by assumption), h1] at c5; dsimp only at c5; rcases c5 with (h | h) | h; exact h rfl; omega; rw [hs] at h; cases h))
          · refine aw_skip ?_
            refine hK17 _ _ ?_
            clear hK17
            refine aw_cutE (α := {c : Int // 0 ≤ c}) (fun z => (([(3, .ptr 0 0), (7, .v (.sl (bs (putF f)))), (2, .v (.int .i64 z.1))], [(0, .box f.cs)]))) (fun K20 hK20 => ?_) ?_
            rotate_left
            focus
              rintro z
              dsimp only
              refine aw_region fun K21 hK21 => ?_
              refine aL z_move ?_
              refine aL z_move ?_
              refine aL z_move ?_
              refine aL (z_lenB Try.underlying27) ?_
              obtain ⟨kc, hkc⟩ : ∃ k : Nat, z.1.tmod ((putF f).length : Int) = (k : Int) := ⟨(z.1.tmod ((putF f).length : Int)).toNat, (Int.toNat_of_nonneg (Int.tmod_nonneg _ z.2)).symm⟩
              have hpos : (0 : Int) < ((putF f).length : Int) := by have := hlen (by assumption); omega
              have hkl : kc < (putF f).length := by have := Int.tmod_lt_of_pos z.1 hpos; omega
              refine aL z_rem ?_
              refine aL (stepU_slice (c' := bs ((putF f).take kc)) rfl Try.underlying27 sz_5 (bs_one _) (ev_tmp rfl) .no (.yes (ev_tmp rfl) rfl) (by simp) (by simp; omega) (by simp)) ?_
              refine aL (z_call0 (eC (eC .nil)) en_14 (con_frTake (b := (putF f).take kc) (by have := hlen (by assumption); have := hmx (by assumption); simp; omega))) ?_
              refine aL z_move ?_
              refine aL z_extract ?_
              refine aL z_extract ?_
              refine aL z_extract ?_
              refine aL (z_alloc 6 zc_24 zl_24) ?_
              refine aL (z_alloc 7 zc_33 zl_33) ?_
              refine aL (z_store sz_24) ?_
              refine aL z_assign ?_
              refine aL (z_store sz_33) ?_
              refine awl_nil (hK21 _ _ ?_)
              clear hK21 K21
              refine aw_region fun K22 hK22 => ?_
              refine aL (z_load sz_24) ?_
              refine aL (z_build .nil pl_24 zc_24 zl_24) ?_
              refine aL (z_call0 (eC (eC .nil)) en_16 (con_SameN (g := Fr.nil) (by rw [hC kc (by assumption) hkl]; decide) rfl)) ?_
              refine aL z_move ?_
              refine gL rfl rfl (ev_tmp rfl) (fun hg => z_move) ?_
              refine gL rfl rfl (ev_tmp rfl) (fun hg => z_eql) ?_
              refine aL z_and ?_
              refine aL z_move ?_
              refine gL rfl rfl (ev_tmp rfl) (fun hg => z_fieldAddr fo_33_0) ?_
              refine gL rfl rfl (ev_tmp rfl) (fun hg => z_load sz_4) ?_
              refine gL rfl rfl (ev_tmp rfl) (fun hg => z_not) ?_
              refine aL z_and ?_
              refine aL z_assign ?_
              refine awl_nil (hK22 _ _ ?_)
              clear hK22 K22
              refine aw_ret ?_
              refine (hret _ _ _ _ _ rfl (.tmp rfl .nil) rfl ?_ .nil rfl).1
              first
                | rfl
                | (exfalso; simp at *; done)
                | (simp [retD, hbad (by assumption)]; done)
                | (rcases hT (by assumption) with ⟨n, x, h1, h2⟩ | h1 <;> simp [hA (by assumption), h1, retD, eqXs, eqX, sameB, Fr.nil] at *; done)
                | (simp [retD, hC kc (by assumption) hkl, sameB, Fr.nil]; done)
                | (exfalso; have hl := hlen (by assumption); have hs := (sameB_iff f f).2 rfl; rcases hT (by assumption) with ⟨n, x, h1, h2⟩ | h1; (rw [hA (by assumption), h1] at c4; dsimp only at c4; rw [h2] at c4; cases c4); (rw [hA (by assumption), h1] at c5; dsimp only at c5; rcases c5 with (h | h) | h; exact h rfl; omega; rw [hs] at h; cases h))
            refine aw_region fun K23 hK23 => ?_
            refine aL z_move ?_
            refine aL z_lss ?_
            refine awl_nil (hK23 _ _ ?_)
            clear hK23 K23
            refine aC (fun r6 c6 => ?_) (fun r6 c6 => ?_)
            · refine aw_region_last ?_
              refine aL z_assign ?_
              refine awl_nil ?_
              refine hK20 _ _ ⟨max cut 0, by omega⟩ ?_
              dsimp only
              exact wK
            · refine aw_skip ?_
              refine hK20 _ _ ⟨max cut 0, by omega⟩ ?_
              dsimp only
              exact wK
end Go.Proofs.Ytlfkgbcclinnbaa
