/- Layer 6: the document's Payload and Put. No condition. -/
import Derived.Test.YtigodfnckjidoaaFrRb
import Derived.Test.YtigodfnckjidoaaCgB
namespace Go.Proofs.Ytigodfnckjidoaa
set_option linter.all false
open Go Go.RowKit
set_option maxRecDepth 10000
set_option maxHeartbeats 4000000
attribute [simp] putB_length
/-- The parts of a payload, as the document says them. -/
def qA (f : Fr) : List UInt8 := if f.ty ≤ 1 ∧ bitB f.fl 8 = true then [UInt8.ofNat f.pad.toNat] else []
def qB (f : Fr) : List UInt8 := if f.ty = 2 ∨ f.ty = 1 ∧ bitB f.fl 32 = true then ordL f else []
def qC (f : Fr) (k : Nat) : List UInt8 := (f.sets.take k).flatMap setL
def qD (f : Fr) : List UInt8 := if f.ty = 7 then putB 4 f.last.toNat else []
def qE (f : Fr) : List UInt8 := if f.ty = 7 ∨ f.ty = 3 then putB 4 f.code.toNat else []
def qF (f : Fr) : List UInt8 := if f.ty = 8 then putB 4 f.inc.toNat else []
theorem payR_q (f : Fr) : payR f = qA f ++ qB f ++ qC f f.sets.length ++ qD f ++ qE f ++ qF f ++ f.data ++ zeros f.pad := by
  unfold qC; rw [List.take_length]; rfl
theorem qC_len (f : Fr) (k : Nat) (hk : k ≤ f.sets.length) : (qC f k).length = 6 * k := by
  have lC : ∀ l : List (Int × Int), (l.flatMap setL).length = 6 * l.length := fun l => by
    induction l with
    | nil => rfl
    | cons s l ih => rw [List.flatMap_cons, List.length_append, ih]; simp [setL, putB_length]; omega
  unfold qC; rw [lC, List.length_take]; omega
theorem qC_succ (f : Fr) (k : Nat) (hk : k < f.sets.length) : qC f (k + 1) = qC f k ++ putB 2 (f.sets[k]).1.toNat ++ putB 4 (f.sets[k]).2.toNat := by
  unfold qC; rw [List.take_add_one, List.flatMap_append, List.getElem?_eq_getElem hk]; simp [setL]
theorem bs_byte {n : Int} (h0 : 0 ≤ n) (h : n ≤ 255) : ([[.int .u8 n]] : List (List V)) = bs [UInt8.ofNat n.toNat] := by
  have : ((UInt8.ofNat n.toNat).toNat : Int) = n := by simp; omega
  simp only [bs, List.map_cons, List.map_nil, this]
theorem row_app1 {l : List UInt8} {m : Nat} {n : Int} (h : m = l.length) (h0 : 0 ≤ n) (h1 : n ≤ 255) : (bs l).take m ++ [[.int .u8 n]] = bs (l ++ [UInt8.ofNat n.toNat]) := by rw [bs_byte h0 h1, row_app h]
def ordN (f : Fr) : Int := f.dep + if f.sole then 2147483648 else 0
theorem ordN_L {f : Fr} (h : 0 ≤ f.dep) : putB 4 (ordN f).toNat ++ [UInt8.ofNat f.wt.toNat] = ordL f := by
  unfold ordL ordN
  cases f.sole
  · simp
  · simp only [if_true]; rw [show (f.dep + 2147483648).toNat = f.dep.toNat + 2147483648 by omega]
theorem con_refPutS {n size : Int} (h0 : 0 ≤ n) (hn : n < 4294967296) : Con Try.prog 23 [.v (.int .u32 n), .v (.int .i64 size)] [] 0 (.ret (.v (.sl (bs (putL n.toNat size))))) [] := by
  obtain ⟨k, rfl⟩ := Int.eq_ofNat_of_zero_le h0
  exact con_weak (con_refPut (by omega)) fun X _ => weak_all (some (0, 0, bs (putL k size))) ⟨rfl, _, _, rfl⟩ .nil (.cons rfl (.view rfl (by simp)) .nil)
theorem con_refPut2 {n : Int} (h0 : 0 ≤ n) (hn : n < 4294967296) : Con Try.prog 23 [.v (.int .u32 n), .v (.int .i64 2)] [] 0 (.ret (.v (.sl (bs (putB 2 n.toNat))))) [] := con_refPutS h0 hn
theorem con_rfour {n : Int} (h0 : 0 ≤ n) (h : n ≤ 4294967295) : Con Try.prog 24 [.v (.int .i64 n)] [] 0 (.ret (.v (.sl (bs (putB 4 n.toNat))))) [] := by
  refine con_of Try.func24 rfl (by show _ ≤ 6; simp) fun X Q hP hnt hnp hret hpan => ?_
  obtain ⟨P0, nt0, w0, K0, S0, np0, pin0, df0⟩ := X
  simp only at hP hnt hnp
  subst hP hnp
  obtain rfl : nt0 = 6 := hnt
  refine aw_region fun K1 hK1 => ?_
  refine aL z_assign ?_
  refine awl_nil (hK1 _ _ ?_)
  clear hK1 K1
  refine aw_region fun K2 hK2 => ?_
  refine aL z_move ?_
  refine aL (z_conv Try.underlying62 ⟨_, Try.underlying2⟩) ?_
  refine aL (z_call0 (eC (eC .nil)) en_23 (con_refPutS (by omega) (by omega))) ?_
  refine aL z_assign ?_
  refine awl_nil (hK2 _ _ ?_)
  clear hK2 K2
  refine aw_ret ?_
  refine (hret _ _ _ _ _ rfl (.tmp rfl .nil) rfl ?_ .nil rfl).1
  rfl
theorem mapply {f : Fr} (h : rangesB f = true) : (0 ≤ f.ty ∧ f.ty ≤ 255) ∧ (0 ≤ f.fl ∧ f.fl ≤ 255) ∧ (0 ≤ f.pad ∧ f.pad ≤ 255) ∧ (0 ≤ f.wt ∧ f.wt ≤ 255) ∧ (0 ≤ f.st ∧ f.st ≤ 2147483647) ∧ (0 ≤ f.last ∧ f.last ≤ 2147483647) ∧ (0 ≤ f.dep ∧ f.dep ≤ 2147483647) ∧ (0 ≤ f.inc ∧ f.inc ≤ 2147483647) ∧
    (∀ i (hi : i < f.sets.length), (0 ≤ (f.sets[i]).1 ∧ (f.sets[i]).1 ≤ 65535) ∧ (0 ≤ (f.sets[i]).2 ∧ (f.sets[i]).2 ≤ 4294967295)) ∧ (0 ≤ f.code ∧ f.code ≤ 4294967295) := by
  simp only [rangesB, inB, setsB, Bool.and_eq_true, decide_eq_true_eq, List.all_eq_true] at h
  obtain ⟨⟨⟨⟨⟨⟨⟨⟨⟨h1, h2⟩, h3⟩, h4⟩, h5⟩, h6⟩, h7⟩, h8⟩, h9⟩, h10⟩ := h
  exact ⟨h1, h2, h3, h4, h5, h6, h7, h8, fun i hi => h9 _ (List.getElem_mem hi), h10⟩
theorem con_refPayload {f : Fr} (hr : rangesB f = true) (hd : f.data.length ≤ 1000000) (hn : f.sets.length ≤ 1000000) : Con Try.prog 22 [.agg f.cs] [] 0 (.ret (.v (.sl (bs (payR f))))) [] := by
  obtain ⟨ht, hf, hp, hw, hs, hla, hde, hin, hse, hco⟩ := mapply hr
  have lA : (qA f).length ≤ 1 := by unfold qA; split <;> simp
  have hoN : 0 ≤ ordN f ∧ ordN f ≤ 4294967295 := by unfold ordN; split <;> omega
  have lB : (qB f).length ≤ 5 := by unfold qB; split <;> simp [ordL, putB_length]
  have lC : (qC f f.sets.length).length = 6 * f.sets.length := qC_len f _ (Nat.le_refl _)
  have lD : (qD f).length ≤ 4 := by unfold qD; split <;> simp [putB_length]
  have lE : (qE f).length ≤ 4 := by unfold qE; split <;> simp [putB_length]
  have lF : (qF f).length ≤ 4 := by unfold qF; split <;> simp [putB_length]
  have hz : (setV f.sets).length = f.sets.length := by simp [setV]
  refine con_of Try.func22 rfl (by show _ ≤ 116; simp) fun X Q hP hnt hnp hret hpan => ?_
  obtain ⟨P0, nt0, w0, K0, S0, np0, pin0, df0⟩ := X
  simp only at hP hnt hnp
  subst hP hnp
  obtain rfl : nt0 = 116 := hnt
  refine aw_region fun K1 hK1 => ?_
  refine aL (z_box 0) ?_
  refine aL z_assign ?_
  refine awl_nil (hK1 _ _ ?_)
  clear hK1 K1
  refine aw_region fun K2 hK2 => ?_
  refine aL z_assign ?_
  refine awl_nil (hK2 _ _ ?_)
  clear hK2 K2
  refine aw_weak (fr' := [(1, .ptr 0 0), (3, .view 1 0 0 0)]) (ah' := [(0, .box f.cs), (1, .row 0 1 5 (bs []))]) (Weak.trans (weak_nil (t := 3) 1 1 5 (by decide) (Nat.le_of_ble_eq_true rfl) rfl rfl) wK) ?_
  refine aw_cut ([(1, .ptr 0 0), (3, .view 1 0 0 (bs (qA f)).length)], [(0, .box f.cs), (1, .row 0 1 5 (bs (qA f)))]) (fun K3 hK3 => ?_) ?_
  rotate_left
  focus
    refine aw_cut ([(1, .ptr 0 0), (3, .view 1 0 0 (bs (qA f ++ qB f)).length)], [(0, .box f.cs), (1, .row 0 1 5 (bs (qA f ++ qB f)))]) (fun K4 hK4 => ?_) ?_
    rotate_left
    focus
      refine aw_cut ([(1, .ptr 0 0), (3, .view 1 0 0 (bs (qA f ++ qB f ++ qC f f.sets.length)).length)], [(0, .box f.cs), (1, .row 0 1 5 (bs (qA f ++ qB f ++ qC f f.sets.length)))]) (fun K5 hK5 => ?_) ?_
      rotate_left
      focus
        refine aw_cut ([(1, .ptr 0 0), (3, .view 1 0 0 (bs (qA f ++ qB f ++ qC f f.sets.length ++ qD f)).length)], [(0, .box f.cs), (1, .row 0 1 5 (bs (qA f ++ qB f ++ qC f f.sets.length ++ qD f)))]) (fun K6 hK6 => ?_) ?_
        rotate_left
        focus
          refine aw_cut ([(1, .ptr 0 0), (3, .view 1 0 0 (bs (qA f ++ qB f ++ qC f f.sets.length ++ qD f ++ qE f)).length)], [(0, .box f.cs), (1, .row 0 1 5 (bs (qA f ++ qB f ++ qC f f.sets.length ++ qD f ++ qE f)))]) (fun K7 hK7 => ?_) ?_
          rotate_left
          focus
            refine aw_cut ([(1, .ptr 0 0), (3, .view 1 0 0 (bs (qA f ++ qB f ++ qC f f.sets.length ++ qD f ++ qE f ++ qF f)).length)], [(0, .box f.cs), (1, .row 0 1 5 (bs (qA f ++ qB f ++ qC f f.sets.length ++ qD f ++ qE f ++ qF f)))]) (fun K8 hK8 => ?_) ?_
            rotate_left
            focus
              refine aw_region fun K9 hK9 => ?_
              refine aL z_move ?_
              first
                | refine aL (z_fieldAddr fo_40_3) ?_
                | refine aL (z_fieldRef fo_40_3) ?_
                | refine aL (z_fieldV fo_40_3) ?_
              first
                | refine aL (z_load sz_9) ?_
                | refine aL (z_loadRef sz_9) ?_
                | refine aL (z_loadV sz_9) ?_
              first
                | refine aL (z_appS Try.underlying24 Try.underlying9 by_5) ?_
                | refine aL (z_appNS 1 Try.underlying24 Try.underlying9 by_5) ?_
              refine aL z_assign ?_
              refine awl_nil (hK9 _ _ ?_)
              clear hK9 K9
              refine aw_seq fun K10 hK10 => ?_
              refine aw_region fun K11 hK11 => ?_
              refine aL z_assign ?_
              refine awl_nil (hK11 _ _ ?_)
              clear hK11 K11
              refine aw_block ?_
              refine aw_loop (α := {k : Nat // (k : Int) ≤ f.pad}) (fun x => ([(1, .ptr 0 0), (3, .view 1 0 0 (bs (qA f ++ qB f ++ qC f f.sets.length ++ qD f ++ qE f ++ qF f ++ f.data ++ List.replicate x.1 0)).length), (6, .v (.int .i64 (x.1 : Int)))], [(0, .box f.cs), (1, .row 0 1 5 (bs (qA f ++ qB f ++ qC f f.sets.length ++ qD f ++ qE f ++ qF f ++ f.data ++ List.replicate x.1 0)))])) (fun x => f.pad.toNat - x.1) ⟨0, by omega⟩ ?_ ?_
              · dsimp only
                simp only [List.replicate_zero, List.append_nil]
                exact wRow 3 1 (bs (qA f ++ qB f ++ qC f f.sets.length ++ qD f ++ qE f ++ qF f ++ f.data))
              · rintro ⟨k, hk⟩ K12 hK12
                dsimp only
                refine aw_seq fun K13 hK13 => ?_
                refine aw_region fun K14 hK14 => ?_
                refine aL z_move ?_
                first
                  | refine aL (z_fieldAddr fo_40_4) ?_
                  | refine aL (z_fieldRef fo_40_4) ?_
                  | refine aL (z_fieldV fo_40_4) ?_
                first
                  | refine aL (z_load sz_3) ?_
                  | refine aL (z_loadRef sz_3) ?_
                  | refine aL (z_loadV sz_3) ?_
                refine aL z_lss ?_
                refine awl_nil (hK14 _ _ ?_)
                clear hK14 K14
                refine aC (fun r1 c1 => ?_) (fun r1 c1 => ?_)
                · refine aw_skip ?_
                  refine hK13 _ _ ?_
                  clear hK13
                  refine aw_seq fun K15 hK15 => ?_
                  refine aw_block ?_
                  refine aw_region_last ?_
                  refine aL z_move ?_
                  refine aL (z_lits (pC .nil) Try.underlying24 sz_5 zc_5 zl_5 (c := [[_]])) ?_
                  first
                    | refine aL (z_app Try.underlying24 zi_5) ?_
                    | refine aL (z_appV Try.underlying24 zi_5) ?_
                    | refine aL (z_appN 2 Try.underlying24 zi_5) ?_
                    | refine aL (z_appNV 2 Try.underlying24 zi_5) ?_
                  refine aL z_assign ?_
                  refine awl_nil ?_
                  refine hK15 _ _ ?_
                  clear hK15
                  refine aw_region_last ?_
                  refine aL z_move ?_
                  refine aL z_add ?_
                  refine aL z_assign ?_
                  refine awl_nil ?_
                  refine hK12 _ _ ⟨k + 1, by omega⟩ (by dsimp only; omega) ?_
                  dsimp only
                  rw [List.replicate_succ', ← List.append_assoc]
                  exact wRow 3 1 (bs (qA f ++ qB f ++ qC f f.sets.length ++ qD f ++ qE f ++ qF f ++ f.data ++ List.replicate k 0 ++ [0])) (hc := row_app1 (n := 0) (by simp) (by decide) (by decide))
                · refine aw_exit ?_
                  refine hK10 _ _ ?_
                  clear hK10
                  refine aw_region fun K16 hK16 => ?_
                  refine aL z_move ?_
                  refine aL z_assign ?_
                  refine awl_nil (hK16 _ _ ?_)
                  clear hK16 K16
                  have hkk : k = f.pad.toNat := by omega
                  have he : payR f = qA f ++ qB f ++ qC f f.sets.length ++ qD f ++ qE f ++ qF f ++ f.data ++ List.replicate k 0 := by rw [payR_q, hkk]; rfl
                  refine aw_weak (weak_all (fr' := [(2, .v (.sl (bs (payR f))))]) (ah' := []) (some (1, 0, bs (payR f))) ⟨rfl, _, _, by rw [he]; rfl⟩ .nil (.cons rfl (.view rfl (by rw [he]; exact cut_all _)) .nil)) ?_
                  refine aw_ret ?_
                  refine (hret _ _ _ _ _ rfl (.tmp rfl .nil) rfl ?_ .nil rfl).1
                  rfl
            refine aw_region fun K17 hK17 => ?_
            first
              | refine aL (z_fieldAddr fo_40_0) ?_
              | refine aL (z_fieldRef fo_40_0) ?_
              | refine aL (z_fieldV fo_40_0) ?_
            first
              | refine aL (z_load sz_3) ?_
              | refine aL (z_loadRef sz_3) ?_
              | refine aL (z_loadV sz_3) ?_
            refine aL z_eql ?_
            refine awl_nil (hK17 _ _ ?_)
            clear hK17 K17
            refine aC (fun r2 c2 => ?_) (fun r2 c2 => ?_)
            · refine aw_region_last ?_
              refine aL z_move ?_
              first
                | refine aL (z_fieldAddr fo_40_8) ?_
                | refine aL (z_fieldRef fo_40_8) ?_
                | refine aL (z_fieldV fo_40_8) ?_
              first
                | refine aL (z_load sz_2) ?_
                | refine aL (z_loadRef sz_2) ?_
                | refine aL (z_loadV sz_2) ?_
              refine aL (z_call0 (eC .nil) en_24 (con_rfour (by omega) (by omega))) ?_
              first
                | refine aL (z_app Try.underlying24 zi_5) ?_
                | refine aL (z_appV Try.underlying24 zi_5) ?_
                | refine aL (z_appN 1 Try.underlying24 zi_5) ?_
                | refine aL (z_appNV 1 Try.underlying24 zi_5) ?_
              refine aL z_assign ?_
              refine awl_nil ?_
              refine hK8 _ _ ?_
              first
                | (rw [show qF f = putB 4 f.inc.toNat from if_pos (by omega)]; exact wRow 3 1 (bs (qA f ++ qB f ++ qC f f.sets.length ++ qD f ++ qE f ++ putB 4 f.inc.toNat)))
                | (rw [show qF f = [] from if_neg (by omega), List.append_nil]; exact wK)
            · refine aw_skip ?_
              refine hK8 _ _ ?_
              first
                | (rw [show qF f = putB 4 f.inc.toNat from if_pos (by omega)]; exact wRow 3 1 (bs (qA f ++ qB f ++ qC f f.sets.length ++ qD f ++ qE f ++ putB 4 f.inc.toNat)))
                | (rw [show qF f = [] from if_neg (by omega), List.append_nil]; exact wK)
          refine aw_region fun K18 hK18 => ?_
          first
            | refine aL (z_fieldAddr fo_40_0) ?_
            | refine aL (z_fieldRef fo_40_0) ?_
            | refine aL (z_fieldV fo_40_0) ?_
          first
            | refine aL (z_load sz_3) ?_
            | refine aL (z_loadRef sz_3) ?_
            | refine aL (z_loadV sz_3) ?_
          refine aL z_eql ?_
          refine aL z_move ?_
          first
            | refine gL rfl rfl (ev_tmp rfl) (fun hg => z_fieldAddr fo_40_0) ?_
            | refine gL rfl rfl (ev_tmp rfl) (fun hg => z_fieldRef fo_40_0) ?_
            | refine gL rfl rfl (ev_tmp rfl) (fun hg => z_fieldV fo_40_0) ?_
            | refine hL rfl rfl (ev_tmp rfl) (fun hg => z_fieldAddr fo_40_0) ?_
            | refine hL rfl rfl (ev_tmp rfl) (fun hg => z_fieldRef fo_40_0) ?_
            | refine hL rfl rfl (ev_tmp rfl) (fun hg => z_fieldV fo_40_0) ?_
          first
            | refine gL rfl rfl (ev_tmp rfl) (fun hg => z_load sz_3) ?_
            | refine gL rfl rfl (ev_tmp rfl) (fun hg => z_loadRef sz_3) ?_
            | refine gL rfl rfl (ev_tmp rfl) (fun hg => z_loadV sz_3) ?_
            | refine hL rfl rfl (ev_tmp rfl) (fun hg => z_load sz_3) ?_
            | refine hL rfl rfl (ev_tmp rfl) (fun hg => z_loadRef sz_3) ?_
            | refine hL rfl rfl (ev_tmp rfl) (fun hg => z_loadV sz_3) ?_
          first
            | refine gL rfl rfl (ev_tmp rfl) (fun hg => z_eql) ?_
            | refine hL rfl rfl (ev_tmp rfl) (fun hg => z_eql) ?_
          refine aL z_or ?_
          refine awl_nil (hK18 _ _ ?_)
          clear hK18 K18
          refine aC (fun r3 c3 => ?_) (fun r3 c3 => ?_)
          · refine aw_region_last ?_
            refine aL z_move ?_
            first
              | refine aL (z_fieldAddr fo_40_6) ?_
              | refine aL (z_fieldRef fo_40_6) ?_
              | refine aL (z_fieldV fo_40_6) ?_
            first
              | refine aL (z_load sz_2) ?_
              | refine aL (z_loadRef sz_2) ?_
              | refine aL (z_loadV sz_2) ?_
            refine aL (z_call0 (eC .nil) en_24 (con_rfour (by omega) (by omega))) ?_
            first
              | refine aL (z_app Try.underlying24 zi_5) ?_
              | refine aL (z_appV Try.underlying24 zi_5) ?_
              | refine aL (z_appN 1 Try.underlying24 zi_5) ?_
              | refine aL (z_appNV 1 Try.underlying24 zi_5) ?_
            refine aL z_assign ?_
            refine awl_nil ?_
            refine hK7 _ _ ?_
            first
              | (rw [show qE f = putB 4 f.code.toNat from if_pos (by omega)]; exact wRow 3 1 (bs (qA f ++ qB f ++ qC f f.sets.length ++ qD f ++ putB 4 f.code.toNat)))
              | (rw [show qE f = [] from if_neg (by omega), List.append_nil]; exact wK)
          · refine aw_skip ?_
            refine hK7 _ _ ?_
            first
              | (rw [show qE f = putB 4 f.code.toNat from if_pos (by omega)]; exact wRow 3 1 (bs (qA f ++ qB f ++ qC f f.sets.length ++ qD f ++ putB 4 f.code.toNat)))
              | (rw [show qE f = [] from if_neg (by omega), List.append_nil]; exact wK)
        refine aw_region fun K19 hK19 => ?_
        first
          | refine aL (z_fieldAddr fo_40_0) ?_
          | refine aL (z_fieldRef fo_40_0) ?_
          | refine aL (z_fieldV fo_40_0) ?_
        first
          | refine aL (z_load sz_3) ?_
          | refine aL (z_loadRef sz_3) ?_
          | refine aL (z_loadV sz_3) ?_
        refine aL z_eql ?_
        refine awl_nil (hK19 _ _ ?_)
        clear hK19 K19
        refine aC (fun r4 c4 => ?_) (fun r4 c4 => ?_)
        · refine aw_region_last ?_
          refine aL z_move ?_
          first
            | refine aL (z_fieldAddr fo_40_7) ?_
            | refine aL (z_fieldRef fo_40_7) ?_
            | refine aL (z_fieldV fo_40_7) ?_
          first
            | refine aL (z_load sz_3) ?_
            | refine aL (z_loadRef sz_3) ?_
            | refine aL (z_loadV sz_3) ?_
          refine aL (z_call0 (eC .nil) en_24 (con_rfour (by omega) (by omega))) ?_
          first
            | refine aL (z_app Try.underlying24 zi_5) ?_
            | refine aL (z_appV Try.underlying24 zi_5) ?_
            | refine aL (z_appN 1 Try.underlying24 zi_5) ?_
            | refine aL (z_appNV 1 Try.underlying24 zi_5) ?_
          refine aL z_assign ?_
          refine awl_nil ?_
          refine hK6 _ _ ?_
          first
            | (rw [show qD f = putB 4 f.last.toNat from if_pos (by omega)]; exact wRow 3 1 (bs (qA f ++ qB f ++ qC f f.sets.length ++ putB 4 f.last.toNat)))
            | (rw [show qD f = [] from if_neg (by omega), List.append_nil]; exact wK)
        · refine aw_skip ?_
          refine hK6 _ _ ?_
          first
            | (rw [show qD f = putB 4 f.last.toNat from if_pos (by omega)]; exact wRow 3 1 (bs (qA f ++ qB f ++ qC f f.sets.length ++ putB 4 f.last.toNat)))
            | (rw [show qD f = [] from if_neg (by omega), List.append_nil]; exact wK)
      refine aw_region fun K20 hK20 => ?_
      refine aL z_assign ?_
      refine awl_nil (hK20 _ _ ?_)
      clear hK20 K20
      refine aw_block ?_
      refine aw_loop (α := {k : Nat // k ≤ f.sets.length}) (fun x => ([(1, .ptr 0 0), (3, .view 1 0 0 (bs (qA f ++ qB f ++ qC f x.1)).length), (5, .v (.int .i64 (x.1 : Int)))], [(0, .box f.cs), (1, .row 0 1 5 (bs (qA f ++ qB f ++ qC f x.1)))])) (fun x => f.sets.length - x.1) ⟨0, by omega⟩ ?_ ?_
      · dsimp only
        rw [show qC f 0 = [] from rfl, List.append_nil]
        exact wK
      · rintro ⟨k, hk⟩ K21 hK21
        dsimp only
        refine aw_seq fun K22 hK22 => ?_
        refine aw_region fun K23 hK23 => ?_
        refine aL z_move ?_
        first
          | refine aL (z_fieldAddr fo_40_5) ?_
          | refine aL (z_fieldRef fo_40_5) ?_
          | refine aL (z_fieldV fo_40_5) ?_
        first
          | refine aL (z_load sz_38) ?_
          | refine aL (z_loadRef sz_38) ?_
          | refine aL (z_loadV sz_38) ?_
        first
          | refine aL (z_lenB Try.underlying38) ?_
          | refine aL (z_len Try.underlying38) ?_
          | refine aL (z_lenV Try.underlying38) ?_
        refine aL z_lss ?_
        refine awl_nil (hK23 _ _ ?_)
        clear hK23 K23
        refine aC (fun r5 c5 => ?_) (fun r5 c5 => ?_)
        · refine aw_skip ?_
          refine hK22 _ _ ?_
          clear hK22
          refine aw_seq fun K24 hK24 => ?_
          refine aw_block ?_
          refine aw_region fun K25 hK25 => ?_
          have hlt : k < f.sets.length := by omega
          have hi : (setV f.sets)[k]? = some [V.int .i64 (f.sets[k]).1, V.int .i64 (f.sets[k]).2] := by simp [setV, hlt]
          have hsk := hse k hlt
          have lk := qC_len f k (by omega)
          refine aL z_move ?_
          first
            | refine aL (z_fieldAddr fo_40_5) ?_
            | refine aL (z_fieldRef fo_40_5) ?_
            | refine aL (z_fieldV fo_40_5) ?_
          first
            | refine aL (z_load sz_38) ?_
            | refine aL (z_loadRef sz_38) ?_
            | refine aL (z_loadV sz_38) ?_
          refine aL z_move ?_
          first
            | refine aL (z_indexAddr Try.underlying38 sz_70) ?_
            | refine aL (z_indexAddrV Try.underlying38 sz_70) ?_
          first
            | refine aL (z_fieldAddr fo_70_0) ?_
            | refine aL (z_fieldRef fo_70_0) ?_
            | refine aL (z_fieldV fo_70_0) ?_
          first
            | refine aL (z_load sz_3) ?_
            | refine aL (z_loadRef sz_3) ?_
            | refine aL (z_loadV sz_3) ?_
          refine aL (z_conv Try.underlying62 ⟨_, Try.underlying3⟩) ?_
          refine aL (z_call0 (eC (eC .nil)) en_23 (con_refPut2 (by omega) (by omega))) ?_
          first
            | refine aL (z_app Try.underlying24 zi_5) ?_
            | refine aL (z_appV Try.underlying24 zi_5) ?_
            | refine aL (z_appN 1 Try.underlying24 zi_5) ?_
            | refine aL (z_appNV 1 Try.underlying24 zi_5) ?_
          refine aL z_assign ?_
          refine awl_nil (hK25 _ _ ?_)
          clear hK25 K25
          refine aw_region_last ?_
          refine aL z_move ?_
          first
            | refine aL (z_fieldAddr fo_40_5) ?_
            | refine aL (z_fieldRef fo_40_5) ?_
            | refine aL (z_fieldV fo_40_5) ?_
          first
            | refine aL (z_load sz_38) ?_
            | refine aL (z_loadRef sz_38) ?_
            | refine aL (z_loadV sz_38) ?_
          refine aL z_move ?_
          first
            | refine aL (z_indexAddr Try.underlying38 sz_70) ?_
            | refine aL (z_indexAddrV Try.underlying38 sz_70) ?_
          first
            | refine aL (z_fieldAddr fo_70_1) ?_
            | refine aL (z_fieldRef fo_70_1) ?_
            | refine aL (z_fieldV fo_70_1) ?_
          first
            | refine aL (z_load sz_2) ?_
            | refine aL (z_loadRef sz_2) ?_
            | refine aL (z_loadV sz_2) ?_
          refine aL (z_call0 (eC .nil) en_24 (con_rfour (by omega) (by omega))) ?_
          first
            | refine aL (z_app Try.underlying24 zi_5) ?_
            | refine aL (z_appV Try.underlying24 zi_5) ?_
            | refine aL (z_appN 2 Try.underlying24 zi_5) ?_
            | refine aL (z_appNV 2 Try.underlying24 zi_5) ?_
          refine aL z_assign ?_
          refine awl_nil ?_
          refine hK24 _ _ ?_
          clear hK24
          refine aw_region_last ?_
          refine aL z_move ?_
          refine aL z_add ?_
          refine aL z_assign ?_
          refine awl_nil ?_
          refine hK21 _ _ ⟨k + 1, by omega⟩ (by dsimp only; omega) ?_
          dsimp only
          rw [qC_succ f k hlt, ← List.append_assoc, ← List.append_assoc]
          exact wRow 3 1 (bs (qA f ++ qB f ++ qC f k ++ putB 2 (f.sets[k]).1.toNat ++ putB 4 (f.sets[k]).2.toNat))
        · refine aw_exit ?_
          refine hK5 _ _ ?_
          have hkk : k = f.sets.length := by omega
          subst hkk
          exact wK
    refine aw_region fun K26 hK26 => ?_
    first
      | refine aL (z_fieldAddr fo_40_0) ?_
      | refine aL (z_fieldRef fo_40_0) ?_
      | refine aL (z_fieldV fo_40_0) ?_
    first
      | refine aL (z_load sz_3) ?_
      | refine aL (z_loadRef sz_3) ?_
      | refine aL (z_loadV sz_3) ?_
    refine aL z_eql ?_
    refine aL z_move ?_
    first
      | refine gL rfl rfl (ev_tmp rfl) (fun hg => z_fieldAddr fo_40_0) ?_
      | refine gL rfl rfl (ev_tmp rfl) (fun hg => z_fieldRef fo_40_0) ?_
      | refine gL rfl rfl (ev_tmp rfl) (fun hg => z_fieldV fo_40_0) ?_
      | refine hL rfl rfl (ev_tmp rfl) (fun hg => z_fieldAddr fo_40_0) ?_
      | refine hL rfl rfl (ev_tmp rfl) (fun hg => z_fieldRef fo_40_0) ?_
      | refine hL rfl rfl (ev_tmp rfl) (fun hg => z_fieldV fo_40_0) ?_
    first
      | refine gL rfl rfl (ev_tmp rfl) (fun hg => z_load sz_3) ?_
      | refine gL rfl rfl (ev_tmp rfl) (fun hg => z_loadRef sz_3) ?_
      | refine gL rfl rfl (ev_tmp rfl) (fun hg => z_loadV sz_3) ?_
      | refine hL rfl rfl (ev_tmp rfl) (fun hg => z_load sz_3) ?_
      | refine hL rfl rfl (ev_tmp rfl) (fun hg => z_loadRef sz_3) ?_
      | refine hL rfl rfl (ev_tmp rfl) (fun hg => z_loadV sz_3) ?_
    first
      | refine gL rfl rfl (ev_tmp rfl) (fun hg => z_eql) ?_
      | refine hL rfl rfl (ev_tmp rfl) (fun hg => z_eql) ?_
    first
      | refine gL rfl rfl (ev_tmp rfl) (fun hg => z_move) ?_
      | refine hL rfl rfl (ev_tmp rfl) (fun hg => z_move) ?_
    first
      | refine gL rfl rfl (ev_tmp rfl) (fun hg => z_load sz_40) ?_
      | refine gL rfl rfl (ev_tmp rfl) (fun hg => z_loadRef sz_40) ?_
      | refine gL rfl rfl (ev_tmp rfl) (fun hg => z_loadV sz_40) ?_
      | refine hL rfl rfl (ev_tmp rfl) (fun hg => z_load sz_40) ?_
      | refine hL rfl rfl (ev_tmp rfl) (fun hg => z_loadRef sz_40) ?_
      | refine hL rfl rfl (ev_tmp rfl) (fun hg => z_loadV sz_40) ?_
    first
      | refine gL rfl rfl (ev_tmp rfl) (fun hg => z_call0 (eC (eC .nil)) en_33 (con_Has (f := f) (by simp) hf.1 hf.2 rfl)) ?_
      | refine hL rfl rfl (ev_tmp rfl) (fun hg => z_call0 (eC (eC .nil)) en_33 (con_Has (f := f) (by simp) hf.1 hf.2 rfl)) ?_
    first
      | refine gL rfl rfl (ev_tmp rfl) (fun hg => z_and) ?_
      | refine hL rfl rfl (ev_tmp rfl) (fun hg => z_and) ?_
    refine aL z_or ?_
    refine awl_nil (hK26 _ _ ?_)
    clear hK26 K26
    refine aC (fun r6 c6 => ?_) (fun r6 c6 => ?_)
    · refine aw_region fun K27 hK27 => ?_
      first
        | refine aL (z_fieldAddr fo_40_9) ?_
        | refine aL (z_fieldRef fo_40_9) ?_
        | refine aL (z_fieldV fo_40_9) ?_
      first
        | refine aL (z_load sz_3) ?_
        | refine aL (z_loadRef sz_3) ?_
        | refine aL (z_loadV sz_3) ?_
      refine aL z_assign ?_
      refine awl_nil (hK27 _ _ ?_)
      clear hK27 K27
      refine aw_cut ([(1, .ptr 0 0), (3, .view 1 0 0 (bs (qA f)).length), (4, .v (.int .i64 (ordN f)))], [(0, .box f.cs), (1, .row 0 1 5 (bs (qA f)))]) (fun K28 hK28 => ?_) ?_
      rotate_left
      focus
        refine aw_regionD_last mx_all (by kernel_rfl) ?_
        refine aD z_move ?_
        refine aD z_move ?_
        refine aD (z_call0 (eC .nil) en_24 (con_rfour (by omega) (by omega))) ?_
        first
          | refine aD (z_app Try.underlying24 zi_5) ?_
          | refine aD (z_appV Try.underlying24 zi_5) ?_
          | refine aD (z_appN 1 Try.underlying24 zi_5) ?_
          | refine aD (z_appNV 1 Try.underlying24 zi_5) ?_
        first
          | refine aD (z_fieldAddr fo_40_10) ?_
          | refine aD (z_fieldRef fo_40_10) ?_
          | refine aD (z_fieldV fo_40_10) ?_
        first
          | refine aD (z_load sz_3) ?_
          | refine aD (z_loadRef sz_3) ?_
          | refine aD (z_loadV sz_3) ?_
        refine aD (z_conv Try.underlying5 ⟨_, Try.underlying3⟩) ?_
        refine aD (z_lits (pC .nil) Try.underlying24 sz_5 zc_5 zl_5 (c := [[_]])) ?_
        first
          | refine aD (z_app Try.underlying24 zi_5) ?_
          | refine aD (z_appV Try.underlying24 zi_5) ?_
          | refine aD (z_appN 2 Try.underlying24 zi_5) ?_
          | refine aD (z_appNV 2 Try.underlying24 zi_5) ?_
        refine aD z_assign ?_
        refine awd_nil (by kernel_rfl) ?_
        refine hK4 _ _ ?_
        first
          | (rw [show qB f = putB 4 (ordN f).toNat ++ [UInt8.ofNat f.wt.toNat] from (if_pos (by assumption)).trans (ordN_L hde.1).symm, ← List.append_assoc]; exact wRow 3 1 (bs (qA f ++ putB 4 (ordN f).toNat ++ [UInt8.ofNat f.wt.toNat])) (hc := row_app1 (by simp) hw.1 hw.2))
          | (rw [show qB f = [] from if_neg (by simp_all), List.append_nil]; exact wK)
      refine aw_region fun K29 hK29 => ?_
      first
        | refine aL (z_fieldAddr fo_40_11) ?_
        | refine aL (z_fieldRef fo_40_11) ?_
        | refine aL (z_fieldV fo_40_11) ?_
      first
        | refine aL (z_load sz_4) ?_
        | refine aL (z_loadRef sz_4) ?_
        | refine aL (z_loadV sz_4) ?_
      refine awl_nil (hK29 _ _ ?_)
      clear hK29 K29
      refine aC (fun r7 c7 => ?_) (fun r7 c7 => ?_)
      · refine aw_region_last ?_
        refine aL z_move ?_
        refine aL z_add ?_
        refine aL z_assign ?_
        refine awl_nil ?_
        refine hK28 _ _ ?_
        first
          | (rw [show ordN f = f.dep + 2147483648 from (by unfold ordN; rw [if_pos (by assumption)])]; exact wK)
          | (rw [show ordN f = f.dep from (by unfold ordN; rw [if_neg (by simp_all)]; omega)]; exact wK)
      · refine aw_skip ?_
        refine hK28 _ _ ?_
        first
          | (rw [show ordN f = f.dep + 2147483648 from (by unfold ordN; rw [if_pos (by assumption)])]; exact wK)
          | (rw [show ordN f = f.dep from (by unfold ordN; rw [if_neg (by simp_all)]; omega)]; exact wK)
    · refine aw_skip ?_
      refine hK4 _ _ ?_
      first
        | (rw [show qB f = putB 4 (ordN f).toNat ++ [UInt8.ofNat f.wt.toNat] from (if_pos (by assumption)).trans (ordN_L hde.1).symm, ← List.append_assoc]; exact wRow 3 1 (bs (qA f ++ putB 4 (ordN f).toNat ++ [UInt8.ofNat f.wt.toNat])) (hc := row_app1 (by simp) hw.1 hw.2))
        | (rw [show qB f = [] from if_neg (by simp_all), List.append_nil]; exact wK)
  refine aw_region fun K30 hK30 => ?_
  first
    | refine aL (z_fieldAddr fo_40_0) ?_
    | refine aL (z_fieldRef fo_40_0) ?_
    | refine aL (z_fieldV fo_40_0) ?_
  first
    | refine aL (z_load sz_3) ?_
    | refine aL (z_loadRef sz_3) ?_
    | refine aL (z_loadV sz_3) ?_
  refine aL z_leq ?_
  refine aL z_move ?_
  first
    | refine gL rfl rfl (ev_tmp rfl) (fun hg => z_load sz_40) ?_
    | refine gL rfl rfl (ev_tmp rfl) (fun hg => z_loadRef sz_40) ?_
    | refine gL rfl rfl (ev_tmp rfl) (fun hg => z_loadV sz_40) ?_
    | refine hL rfl rfl (ev_tmp rfl) (fun hg => z_load sz_40) ?_
    | refine hL rfl rfl (ev_tmp rfl) (fun hg => z_loadRef sz_40) ?_
    | refine hL rfl rfl (ev_tmp rfl) (fun hg => z_loadV sz_40) ?_
  first
    | refine gL rfl rfl (ev_tmp rfl) (fun hg => z_call0 (eC (eC .nil)) en_33 (con_Has (f := f) (by simp) hf.1 hf.2 rfl)) ?_
    | refine hL rfl rfl (ev_tmp rfl) (fun hg => z_call0 (eC (eC .nil)) en_33 (con_Has (f := f) (by simp) hf.1 hf.2 rfl)) ?_
  refine aL z_and ?_
  refine awl_nil (hK30 _ _ ?_)
  clear hK30 K30
  refine aC (fun r8 c8 => ?_) (fun r8 c8 => ?_)
  · refine aw_region_last ?_
    refine aL z_move ?_
    first
      | refine aL (z_fieldAddr fo_40_4) ?_
      | refine aL (z_fieldRef fo_40_4) ?_
      | refine aL (z_fieldV fo_40_4) ?_
    first
      | refine aL (z_load sz_3) ?_
      | refine aL (z_loadRef sz_3) ?_
      | refine aL (z_loadV sz_3) ?_
    refine aL (z_conv Try.underlying5 ⟨_, Try.underlying3⟩) ?_
    refine aL (z_lits (pC .nil) Try.underlying24 sz_5 zc_5 zl_5 (c := [[_]])) ?_
    first
      | refine aL (z_app Try.underlying24 zi_5) ?_
      | refine aL (z_appV Try.underlying24 zi_5) ?_
      | refine aL (z_appN 1 Try.underlying24 zi_5) ?_
      | refine aL (z_appNV 1 Try.underlying24 zi_5) ?_
    refine aL z_assign ?_
    refine awl_nil ?_
    refine hK3 _ _ ?_
    first
      | (rw [show qA f = [UInt8.ofNat f.pad.toNat] from if_pos (by assumption)]; exact wRow 3 1 (bs [UInt8.ofNat f.pad.toNat]) (hc := bs_byte hp.1 hp.2))
      | (rw [show qA f = [] from if_neg (by simp_all)]; exact wK)
  · refine aw_skip ?_
    refine hK3 _ _ ?_
    first
      | (rw [show qA f = [UInt8.ofNat f.pad.toNat] from if_pos (by assumption)]; exact wRow 3 1 (bs [UInt8.ofNat f.pad.toNat]) (hc := bs_byte hp.1 hp.2))
      | (rw [show qA f = [] from if_neg (by simp_all)]; exact wK)
end Go.Proofs.Ytigodfnckjidoaa
