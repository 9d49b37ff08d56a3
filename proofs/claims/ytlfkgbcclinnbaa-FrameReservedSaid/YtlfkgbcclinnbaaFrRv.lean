/- Layer 6: the law FrameReserved, walked. No condition. -/
import Derived.Test.YtlfkgbcclinnbaaFrBl
namespace Go.Proofs.Ytlfkgbcclinnbaa
set_option linter.all false
open Go Go.RowKit
set_option maxRecDepth 10000
set_option maxHeartbeats 4000000
def orHi (x : UInt8) : UInt8 := x ||| 128
theorem orHi_at (x : UInt8) : (orHi x).toNat = x.toNat ∨ (orHi x).toNat = x.toNat + 128 := by
  have : ∀ k : Fin 256, (UInt8.ofNat k.val ||| 128).toNat = k.val ∨ (UInt8.ofNat k.val ||| 128).toNat = k.val + 128 := by decide +kernel
  have h := this ⟨x.toNat, x.toNat_lt⟩
  simpa [orHi] using h
theorem orHi_int (x : UInt8) : IntKind.u8.wrap ((BitVec.ofInt IntKind.u8.bits (x.toNat : Int) ||| BitVec.ofInt IntKind.u8.bits 128).toNat) = ((orHi x).toNat : Int) := by
  have : ∀ k : Fin 256, IntKind.u8.wrap ((BitVec.ofInt IntKind.u8.bits (k.val : Int) ||| BitVec.ofInt IntKind.u8.bits 128).toNat) = ((UInt8.ofNat k.val ||| 128).toNat : Int) := by decide +kernel
  have h := this ⟨x.toNat, x.toNat_lt⟩
  simpa [orHi] using h
def set128 (l : List UInt8) (k : Nat) : List UInt8 := l.set k (orHi (l[k]?.getD 0))
@[simp] theorem bs_set128 (l : List UInt8) (k : Nat) : (bs l).set k [V.int .u8 ((orHi (l[k]?.getD 0)).toNat : Int)] = bs (set128 l k) := by simp [bs, List.map_set, set128]
theorem set_len (l : List UInt8) (k : Nat) : (set128 l k).length = l.length := by simp [set128]
theorem beN_cons (y : UInt8) (s : List UInt8) : beN (y :: s) = y.toNat * 256 ^ s.length + beN s := by
  have key : ∀ (s : List UInt8) (a : Nat), s.foldl (fun n c => n * 256 + c.toNat) a = a * 256 ^ s.length + s.foldl (fun n c => n * 256 + c.toNat) 0 := by
    intro s
    induction s with
    | nil => intro a; simp
    | cons c s ih =>
      intro a
      simp only [List.foldl_cons, List.length_cons, Nat.zero_mul, Nat.zero_add]
      rw [ih (a * 256 + c.toNat), ih c.toNat, Nat.add_mul, Nat.pow_succ, Nat.mul_assoc, Nat.mul_comm 256, Nat.add_assoc]
  unfold beN
  simp only [List.foldl_cons, Nat.zero_mul, Nat.zero_add]
  rw [key]
theorem low_set {l : List UInt8} {k : Nat} (h : k + 4 ≤ l.length) : lowM (at4 (set128 l k) k) = lowM (at4 l k) := by
  have e1 : l.drop k = l[k] :: l.drop (k + 1) := List.drop_eq_getElem_cons (by omega)
  have hg : l[k]?.getD 0 = l[k] := by rw [List.getElem?_eq_getElem (by omega)]; rfl
  have e2 : (set128 l k).drop k = orHi l[k] :: l.drop (k + 1) := by
    unfold set128
    rw [hg, List.drop_set, if_neg (by omega), Nat.sub_self, e1]; rfl
  have h3 : ((l.drop (k + 1)).take 3).length = 3 := by simp; omega
  unfold at4
  rw [e1, e2]
  simp only [List.take_succ_cons]
  rw [beN_cons, beN_cons, h3]
  rcases orHi_at l[k] with h | h <;> rw [h]
  unfold lowM
  omega
theorem drop_set128 {l : List UInt8} {k n : Nat} (h : k < n) : (set128 l k).drop n = l.drop n := by
  unfold set128; rw [List.drop_set, if_pos h]
theorem getD_set128 {l : List UInt8} {k n : Nat} (h : n ≠ k) : (set128 l k).getD n 0 = l.getD n 0 := by
  unfold set128; rw [List.getD_eq_getElem?_getD, List.getD_eq_getElem?_getD, List.getElem?_set_ne (Ne.symm h)]
theorem take_set128 {l : List UInt8} {k n : Nat} (h : n ≤ k) : (set128 l k).take n = l.take n := by
  unfold set128; rw [List.take_set, List.set_eq_of_length_le (by simp; omega)]
theorem set_drop {l : List UInt8} {k n : Nat} (h : n ≤ k) : (set128 l k).drop n = set128 (l.drop n) (k - n) := by
  unfold set128
  rw [List.drop_set, if_neg (by omega)]
  congr 2
  rw [List.getElem?_drop, Nat.add_sub_cancel' h]
theorem open_set {g : Fr} {p : List UInt8} (h : g.ty = 7 ∧ 8 ≤ p.length ∨ g.ty = 8 ∧ 4 ≤ p.length) : openM g (set128 p 0) = openM g p := by
  rcases h with ⟨h, hl⟩ | ⟨h, hl⟩
  · have e1 := low_set (l := p) (k := 0) (by omega)
    have e2 : at4 (set128 p 0) 4 = at4 p 4 := by unfold at4; rw [drop_set128 (by decide)]
    have e3 : (set128 p 0).drop 8 = p.drop 8 := drop_set128 (by decide)
    simp [openM, h, e1, e2, e3]
  · have e1 := low_set (l := p) (k := 0) (by omega)
    simp [openM, h, e1]
/-- A frame's bytes with the reserved bits set. -/
def resB (f : Fr) : List UInt8 := if f.ty = 7 ∨ f.ty = 8 then set128 (set128 (putF f) 5) 9 else set128 (putF f) 5
theorem res_len (f : Fr) : (resB f).length = (putF f).length := by unfold resB; split <;> simp [set_len]
theorem res_take {f : Fr} (h : putE f = 0) (hx : (takeF (putF f) 16777215).x.is = false) : takeF (resB f) 16777215 = ⟨f, (putF f).length, Flt.no⟩ := by
  have hT : takeF (putF f) 16777215 = ⟨f, (putF f).length, Flt.no⟩ := by
    rcases take_put h with ⟨n, x, h1, h2⟩ | h1
    · rw [h1] at hx; rw [h2] at hx; cases hx
    · exact h1
  have hlen := put_len h
  have hmx := (put_ok h).2.1
  have hbe : beN ((putF f).take 3) = (payL f).length := by have := (put_head h []).1; rwa [List.append_nil] at this
  have h5 : lowM (at4 (set128 (putF f) 5) 5) = lowM (at4 (putF f) 5) := low_set (by omega)
  rw [← hT]
  have key : ∀ b : List UInt8, b.length = (putF f).length → b.take 3 = (putF f).take 3 → b.getD 3 0 = (putF f).getD 3 0 → b.getD 4 0 = (putF f).getD 4 0 → lowM (at4 b 5) = lowM (at4 (putF f) 5) → openM (f0B (putF f)) (pB b) = openM (f0B (putF f)) (pB (putF f)) → takeF b 16777215 = takeF (putF f) 16777215 := by
    intro b hl e3 e4 e5 e6 e7
    have et : tyB b = tyB (putF f) := by unfold tyB; rw [e4]
    have ef : flB b = flB (putF f) := by unfold flB; rw [e5]
    have es : stB b = stB (putF f) := e6
    have e0 : f0B b = f0B (putF f) := by unfold f0B; rw [et, ef, es]
    rw [takeF_0 (b := b) (by rw [e3, hbe]; omega) (by rw [e3, hbe, hl, hlen]; omega), takeF_0 (b := putF f) (by rw [hbe]; omega) (by rw [hbe, hlen]; omega), e3, et, ef, es, e0, e7]
  have hp5 : pB (set128 (putF f) 5) = pB (putF f) := by unfold pB; rw [take_set128 (by decide), drop_set128 (by decide)]
  by_cases hc : f.ty = 7 ∨ f.ty = 8
  · have e : resB f = set128 (set128 (putF f) 5) 9 := if_pos hc
    rw [e]
    have hty : (f0B (putF f)).ty = f.ty := by
      obtain ⟨hm, hl, hp⟩ := put_ok h
      have hr : rangesB f = true := by unfold mayB at hm; rw [Bool.and_eq_true] at hm; exact hm.1
      have ht := (mapply hr).1
      show tyB (putF f) = f.ty
      unfold tyB
      rw [hp]
      unfold headL
      rw [List.getD_eq_getElem?_getD, List.append_assoc, List.append_assoc, List.getElem?_append_right (by rw [putB_length]; omega), putB_length]
      exact byte_of ht.1 ht.2
    have hpay : (payL f).length ≥ (if f.ty = 7 then 8 else 4) := by
      rcases hc with hc | hc <;> simp [payL, hc, putB_length] <;> (try omega)
    have hpp : (pB (putF f)).length = (payL f).length := by unfold pB; rw [hbe]; simp; omega
    refine key _ (by simp [set_len]) (by rw [take_set128 (by decide), take_set128 (by decide)]) (by rw [getD_set128 (by decide), getD_set128 (by decide)]) (by rw [getD_set128 (by decide), getD_set128 (by decide)]) ?_ ?_
    · rw [← h5]
      unfold at4
      congr 2
      rw [set_drop (by decide), take_set128 (by decide)]
    · have e9 : pB (set128 (set128 (putF f) 5) 9) = set128 (pB (putF f)) 0 := by
        rw [← hp5]
        unfold pB
        rw [take_set128 (by decide), set_drop (Nat.le_refl _), Nat.sub_self]
        unfold set128
        rw [List.take_set]
        congr 2
        rw [List.getElem?_take, if_pos]
        rw [List.take_set, List.set_eq_of_length_le (by simp; omega), hbe]
        rcases hc with hc | hc <;> rw [hc] at hpay <;> simp at hpay <;> omega
      rw [e9]
      refine open_set ?_
      rw [hty, hpp]
      rcases hc with hc | hc <;> rw [hc] at hpay <;> simp at hpay
      · exact .inl ⟨hc, by omega⟩
      · exact .inr ⟨hc, by omega⟩
  · have e : resB f = set128 (putF f) 5 := if_neg hc
    rw [e]
    exact key _ (set_len _ _) (take_set128 (by decide)) (getD_set128 (by decide)) (getD_set128 (by decide)) h5 (by rw [hp5])
theorem con_refTakeX {b : List UInt8} {most : Int} (hb : b.length ≤ 1000000000) : Con Try.prog 15 [.v (.sl (bs b)), .v (.int .i64 most)] [] 0 (.ret (.tup [.agg [.any, .any, .any, .any, .any, .any, .any, .any, .any, .any, .any, .any], .v (.int .i64 ((takeF b most).n : Int)), .agg (takeF b most).x.cs])) [] :=
  con_weak (con_refTakeF hb) fun X _ => weak_all none trivial .nil (.cons rfl (.tup (.cons (.agg (.cons .any (.cons .any (.cons .any (.cons .any (.cons .any (.cons .any (.cons .any (.cons .any (.cons .any (.cons .any (.cons .any (.cons .any .nil))))))))))))) (.cons (.keep rfl) (.cons (.keep rfl) .nil)))) .nil)
theorem con_FrameReserved {f : Fr} : Con Try.prog 8 [.agg f.cs] [] 0 (.ret (.v (.bool true))) [] := by
  have hlen : putE f = 0 → (putF f).length = 9 + (payL f).length := put_len
  have hmx : putE f = 0 → (payL f).length ≤ 16777215 := fun h => (put_ok h).2.1
  have hbad : ¬ putE f = 0 → (putF f).length = 0 := fun h => by rw [putF_bad h]; rfl
  have hl : (putF f).length ≤ 20000000 := by
    by_cases h : putE f = 0
    · rw [hlen h]; have := hmx h; omega
    · rw [hbad h]; omega
  have hR : putE f = 0 → (takeF (putF f) 16777215).x.is = false → takeF (resB f) 16777215 = ⟨f, (putF f).length, Flt.no⟩ := res_take
  have hrl := res_len f
  have hpay : putE f = 0 → f.ty = 7 ∨ f.ty = 8 → 4 ≤ (payL f).length := fun h hc => by rcases hc with hc | hc <;> simp [payL, hc, putB_length] <;> (try omega)
  have h9 : f.ty = 7 ∨ f.ty = 8 → resB f = set128 (set128 (putF f) 5) 9 := fun h => if_pos h
  have h5 : ¬ (f.ty = 7 ∨ f.ty = 8) → resB f = set128 (putF f) 5 := fun h => if_neg h
  refine con_of Try.func8 rfl (by show _ ≤ 73; simp) fun X Q hP hnt hnp hret hpan => ?_
  obtain ⟨P0, nt0, w0, K0, S0, np0, pin0⟩ := X
  simp only at hP hnt hnp
  subst hP hnp
  obtain rfl : nt0 = 73 := hnt
  refine aw_region fun K1 hK1 => ?_
  refine aL (z_box 0) ?_
  refine aL z_assign ?_
  refine awl_nil (hK1 _ _ ?_)
  clear hK1 K1
  refine aw_seq fun K2 hK2 => ?_
  refine aw_region fun K3 hK3 => ?_
  refine aL (z_call0 .nil en_9 (con_awake)) ?_
  refine aL z_not ?_
  refine awl_nil (hK3 _ _ ?_)
  clear hK3 K3
  refine aC (fun r1 c1 => ?_) (fun r1 c1 => ?_)
  · refine aw_region fun K4 hK4 => ?_
    refine aL z_assign ?_
    refine awl_nil (hK4 _ _ ?_)
    clear hK4 K4
    refine aw_ret ?_
    refine (hret _ _ _ _ _ rfl (.tmp rfl .nil) rfl ?_ .nil rfl).1
    first
      | rfl
      | (exfalso; simp at *; done)
      | (have hs := (sameB_iff f f).2 rfl; simp [hRR, hs, retD, hrl]; done)
  · refine aw_skip ?_
    refine hK2 _ _ ?_
    clear hK2
    refine aw_seq fun K5 hK5 => ?_
    refine aw_region fun K6 hK6 => ?_
    refine aL (z_load sz_24) ?_
    refine aL (z_call0 (eC .nil) en_10 (con_small)) ?_
    refine aL z_not ?_
    refine awl_nil (hK6 _ _ ?_)
    clear hK6 K6
    refine aC (fun r2 c2 => ?_) (fun r2 c2 => ?_)
    · refine aw_region fun K7 hK7 => ?_
      refine aL z_assign ?_
      refine awl_nil (hK7 _ _ ?_)
      clear hK7 K7
      refine aw_ret ?_
      refine (hret _ _ _ _ _ rfl (.tmp rfl .nil) rfl ?_ .nil rfl).1
      first
        | rfl
        | (exfalso; simp at *; done)
        | (have hs := (sameB_iff f f).2 rfl; simp [hRR, hs, retD, hrl]; done)
    · refine aw_skip ?_
      refine hK5 _ _ ?_
      clear hK5
      refine aw_region fun K8 hK8 => ?_
      refine aL (z_load sz_24) ?_
      refine aL (z_callG [50] (eC .nil) en_11 (con_putFrame (f := f) (by simp [smallB] at *; omega) (by simp [smallB] at *; omega)) .nil) ?_
      refine aL z_move ?_
      refine aL z_extract ?_
      refine aL z_extract ?_
      refine aL z_assign ?_
      refine aL z_assign ?_
      refine awl_nil (hK8 _ _ ?_)
      clear hK8 K8
      refine aw_region fun K9 hK9 => ?_
      refine aL z_move ?_
      refine aL (z_callL 50 (eC (eC .nil)) en_15 (con_refTakeX (b := putF f) (by omega))) ?_
      refine aL z_move ?_
      refine aL z_extract ?_
      refine aL z_extract ?_
      refine aL z_extract ?_
      refine aL (z_alloc 1 zc_24 zl_24) ?_
      refine aL (z_alloc 2 zc_33 zl_33) ?_
      refine aL (z_store sz_24) ?_
      refine aL z_assign ?_
      refine aL (z_store sz_33) ?_
      refine awl_nil (hK9 _ _ ?_)
      clear hK9 K9
      refine aw_seq fun K10 hK10 => ?_
      refine aw_region fun K11 hK11 => ?_
      refine aL z_move ?_
      refine aL z_neq ?_
      refine aL z_move ?_
      refine gL rfl rfl (ev_tmp rfl) (fun hg => z_fieldAddr fo_33_0) ?_
      refine gL rfl rfl (ev_tmp rfl) (fun hg => z_load sz_4) ?_
      refine aL z_or ?_
      refine awl_nil (hK11 _ _ ?_)
      clear hK11 K11
      refine aC (fun r3 c3 => ?_) (fun r3 c3 => ?_)
      · refine aw_region fun K12 hK12 => ?_
        refine aL z_assign ?_
        refine awl_nil (hK12 _ _ ?_)
        clear hK12 K12
        refine aw_ret ?_
        refine (hret _ _ _ _ _ rfl (.tmp rfl .nil) rfl ?_ .nil rfl).1
        first
          | rfl
          | (exfalso; simp at *; done)
          | (have hs := (sameB_iff f f).2 rfl; simp [hRR, hs, retD, hrl]; done)
      · refine aw_skip ?_
        refine hK10 _ _ ?_
        clear hK10
        refine aw_region fun K13 hK13 => ?_
        obtain ⟨he, hx⟩ : putE f = 0 ∧ (takeF (putF f) 16777215).x.is = false := by assumption
        have l9 : (putF f).length = 9 + (payL f).length := hlen he
        have hRR := hR he hx
        have g5 : (bs (putF f))[5]? = some [V.int .u8 (((putF f)[5]?.getD 0).toNat : Int)] := bs_get (by rw [List.getElem?_eq_getElem (by omega)]; rfl)
        have o5 := orHi_int ((putF f)[5]?.getD 0)
        refine aL z_move ?_
        refine aL z_move ?_
        refine aL (z_indexAddrV Try.underlying27 sz_5) ?_
        refine aL (z_loadV sz_5) ?_
        refine aL z_bor ?_
        refine aL (z_indexAddrV Try.underlying27 sz_5) ?_
        refine aL (z_storeV sz_5) ?_
        refine awl_nil (hK13 _ _ ?_)
        clear hK13 K13
        refine aw_weak (fr' := [(1, .ptr 0 0), (3, .view 50 0 0 (putF f).length)]) (ah' := [(0, .box f.cs), (50, .row 0 1 5 (bs (set128 (putF f) 5)))]) wK ?_
        refine aw_cut ([(1, .ptr 0 0), (3, .view 50 0 0 (putF f).length)], [(0, .box f.cs), (50, .row 0 1 5 (bs (resB f)))]) (fun K14 hK14 => ?_) ?_
        rotate_left
        focus
          refine aw_region fun K15 hK15 => ?_
          refine awl_weak (fr' := [(1, .ptr 0 0), (3, .v (.sl (bs (resB f))))]) (ah' := [(0, .box f.cs)]) (weak_all (some (50, 0, bs (resB f))) ⟨rfl, _, _, rfl⟩ (.box rfl (.same rfl) .nil) (.cons rfl (.keep rfl) (.cons rfl (.view rfl (cut_is (by simp; omega))) .nil))) ?_
          refine aL z_move ?_
          refine aL (z_call0 (eC (eC .nil)) en_14 (con_frTake (b := resB f) (by omega))) ?_
          refine aL z_move ?_
          refine aL z_extract ?_
          refine aL z_extract ?_
          refine aL z_extract ?_
          refine aL (z_alloc 3 zc_24 zl_24) ?_
          refine aL (z_alloc 4 zc_33 zl_33) ?_
          refine aL (z_store sz_24) ?_
          refine aL z_assign ?_
          refine aL (z_store sz_33) ?_
          refine awl_nil (hK15 _ _ ?_)
          clear hK15 K15
          refine aw_region fun K16 hK16 => ?_
          refine aL (z_load sz_24) ?_
          refine aL (z_load sz_24) ?_
          refine aL (z_call0 (eC (eC .nil)) en_16 (con_Same (f := (takeF (resB f) 16777215).f) (g := f) (by rw [hRR]; simp [smallB] at *; omega))) ?_
          refine aL z_move ?_
          refine gL rfl rfl (ev_tmp rfl) (fun hg => z_move) ?_
          refine gL rfl rfl (ev_tmp rfl) (fun hg => z_move) ?_
          refine gL rfl rfl (ev_tmp rfl) (fun hg => z_lenB Try.underlying27) ?_
          refine gL rfl rfl (ev_tmp rfl) (fun hg => z_eql) ?_
          refine aL z_and ?_
          refine aL z_move ?_
          refine gL rfl rfl (ev_tmp rfl) (fun hg => z_fieldAddr fo_33_0) ?_
          refine gL rfl rfl (ev_tmp rfl) (fun hg => z_load sz_4) ?_
          refine gL rfl rfl (ev_tmp rfl) (fun hg => z_not) ?_
          refine aL z_and ?_
          refine aL z_assign ?_
          refine awl_nil (hK16 _ _ ?_)
          clear hK16 K16
          refine aw_ret ?_
          refine (hret _ _ _ _ _ rfl (.tmp rfl .nil) rfl ?_ .nil rfl).1
          first
            | rfl
            | (exfalso; simp at *; done)
            | (have hs := (sameB_iff f f).2 rfl; simp [hRR, hs, retD, hrl]; done)
        refine aw_region fun K17 hK17 => ?_
        refine aL (z_fieldAddr fo_24_0) ?_
        refine aL (z_load sz_3) ?_
        refine aL z_eql ?_
        refine aL z_move ?_
        refine gL rfl rfl (ev_tmp rfl) (fun hg => z_fieldAddr fo_24_0) ?_
        refine gL rfl rfl (ev_tmp rfl) (fun hg => z_load sz_3) ?_
        refine gL rfl rfl (ev_tmp rfl) (fun hg => z_eql) ?_
        refine aL z_or ?_
        refine awl_nil (hK17 _ _ ?_)
        clear hK17 K17
        refine aC (fun r4 c4 => ?_) (fun r4 c4 => ?_)
        · refine aw_region_last ?_
          have g9 : (bs (set128 (putF f) 5))[9]? = some [V.int .u8 (((set128 (putF f) 5)[9]?.getD 0).toNat : Int)] := bs_get (by rw [List.getElem?_eq_getElem (by rw [set_len]; have := hpay he (by assumption); omega)]; rfl)
          have o9 := orHi_int ((set128 (putF f) 5)[9]?.getD 0)
          refine aL z_move ?_
          refine aL z_move ?_
          refine aL (z_indexAddrV Try.underlying27 sz_5) ?_
          refine aL (z_loadV sz_5) ?_
          refine aL z_bor ?_
          refine aL (z_indexAddrV Try.underlying27 sz_5) ?_
          refine aL (z_storeV sz_5) ?_
          refine awl_nil ?_
          refine hK14 _ _ ?_
          first
            | (rw [h9 (by omega)]; exact wK)
            | (rw [h5 (by omega)]; exact wK)
        · refine aw_skip ?_
          refine hK14 _ _ ?_
          first
            | (rw [h9 (by omega)]; exact wK)
            | (rw [h5 (by omega)]; exact wK)
end Go.Proofs.Ytlfkgbcclinnbaa
