/- Layer 6: contracts of the document's May. No condition. -/
import Derived.Test.YtigodfnckjidoaaCgA
namespace Go.Proofs.Ytigodfnckjidoaa
set_option linter.all false
open Go Go.RowKit

theorem refHas (fl k : Int) (f : Fr) (A : Option Addr) (c : Nat) (hf : f.fl = fl) (h0 : 0 ≤ fl) (h1 : fl ≤ 255) (k0 : 1 ≤ k) (k1 : k ≤ 255) (w : World) :
    Calls Try.prog 33 #[f.v A c, I k] w fun e w' => e = .returned (.bool (bitB fl k)) ∧ Below w.heap.size w w' := by
  obtain ⟨ty, fl', st, data, pad, sets, code, last, inc, dep, wt, sole⟩ := f
  dsimp only at hf
  subst hf
  have hd : fl'.tdiv k = fl' / k := Int.tdiv_eq_ediv_of_nonneg h0
  have hq0 : 0 ≤ fl' / k := Int.ediv_nonneg h0 (by omega)
  have hq1 : fl' / k ≤ 255 := Int.le_trans (Int.ediv_le_self _ h0) h1
  have hm : (fl' / k).tmod 2 = fl' / k % 2 := Int.tmod_eq_emod_of_nonneg hq0
  have Hb : Hid (bitB fl' k = decide (fl' / k % 2 = 1)) := Lib.hid rfl
  obtain ⟨q, hq⟩ : ∃ q, fl' / k = q := ⟨_, rfl⟩
  rw [hq] at hd hq0 hq1 hm
  have Hq := Lib.hid hq
  clear hq
  have hk : (k == 0) = false := by simp; omega
  by_cases h : q % 2 = 1
  · have Hf : Hid (bitB fl' k = true) := Lib.hid (by rw [Hb.out, Hq.out]; simpa using h)
    go_enter Try.func33, Try.ntmps33
    go_wp2
    go_ret
    exact ⟨ret_bool (by first | (rw [Hf.out]; done) | (rw [Hf.out]; simp [h])), (Below.refl _ _).alloc (Nat.le_refl _) _⟩
  · have Hf : Hid (bitB fl' k = false) := Lib.hid (by rw [Hb.out, Hq.out]; simpa using h)
    go_enter Try.func33, Try.ntmps33
    go_wp2
    go_ret
    exact ⟨ret_bool (by first | (rw [Hf.out]; done) | (rw [Hf.out]; simp [h])), (Below.refl _ _).alloc (Nat.le_refl _) _⟩
theorem refhas (t fl o k : Int) (h0 : 0 ≤ fl) (h1 : fl ≤ 255) (k0 : 1 ≤ k) (k1 : k ≤ 255) (w : World) :
    Calls Try.prog 32 #[I t, I fl, I o, I k] w fun e w' => e = .returned (.bool (decide (t = o) && bitB fl k)) ∧ w = w' := by
  have hd : fl.tdiv k = fl / k := Int.tdiv_eq_ediv_of_nonneg h0
  have hq0 : 0 ≤ fl / k := Int.ediv_nonneg h0 (by omega)
  have hq1 : fl / k ≤ 255 := Int.le_trans (Int.ediv_le_self _ h0) h1
  have hm : (fl / k).tmod 2 = fl / k % 2 := Int.tmod_eq_emod_of_nonneg hq0
  have Hb : Hid (bitB fl k = decide (fl / k % 2 = 1)) := Lib.hid rfl
  obtain ⟨q, hq⟩ : ∃ q, fl / k = q := ⟨_, rfl⟩
  rw [hq] at hd hq0 hq1 hm
  have Hq := Lib.hid hq
  clear hq
  have hk : (k == 0) = false := by simp; omega
  by_cases ht : t = o
  · subst ht
    by_cases h : q % 2 = 1
    · have Hf : Hid (bitB fl k = true) := Lib.hid (by rw [Hb.out, Hq.out]; simpa using h)
      go_enter Try.func32, Try.ntmps32
      go_wp2
      go_ret
      exact ⟨ret_bool (by first | (rw [Hf.out]; done) | (rw [Hf.out]; simp [h])), rfl⟩
    · have Hf : Hid (bitB fl k = false) := Lib.hid (by rw [Hb.out, Hq.out]; simpa using h)
      go_enter Try.func32, Try.ntmps32
      go_wp2
      go_ret
      exact ⟨ret_bool (by first | (rw [Hf.out]; done) | (rw [Hf.out]; simp [h])), rfl⟩
  · go_enter Try.func32, Try.ntmps32
    go_wp2
    go_ret
    exact ⟨ret_bool (by simp [ht]), rfl⟩
def Fr.scal (f : Fr) : Prop := 0 ≤ f.ty ∧ f.ty ≤ 255 ∧ 0 ≤ f.fl ∧ f.fl ≤ 255 ∧ 0 ≤ f.pad ∧ f.pad ≤ 255 ∧ 0 ≤ f.wt ∧ f.wt ≤ 255 ∧ 0 ≤ f.st ∧ f.st ≤ 2147483647 ∧ 0 ≤ f.last ∧ f.last ≤ 2147483647 ∧ 0 ≤ f.dep ∧ f.dep ≤ 2147483647 ∧ 0 ≤ f.inc ∧ f.inc ≤ 2147483647
theorem ranges_iff (f : Fr) : rangesB f = true ↔ f.scal ∧ setsB f.sets = true ∧ inB f.code 4294967295 = true := by
  simp only [rangesB, inB, Fr.scal, Bool.and_eq_true, decide_eq_true_eq]
  constructor
  · rintro ⟨⟨⟨⟨⟨⟨⟨⟨⟨⟨a1, a2⟩, b1, b2⟩, c1, c2⟩, d1, d2⟩, e1, e2⟩, f1, f2⟩, g1, g2⟩, h1, h2⟩, i⟩, j1, j2⟩
    exact ⟨⟨a1, a2, b1, b2, c1, c2, d1, d2, e1, e2, f1, f2, g1, g2, h1, h2⟩, i, j1, j2⟩
  · rintro ⟨⟨a1, a2, b1, b2, c1, c2, d1, d2, e1, e2, f1, f2, g1, g2, h1, h2⟩, i, j1, j2⟩
    exact ⟨⟨⟨⟨⟨⟨⟨⟨⟨⟨a1, a2⟩, b1, b2⟩, c1, c2⟩, d1, d2⟩, e1, e2⟩, f1, f2⟩, g1, g2⟩, h1, h2⟩, i⟩, j1, j2⟩
set_option maxRecDepth 100000 in
set_option maxHeartbeats 3200000 in
theorem ranges_no (f : Fr) (A : Option Addr) (c : Nat) (hs : ¬ f.scal) (w : World) :
    Calls Try.prog 31 #[f.v A c] w fun e w' => e = .returned (.bool false) ∧ Below w.heap.size w w' := by
  obtain ⟨ty, fl, st, data, pad, sets, code, last, inc, dep, wt, sole⟩ := f
  have Hs := Lib.hid hs
  clear hs
  by_cases g : 0 ≤ ty ∧ ty ≤ 255 ∧ 0 ≤ fl ∧ fl ≤ 255 ∧ 0 ≤ pad ∧ pad ≤ 255 ∧ 0 ≤ wt ∧ wt ≤ 255
  · have g2 : ¬ (0 ≤ st ∧ st ≤ 2147483647 ∧ 0 ≤ last ∧ last ≤ 2147483647 ∧ 0 ≤ dep ∧ dep ≤ 2147483647 ∧ 0 ≤ inc ∧ inc ≤ 2147483647) := fun h => Hs.out (by unfold Fr.scal; dsimp only; omega)
    clear Hs
    have G2 := Lib.hid g2
    clear g2
    obtain ⟨g1, g2, g3, g4, g5, g6, g7, g8⟩ := g
    go_enter Try.func31, Try.ntmps31
    go_wp2
    all_goals first
      | (exfalso; have h := G2.out; omega)
      | (go_ret; exact ⟨rfl, (Below.refl _ _).alloc (Nat.le_refl _) _⟩)
  · have G := Lib.hid g
    clear g Hs
    go_enter Try.func31, Try.ntmps31
    go_upto_region 3 with fail
    all_goals first
      | (exfalso; have h := G.out; omega)
      | (go_wp2; go_ret; exact ⟨rfl, (Below.refl _ _).alloc (Nat.le_refl _) _⟩)
set_option maxRecDepth 100000 in
set_option maxHeartbeats 3200000 in
theorem ranges_yes (f : Fr) (A : Option Addr) (c : Nat) (hs : f.scal) (hn : f.sets.length ≤ 1000000) (w : World) (hr : RdC w w.heap.size A (setC f.sets)) :
    Calls Try.prog 31 #[f.v A c] w fun e w' => e = .returned (.bool (rangesB f)) ∧ Below w.heap.size w w' := by
  have hwh : Whole (w.alloc (.cells (f.cells A c).toArray 40)) w.heap.size 40 (f.cells A c) := Whole.new w _ _
  have hbel : Below w.heap.size w (w.alloc (.cells (f.cells A c).toArray 40)) := (Below.refl _ _).alloc (Nat.le_refl _) _
  have hsz : (w.alloc (.cells (f.cells A c).toArray 40)).heap.size = w.heap.size + 1 := by simp
  have HM : Hid (rangesB f = (setsB f.sets && inB f.code 4294967295)) := Lib.hid (by
    rw [Bool.eq_iff_iff, ranges_iff]; simp [hs])
  obtain ⟨ty, fl, st, data, pad, sets, code, last, inc, dep, wt, sole⟩ := f
  unfold Fr.scal at hs
  dsimp only at *
  obtain ⟨a1, a2, a3, a4, a5, a6, a7, a8, a9, a10, a11, a12, a13, a14, a15, a16⟩ := hs
  go_enter Try.func31, Try.ntmps31
  go_wp2_with fail
  generalize w.alloc (.cells #[I ty, I fl, I st, .string (S data), I pad, .slice A sets.length c, I code, I last, I inc, I dep, I wt, .bool sole] 40) = wb at hwh hbel hsz ⊢
  clear a1 a2 a3 a4 a5 a6 a7 a8 a9 a10 a11 a12 a13 a14 a15 a16
  have HB : Hid (∀ wx, Below (w.heap.size + 1) wb wx → wx.cell? ⟨w.heap.size, 5, none⟩ = some (.slice A sets.length c) ∧ wx.cell? ⟨w.heap.size, 6, none⟩ = some (I code)) :=
    Lib.hid fun wx h => have h := hwh.keep h (by omega); ⟨h.at_ 5, h.at_ 6⟩
  have HZ : Hid (wb.heap.size = w.heap.size + 1) := Lib.hid hsz
  have HR : Hid (∀ k (h : k < sets.length), ∃ a b g o, sets[k] = (a, b) ∧ A = some ⟨g, o, none⟩ ∧ ∀ wx, Below (w.heap.size + 1) wb wx → wx.cell? ⟨g, o + k * 2, none⟩ = some (I a) ∧ wx.cell? ⟨g, o + k * 2 + 1, none⟩ = some (I b)) := Lib.hid fun k hk => by
    obtain ⟨g, o, e, hg, h2, h3⟩ := hr.set k hk
    refine ⟨sets[k].1, sets[k].2, g, o, rfl, e, fun wx hb => ?_⟩
    have hb' : Below w.heap.size w wx := hbel.trans (hb.mono (by omega))
    exact ⟨(hb'.cell (p := ⟨g, o + k * 2, none⟩) hg).trans h2, (hb'.cell (p := ⟨g, o + k * 2 + 1, none⟩) hg).trans h3⟩
  clear hwh hsz hr
  go_loopw [3] (fun k wr => ∃ j : Nat, k = I j ∧ j ≤ sets.length ∧ Hid (∀ i (h : i < j) (h' : i < sets.length), (inB sets[i].1 65535 && inB sets[i].2 4294967295) = true) ∧ Below (w.heap.size + 1) wb wr) (fun k _ => sets.length - (intOf k).toNat)
  case atStart => exact ⟨0, rfl, Nat.zero_le _, Lib.hid (fun i h => by omega), Below.refl _ _⟩
  case round =>
    obtain ⟨j, rfl, hj, hok, hb⟩ := hrel
    obtain ⟨c5, c6⟩ := HB.out wr hb
    have hsl : Hid (w.heap.size + 1 ≤ wr.heap.size) := Lib.hid (by have := hb.size; have := HZ.out; omega)
    by_cases hlt : j < sets.length
    · obtain ⟨a, b, g, o, he, rfl, hc⟩ := HR.out j hlt
      obtain ⟨ca, cb⟩ := hc _ hb
      have He := Lib.hid he
      have hbad : ¬ (0 ≤ a ∧ a ≤ 65535 ∧ 0 ≤ b ∧ b ≤ 4294967295) → Hid (rangesB ⟨ty, fl, st, data, pad, sets, code, last, inc, dep, wt, sole⟩ = false) := fun h => Lib.hid (by
        have : setsB sets = false := by
          unfold setsB
          rw [List.all_eq_false]
          refine ⟨sets[j], List.getElem_mem _, ?_⟩
          rw [he]
          simp only [inB, Bool.and_eq_true, decide_eq_true_eq]
          omega
        rw [HM.out, this]; rfl)
      clear hc he
      by_cases hg : 0 ≤ a ∧ a ≤ 65535 ∧ 0 ≤ b ∧ b ≤ 4294967295
      · obtain ⟨g1, g2, g3, g4⟩ := hg
        have Hn : Hid (∀ i (h : i < j + 1) (h' : i < sets.length), (inB sets[i].1 65535 && inB sets[i].2 4294967295) = true) := Lib.hid (fun i h h' => by
          rcases (by omega : i < j ∨ i = j) with h1 | rfl
          · exact hok.out i h1 h'
          · rw [He.out]; simp [inB]; omega)
        clear hbad
        go_wp2
        go_roundw
        case rel => exact ⟨j + 1, by go_num, by omega, Hn, hb.alloc hsl.out _⟩
        case measure => simp [intOf]; omega
      · have Hf := hbad hg
        have G := Lib.hid hg
        clear hbad hg
        have HBl := Lib.hid (hbel.trans ((hb.alloc hsl.out (.cells #[I a, I b] 70)).mono (by omega)))
        go_upto_region 7 with fail
        all_goals first
          | (exfalso; have h := G.out; omega)
          | (go_wp2; go_ret; exact ⟨ret_bool Hf.out.symm, HBl.out⟩)
    · have hset : setsB sets = true := by
        unfold setsB
        rw [List.all_eq_true]
        intro x hx
        obtain ⟨i, hi, rfl⟩ := List.getElem_of_mem hx
        exact hok.out i (by omega) hi
      have HM2 : Hid (rangesB ⟨ty, fl, st, data, pad, sets, code, last, inc, dep, wt, sole⟩ = inB code 4294967295) := Lib.hid (by rw [HM.out, hset, Bool.true_and])
      clear HM hset hok
      have HBl := Lib.hid (hbel.trans (hb.mono (by omega)))
      go_wp2
      all_goals
        go_ret
        exact ⟨ret_bool (by rw [HM2.out]; unfold inB; first | (simp [*]; done) | (simp [*]; omega)), HBl.out⟩
theorem refRanges (f : Fr) (A : Option Addr) (c : Nat) (hn : f.sets.length ≤ 1000000) (w : World) (hr : RdC w w.heap.size A (setC f.sets)) :
    Calls Try.prog 31 #[f.v A c] w fun e w' => e = .returned (.bool (rangesB f)) ∧ Below w.heap.size w w' := by
  by_cases hs : f.scal
  · exact ranges_yes f A c hs hn w hr
  · have : rangesB f = false := by
      cases h : rangesB f with
      | false => rfl
      | true => exact absurd ((ranges_iff f).1 h).1 hs
    rw [this]
    exact ranges_no f A c hs w
end Go.Proofs.Ytigodfnckjidoaa
