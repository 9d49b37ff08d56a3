/- Layer 6: contracts of the program's payload, may and Put. No condition. -/
import Derived.Test.YtlfkgbcclinnbaaFr3
import Derived.Test.YtlfkgbcclinnbaaFr4
namespace Go.Proofs.Ytlfkgbcclinnbaa
set_option linter.all false
open Go Go.RowKit

theorem may_facts (f : Fr) (h : rangesB f = true) : 0 ≤ f.ty ∧ f.ty ≤ 255 ∧ 0 ≤ f.fl ∧ f.fl ≤ 255 ∧ 0 ≤ f.pad ∧ f.pad ≤ 255 ∧ 0 ≤ f.wt ∧ f.wt ≤ 255 ∧ 0 ≤ f.st ∧ f.st ≤ 2147483647 ∧ 0 ≤ f.last ∧ f.last ≤ 2147483647 ∧ 0 ≤ f.dep ∧ f.dep ≤ 2147483647 ∧ 0 ≤ f.inc ∧ f.inc ≤ 2147483647 ∧ setsB f.sets = true ∧ 0 ≤ f.code ∧ f.code ≤ 4294967295 := by
  simp only [rangesB, inB, Bool.and_eq_true, decide_eq_true_eq] at h
  obtain ⟨⟨⟨⟨⟨⟨⟨⟨⟨⟨a1, a2⟩, b1, b2⟩, c1, c2⟩, d1, d2⟩, e1, e2⟩, f1, f2⟩, g1, g2⟩, h1, h2⟩, i⟩, j1, j2⟩ := h
  exact ⟨a1, a2, b1, b2, c1, c2, d1, d2, e1, e2, f1, f2, g1, g2, h1, h2, i, j1, j2⟩
theorem pay_any (f : Fr) (A : Option Addr) (c : Nat) (hm : rangesB f = true) (hd : f.data.length ≤ 1000000) (hn : f.sets.length ≤ 1000000) (w : World) (hr : RdC w w.heap.size A (setC f.sets)) :
    Calls Try.prog 18 #[f.v A c] w fun e w' => (∃ v, e = .returned v ∧ Own w' w.heap.size 5 v (payL f)) ∧ Below w.heap.size w w' := by
  obtain ⟨-, -, f0, f1, p0, p1, t0, t1, -, -, l0, l1, d0, d1, i0, i1, hs, c0, c1⟩ := may_facts f hm
  obtain ⟨b8, b32, -⟩ := bit_of f.fl f0 f1
  obtain ⟨ty, fl, st, data, pad, sets, code, last, inc, dep, wt, sole⟩ := f
  dsimp only at *
  by_cases h0 : ty = 0
  · subst h0
    cases e8 : bitB fl 8 <;> rw [e8] at b8 <;> simp only [if_true, if_false, Bool.false_eq_true] at b8
    · exact pay_d000 fl st data pad sets code last inc dep wt sole A c p0 p1 hd b8 e8 w
    · exact pay_d010 fl st data pad sets code last inc dep wt sole A c p0 p1 hd b8 e8 w
  by_cases h1 : ty = 1
  · subst h1
    cases e8 : bitB fl 8 <;> cases e32 : bitB fl 32 <;> rw [e8] at b8 <;> rw [e32] at b32 <;> simp only [if_true, if_false, Bool.false_eq_true] at b8 b32
    · exact pay_d100 fl st data pad sets code last inc dep wt sole A c p0 p1 hd b8 e8 b32 e32 w
    · exact pay_d101 fl st data pad sets code last inc dep wt sole A c p0 p1 hd b8 e8 b32 e32 d0 d1 t0 t1 w
    · exact pay_d110 fl st data pad sets code last inc dep wt sole A c p0 p1 hd b8 e8 b32 e32 w
    · exact pay_d111 fl st data pad sets code last inc dep wt sole A c p0 p1 hd b8 e8 b32 e32 d0 d1 t0 t1 w
  by_cases h2 : ty = 2
  · subst h2; exact pay_2 fl st data pad sets code last inc dep wt sole A c d0 d1 t0 t1 w
  by_cases h3 : ty = 3
  · subst h3; exact pay_3 fl st data pad sets code last inc dep wt sole A c c0 c1 w
  by_cases h4 : ty = 4
  · subst h4; exact pay_4 fl st data pad sets code last inc dep wt sole A c hn hs w hr
  by_cases h7 : ty = 7
  · subst h7; exact pay_7 fl st data pad sets code last inc dep wt sole A c hd l0 (by omega) c0 c1 w
  by_cases h8 : ty = 8
  · subst h8; exact pay_8 fl st data pad sets code last inc dep wt sole A c i0 (by omega) w
  exact pay_z ty fl st data pad sets code last inc dep wt sole A c hd h0 h1 h2 h3 h4 h7 h8 w
theorem within1 (most a : Int) (w : World) (g : Nat) (hg : g = w.heap.size) :
    Calls Try.prog 36 #[I most, .slice (some ⟨g, 0, none⟩) 1 1] (w.alloc (.cells #[I a] 2)) fun e w' => e = .returned (.bool (inB a most)) ∧ w.alloc (.cells #[I a] 2) = w' := by
  subst hg
  have := within_any most [a] (some ⟨w.heap.size, 0, none⟩) 1 (by simp) (w.alloc (.cells #[I a] 2)) (w.heap.size + 1) (RdC.new w _ [I a] (by omega))
  simpa using this
theorem within4 (most a b c d : Int) (w : World) (g : Nat) (hg : g = w.heap.size) :
    Calls Try.prog 36 #[I most, .slice (some ⟨g, 0, none⟩) 4 4] (w.alloc (.cells #[I a, I b, I c, I d] 2)) fun e w' => e = .returned (.bool (inB a most && inB b most && inB c most && inB d most)) ∧ w.alloc (.cells #[I a, I b, I c, I d] 2) = w' := by
  subst hg
  have := within_any most [a, b, c, d] (some ⟨w.heap.size, 0, none⟩) 4 (by simp) (w.alloc (.cells #[I a, I b, I c, I d] 2)) (w.heap.size + 1) (RdC.new w _ [I a, I b, I c, I d] (by omega))
  simpa [Bool.and_assoc] using this
set_option maxRecDepth 100000 in
set_option maxHeartbeats 3200000 in
theorem may_any (f : Fr) (A : Option Addr) (c : Nat) (hd : f.data.length ≤ 1000000) (hn : f.sets.length ≤ 1000000) (w : World) (hr : RdC w w.heap.size A (setC f.sets)) :
    Calls Try.prog 17 #[f.v A c] w fun e w' => e = .returned (.bool (mayB f)) ∧ Below w.heap.size w w' := by
  have hwh : Whole (w.alloc (.cells (f.cells A c).toArray 24)) w.heap.size 24 (f.cells A c) := Whole.new w _ _
  have hbel : Below w.heap.size w (w.alloc (.cells (f.cells A c).toArray 24)) := (Below.refl _ _).alloc (Nat.le_refl _) _
  have hsz : (w.alloc (.cells (f.cells A c).toArray 24)).heap.size = w.heap.size + 1 := by simp
  have hmay : mayB f = (rangesB f && emptyB (bareM f)) := by rw [empty_bare]; rfl
  have BA := Lib.hid (fun h0 h1 wx => bare_any f A c h0 h1 wx)
  have EA : Hid (∀ wx, Calls Try.prog 37 #[(bareM f).v (nilA f A) (nilC f c)] wx fun e w' => e = .returned (.bool (emptyB (bareM f))) ∧ Below wx.heap.size wx w') := Lib.hid (fun wx => empty_any (bareM f) _ _ (by
    have : (bareM f).data.length ≤ f.data.length := by unfold bareM; split <;> (try split) <;> (try split) <;> (try split) <;> (try split) <;> (try split) <;> (try split) <;> simp
    omega) (by
    have : (bareM f).sets.length ≤ f.sets.length := by unfold bareM; split <;> (try split) <;> (try split) <;> (try split) <;> (try split) <;> (try split) <;> (try split) <;> simp
    omega) wx)
  have HM : Hid (mayB f = (setsB f.sets && (inB f.ty 255 && inB f.fl 255 && inB f.pad 255 && inB f.wt 255) && (inB f.st 2147483647 && inB f.last 2147483647 && inB f.dep 2147483647 && inB f.inc 2147483647) && inB f.code 4294967295 && emptyB (bareM f))) := Lib.hid (by
    rw [hmay]; unfold rangesB; rw [Bool.eq_iff_iff]; simp only [Bool.and_eq_true]
    constructor
    · rintro ⟨⟨⟨⟨⟨⟨⟨⟨⟨⟨a, b⟩, c⟩, d⟩, e⟩, f⟩, g⟩, h⟩, i⟩, j⟩, k⟩
      exact ⟨⟨⟨⟨i, ⟨⟨a, b⟩, c⟩, d⟩, ⟨⟨e, f⟩, g⟩, h⟩, j⟩, k⟩
    · rintro ⟨⟨⟨⟨i, ⟨⟨a, b⟩, c⟩, d⟩, ⟨⟨e, f⟩, g⟩, h⟩, j⟩, k⟩
      exact ⟨⟨⟨⟨⟨⟨⟨⟨⟨⟨a, b⟩, c⟩, d⟩, e⟩, f⟩, g⟩, h⟩, i⟩, j⟩, k⟩)
  clear hmay
  generalize emptyB (bareM f) = eb at EA HM
  generalize (bareM f).v (nilA f A) (nilC f c) = bv at EA BA
  obtain ⟨ty, fl, st, data, pad, sets, code, last, inc, dep, wt, sole⟩ := f
  dsimp only at *
  go_enter Try.func17, Try.ntmps17
  go_wp2_with fail
  generalize w.alloc (.cells #[I ty, I fl, I st, .string (S data), I pad, .slice A sets.length c, I code, I last, I inc, I dep, I wt, .bool sole] 24) = wb at hwh hbel hsz ⊢
  have HB : Hid (∀ wx, Below (w.heap.size + 1) wb wx → wx.cell? ⟨w.heap.size, 0, none⟩ = some (I ty) ∧ wx.cell? ⟨w.heap.size, 1, none⟩ = some (I fl) ∧ wx.cell? ⟨w.heap.size, 2, none⟩ = some (I st) ∧ wx.cell? ⟨w.heap.size, 3, none⟩ = some (.string (S data)) ∧ wx.cell? ⟨w.heap.size, 4, none⟩ = some (I pad) ∧ wx.cell? ⟨w.heap.size, 5, none⟩ = some (.slice A sets.length c) ∧ wx.cell? ⟨w.heap.size, 6, none⟩ = some (I code) ∧ wx.cell? ⟨w.heap.size, 7, none⟩ = some (I last) ∧ wx.cell? ⟨w.heap.size, 8, none⟩ = some (I inc) ∧ wx.cell? ⟨w.heap.size, 9, none⟩ = some (I dep) ∧ wx.cell? ⟨w.heap.size, 10, none⟩ = some (I wt) ∧ wx.cell? ⟨w.heap.size, 11, none⟩ = some (.bool sole)) :=
    Lib.hid fun wx h => have h := hwh.keep h (by omega); ⟨h.at_ 0, h.at_ 1, h.at_ 2, h.at_ 3, h.at_ 4, h.at_ 5, h.at_ 6, h.at_ 7, h.at_ 8, h.at_ 9, h.at_ 10, h.at_ 11⟩
  have HZ : Hid (wb.heap.size = w.heap.size + 1) := Lib.hid hsz
  have HR : Hid (∀ k (h : k < sets.length), ∃ a b g o, sets[k] = (a, b) ∧ A = some ⟨g, o, none⟩ ∧ ∀ wx, Below (w.heap.size + 1) wb wx → wx.cell? ⟨g, o + k * 2, none⟩ = some (I a) ∧ wx.cell? ⟨g, o + k * 2 + 1, none⟩ = some (I b)) := Lib.hid fun k hk => by
    obtain ⟨g, o, e, hg, h2, h3⟩ := hr.set k hk
    refine ⟨sets[k].1, sets[k].2, g, o, rfl, e, fun wx hb => ?_⟩
    have hb' : Below w.heap.size w wx := hbel.trans (hb.mono (by omega))
    exact ⟨(hb'.cell (p := ⟨g, o + k * 2, none⟩) hg).trans h2, (hb'.cell (p := ⟨g, o + k * 2 + 1, none⟩) hg).trans h3⟩
  clear hwh hsz hr
  go_loopw [8] (fun k wr => ∃ j : Nat, k = I j ∧ j ≤ sets.length ∧ Hid (∀ i (h : i < j) (h' : i < sets.length), (inB sets[i].1 65535 && inB sets[i].2 4294967295) = true) ∧ Below (w.heap.size + 1) wb wr) (fun k _ => sets.length - (intOf k).toNat)
  case atStart => exact ⟨0, rfl, Nat.zero_le _, Lib.hid (fun i h => by omega), Below.refl _ _⟩
  case round =>
    obtain ⟨j, rfl, hj, hok, hb⟩ := hrel
    by_cases hlt : j < sets.length
    · obtain ⟨a, b, g, o, he, rfl, hc⟩ := HR.out j hlt
      obtain ⟨ca, cb⟩ := hc _ hb
      have He := Lib.hid he
      have hsl : Hid (w.heap.size + 1 ≤ wr.heap.size) := Lib.hid (by have := hb.size; have := HZ.out; omega)
      have hbad : (inB a 65535 && inB b 4294967295) = false → Hid (mayB ⟨ty, fl, st, data, pad, sets, code, last, inc, dep, wt, sole⟩ = false) := fun h => Lib.hid (by
        have : setsB sets = false := by
          unfold setsB
          rw [List.all_eq_false]
          exact ⟨sets[j], List.getElem_mem _, by rw [he]; simpa using h⟩
        rw [HM.out, this]; rfl)
      clear hc he
      cases e1 : inB a 65535
      · have Hf := hbad (by rw [e1]; rfl)
        clear hbad
        go_wp2_with (go_at_call 36; refine (within1 _ _ _ _ (by simp)).mono ?_; rintro e w' ⟨rfl, rfl⟩; simp only [e1])
        go_ret
        exact ⟨ret_bool Hf.out.symm, hbel.trans ((((hb.alloc hsl.out _).alloc (by have := hsl.out; simp; omega) _)).mono (by omega))⟩
      · cases e2 : inB b 4294967295
        · have Hf := hbad (by rw [e1, e2]; rfl)
          clear hbad
          go_wp2_with (go_at_call 36; refine (within1 _ _ _ _ (by simp)).mono ?_; rintro e w' ⟨rfl, rfl⟩; simp only [e1, e2])
          go_ret
          exact ⟨ret_bool Hf.out.symm, hbel.trans ((((hb.alloc hsl.out _).alloc (by have := hsl.out; simp; omega) _).alloc (by have := hsl.out; simp; omega) _).mono (by omega))⟩
        · have Hn : Hid (∀ i (h : i < j + 1) (h' : i < sets.length), (inB sets[i].1 65535 && inB sets[i].2 4294967295) = true) := Lib.hid (fun i h h' => by
            rcases (by omega : i < j ∨ i = j) with h1 | rfl
            · exact hok.out i h1 h'
            · rw [He.out]; simp [e1, e2])
          clear hbad
          go_wp2_with (go_at_call 36; refine (within1 _ _ _ _ (by simp)).mono ?_; rintro e w' ⟨rfl, rfl⟩; simp only [e1, e2])
          go_roundw
          case rel => exact ⟨j + 1, by go_num, by omega, Hn, ((hb.alloc hsl.out _).alloc (by have := hsl.out; simp; omega) _).alloc (by have := hsl.out; simp; omega) _⟩
          case measure => simp [intOf]; omega
    · have hsl : Hid (w.heap.size + 1 ≤ wr.heap.size) := Lib.hid (by have := hb.size; have := HZ.out; omega)
      have hset : setsB sets = true := by
        unfold setsB
        rw [List.all_eq_true]
        intro x hx
        obtain ⟨i, hi, rfl⟩ := List.getElem_of_mem hx
        exact hok.out i (by omega) hi
      have HM2 : Hid (mayB ⟨ty, fl, st, data, pad, sets, code, last, inc, dep, wt, sole⟩ = ((inB ty 255 && inB fl 255 && inB pad 255 && inB wt 255) && (inB st 2147483647 && inB last 2147483647 && inB dep 2147483647 && inB inc 2147483647) && inB code 4294967295 && eb)) := Lib.hid (by rw [HM.out, hset, Bool.true_and])
      have hfl : (inB ty 255 && inB fl 255 && inB pad 255 && inB wt 255) = true → Hid (0 ≤ fl ∧ fl ≤ 255) := fun h => Lib.hid (by simp only [Bool.and_eq_true, inB, decide_eq_true_eq] at h; exact h.1.1.2)
      clear HM hset hok
      obtain ⟨c0, c1, c2, c3, c4, c5, c6, c7, c8, c9, c10, c11⟩ := HB.out wr hb
      have HS := hsl.out
      have W1 : Hid (∀ x y z : Bool, Below (w.heap.size + 1) wb (wr.alloc (.cells #[I ty, I fl, I pad, I wt] 2))) := Lib.hid (fun _ _ _ => hb.alloc HS _)
      have hb1 := hb.alloc HS (.cells #[I ty, I fl, I pad, I wt] 2)
      have hb2 := hb1.alloc (by simp; omega) (.cells #[I st, I last, I dep, I inc] 2)
      have hb3 := hb2.alloc (by simp; omega) (.cells #[I code] 2)
      obtain ⟨-, -, d2, -, -, -, -, d7, d8, d9, -, -⟩ := HB.out _ hb1
      obtain ⟨-, -, -, -, -, -, f6, -, -, -, -, -⟩ := HB.out _ hb2
      obtain ⟨g0, g1, g2, g3, g4, g5, g6, g7, g8, g9, g10, g11⟩ := HB.out _ hb3
      clear HS W1
      cases e1 : (inB ty 255 && inB fl 255 && inB pad 255 && inB wt 255)
      · have Hf : Hid (mayB ⟨ty, fl, st, data, pad, sets, code, last, inc, dep, wt, sole⟩ = false) := Lib.hid (by rw [HM2.out, e1]; rfl)
        go_wp2_with (go_at_call 36; refine (within4 _ _ _ _ _ _ _ (by simp)).mono ?_; rintro e w' ⟨rfl, rfl⟩; simp only [e1])
        go_ret
        exact ⟨ret_bool Hf.out.symm, hbel.trans (hb1.mono (by omega))⟩
      have hfl2 := (hfl e1).out
      cases e2 : (inB st 2147483647 && inB last 2147483647 && inB dep 2147483647 && inB inc 2147483647)
      · have Hf : Hid (mayB ⟨ty, fl, st, data, pad, sets, code, last, inc, dep, wt, sole⟩ = false) := Lib.hid (by rw [HM2.out, e1, e2]; rfl)
        go_wp2_with (go_at_call 36; refine (within4 _ _ _ _ _ _ _ (by simp)).mono ?_; rintro e w' ⟨rfl, rfl⟩; simp only [e1, e2])
        go_ret
        exact ⟨ret_bool Hf.out.symm, hbel.trans (hb2.mono (by omega))⟩
      cases e3 : inB code 4294967295
      · have Hf : Hid (mayB ⟨ty, fl, st, data, pad, sets, code, last, inc, dep, wt, sole⟩ = false) := Lib.hid (by rw [HM2.out, e1, e2, e3]; rfl)
        go_wp2_with (go_at_call 36; first | ((with_reducible refine (within4 _ _ _ _ _ _ _ (by simp)).mono ?_); rintro e w' ⟨rfl, rfl⟩; simp only [e1, e2]) | (refine (within1 _ _ _ _ (by simp)).mono ?_; rintro e w' ⟨rfl, rfl⟩; simp only [e3]))
        go_ret
        exact ⟨ret_bool Hf.out.symm, hbel.trans (hb3.mono (by omega))⟩
      · have Hf : Hid (mayB ⟨ty, fl, st, data, pad, sets, code, last, inc, dep, wt, sole⟩ = eb) := Lib.hid (by rw [HM2.out, e1, e2, e3]; rfl)
        have BB := Lib.hid (fun wx => BA.out hfl2.1 hfl2.2 wx)
        clear hfl hfl2 HM2 BA
        go_wp2_with (go_at_call 36; first | ((with_reducible refine (within4 _ _ _ _ _ _ _ (by simp)).mono ?_); rintro e w' ⟨rfl, rfl⟩; simp only [e1, e2]) | (refine (within1 _ _ _ _ (by simp)).mono ?_; rintro e w' ⟨rfl, rfl⟩; simp only [e3]))
        refine (BB.out _).mono ?_; rintro e w2 ⟨rfl, hb4⟩
        have hb5 := hb3.trans (hb4.mono (by have := hb3.size; have := HZ.out; omega))
        clear hb4
        go_wp2_with fail
        refine (EA.out _).mono ?_; rintro e w3 ⟨rfl, hb6⟩
        have hb7 := hb5.trans (hb6.mono (by have := hb5.size; have := HZ.out; omega))
        clear hb6
        go_wp2_with fail
        go_ret
        exact ⟨ret_bool Hf.out.symm, hbel.trans (hb7.mono (by omega))⟩
end Go.Proofs.Ytlfkgbcclinnbaa
