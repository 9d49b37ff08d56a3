/- The law DateSteps: a second later the text is another one, a day later the weekday is the next one, and the clock is the same. No condition. -/
import Derived.Test.YtnaapoigmihjoaaLawKit
import Derived.Test.YtnaapoigmihjoaaDateLaw
import Derived.Test.YtnaapoigmihjoaaTyp
namespace Go.Proofs.Ytnaapoigmihjoaa.dateSteps
set_option linter.all false
open Go Go.RowKit
open Go.ChangeShapes Go.WideShapes Go.ChangeAt
open Go.ChangeMaps (open_string shut_string)
theorem print_own (a : Int) (h0 : 0 ≤ a) (h1 : a ≤ 253402300799) : printM a = own7 (ofM a) := by unfold printM; rw [if_neg (by omega)]; rfl
theorem own_ne (a b : Int) (h0 : 0 ≤ a) (h1 : a ≤ 253402300799) (k0 : 0 ≤ b) (k1 : b ≤ 253402300799) (hne : a ≠ b) : (own7 (ofM a) == own7 (ofM b)) = false := by
  rw [beq_eq_false_iff_ne]
  intro e
  have x := (progK_iff 0 2000 (by omega) (by omega) (own7 (ofM a)) a).2 ⟨h0, h1, rfl, fun e => by cases e⟩
  have y := (progK_iff 0 2000 (by omega) (by omega) (own7 (ofM a)) b).2 ⟨k0, k1, e, fun e => by cases e⟩
  rw [x] at y
  injection y with y
  exact hne y
theorem days_ne (i d : Nat) (hi : i ≤ 6) (hd : d ≤ 6) (hne : i ≠ d) : (dayN (i : Int) == dayN (d : Int)) = false := by
  have : ∀ i d : Fin 7, i ≠ d → (dayN (i.val : Int) == dayN (d.val : Int)) = false := by decide
  exact this ⟨i, by omega⟩ ⟨d, by omega⟩ (fun e => hne (congrArg Fin.val e))
theorem day_take (d : Nat) (h : d ≤ 6) : (S (longN d)).extract 0 3 = S (dayN d) := by
  rw [S_pre]
  have : ∀ d : Fin 7, (longN (d.val : Int)).take 3 = dayN (d.val : Int) := by decide
  rw [this ⟨d, by omega⟩]
theorem own_drop (x : D7) (k : x.Ok) (w0 : 0 ≤ x.w) (w6 : x.w ≤ 6) : (own7 x).drop 17 = clockM x.h x.i x.s ++ gmt := by
  have e : own7 x = (dayN x.w ++ [44, 32] ++ twoM x.d ++ [32] ++ monN x.m ++ [32] ++ twoM (x.y / 100) ++ twoM x.y ++ [32]) ++ (clockM x.h x.i x.s ++ gmt) := by simp only [own7, ownT, List.append_assoc]
  have l : (dayN x.w ++ [44, 32] ++ twoM x.d ++ [32] ++ monN x.m ++ [32] ++ twoM (x.y / 100) ++ twoM x.y ++ [32]).length = 17 := by simp [dayN_len' x.w w0 w6, monN_len' x.m k.m0 k.m1]
  rw [e, ← l, List.drop_left]
theorem own_take (x : D7) (w0 : 0 ≤ x.w) (w6 : x.w ≤ 6) : (own7 x).take 3 = dayN x.w := by
  have e : own7 x = dayN x.w ++ ([44, 32] ++ twoM x.d ++ [32] ++ monN x.m ++ [32] ++ twoM (x.y / 100) ++ twoM x.y ++ [32] ++ clockM x.h x.i x.s ++ gmt) := by simp only [own7, ownT, List.append_assoc]
  rw [e, ← dayN_len' x.w w0 w6, List.take_left]
set_option maxHeartbeats 1600000 in
theorem yes (w : World) (n a : Int) (wf : (Lit.int .i64 n).wf = true) (ha : momLaw n = a) (h0 : 0 ≤ a) (h1 : a ≤ 253402214399) :
    Calls Try.prog 6 #[.int .i64 n] w fun e w' => e = .returned (.bool true) ∧ Below w.heap.size w w' := by
  have hn := bounds_i64 wf
  have Ha := Lib.hid ha
  obtain ⟨ok1, _, w1'⟩ := at_of a h0 (by omega)
  obtain ⟨ok2, _, w2'⟩ := at_of (a + 86400) (by omega) (by omega)
  have v1 : 0 ≤ (ofM a).w ∧ (ofM a).w ≤ 6 := by rw [← w1']; omega
  have v2 : 0 ≤ (ofM (a + 86400)).w ∧ (ofM (a + 86400)).w ≤ 6 := by rw [← w2']; omega
  have len1 := own_len _ ok1 v1.1 v1.2
  have len2 := own_len _ ok2 v2.1 v2.2
  have dr1 := own_drop _ ok1 v1.1 v1.2
  have dr2 := own_drop _ ok2 v2.1 v2.2
  have tk1 := own_take _ v1.1 v1.2
  have tk2 := own_take _ v2.1 v2.2
  have ne1 := own_ne a (a + 1) h0 (by omega) (by omega) (by omega) (by omega)
  have hh : (ofM (a + 86400)).h = (ofM a).h := by show (a + 86400) % 86400 / 3600 = a % 86400 / 3600; omega
  have hi : (ofM (a + 86400)).i = (ofM a).i := by show (a + 86400) % 86400 / 60 % 60 = a % 86400 / 60 % 60; omega
  have hs : (ofM (a + 86400)).s = (ofM a).s := by show (a + 86400) % 86400 % 60 = a % 86400 % 60; omega
  rw [hh, hi, hs] at dr2
  have Hp1 := Lib.hid (print_own a h0 (by omega))
  have Hp2 := Lib.hid (print_own (a + 86400) (by omega) (by omega))
  have Hp3 := Lib.hid (print_own (a + 1) (by omega) (by omega))
  obtain ⟨d, hd⟩ : ∃ d : Nat, (ofM a).w = d := ⟨(ofM a).w.toNat, by omega⟩
  have hd6 : d ≤ 6 := by omega
  obtain ⟨f, hf⟩ : ∃ f : Nat, (d + 1) % 7 = f := ⟨_, rfl⟩
  have hf6 : f ≤ 6 := by omega
  have hwf : (ofM (a + 86400)).w = f := by
    have e1 : (ofM (a + 86400)).w = (a + 86400) / 86400 % 7 := rfl
    have e2 : (ofM a).w = a / 86400 % 7 := rfl
    omega
  rw [hd] at tk1
  rw [hwf] at tk2
  generalize clockM (ofM a).h (ofM a).i (ofM a).s ++ gmt = Q at dr1 dr2
  generalize own7 (ofM a) = L1 at len1 dr1 tk1 ne1 Hp1
  generalize own7 (ofM (a + 86400)) = L2 at len2 dr2 tk2 Hp2
  generalize own7 (ofM (a + 1)) = L3 at ne1 Hp3
  clear hh hi hs hwf hd v1 v2 w1' w2' ok1 ok2 ha
  have x1 : (S L1).extract 17 29 = S Q := by have := S_drop L1 17 (by omega); rw [len1, dr1] at this; exact this
  have x2 : (S L2).extract 17 29 = S Q := by have := S_drop L2 17 (by omega); rw [len2, dr2] at this; exact this
  have y1 : (S L1).extract 0 3 = S (dayN d) := by rw [S_pre, tk1]
  have y2 : (S L2).extract 0 3 = S (dayN f) := by rw [S_pre, tk2]
  clear dr1 dr2 tk1 tk2
  have wr1 : IntKind.i64.wrap (a + 1) = a + 1 := IntWalk.i64_in _ (by omega)
  go_enter Try.func6, Try.ntmps6
  go_wp2_with fail
  refine (awake_any _).mono ?_; rintro e w1 ⟨rfl, b1⟩
  go_wp2_with fail
  refine (lawMoment_any n hn.1 hn.2 _).mono ?_; rintro e w' ⟨rfl, rfl⟩
  rw [Ha.out]
  go_wp2_with fail
  refine (Print_any a _).mono ?_; rintro e w2 ⟨rfl, b2⟩
  rw [Hp1.out]
  go_wp2_with fail
  refine (Print_any (a + 86400) _).mono ?_; rintro e w3 ⟨rfl, b3⟩
  rw [Hp2.out]
  have B3 : Below w.heap.size w w3 := bt (bt b1 b2) b3
  clear b1 b2 b3
  have B3' : Below w.heap.size w w3.drew := B3.drew
  go_wp2_with fail
  go_region_held3 (fun wx => Below w.heap.size w wx) (first | assumption | exact B3' | exact bt B3' b4) (first | (go_at_call 10; refine (Print_any _ _).mono ?_; rintro e w4 ⟨rfl, b4⟩; rw [Hp3.out]))
  go_wp2_with fail
  have B4 : Below w.heap.size w w4 := by assumption
  clear B3 B3' x1 x2 ne1 wr1 b4
  go_loopw [5] (fun k wr => ∃ i : Nat, k = .int .i64 i ∧ i ≤ d ∧ Below w.heap.size w wr) (fun k _ => (7 - intOf k).toNat)
  case atStart => exact ⟨0, rfl, by omega, B4⟩
  case round =>
    obtain ⟨i, rfl, hi, B⟩ := hrel
    clear B4
    have c1 : (0 : Int) ≤ (i : Int) := by omega
    have c2 : (i : Int) < 7 := by omega
    have hdt := day_take i (by omega)
    have hln := longN_len' i (by omega) (by omega)
    have hl3 : (3 : Int) ≤ ((longN i).length : Int) := by omega
    have hln2 := hln.1
    have B' : Below w.heap.size w wr.drew := B.drew
    by_cases hlt : i < d
    · have hne := days_ne i d (by omega) hd6 (by omega)
      go_wp2_with fail
      refine wp_region_typed_at (by intro vs; simp only [puts, Act.put, List.setIfInBounds_toArray, List.set_cons_zero, List.set_cons_succ, Nat.reduceAdd]; rfl) (fun wx => Below w.heap.size w wx) (fun x y => Below x.heap.size x y) (by kernel_rfl) (by kernel_rfl) (by kernel_rfl) (B') (fun hA => ?_); have hRf : Hid (∀ w : World, (fun x y => Below x.heap.size x y) w w) := Lib.hid (fun w => Below.refl _ w)
      repeat (refine wpTyped_same hA _ (fun w => hRf.out w) (by intro vs wz hC hk; (try simp only [known, Region.binds, List.nil_append, List.cons_append, List.getElem?_cons_zero, List.getElem?_cons_succ, forall_const, true_implies, and_true] at hk); refine ⟨by first | rfl | exact wanted_at rfl rfl rfl (by simp only [hk, List.getElem_toArray, List.getElem_cons_succ, List.getElem_cons_zero]), ?_⟩; go_simp; with_reducible rfl) ?_)
      refine wpTyped_step hA (fun v wx => ∃ g, v = .slice (some ⟨g, 0, Option.none⟩) 7 7 ∧ wx.cell? ⟨g, i, none⟩ = some (.string (S (longN i))) ∧ g < wx.heap.size) (fun v x y ⟨g, h1, h2, h3⟩ _ hs => ⟨g, h1, (hs.cell (p := ⟨g, i, none⟩) h3).trans h2, Nat.lt_of_lt_of_le h3 hs.size⟩) (by intro vs wz hC hk K hK; (try simp only [known, Region.binds, List.nil_append, List.cons_append, List.getElem?_cons_zero, List.getElem?_cons_succ, forall_const, true_implies, and_true] at hk); rw [if_pos (by first | rfl | exact wanted_at rfl rfl rfl (by simp only [hk, List.getElem_toArray, List.getElem_cons_succ, List.getElem_cons_zero]))]; obtain _ := hk; go_simp; refine (weekdays_at i (by omega) _).mono ?_; rintro e w1 ⟨g1, rfl, gc1, gb1⟩; exact hK.out _ _ _ (by first | rfl | (simp only [Act.put, List.setIfInBounds_toArray, List.set_cons_zero, List.set_cons_succ, *])) ⟨g1, rfl, gc1, World.block_lt_of_cell? _ _ gc1⟩ (bt hC gb1) gb1) ?_
      repeat (refine wpTyped_same hA _ (fun w => hRf.out w) (by intro vs wz hC hk; (try simp only [known, Region.binds, List.nil_append, List.cons_append, List.getElem?_cons_zero, List.getElem?_cons_succ, forall_const, true_implies, and_true] at hk); refine ⟨by first | rfl | exact wanted_at rfl rfl rfl (by simp only [hk, List.getElem_toArray, List.getElem_cons_succ, List.getElem_cons_zero]), ?_⟩; go_simp; with_reducible rfl) ?_)
      refine wpTyped_pure hA (fun v wx => ∃ g, v = .pointer (some ⟨g, i, Option.none⟩) ∧ wx.cell? ⟨g, i, none⟩ = some (.string (S (longN i))) ∧ g < wx.heap.size) (fun v x y ⟨g, h1, h2, h3⟩ _ hs => ⟨g, h1, (hs.cell (p := ⟨g, i, none⟩) h3).trans h2, Nat.lt_of_lt_of_le h3 hs.size⟩) (fun w => hRf.out w) (by intro vs wz hC hk; (try simp only [known, Region.binds, List.nil_append, List.cons_append, List.getElem?_cons_zero, List.getElem?_cons_succ, forall_const, true_implies, and_true] at hk); refine ⟨by first | rfl | exact wanted_at rfl rfl rfl (by simp only [hk, List.getElem_toArray, List.getElem_cons_succ, List.getElem_cons_zero]), ?_⟩; obtain ⟨⟨g, e1, e2, e3⟩, e4⟩ := hk; refine ⟨_, by (go_simp; with_reducible rfl), ?_⟩; exact ⟨g, rfl, e2, e3⟩) ?_
      refine wpTyped_same hA _ (fun w => hRf.out w) (by intro vs wz hC hk; (try simp only [known, Region.binds, List.nil_append, List.cons_append, List.getElem?_cons_zero, List.getElem?_cons_succ, forall_const, true_implies, and_true] at hk); refine ⟨by first | rfl | exact wanted_at rfl rfl rfl (by simp only [hk, List.getElem_toArray, List.getElem_cons_succ, List.getElem_cons_zero]), ?_⟩; obtain ⟨g, e1, e2, e3⟩ := hk; go_simp; with_reducible rfl) ?_
      repeat (refine wpTyped_same hA _ (fun w => hRf.out w) (by intro vs wz hC hk; (try simp only [known, Region.binds, List.nil_append, List.cons_append, List.getElem?_cons_zero, List.getElem?_cons_succ, forall_const, true_implies, and_true] at hk); refine ⟨by first | rfl | exact wanted_at rfl rfl rfl (by simp only [hk, List.getElem_toArray, List.getElem_cons_succ, List.getElem_cons_zero]), ?_⟩; go_simp; with_reducible rfl) ?_)
      refine wpTyped_nil hA ?_; intro vs wz hC hk; simp only [allKnown, List.nil_append, List.cons_append, Nat.reduceAdd, and_true] at hk; simp only [hk]
      have hb5 := hC; clear hC hk hRf hA
      go_wp2_with fail
      go_roundw
      case rel => exact ⟨i + 1, by go_num, by omega, hb5⟩
      case measure => simp [intOf]; omega
    · obtain rfl : i = d := by omega
      have wr2 : IntKind.i64.wrap ((i : Int) + 1) = (i : Int) + 1 := IntWalk.i64_in _ (by omega)
      have wr3 : ((i : Int) + 1).tmod 7 = (f : Int) := by rw [Int.tmod_eq_emod_of_nonneg (by omega)]; omega
      have wr5 : ((i : Int) + 1) % 7 = (f : Int) := by omega
      have wr4 : IntKind.i64.wrap (f : Int) = (f : Int) := IntWalk.i64_in _ (by omega)
      have d1 : (0 : Int) ≤ (f : Int) := by omega
      have d2 : (f : Int) < 7 := by omega
      have hdt2 := day_take f (by omega)
      have hln3 := longN_len' f (by omega) (by omega)
      have hl4 : (3 : Int) ≤ ((longN f).length : Int) := by omega
      have hln4 := hln3.1
      go_wp2_with fail
      refine wp_region_typed_at (by intro vs; simp only [puts, Act.put, List.setIfInBounds_toArray, List.set_cons_zero, List.set_cons_succ, Nat.reduceAdd]; rfl) (fun wx => Below w.heap.size w wx) (fun x y => Below x.heap.size x y) (by kernel_rfl) (by kernel_rfl) (by kernel_rfl) (B') (fun hA => ?_); have hRf : Hid (∀ w : World, (fun x y => Below x.heap.size x y) w w) := Lib.hid (fun w => Below.refl _ w)
      repeat (refine wpTyped_same hA _ (fun w => hRf.out w) (by intro vs wz hC hk; (try simp only [known, Region.binds, List.nil_append, List.cons_append, List.getElem?_cons_zero, List.getElem?_cons_succ, forall_const, true_implies, and_true] at hk); refine ⟨by first | rfl | exact wanted_at rfl rfl rfl (by simp only [hk, List.getElem_toArray, List.getElem_cons_succ, List.getElem_cons_zero]), ?_⟩; go_simp; with_reducible rfl) ?_)
      refine wpTyped_step hA (fun v wx => ∃ g, v = .slice (some ⟨g, 0, Option.none⟩) 7 7 ∧ wx.cell? ⟨g, i, none⟩ = some (.string (S (longN i))) ∧ g < wx.heap.size) (fun v x y ⟨g, h1, h2, h3⟩ _ hs => ⟨g, h1, (hs.cell (p := ⟨g, i, none⟩) h3).trans h2, Nat.lt_of_lt_of_le h3 hs.size⟩) (by intro vs wz hC hk K hK; (try simp only [known, Region.binds, List.nil_append, List.cons_append, List.getElem?_cons_zero, List.getElem?_cons_succ, forall_const, true_implies, and_true] at hk); rw [if_pos (by first | rfl | exact wanted_at rfl rfl rfl (by simp only [hk, List.getElem_toArray, List.getElem_cons_succ, List.getElem_cons_zero]))]; obtain _ := hk; go_simp; refine (weekdays_at i (by omega) _).mono ?_; rintro e w1 ⟨g1, rfl, gc1, gb1⟩; exact hK.out _ _ _ (by first | rfl | (simp only [Act.put, List.setIfInBounds_toArray, List.set_cons_zero, List.set_cons_succ, *])) ⟨g1, rfl, gc1, World.block_lt_of_cell? _ _ gc1⟩ (bt hC gb1) gb1) ?_
      repeat (refine wpTyped_same hA _ (fun w => hRf.out w) (by intro vs wz hC hk; (try simp only [known, Region.binds, List.nil_append, List.cons_append, List.getElem?_cons_zero, List.getElem?_cons_succ, forall_const, true_implies, and_true] at hk); refine ⟨by first | rfl | exact wanted_at rfl rfl rfl (by simp only [hk, List.getElem_toArray, List.getElem_cons_succ, List.getElem_cons_zero]), ?_⟩; go_simp; with_reducible rfl) ?_)
      refine wpTyped_pure hA (fun v wx => ∃ g, v = .pointer (some ⟨g, i, Option.none⟩) ∧ wx.cell? ⟨g, i, none⟩ = some (.string (S (longN i))) ∧ g < wx.heap.size) (fun v x y ⟨g, h1, h2, h3⟩ _ hs => ⟨g, h1, (hs.cell (p := ⟨g, i, none⟩) h3).trans h2, Nat.lt_of_lt_of_le h3 hs.size⟩) (fun w => hRf.out w) (by intro vs wz hC hk; (try simp only [known, Region.binds, List.nil_append, List.cons_append, List.getElem?_cons_zero, List.getElem?_cons_succ, forall_const, true_implies, and_true] at hk); refine ⟨by first | rfl | exact wanted_at rfl rfl rfl (by simp only [hk, List.getElem_toArray, List.getElem_cons_succ, List.getElem_cons_zero]), ?_⟩; obtain ⟨⟨g, e1, e2, e3⟩, e4⟩ := hk; refine ⟨_, by (go_simp; with_reducible rfl), ?_⟩; exact ⟨g, rfl, e2, e3⟩) ?_
      refine wpTyped_same hA _ (fun w => hRf.out w) (by intro vs wz hC hk; (try simp only [known, Region.binds, List.nil_append, List.cons_append, List.getElem?_cons_zero, List.getElem?_cons_succ, forall_const, true_implies, and_true] at hk); refine ⟨by first | rfl | exact wanted_at rfl rfl rfl (by simp only [hk, List.getElem_toArray, List.getElem_cons_succ, List.getElem_cons_zero]), ?_⟩; obtain ⟨g, e1, e2, e3⟩ := hk; go_simp; with_reducible rfl) ?_
      repeat (refine wpTyped_same hA _ (fun w => hRf.out w) (by intro vs wz hC hk; (try simp only [known, Region.binds, List.nil_append, List.cons_append, List.getElem?_cons_zero, List.getElem?_cons_succ, forall_const, true_implies, and_true] at hk); refine ⟨by first | rfl | exact wanted_at rfl rfl rfl (by simp only [hk, List.getElem_toArray, List.getElem_cons_succ, List.getElem_cons_zero]), ?_⟩; go_simp; with_reducible rfl) ?_)
      refine wpTyped_nil hA ?_; intro vs wz hC hk; simp only [allKnown, List.nil_append, List.cons_append, Nat.reduceAdd, and_true] at hk; simp only [hk]
      have hb5 := hC; clear hC hk hRf hA
      have hb5' := hb5.drew
      clear B B'
      go_wp2_with fail
      refine wp_region_typed_at (by intro vs; simp only [puts, Act.put, List.setIfInBounds_toArray, List.set_cons_zero, List.set_cons_succ, Nat.reduceAdd]; rfl) (fun wx => Below w.heap.size w wx) (fun x y => Below x.heap.size x y) (by kernel_rfl) (by kernel_rfl) (by kernel_rfl) (hb5') (fun hA => ?_); have hRf : Hid (∀ w : World, (fun x y => Below x.heap.size x y) w w) := Lib.hid (fun w => Below.refl _ w)
      repeat (refine wpTyped_same hA _ (fun w => hRf.out w) (by intro vs wz hC hk; (try simp only [known, Region.binds, List.nil_append, List.cons_append, List.getElem?_cons_zero, List.getElem?_cons_succ, forall_const, true_implies, and_true] at hk); refine ⟨by first | rfl | exact wanted_at rfl rfl rfl (by simp only [hk, List.getElem_toArray, List.getElem_cons_succ, List.getElem_cons_zero]), ?_⟩; go_simp; with_reducible rfl) ?_)
      refine wpTyped_step hA (fun v wx => ∃ g, v = .slice (some ⟨g, 0, Option.none⟩) 7 7 ∧ wx.cell? ⟨g, f, none⟩ = some (.string (S (longN f))) ∧ g < wx.heap.size) (fun v x y ⟨g, h1, h2, h3⟩ _ hs => ⟨g, h1, (hs.cell (p := ⟨g, f, none⟩) h3).trans h2, Nat.lt_of_lt_of_le h3 hs.size⟩) (by intro vs wz hC hk K hK; (try simp only [known, Region.binds, List.nil_append, List.cons_append, List.getElem?_cons_zero, List.getElem?_cons_succ, forall_const, true_implies, and_true] at hk); rw [if_pos (by first | rfl | exact wanted_at rfl rfl rfl (by simp only [hk, List.getElem_toArray, List.getElem_cons_succ, List.getElem_cons_zero]))]; obtain _ := hk; go_simp; refine (weekdays_at f (by omega) _).mono ?_; rintro e w1 ⟨g1, rfl, gc1, gb1⟩; exact hK.out _ _ _ (by first | rfl | (simp only [Act.put, List.setIfInBounds_toArray, List.set_cons_zero, List.set_cons_succ, *])) ⟨g1, rfl, gc1, World.block_lt_of_cell? _ _ gc1⟩ (bt hC gb1) gb1) ?_
      repeat (refine wpTyped_same hA _ (fun w => hRf.out w) (by intro vs wz hC hk; (try simp only [known, Region.binds, List.nil_append, List.cons_append, List.getElem?_cons_zero, List.getElem?_cons_succ, forall_const, true_implies, and_true] at hk); refine ⟨by first | rfl | exact wanted_at rfl rfl rfl (by simp only [hk, List.getElem_toArray, List.getElem_cons_succ, List.getElem_cons_zero]), ?_⟩; go_simp; with_reducible rfl) ?_)
      refine wpTyped_pure hA (fun v wx => ∃ g, v = .pointer (some ⟨g, f, Option.none⟩) ∧ wx.cell? ⟨g, f, none⟩ = some (.string (S (longN f))) ∧ g < wx.heap.size) (fun v x y ⟨g, h1, h2, h3⟩ _ hs => ⟨g, h1, (hs.cell (p := ⟨g, f, none⟩) h3).trans h2, Nat.lt_of_lt_of_le h3 hs.size⟩) (fun w => hRf.out w) (by intro vs wz hC hk; (try simp only [known, Region.binds, List.nil_append, List.cons_append, List.getElem?_cons_zero, List.getElem?_cons_succ, forall_const, true_implies, and_true] at hk); refine ⟨by first | rfl | exact wanted_at rfl rfl rfl (by simp only [hk, List.getElem_toArray, List.getElem_cons_succ, List.getElem_cons_zero]), ?_⟩; obtain ⟨⟨g, e1, e2, e3⟩, e4⟩ := hk; refine ⟨_, by (go_simp; with_reducible rfl), ?_⟩; exact ⟨g, rfl, e2, e3⟩) ?_
      refine wpTyped_same hA _ (fun w => hRf.out w) (by intro vs wz hC hk; (try simp only [known, Region.binds, List.nil_append, List.cons_append, List.getElem?_cons_zero, List.getElem?_cons_succ, forall_const, true_implies, and_true] at hk); refine ⟨by first | rfl | exact wanted_at rfl rfl rfl (by simp only [hk, List.getElem_toArray, List.getElem_cons_succ, List.getElem_cons_zero]), ?_⟩; obtain ⟨g, e1, e2, e3⟩ := hk; go_simp; with_reducible rfl) ?_
      repeat (refine wpTyped_same hA _ (fun w => hRf.out w) (by intro vs wz hC hk; (try simp only [known, Region.binds, List.nil_append, List.cons_append, List.getElem?_cons_zero, List.getElem?_cons_succ, forall_const, true_implies, and_true] at hk); refine ⟨by first | rfl | exact wanted_at rfl rfl rfl (by simp only [hk, List.getElem_toArray, List.getElem_cons_succ, List.getElem_cons_zero]), ?_⟩; go_simp; with_reducible rfl) ?_)
      refine wpTyped_nil hA ?_; intro vs wz hC hk; simp only [allKnown, List.nil_append, List.cons_append, Nat.reduceAdd, and_true] at hk; simp only [hk]
      clear hk hRf hA
      have hb6 := hC
      clear hC
      go_wp2_with fail
      go_ret
      exact ⟨ret_bool (by try simp), hb6⟩
theorem walk (w : World) (n : Int) (wf : (Lit.int .i64 n).wf = true) :
    Calls Try.prog 6 #[.int .i64 n] w fun e w' => e = .returned (.bool true) ∧ Below w.heap.size w w' := by
  have hb := momLaw_bd n
  by_cases h : momLaw n ≤ 253402214399
  · exact yes w n _ wf rfl hb.1 h
  · have hn := bounds_i64 wf
    have h2 : 253402214399 < momLaw n := by omega
    go_enter Try.func6, Try.ntmps6
    go_wp2_with fail
    refine (awake_any _).mono ?_; rintro e w1 ⟨rfl, b1⟩
    go_wp2_with fail
    refine (lawMoment_any n hn.1 hn.2 _).mono ?_; rintro e w' ⟨rfl, rfl⟩
    go_wp2_with fail
    go_ret
    exact ⟨rfl, b1⟩
set_option maxRecDepth 100000 in
theorem lifted (os : Os) (started : os.Started) (H : Type) (enc : TypeId × Value → H) :
    ReturnsInHanded {} Try.checked os 6 .any (Rows.dateStepsSpec.pre6 enc Try.prog Try.f6 Rows.dateStepsRow.domain false) (Rows.dateStepsSpec.post enc Try.prog Try.f6 false true false false) := by
  refine returnsInHanded_of_change_sized (C := Try.checked) own started (by kernel_rfl) Try.func6
    (ChangeSpec.witness6 (enc := enc) (C := Try.checked) false ⟨#[], #[.int .i64 0], []⟩ 8 (by kernel_rfl) (by kernel_rfl) (by kernel_rfl) (by kernel_rfl)) ?_
  intro W base args ds gs before hval0 hW _ hsz0 _
  have hsz : (DataW.weightsEach Try.prog (Try.f6.params.toList ++ Rows.dateStepsSpec.plain.varTypes Try.prog) (ds ++ gs)).all (· ≤ reachBytes) = true := hsz0
  clear hsz0
  have hval : ∀ (j : Nat) t v, Try.f6.params[j]? = some t → args[j]? = some v → Value.okWide Try.prog W .any base t v := hval0
  have hW' := hW
  obtain ⟨p, q, hA0, hV, rfl, _, _⟩ := hW
  have hA : DataW.TrodAll enc Try.prog W 0 (fun _ => true) true Try.f6.params.toList args.toList ds p := hA0
  rw [Try.params6] at hA hval hsz
  obtain ⟨v0, vs0, d0, ds0, p0, q0, hargs, rfl, rfl, h0, r0⟩ := trodAll_cons hA
  obtain ⟨rfl, rfl, rfl⟩ := trodAll_nil r0
  obtain rfl : args = #[v0] := by cases args; simp_all
  obtain ⟨rfl, rfl⟩ := trodVars_none hV
  obtain ⟨a0, rfl, rfl, rfl, w0⟩ := open_int Try.underlying2 (hval 0 2 v0 rfl rfl) h0
  clear hA0 hval0
  refine (walk W a0 w0).mono fun e W' ⟨he, bel⟩ => ?_
  subst he
  exact ⟨_, rfl, _, _, _, [], _, [], hW', trodAll_mk1 (shut_bool Try.underlying4 _), (trodAll_cons_mk (shut_int Try.underlying2 w0) trodAll_mk0), rfl, bel.frame _, fun h => by cases h⟩
theorem over : Rows.dateStepsRow.holds Try.pinned (OpenSpec.ofChange Rows.dateStepsSpec) :=
  OpenClaim.holds_of_wide 6 Try.f6 rfl rfl rfl rfl rfl rfl rfl ⟨rfl, rfl, rfl, rfl, rfl⟩ rfl rfl rfl rfl rfl (by kernel_rfl) Try.func6 (by kernel_rfl)
    (of_decide_eq_true (by kernel_rfl)) (by unfold Func.isWrapper; first | (rw [if_pos (by decide +kernel)]; kernel_rfl) | (rw [if_neg (by decide +kernel)]; exact ⟨rfl, rfl⟩))
    (fun os started H enc _ => lifted os started H enc)
theorem proved : Rows.DateStepsSaid := over
#print axioms proved
end Go.Proofs.Ytnaapoigmihjoaa.dateSteps
