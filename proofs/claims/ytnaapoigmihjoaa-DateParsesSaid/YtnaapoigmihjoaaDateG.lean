/- Layer 12 in plain Lean: what the document reads in a text is the moment whose text it is. No condition. -/
import Derived.Test.YtnaapoigmihjoaaDateZ
namespace Go.Proofs.Ytnaapoigmihjoaa
set_option linter.all false
open Go Go.RowKit

theorem twoM_mod (y : Int) : twoM (y % 100) = twoM y := by
  unfold twoM
  rw [show y % 100 / 10 % 10 = y / 10 % 10 by omega, show y % 100 % 10 = y % 10 by omega]
theorem two_at (s a r : List UInt8) (v i : Int) (hs : s = a ++ (twoM v ++ r)) (hi : i = a.length) (h0 : 0 ≤ v) (h1 : v ≤ 99) : twoR s i = v := by
  subst hs hi
  unfold twoR
  have hc : ((a ++ (twoM v ++ r)).drop ((a.length : Nat) : Int).toNat).take 2 = twoM v := by
    rw [Int.toNat_natCast, List.drop_left]; rfl
  rw [hc]
  have tv := two_val v h0 h1
  rw [if_pos ⟨by omega, by simp; omega, tv.2⟩, tv.1]
theorem two_at' (s a r : List UInt8) (v i : Int) (hs : s = a ++ (twoM v ++ r)) (hi : i = a.length) (h0 : 0 ≤ v) : twoR s i = v % 100 :=
  two_at s a r (v % 100) i (by rw [twoM_mod]; exact hs) hi (by omega) (by omega)
theorem mon_first (m : Int) (h0 : 0 ≤ m) (h1 : m ≤ 11) : ((List.range 12).find? fun k => monN m == monN (k : Nat)) = some m.toNat := by
  have : m = 0 ∨ m = 1 ∨ m = 2 ∨ m = 3 ∨ m = 4 ∨ m = 5 ∨ m = 6 ∨ m = 7 ∨ m = 8 ∨ m = 9 ∨ m = 10 ∨ m = 11 := by omega
  rcases this with rfl | rfl | rfl | rfl | rfl | rfl | rfl | rfl | rfl | rfl | rfl | rfl <;> rfl
theorem mon_at (s a r : List UInt8) (m i : Int) (hs : s = a ++ (monN m ++ r)) (hi : i = a.length) (h0 : 0 ≤ m) (h1 : m ≤ 11) : monR s i = m + 1 := by
  subst hs hi
  unfold monR
  have hl := monN_len' m h0 h1
  have hc : ((a ++ (monN m ++ r)).drop ((a.length : Nat) : Int).toNat).take 3 = monN m := by
    rw [Int.toNat_natCast, List.drop_left, ← hl, List.take_left]
  rw [hc, if_pos ⟨by omega, by simp; omega⟩, mon_first m h0 h1]
  show (m.toNat : Int) + 1 = m + 1
  omega
theorem longN_len' (w : Int) (h0 : 0 ≤ w) (h1 : w ≤ 6) : 6 ≤ (longN w).length ∧ (longN w).length ≤ 9 := by
  have : ∀ d : Fin 7, 6 ≤ (longN (d.val : Int)).length ∧ (longN (d.val : Int)).length ≤ 9 := by decide
  have h2 := this ⟨w.toNat, by omega⟩
  simp only [Int.toNat_of_nonneg h0] at h2
  exact h2
theorem clockM_len (a b c : Int) : (clockM a b c).length = 8 := by simp [clockM]
theorem lowM_len (d : Int) : (lowM d).length = 2 := by unfold lowM; split <;> rfl
theorem own_len (x : D7) (k : x.Ok) (w0 : 0 ≤ x.w) (w6 : x.w ≤ 6) : (own7 x).length = 29 := by
  simp [own7, ownT, dayN_len' x.w w0 w6, monN_len' x.m k.m0 k.m1, clockM_len, gmt]
theorem old_len (x : D7) (k : x.Ok) : (old7 x).length = (longN x.w).length + 24 := by
  simp [old7, monN_len' x.m k.m0 k.m1, clockM_len, gmt]
theorem bare_len (x : D7) (k : x.Ok) (w0 : 0 ≤ x.w) (w6 : x.w ≤ 6) : (bare7 x).length = 24 := by
  simp [bare7, dayN_len' x.w w0 w6, monN_len' x.m k.m0 k.m1, clockM_len, lowM_len]
theorem guess_own (x : D7) (k : x.Ok) (w0 : 0 ≤ x.w) (w6 : x.w ≤ 6) (c : Int) : guessR (own7 x) 0 c = { x with w := 0 } := by
  have hl := own_len x k w0 w6
  obtain ⟨y0, y1, m0, m1, d0, d1, h0, h1, i0, i1, s0, s1⟩ := k
  have d9 := lenM_99 x.y x.m
  have ld := dayN_len' x.w w0 w6
  have lm := monN_len' x.m m0 m1
  unfold guessR
  rw [if_pos rfl, hl]
  have e1 : twoR (own7 x) 12 = x.y / 100 := two_at _ (dayN x.w ++ [44, 32] ++ twoM x.d ++ [32] ++ monN x.m ++ [32]) (twoM x.y ++ [32] ++ clockM x.h x.i x.s ++ gmt) _ _ (by simp only [own7, ownT, List.append_assoc]) (by simp [ld, lm]) (by omega) (by omega)
  have e2 : twoR (own7 x) 14 = x.y % 100 := two_at' _ (dayN x.w ++ [44, 32] ++ twoM x.d ++ [32] ++ monN x.m ++ [32] ++ twoM (x.y / 100)) ([32] ++ clockM x.h x.i x.s ++ gmt) _ _ (by simp only [own7, ownT, List.append_assoc]) (by simp [ld, lm]) (by omega)
  have e3 : monR (own7 x) 8 = x.m + 1 := mon_at _ (dayN x.w ++ [44, 32] ++ twoM x.d ++ [32]) ([32] ++ twoM (x.y / 100) ++ twoM x.y ++ [32] ++ clockM x.h x.i x.s ++ gmt) _ _ (by simp only [own7, ownT, List.append_assoc]) (by simp [ld]) m0 m1
  have e4 : twoR (own7 x) 5 = x.d := two_at _ (dayN x.w ++ [44, 32]) ([32] ++ monN x.m ++ [32] ++ twoM (x.y / 100) ++ twoM x.y ++ [32] ++ clockM x.h x.i x.s ++ gmt) _ _ (by simp only [own7, ownT, List.append_assoc]) (by simp [ld]) (by omega) (by omega)
  have e5 : twoR (own7 x) (((29 : Nat) : Int) - 12) = x.h := two_at _ (dayN x.w ++ [44, 32] ++ twoM x.d ++ [32] ++ monN x.m ++ [32] ++ twoM (x.y / 100) ++ twoM x.y ++ [32]) ([58] ++ twoM x.i ++ [58] ++ twoM x.s ++ gmt) _ _ (by simp only [own7, ownT, clockM, List.append_assoc]) (by simp [ld, lm]) h0 (by omega)
  have e6 : twoR (own7 x) (((29 : Nat) : Int) - 12 + 3) = x.i := two_at _ (dayN x.w ++ [44, 32] ++ twoM x.d ++ [32] ++ monN x.m ++ [32] ++ twoM (x.y / 100) ++ twoM x.y ++ [32] ++ twoM x.h ++ [58]) ([58] ++ twoM x.s ++ gmt) _ _ (by simp only [own7, ownT, clockM, List.append_assoc]) (by simp [ld, lm]) i0 (by omega)
  have e7 : twoR (own7 x) (((29 : Nat) : Int) - 12 + 6) = x.s := two_at _ (dayN x.w ++ [44, 32] ++ twoM x.d ++ [32] ++ monN x.m ++ [32] ++ twoM (x.y / 100) ++ twoM x.y ++ [32] ++ twoM x.h ++ [58] ++ twoM x.i ++ [58]) gmt _ _ (by simp only [own7, ownT, clockM, List.append_assoc]) (by simp [ld, lm]) s0 (by omega)
  rw [e1, e2, e3, e4, e5, e6, e7, show x.y / 100 * 100 + x.y % 100 = x.y by omega, show x.m + 1 - 1 = x.m by omega]
theorem guess_old (x : D7) (k : x.Ok) (c : Int) : guessR (old7 x) 1 c = { x with y := yearO c (x.y % 100), w := 0 } := by
  have hl := old_len x k
  obtain ⟨y0, y1, m0, m1, d0, d1, h0, h1, i0, i1, s0, s1⟩ := k
  have d9 := lenM_99 x.y x.m
  have lm := monN_len' x.m m0 m1
  unfold guessR
  rw [if_neg (by omega), if_pos rfl, hl]
  obtain ⟨n, hn⟩ : ∃ n, n = (longN x.w).length := ⟨_, rfl⟩
  rw [← hn]
  have e1 : twoR (old7 x) (((n + 24 : Nat) : Int) - 12 - 3) = x.y % 100 := two_at' _ (longN x.w ++ [44, 32] ++ twoM x.d ++ [45] ++ monN x.m ++ [45]) ([32] ++ clockM x.h x.i x.s ++ gmt) _ _ (by simp only [old7, twoM_mod, List.append_assoc]) (by simp [lm]; omega) (by omega)
  have e3 : monR (old7 x) (((n + 24 : Nat) : Int) - 12 - 7) = x.m + 1 := mon_at _ (longN x.w ++ [44, 32] ++ twoM x.d ++ [45]) ([45] ++ twoM (x.y % 100) ++ [32] ++ clockM x.h x.i x.s ++ gmt) _ _ (by simp only [old7, List.append_assoc]) (by simp; omega) m0 m1
  have e4 : twoR (old7 x) (((n + 24 : Nat) : Int) - 12 - 10) = x.d := two_at _ (longN x.w ++ [44, 32]) ([45] ++ monN x.m ++ [45] ++ twoM (x.y % 100) ++ [32] ++ clockM x.h x.i x.s ++ gmt) _ _ (by simp only [old7, List.append_assoc]) (by simp; omega) (by omega) (by omega)
  have e5 : twoR (old7 x) (((n + 24 : Nat) : Int) - 12) = x.h := two_at _ (longN x.w ++ [44, 32] ++ twoM x.d ++ [45] ++ monN x.m ++ [45] ++ twoM (x.y % 100) ++ [32]) ([58] ++ twoM x.i ++ [58] ++ twoM x.s ++ gmt) _ _ (by simp only [old7, clockM, List.append_assoc]) (by simp [lm]; omega) h0 (by omega)
  have e6 : twoR (old7 x) (((n + 24 : Nat) : Int) - 12 + 3) = x.i := two_at _ (longN x.w ++ [44, 32] ++ twoM x.d ++ [45] ++ monN x.m ++ [45] ++ twoM (x.y % 100) ++ [32] ++ twoM x.h ++ [58]) ([58] ++ twoM x.s ++ gmt) _ _ (by simp only [old7, clockM, List.append_assoc]) (by simp [lm]; omega) i0 (by omega)
  have e7 : twoR (old7 x) (((n + 24 : Nat) : Int) - 12 + 6) = x.s := two_at _ (longN x.w ++ [44, 32] ++ twoM x.d ++ [45] ++ monN x.m ++ [45] ++ twoM (x.y % 100) ++ [32] ++ twoM x.h ++ [58] ++ twoM x.i ++ [58]) gmt _ _ (by simp only [old7, clockM, List.append_assoc]) (by simp [lm]; omega) s0 (by omega)
  rw [e1, e3, e4, e5, e6, e7, show x.m + 1 - 1 = x.m by omega]
  have ey : (if c + 50 < c / 100 * 100 + x.y % 100 then c / 100 * 100 + x.y % 100 - 100 else c / 100 * 100 + x.y % 100) = yearO c (x.y % 100) := by
    unfold yearO
    rw [show c - c % 100 = c / 100 * 100 by omega]
  rw [ey]
theorem guess_bare (x : D7) (k : x.Ok) (w0 : 0 ≤ x.w) (w6 : x.w ≤ 6) (c : Int) : guessR (bare7 x) 2 c = { x with w := 0 } := by
  have hl := bare_len x k w0 w6
  obtain ⟨y0, y1, m0, m1, d0, d1, h0, h1, i0, i1, s0, s1⟩ := k
  have d9 := lenM_99 x.y x.m
  have ld := dayN_len' x.w w0 w6
  have lm := monN_len' x.m m0 m1
  have ll := lowM_len x.d
  unfold guessR
  rw [if_neg (by omega), if_neg (by omega), hl]
  have e1 : twoR (bare7 x) 20 = x.y / 100 := two_at _ (dayN x.w ++ [32] ++ monN x.m ++ [32] ++ lowM x.d ++ [32] ++ clockM x.h x.i x.s ++ [32]) (twoM x.y) _ _ (by simp only [bare7, List.append_assoc]) (by simp [ld, lm, ll, clockM_len]) (by omega) (by omega)
  have e2 : twoR (bare7 x) 22 = x.y % 100 := two_at' _ (dayN x.w ++ [32] ++ monN x.m ++ [32] ++ lowM x.d ++ [32] ++ clockM x.h x.i x.s ++ [32] ++ twoM (x.y / 100)) [] _ _ (by simp only [bare7, List.append_assoc, List.append_nil]) (by simp [ld, lm, ll, clockM_len]) (by omega)
  have e3 : monR (bare7 x) 4 = x.m + 1 := mon_at _ (dayN x.w ++ [32]) ([32] ++ lowM x.d ++ [32] ++ clockM x.h x.i x.s ++ [32] ++ twoM (x.y / 100) ++ twoM x.y) _ _ (by simp only [bare7, List.append_assoc]) (by simp [ld]) m0 m1
  have hpre : (dayN x.w ++ [32] ++ monN x.m ++ [32]).length = 8 := by simp [ld, lm]
  have e4 : dayG (bare7 x) = x.d := by
    have hs : bare7 x = (dayN x.w ++ [32] ++ monN x.m ++ [32]) ++ (lowM x.d ++ ([32] ++ clockM x.h x.i x.s ++ [32] ++ twoM (x.y / 100) ++ twoM x.y)) := by simp only [bare7, List.append_assoc]
    have h8 : (bare7 x)[8]? = (lowM x.d)[0]? := by
      rw [hs, List.getElem?_append_right (by omega), hpre, List.getElem?_append_left (by omega)]
    have h9 : (bare7 x)[9]? = (lowM x.d)[1]? := by
      rw [hs, List.getElem?_append_right (by omega), hpre, List.getElem?_append_left (by omega)]
    unfold dayG
    by_cases hd : x.d < 10
    · have hlow : lowM x.d = [32, dg (x.d % 10)] := low_lt hd
      rw [h8, h9, hlow]
      show (if (32 : UInt8) = 32 ∧ isDg (dg (x.d % 10)) = true then ((dg (x.d % 10)).toNat : Int) - 48 else _) = _
      rw [if_pos ⟨rfl, isDg_dg _ (by omega) (by omega)⟩, dg_toNat _ (by omega) (by omega)]
      omega
    · have hlow : lowM x.d = twoM x.d := low_ge hd
      rw [h8, h9, hlow]
      show (if dg (x.d / 10 % 10) = 32 ∧ isDg (dg (x.d % 10)) = true then ((dg (x.d % 10)).toNat : Int) - 48 else twoR (bare7 x) 8) = _
      rw [if_neg (fun e => by
        have h := dg_toNat (x.d / 10 % 10) (by omega) (by omega)
        rw [e.1] at h
        have : (32 : UInt8).toNat = 32 := rfl
        omega)]
      exact two_at _ _ _ _ _ (by rw [hs, hlow]) (by rw [hpre]; rfl) (by omega) (by omega)
  have e5 : twoR (bare7 x) (((24 : Nat) : Int) - 13) = x.h := two_at _ (dayN x.w ++ [32] ++ monN x.m ++ [32] ++ lowM x.d ++ [32]) ([58] ++ twoM x.i ++ [58] ++ twoM x.s ++ [32] ++ twoM (x.y / 100) ++ twoM x.y) _ _ (by simp only [bare7, clockM, List.append_assoc]) (by simp [ld, lm, ll]) h0 (by omega)
  have e6 : twoR (bare7 x) (((24 : Nat) : Int) - 13 + 3) = x.i := two_at _ (dayN x.w ++ [32] ++ monN x.m ++ [32] ++ lowM x.d ++ [32] ++ twoM x.h ++ [58]) ([58] ++ twoM x.s ++ [32] ++ twoM (x.y / 100) ++ twoM x.y) _ _ (by simp only [bare7, clockM, List.append_assoc]) (by simp [ld, lm, ll]) i0 (by omega)
  have e7 : twoR (bare7 x) (((24 : Nat) : Int) - 13 + 6) = x.s := two_at _ (dayN x.w ++ [32] ++ monN x.m ++ [32] ++ lowM x.d ++ [32] ++ twoM x.h ++ [58] ++ twoM x.i ++ [58]) ([32] ++ twoM (x.y / 100) ++ twoM x.y) _ _ (by simp only [bare7, clockM, List.append_assoc]) (by simp [ld, lm, ll]) s0 (by omega)
  rw [e1, e2, e3, e4, e5, e6, e7, show x.y / 100 * 100 + x.y % 100 = x.y by omega, show x.m + 1 - 1 = x.m by omega]
theorem refK_iff (k : Nat) (hk : k ≤ 2) (c : Int) (s : List UInt8) (a : Int) :
    refK k c s = some a ↔ 0 ≤ a ∧ a ≤ 253402300799 ∧ s = text7 k (ofM a) ∧ (k = 1 → yOf a = yearO c (yOf a % 100)) := by
  constructor
  · intro h
    unfold refK at h
    split at h
    · rename_i hok
      split at h
      · rename_i ht
        have ha : (guessR s k c).at_ = a := by simpa using h
        have ok := (okB_iff _ (guess_m s k c)).1 hok
        have oa := of_at _ ok
        rw [ha] at oa ht
        refine ⟨oa.1, oa.2.1, ht.symm, fun e => ?_⟩
        subst e
        obtain ⟨ok2, _, _⟩ := at_of a oa.1 oa.2.1
        have hg := guess_old (ofM a) ok2 c
        rw [show old7 (ofM a) = s from ht] at hg
        have h1 : yOf a = (guessR s 1 c).y := by have := congrArg D7.y oa.2.2; exact this
        rw [h1, hg]
        show yearO c ((ofM a).y % 100) = yearO c ((yearO c ((ofM a).y % 100)) % 100)
        congr 1
        unfold yearO
        split <;> omega
      · cases h
    · cases h
  · rintro ⟨h0, h1, hs, hy⟩
    obtain ⟨ok, hat, hw⟩ := at_of a h0 h1
    have w0 : 0 ≤ (ofM a).w ∧ (ofM a).w ≤ 6 := by rw [← hw]; omega
    have hg : guessR s k c = { ofM a with w := 0 } := by
      rw [hs]
      rcases (by omega : k = 0 ∨ k = 1 ∨ k = 2) with rfl | rfl | rfl
      · exact guess_own _ ok w0.1 w0.2 c
      · have := guess_old _ ok c
        rw [show yearO c ((ofM a).y % 100) = (ofM a).y from (hy rfl).symm] at this
        exact this
      · exact guess_bare _ ok w0.1 w0.2 c
    have hok : okB (guessR s k c) = true := (okB_iff _ (guess_m s k c)).2 (by rw [hg]; obtain ⟨y0, y1, m0, m1, d0, d1, h0, h1, i0, i1, s0, s1⟩ := ok; exact ⟨y0, y1, m0, m1, d0, d1, h0, h1, i0, i1, s0, s1⟩)
    have hat2 : (guessR s k c).at_ = a := by rw [hg]; exact hat
    unfold refK
    rw [if_pos hok, hat2, if_pos hs.symm]
theorem both (s : List UInt8) (now : Int) : (firstK fun k => progK k (nowY now) s) = firstK fun k => refK k (nowY now) s := by
  have hb := nowY_bd now
  have h : ∀ k, k ≤ 2 → progK k (nowY now) s = refK k (nowY now) s := by
    intro k hk
    have e : ∀ a, progK k (nowY now) s = some a ↔ refK k (nowY now) s = some a := fun a => (progK_iff k _ hb.1 hb.2 s a).trans (refK_iff k hk _ s a).symm
    cases h1 : progK k (nowY now) s with
    | some a => rw [(e a).1 h1]
    | none =>
      cases h2 : refK k (nowY now) s with
      | none => rfl
      | some a => rw [(e a).2 h2] at h1; cases h1
  simp only [firstK, h 0 (by omega), h 1 (by omega), h 2 (by omega)]
end Go.Proofs.Ytnaapoigmihjoaa
