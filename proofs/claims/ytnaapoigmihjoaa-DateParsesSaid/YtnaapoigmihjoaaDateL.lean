/- Layer 12 in plain Lean: a date's three texts, and how the program reads them back. No program. No condition. -/
import Derived.Test.YtnaapoigmihjoaaDateRM
namespace Go.Proofs.Ytnaapoigmihjoaa
set_option linter.all false
open Go Go.RowKit

/-- A date's parts (months from 0). -/
structure D7 where
  y : Int
  m : Int
  d : Int
  h : Int
  i : Int
  s : Int
  w : Int
structure D7.Ok (x : D7) : Prop where
  y0 : 1970 ≤ x.y
  y1 : x.y ≤ 9999
  m0 : 0 ≤ x.m
  m1 : x.m ≤ 11
  d0 : 1 ≤ x.d
  d1 : x.d ≤ lenM x.y x.m
  h0 : 0 ≤ x.h
  h1 : x.h ≤ 23
  i0 : 0 ≤ x.i
  i1 : x.i ≤ 59
  s0 : 0 ≤ x.s
  s1 : x.s ≤ 59
def D7.day (x : D7) : Int := begM x.y + cumM x.y x.m + x.d - 1
def D7.at_ (x : D7) : Int := x.day * 86400 + (3600 * x.h + 60 * x.i + x.s)
def ofM (a : Int) : D7 := ⟨yOf a, mOf a, dOf a, hOf a, miOf a, sOf a, wOf a⟩
theorem of_at (x : D7) (k : x.Ok) : 0 ≤ x.at_ ∧ x.at_ ≤ 253402300799 ∧ ofM x.at_ = { x with w := x.day % 7 } := by
  obtain ⟨y0, y1, m0, m1, d0, d1, h0, h1, i0, i1, s0, s1⟩ := k
  have c1 := cumM_bd x.y x.m m0 (by omega)
  have c2 := cumM_succ x.y x.m m0 (by omega)
  have c3 := cumM_mono x.y (x.m + 1) 12 (by omega) (by omega) (by omega)
  rw [cumM_12] at c3
  have b1 := begM_succ x.y
  have b2 := begM_mono 1970 x.y y0
  rw [begM_1970] at b2
  have b3 := begM_mono (x.y + 1) 10000 (by omega)
  have b4 : begM 10000 = 2932897 := by decide
  obtain ⟨D, hD⟩ : ∃ D, D = x.day := ⟨_, rfl⟩
  have hD2 : D = begM x.y + cumM x.y x.m + x.d - 1 := by rw [hD]; rfl
  have ha : x.at_ = D * 86400 + (3600 * x.h + 60 * x.i + x.s) := by rw [hD]; rfl
  have hq : x.at_ / 86400 = D := by rw [ha]; omega
  have hr : x.at_ % 86400 = 3600 * x.h + 60 * x.i + x.s := by rw [ha]; omega
  have ey : yOf x.at_ = x.y := by unfold yOf; rw [hq]; exact yearM_eq D x.y (by omega) (by omega) (by omega)
  have el : lOf x.at_ = cumM x.y x.m + x.d - 1 := by unfold lOf; rw [ey, hq]; omega
  have em : mOf x.at_ = x.m := by unfold mOf; rw [ey, el]; exact monM_eq x.y _ x.m (by omega) (by omega) m0 m1 (by omega) (by omega)
  have ed : dOf x.at_ = x.d := by unfold dOf; rw [ey, el, em]; omega
  have eh : hOf x.at_ = x.h := by unfold hOf; rw [hr]; omega
  have ei : miOf x.at_ = x.i := by unfold miOf; rw [hr]; omega
  have es : sOf x.at_ = x.s := by unfold sOf; rw [hr]; omega
  have ew : wOf x.at_ = x.day % 7 := by unfold wOf; rw [hq, hD]
  refine ⟨by rw [ha]; omega, by rw [ha]; omega, ?_⟩
  unfold ofM
  rw [ey, em, ed, eh, ei, es, ew]
theorem at_of (a : Int) (h0 : 0 ≤ a) (h1 : a ≤ 253402300799) : (ofM a).Ok ∧ (ofM a).at_ = a ∧ (ofM a).day % 7 = (ofM a).w := by
  obtain ⟨p1, p2, p3, p4, p5, p6, p7, p8⟩ := of_prop a h0 h1
  have c2 := cumM_succ (yOf a) (mOf a) p5 p6
  have hd : (ofM a).day = a / 86400 := by unfold D7.day ofM; show begM (yOf a) + cumM (yOf a) (mOf a) + dOf a - 1 = _; unfold dOf lOf; omega
  refine ⟨⟨p1, p2, p5, p6, by show 1 ≤ dOf a; unfold dOf; omega, by show dOf a ≤ lenM (yOf a) (mOf a); unfold dOf; omega, by show 0 ≤ hOf a; unfold hOf; omega, by show hOf a ≤ 23; unfold hOf; omega, by show 0 ≤ miOf a; unfold miOf; omega, by show miOf a ≤ 59; unfold miOf; omega, by show 0 ≤ sOf a; unfold sOf; omega, by show sOf a ≤ 59; unfold sOf; omega⟩, ?_, ?_⟩
  · unfold D7.at_
    rw [hd]
    show a / 86400 * 86400 + (3600 * hOf a + 60 * miOf a + sOf a) = a
    unfold hOf miOf sOf; omega
  · rw [hd]; rfl

/-- The texts. -/
def own7 (x : D7) : List UInt8 := ownT x.w x.d x.m x.y x.h x.i x.s
def old7 (x : D7) : List UInt8 := longN x.w ++ [44, 32] ++ twoM x.d ++ [45] ++ monN x.m ++ [45] ++ twoM (x.y % 100) ++ [32] ++ clockM x.h x.i x.s ++ gmt
def lowM (d : Int) : List UInt8 := if d < 10 then [32, dg (d % 10)] else twoM d
def bare7 (x : D7) : List UInt8 := dayN x.w ++ [32] ++ monN x.m ++ [32] ++ lowM x.d ++ [32] ++ clockM x.h x.i x.s ++ [32] ++ twoM (x.y / 100) ++ twoM x.y
def text7 (k : Nat) (x : D7) : List UInt8 := match k with | 0 => own7 x | 1 => old7 x | _ => bare7 x
def kindP (k : Nat) (c : Int) (p : PS) : PS := match k with | 0 => ownP p | 1 => oldP p c | _ => bareP p
def start (s : List UInt8) : PS := ⟨s, 0, 0, 0, 0, 0, 0, 0, false⟩
def momA (p : PS) : Int := dayOf p * 86400 + (3600 * p.hour + 60 * p.minute + p.sec)
instance (p : PS) : Decidable (momNo p) := by unfold momNo; infer_instance
/-- What the program reads in a text of a kind, in a year. -/
def progK (k : Nat) (c : Int) (s : List UInt8) : Option Int :=
  if momNo (kindP k c (start s)) ∨ dayOf (kindP k c (start s)) % 7 ≠ (kindP k c (start s)).week then none else some (momA (kindP k c (start s)))

/-- Digits back and forth. -/
theorem dg_toNat (n : Int) (h0 : 0 ≤ n) (h1 : n ≤ 9) : (dg n).toNat = 48 + n.toNat := by
  have : ∀ d : Fin 10, (dg (d.val : Int)).toNat = 48 + d.val := by decide
  have h := this ⟨n.toNat, by omega⟩
  simp only [Int.toNat_of_nonneg h0] at h
  exact h
theorem dg_of (c : UInt8) (h : isDg c = true) : dg ((c.toNat : Int) - 48) = c := by
  have h2 : 48 ≤ c.toNat ∧ c.toNat ≤ 57 := by simpa [isDg] using h
  unfold dg
  rw [show (48 + ((c.toNat : Int) - 48)).toNat = c.toNat by omega]
  simp
theorem isDg_dg (n : Int) (h0 : 0 ≤ n) (h1 : n ≤ 9) : isDg (dg n) = true := by
  unfold isDg; rw [dg_toNat n h0 h1]; simp; omega
theorem two_val (v : Int) (h0 : 0 ≤ v) (h1 : v ≤ 99) : valD (twoM v) = v ∧ (twoM v).all isDg = true := by
  have a := dg_toNat (v / 10 % 10) (by omega) (by omega)
  have b := dg_toNat (v % 10) (by omega) (by omega)
  refine ⟨by simp only [valD, twoM, List.foldl_cons, List.foldl_nil]; rw [a, b]; omega, ?_⟩
  simp only [twoM, List.all_cons, List.all_nil, isDg_dg (v / 10 % 10) (by omega) (by omega), isDg_dg (v % 10) (by omega) (by omega)]; rfl
theorem four_val (v : Int) (h0 : 0 ≤ v) (h1 : v ≤ 9999) : valD (twoM (v / 100) ++ twoM v) = v ∧ (twoM (v / 100) ++ twoM v).all isDg = true := by
  have a := dg_toNat (v / 100 / 10 % 10) (by omega) (by omega)
  have b := dg_toNat (v / 100 % 10) (by omega) (by omega)
  have c := dg_toNat (v / 10 % 10) (by omega) (by omega)
  have d := dg_toNat (v % 10) (by omega) (by omega)
  refine ⟨by simp only [valD, twoM, List.cons_append, List.nil_append, List.foldl_cons, List.foldl_nil]; rw [a, b, c, d]; omega, ?_⟩
  simp only [twoM, List.cons_append, List.nil_append, List.all_cons, List.all_nil, isDg_dg (v / 100 / 10 % 10) (by omega) (by omega), isDg_dg (v / 100 % 10) (by omega) (by omega), isDg_dg (v / 10 % 10) (by omega) (by omega), isDg_dg (v % 10) (by omega) (by omega)]; rfl
theorem one_val (v : Int) (h0 : 0 ≤ v) (h1 : v ≤ 9) : valD [dg (v % 10)] = v ∧ [dg (v % 10)].all isDg = true := by
  have b := dg_toNat (v % 10) (by omega) (by omega)
  refine ⟨by simp only [valD, List.foldl_cons, List.foldl_nil]; rw [b]; omega, by simp only [List.all_cons, List.all_nil, isDg_dg (v % 10) (by omega) (by omega)]; rfl⟩
theorem one_back (l : List UInt8) (hl : l.length = 1) (h : l.all isDg = true) : l = [dg (valD l % 10)] ∧ 0 ≤ valD l ∧ valD l ≤ 9 := by
  match l, hl with
  | [a], _ =>
    have ha : isDg a = true := by simpa using h
    have h2 : 48 ≤ a.toNat ∧ a.toNat ≤ 57 := by simpa [isDg] using ha
    have e : valD [a] = (a.toNat : Int) - 48 := by simp [valD]
    rw [e, Int.emod_eq_of_lt (by omega) (by omega), dg_of a ha]
    exact ⟨rfl, by omega, by omega⟩
theorem two_back (l : List UInt8) (hl : l.length = 2) (h : l.all isDg = true) : l = twoM (valD l) ∧ 0 ≤ valD l ∧ valD l ≤ 99 := by
  match l, hl with
  | [a, b], _ =>
    have hab : isDg a = true ∧ isDg b = true := by simpa using h
    have h1 : 48 ≤ a.toNat ∧ a.toNat ≤ 57 := by simpa [isDg] using hab.1
    have h2 : 48 ≤ b.toNat ∧ b.toNat ≤ 57 := by simpa [isDg] using hab.2
    have e : valD [a, b] = 10 * ((a.toNat : Int) - 48) + ((b.toNat : Int) - 48) := by simp [valD]
    rw [e]
    refine ⟨?_, by omega, by omega⟩
    unfold twoM
    rw [show (10 * ((a.toNat : Int) - 48) + ((b.toNat : Int) - 48)) / 10 % 10 = (a.toNat : Int) - 48 by omega, show (10 * ((a.toNat : Int) - 48) + ((b.toNat : Int) - 48)) % 10 = (b.toNat : Int) - 48 by omega, dg_of a hab.1, dg_of b hab.2]
theorem four_back (l : List UInt8) (hl : l.length = 4) (h : l.all isDg = true) : l = twoM (valD l / 100) ++ twoM (valD l) ∧ 0 ≤ valD l ∧ valD l ≤ 9999 := by
  match l, hl with
  | [a, b, c, d], _ =>
    have hab : isDg a = true ∧ isDg b = true ∧ isDg c = true ∧ isDg d = true := by simpa using h
    have h1 : 48 ≤ a.toNat ∧ a.toNat ≤ 57 := by simpa [isDg] using hab.1
    have h2 : 48 ≤ b.toNat ∧ b.toNat ≤ 57 := by simpa [isDg] using hab.2.1
    have h3 : 48 ≤ c.toNat ∧ c.toNat ≤ 57 := by simpa [isDg] using hab.2.2.1
    have h4 : 48 ≤ d.toNat ∧ d.toNat ≤ 57 := by simpa [isDg] using hab.2.2.2
    obtain ⟨A, hA⟩ : ∃ A : Int, A = (a.toNat : Int) - 48 := ⟨_, rfl⟩
    obtain ⟨B, hB⟩ : ∃ A : Int, A = (b.toNat : Int) - 48 := ⟨_, rfl⟩
    obtain ⟨C, hC⟩ : ∃ A : Int, A = (c.toNat : Int) - 48 := ⟨_, rfl⟩
    obtain ⟨D, hD⟩ : ∃ A : Int, A = (d.toNat : Int) - 48 := ⟨_, rfl⟩
    have e : valD [a, b, c, d] = 1000 * A + 100 * B + 10 * C + D := by simp [valD]; omega
    rw [e]
    refine ⟨?_, by omega, by omega⟩
    unfold twoM
    rw [show (1000 * A + 100 * B + 10 * C + D) / 100 / 10 % 10 = A by omega, show (1000 * A + 100 * B + 10 * C + D) / 100 % 10 = B by omega, show (1000 * A + 100 * B + 10 * C + D) / 10 % 10 = C by omega, show (1000 * A + 100 * B + 10 * C + D) % 10 = D by omega, hA, hB, hC, hD, dg_of a hab.1, dg_of b hab.2.1, dg_of c hab.2.2.1, dg_of d hab.2.2.2]
    rfl

/-- The steps on a text whose beginning is known. -/
theorem word_fwd (s r : List UInt8) (a b c d e f g : Int) (z : Bool) : wordP ⟨s ++ r, a, b, c, d, e, f, g, z⟩ s = ⟨r, a, b, c, d, e, f, g, z⟩ := by
  have hp : Lib.hasPrefix (s ++ r) s = true := by unfold Lib.hasPrefix; rw [List.isPrefixOf_iff_prefix]; exact List.prefix_append s r
  unfold wordP Lib.trimPrefix
  rw [hp]; simp
theorem digs_fwd (l r : List UInt8) (n : Nat) (v : Int) (hl : l.length = n) (hv : valD l = v ∧ l.all isDg = true) (a b c d e f g : Int) (z : Bool) :
    digitsP ⟨l ++ r, a, b, c, d, e, f, g, z⟩ n = ⟨r, a, b, c, d, e, f, g, z⟩ ∧ digitsV ⟨l ++ r, a, b, c, d, e, f, g, z⟩ n = v := by
  have ok : digsOk ⟨l ++ r, a, b, c, d, e, f, g, z⟩ n = true := by
    unfold digsOk
    subst hl
    simp only [List.take_left]
    rw [hv.2]; simp
  subst hl
  unfold digitsP digitsV
  rw [if_pos ok, if_pos ok]
  simp [hv.1]
theorem day_find (w : Int) (h0 : 0 ≤ w) (h1 : w ≤ 6) (r : List UInt8) : nameI daysL (dayN w ++ r) = some w.toNat := by
  have : w = 0 ∨ w = 1 ∨ w = 2 ∨ w = 3 ∨ w = 4 ∨ w = 5 ∨ w = 6 := by omega
  rcases this with rfl | rfl | rfl | rfl | rfl | rfl | rfl <;> rfl
theorem mon_find (m : Int) (h0 : 0 ≤ m) (h1 : m ≤ 11) (r : List UInt8) : nameI monthsL (monN m ++ r) = some m.toNat := by
  have : m = 0 ∨ m = 1 ∨ m = 2 ∨ m = 3 ∨ m = 4 ∨ m = 5 ∨ m = 6 ∨ m = 7 ∨ m = 8 ∨ m = 9 ∨ m = 10 ∨ m = 11 := by omega
  rcases this with rfl | rfl | rfl | rfl | rfl | rfl | rfl | rfl | rfl | rfl | rfl | rfl <;> rfl
theorem name_fwd (all l r : List UInt8) (v : Int) (h0 : 0 ≤ v) (hl : l.length = 3) (hf : nameI all (l ++ r) = some v.toNat) (a b c d e f g : Int) (z : Bool) :
    nameP ⟨l ++ r, a, b, c, d, e, f, g, z⟩ all = ⟨r, a, b, c, d, e, f, g, z⟩ ∧ nameV ⟨l ++ r, a, b, c, d, e, f, g, z⟩ all = v := by
  have ho : nameO ⟨l ++ r, a, b, c, d, e, f, g, z⟩ all = some v.toNat := by
    unfold nameO; rw [if_pos (by simp; omega)]; exact hf
  unfold nameP nameV
  rw [ho]
  refine ⟨?_, by simp; omega⟩
  simp only [← hl, List.drop_left]
theorem dayN_len' (w : Int) (h0 : 0 ≤ w) (h1 : w ≤ 6) : (dayN w).length = 3 := by
  have := dayN_len w.toNat (by omega); rwa [Int.toNat_of_nonneg h0] at this
theorem monN_len' (w : Int) (h0 : 0 ≤ w) (h1 : w ≤ 11) : (monN w).length = 3 := by
  have := monN_len w.toNat (by omega); rwa [Int.toNat_of_nonneg h0] at this
theorem clock_fwd (h i s : Int) (h0 : 0 ≤ h) (h1 : h ≤ 99) (i0 : 0 ≤ i) (i1 : i ≤ 99) (s0 : 0 ≤ s) (s1 : s ≤ 99) (r : List UInt8) (a b c d e f g : Int) (z : Bool) :
    clockP ⟨clockM h i s ++ r, a, b, c, d, e, f, g, z⟩ = ⟨r, a, b, c, d, h, i, s, z⟩ := by
  have E : clockM h i s ++ r = twoM h ++ ([58] ++ (twoM i ++ ([58] ++ (twoM s ++ r)))) := by simp only [clockM, List.append_assoc]
  rw [E]
  unfold clockP
  have a1 := digs_fwd (twoM h) ([58] ++ (twoM i ++ ([58] ++ (twoM s ++ r)))) 2 h rfl (two_val h h0 h1) a b c d e f g z
  have a2 := digs_fwd (twoM i) ([58] ++ (twoM s ++ r)) 2 i rfl (two_val i i0 i1) a b c d h f g z
  have a3 := digs_fwd (twoM s) r 2 s rfl (two_val s s0 s1) a b c d h i g z
  simp only [a1.1, a1.2, word_fwd, a2.1, a2.2, a3.1, a3.2]
theorem dayV (w : Int) (w0 : 0 ≤ w) (w6 : w ≤ 6) (r : List UInt8) (a b c d e f g : Int) (z : Bool) : nameP ⟨dayN w ++ r, a, b, c, d, e, f, g, z⟩ daysL = ⟨r, a, b, c, d, e, f, g, z⟩ ∧ nameV ⟨dayN w ++ r, a, b, c, d, e, f, g, z⟩ daysL = w := name_fwd daysL (dayN w) r w w0 (dayN_len' w w0 w6) (day_find w w0 w6 r) a b c d e f g z
theorem monV (w : Int) (w0 : 0 ≤ w) (w6 : w ≤ 11) (r : List UInt8) (a b c d e f g : Int) (z : Bool) : nameP ⟨monN w ++ r, a, b, c, d, e, f, g, z⟩ monthsL = ⟨r, a, b, c, d, e, f, g, z⟩ ∧ nameV ⟨monN w ++ r, a, b, c, d, e, f, g, z⟩ monthsL = w := name_fwd monthsL (monN w) r w w0 (monN_len' w w0 w6) (mon_find w w0 w6 r) a b c d e f g z
theorem lenM_99 (y m : Int) : lenM y m ≤ 99 := by have := lenM_bd y m; omega
theorem own_fwd (x : D7) (k : x.Ok) (w0 : 0 ≤ x.w) (w6 : x.w ≤ 6) : ownP (start (own7 x)) = ⟨[], x.w, x.y, x.m, x.d, x.h, x.i, x.s, false⟩ := by
  obtain ⟨y0, y1, m0, m1, d0, d1, h0, h1, i0, i1, s0, s1⟩ := k
  have d9 := lenM_99 x.y x.m
  have E : own7 x = dayN x.w ++ ([44, 32] ++ (twoM x.d ++ ([32] ++ (monN x.m ++ ([32] ++ ((twoM (x.y / 100) ++ twoM x.y) ++ ([32] ++ (clockM x.h x.i x.s ++ (gmt ++ []))))))))) := by
    simp only [own7, ownT, List.append_assoc, List.append_nil]
  rw [E]
  unfold ownP start
  have G : ([32, 71, 77, 84] : List UInt8) = gmt := rfl
  rw [G]
  have a1 := dayV x.w w0 w6 ([44, 32] ++ (twoM x.d ++ ([32] ++ (monN x.m ++ ([32] ++ ((twoM (x.y / 100) ++ twoM x.y) ++ ([32] ++ (clockM x.h x.i x.s ++ (gmt ++ []))))))))) 0 0 0 0 0 0 0 false
  have a2 := digs_fwd (twoM x.d) ([32] ++ (monN x.m ++ ([32] ++ ((twoM (x.y / 100) ++ twoM x.y) ++ ([32] ++ (clockM x.h x.i x.s ++ (gmt ++ []))))))) 2 x.d rfl (two_val x.d (by omega) (by omega)) x.w 0 0 0 0 0 0 false
  have a3 := monV x.m m0 m1 ([32] ++ ((twoM (x.y / 100) ++ twoM x.y) ++ ([32] ++ (clockM x.h x.i x.s ++ (gmt ++ []))))) x.w 0 0 x.d 0 0 0 false
  have a4 := digs_fwd (twoM (x.y / 100) ++ twoM x.y) ([32] ++ (clockM x.h x.i x.s ++ (gmt ++ []))) 4 x.y rfl (four_val x.y (by omega) y1) x.w 0 x.m x.d 0 0 0 false
  simp only [a1.1, a1.2, word_fwd, a2.1, a2.2, a3.1, a3.2, a4.1, a4.2, clock_fwd x.h x.i x.s h0 (by omega) i0 (by omega) s0 (by omega)]
theorem long_split (w : Int) (h0 : 0 ≤ w) (h1 : w ≤ 6) : longN w = dayN w ++ (longN w).drop 3 := by
  have : w = 0 ∨ w = 1 ∨ w = 2 ∨ w = 3 ∨ w = 4 ∨ w = 5 ∨ w = 6 := by omega
  rcases this with rfl | rfl | rfl | rfl | rfl | rfl | rfl <;> rfl
theorem old_fwd (x : D7) (k : x.Ok) (w0 : 0 ≤ x.w) (w6 : x.w ≤ 6) (c : Int) : oldP (start (old7 x)) c = ⟨[], x.w, yearO c (x.y % 100), x.m, x.d, x.h, x.i, x.s, false⟩ := by
  obtain ⟨y0, y1, m0, m1, d0, d1, h0, h1, i0, i1, s0, s1⟩ := k
  have d9 := lenM_99 x.y x.m
  have E : old7 x = dayN x.w ++ ((longN x.w).drop 3 ++ ([44, 32] ++ (twoM x.d ++ ([45] ++ (monN x.m ++ ([45] ++ (twoM (x.y % 100) ++ ([32] ++ (clockM x.h x.i x.s ++ (gmt ++ [])))))))))) := by
    unfold old7
    conv => lhs; rw [long_split x.w w0 w6]
    simp only [List.append_assoc, List.append_nil]
  rw [E]
  unfold oldP start
  have G : ([32, 71, 77, 84] : List UInt8) = gmt := rfl
  rw [G]
  have a1 := dayV x.w w0 w6 ((longN x.w).drop 3 ++ ([44, 32] ++ (twoM x.d ++ ([45] ++ (monN x.m ++ ([45] ++ (twoM (x.y % 100) ++ ([32] ++ (clockM x.h x.i x.s ++ (gmt ++ [])))))))))) 0 0 0 0 0 0 0 false
  have a2 := digs_fwd (twoM x.d) ([45] ++ (monN x.m ++ ([45] ++ (twoM (x.y % 100) ++ ([32] ++ (clockM x.h x.i x.s ++ (gmt ++ []))))))) 2 x.d rfl (two_val x.d (by omega) (by omega)) x.w 0 0 0 0 0 0 false
  have a3 := monV x.m m0 m1 ([45] ++ (twoM (x.y % 100) ++ ([32] ++ (clockM x.h x.i x.s ++ (gmt ++ []))))) x.w 0 0 x.d 0 0 0 false
  have a4 := digs_fwd (twoM (x.y % 100)) ([32] ++ (clockM x.h x.i x.s ++ (gmt ++ []))) 2 (x.y % 100) rfl (two_val (x.y % 100) (by omega) (by omega)) x.w 0 x.m x.d 0 0 0 false
  simp only [a1.1, a1.2, oldW, Bool.false_eq_true, if_false, word_fwd, a2.1, a2.2, a3.1, a3.2, a4.1, a4.2, clock_fwd x.h x.i x.s h0 (by omega) i0 (by omega) s0 (by omega)]
theorem pre32 (l : List UInt8) (a : UInt8) : Lib.hasPrefix (a :: l) [32] = (32 == a) := by
  unfold Lib.hasPrefix; simp [List.isPrefixOf]
theorem bareD_fwd (v : Int) (h0 : 1 ≤ v) (h1 : v ≤ 99) (r : List UInt8) (a b c d e f g : Int) : bareD ⟨lowM v ++ r, a, b, c, d, e, f, g, false⟩ = ⟨r, a, b, c, v, e, f, g, false⟩ := by
  unfold bareD lowM
  by_cases hv : v < 10
  · rw [if_pos hv, if_pos (by rw [List.cons_append, pre32]; rfl)]
    have a2 := digs_fwd [dg (v % 10)] r 1 v rfl (one_val v (by omega) (by omega)) a b c d e f g false
    have E : [32, dg (v % 10)] ++ r = [32] ++ ([dg (v % 10)] ++ r) := rfl
    rw [E]
    simp only [word_fwd, a2.1, a2.2]
  · have a2 := digs_fwd (twoM v) r 2 v rfl (two_val v (by omega) (by omega)) a b c d e f g false
    have hn : Lib.hasPrefix (twoM v ++ r) [32] = false := by
      show Lib.hasPrefix (dg (v / 10 % 10) :: (dg (v % 10) :: r)) [32] = false
      rw [pre32]
      have h := dg_toNat (v / 10 % 10) (by omega) (by omega)
      rw [beq_eq_false_iff_ne]
      intro h2
      rw [← h2] at h
      have : (32 : UInt8).toNat = 32 := rfl
      omega
    rw [if_neg hv, if_neg (by rw [hn]; simp)]
    simp only [a2.1, a2.2, decide_eq_false hv]
    rfl
theorem bare_fwd (x : D7) (k : x.Ok) (w0 : 0 ≤ x.w) (w6 : x.w ≤ 6) : bareP (start (bare7 x)) = ⟨[], x.w, x.y, x.m, x.d, x.h, x.i, x.s, false⟩ := by
  obtain ⟨y0, y1, m0, m1, d0, d1, h0, h1, i0, i1, s0, s1⟩ := k
  have d9 := lenM_99 x.y x.m
  have E : bare7 x = dayN x.w ++ ([32] ++ (monN x.m ++ ([32] ++ (lowM x.d ++ ([32] ++ (clockM x.h x.i x.s ++ ([32] ++ ((twoM (x.y / 100) ++ twoM x.y) ++ [])))))))) := by
    simp only [bare7, List.append_assoc, List.append_nil]
  rw [E]
  unfold bareP start
  have a1 := dayV x.w w0 w6 ([32] ++ (monN x.m ++ ([32] ++ (lowM x.d ++ ([32] ++ (clockM x.h x.i x.s ++ ([32] ++ ((twoM (x.y / 100) ++ twoM x.y) ++ [])))))))) 0 0 0 0 0 0 0 false
  have a3 := monV x.m m0 m1 ([32] ++ (lowM x.d ++ ([32] ++ (clockM x.h x.i x.s ++ ([32] ++ ((twoM (x.y / 100) ++ twoM x.y) ++ [])))))) x.w 0 0 0 0 0 0 false
  have a4 := digs_fwd (twoM (x.y / 100) ++ twoM x.y) [] 4 x.y rfl (four_val x.y (by omega) y1) x.w 0 x.m x.d x.h x.i x.s false
  simp only [a1.1, a1.2, word_fwd, a3.1, a3.2, bareD_fwd x.d d0 (by omega), clock_fwd x.h x.i x.s h0 (by omega) i0 (by omega) s0 (by omega), a4.1, a4.2]
end Go.Proofs.Ytnaapoigmihjoaa
