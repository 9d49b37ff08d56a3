/- Layer 12: contracts of the document's guess at a text. Printed by gen_guess.py. No condition. -/
import Derived.Test.YtnaapoigmihjoaaDateV
namespace Go.Proofs.Ytnaapoigmihjoaa
set_option linter.all false
open Go Go.RowKit

def dayG (s : List UInt8) : Int := match s[8]?, s[9]? with | some a, some b => if a = 32 ∧ isDg b = true then (b.toNat : Int) - 48 else twoR s 8 | _, _ => twoR s 8
/-- The date that a text of a kind says by its places (months from 0), and whether it may be. -/
def guessR (s : List UInt8) (k : Nat) (c : Int) : D7 :=
  if k = 0 then ⟨twoR s 12 * 100 + twoR s 14, monR s 8 - 1, twoR s 5, twoR s ((s.length : Int) - 12), twoR s ((s.length : Int) - 12 + 3), twoR s ((s.length : Int) - 12 + 6), 0⟩
  else if k = 1 then ⟨if c + 50 < c / 100 * 100 + twoR s ((s.length : Int) - 12 - 3) then c / 100 * 100 + twoR s ((s.length : Int) - 12 - 3) - 100 else c / 100 * 100 + twoR s ((s.length : Int) - 12 - 3), monR s ((s.length : Int) - 12 - 7) - 1, twoR s ((s.length : Int) - 12 - 10), twoR s ((s.length : Int) - 12), twoR s ((s.length : Int) - 12 + 3), twoR s ((s.length : Int) - 12 + 6), 0⟩
  else ⟨twoR s 20 * 100 + twoR s 22, monR s 4 - 1, dayG s, twoR s ((s.length : Int) - 13), twoR s ((s.length : Int) - 13 + 3), twoR s ((s.length : Int) - 13 + 6), 0⟩
theorem refTwoB (s : List UInt8) (i : Int) (hs : s.length ≤ 9223372036854775000) (hi : i ≤ 9223372036854775000) (w : World) :
    Calls Try.prog 40 #[.string (S s), .int .i64 i] w fun e w' => e = .returned (.int .i64 (twoR s i)) ∧ Below w.heap.size w w' :=
  (refTwo_any s i hs hi w).mono fun _ _ ⟨a, n, b⟩ => ⟨a, by rw [b]; exact Below.drewN (Below.refl _ _) n⟩
theorem start_g (w : World) :
    Below w.heap.size w ((w.alloc (.cells #[.int .i64 0, .int .i64 0, .int .i64 0, .int .i64 0, .int .i64 0, .int .i64 0, .int .i64 0] 33)).alloc (.cells #[.int .i64 0, .int .i64 0, .int .i64 0, .int .i64 0, .int .i64 0, .int .i64 0, .int .i64 0] 33)) ∧
    Whole ((w.alloc (.cells #[.int .i64 0, .int .i64 0, .int .i64 0, .int .i64 0, .int .i64 0, .int .i64 0, .int .i64 0] 33)).alloc (.cells #[.int .i64 0, .int .i64 0, .int .i64 0, .int .i64 0, .int .i64 0, .int .i64 0, .int .i64 0] 33)) w.heap.size 33 (C7 0 0 0 0 0 0 0) ∧
    Whole ((w.alloc (.cells #[.int .i64 0, .int .i64 0, .int .i64 0, .int .i64 0, .int .i64 0, .int .i64 0, .int .i64 0] 33)).alloc (.cells #[.int .i64 0, .int .i64 0, .int .i64 0, .int .i64 0, .int .i64 0, .int .i64 0, .int .i64 0] 33)) (w.heap.size + 1) 33 (C7 0 0 0 0 0 0 0) := by
  have h1 := Whole.new w 33 (C7 0 0 0 0 0 0 0)
  have h2 := Whole.new (w.alloc (.cells (C7 0 0 0 0 0 0 0).toArray 33)) 33 (C7 0 0 0 0 0 0 0)
  rw [show (w.alloc (.cells (C7 0 0 0 0 0 0 0).toArray 33)).heap.size = w.heap.size + 1 by simp] at h2
  exact ⟨((Below.refl _ _).alloc (Nat.le_refl _) _).alloc (by simp) _, h1.past _, h2⟩
theorem ret_agg {a b c d e f g a' b' c' d' e' f' g' : Int} (h : a = a' ∧ b = b' ∧ c = c' ∧ d = d' ∧ e = e' ∧ f = f' ∧ g = g') : (Value.agg #[.int .i64 a, .int .i64 b, .int .i64 c, .int .i64 d, .int .i64 e, .int .i64 f, .int .i64 g]) = .agg #[.int .i64 a', .int .i64 b', .int .i64 c', .int .i64 d', .int .i64 e', .int .i64 f', .int .i64 g'] := by
  obtain ⟨rfl, rfl, rfl, rfl, rfl, rfl, rfl⟩ := h; rfl
set_option maxHeartbeats 3200000 in
theorem guess0 (s : List UInt8) (c : Int) (hs : s.length ≤ 10000) (w : World) :
    Calls Try.prog 25 #[.string (S s), .int .i64 0, .int .i64 c] w fun e w' => e = .returned (guessR s 0 c).v ∧ Below w.heap.size w w' := by
  have Hf : Hid ((guessR s 0 c).v = .agg #[.int .i64 (twoR s 12 * 100 + twoR s 14), .int .i64 (monR s 8), .int .i64 (twoR s 5), .int .i64 (twoR s ((s.length : Int) - 12)), .int .i64 (twoR s ((s.length : Int) - 12 + 3)), .int .i64 (twoR s ((s.length : Int) - 12 + 6)), .int .i64 0]) := Lib.hid (by
    unfold guessR D7.v; simp)
  have t1 := twoR_bd s 12
  have t2 := twoR_bd s 14
  obtain ⟨B, R, X⟩ := start_g w
  go_enter Try.func25, Try.ntmps25
  go_wp2_with fail
  generalize hw0 : ((w.alloc (.cells #[.int .i64 0, .int .i64 0, .int .i64 0, .int .i64 0, .int .i64 0, .int .i64 0, .int .i64 0] 33)).alloc (.cells #[.int .i64 0, .int .i64 0, .int .i64 0, .int .i64 0, .int .i64 0, .int .i64 0, .int .i64 0] 33)) = w0 at B R X ⊢
  clear hw0
  refine (refTwoB _ _ (by omega) (by omega) _).mono ?_; rintro e w1 ⟨rfl, b1⟩
  replace X := X.keep b1 X.lt
  replace R := R.keep b1 R.lt
  replace B := bt B b1
  clear b1
  have c2 : w1.cell? ⟨w.heap.size + 1, 3, none⟩ = some (.int .i64 (0)) := X.at_ 3
  have z2 := X.free 3
  go_wp2_with fail
  clear c2 z2
  replace X : Whole (w1.setCell ⟨w.heap.size + 1, 3, none⟩ (.int .i64 (twoR s ((s.length : Int) - 12)))) (w.heap.size + 1) 33 (C7 (0) (0) (0) (twoR s ((s.length : Int) - 12)) (0) (0) (0)) := X.put 3 (.int .i64 (twoR s ((s.length : Int) - 12)))
  replace R := R.far (p := ⟨w.heap.size + 1, 3, none⟩) (by simp) (.int .i64 (twoR s ((s.length : Int) - 12)))
  replace B := B.setCell (p := ⟨w.heap.size + 1, 3, none⟩) (by simp) (.int .i64 (twoR s ((s.length : Int) - 12)))
  generalize hw2 : w1.setCell ⟨w.heap.size + 1, 3, none⟩ (.int .i64 (twoR s ((s.length : Int) - 12))) = w2 at X R B ⊢
  clear hw2
  refine (refTwoB _ _ (by omega) (by omega) _).mono ?_; rintro e w3 ⟨rfl, b3⟩
  replace X := X.keep b3 X.lt
  replace R := R.keep b3 R.lt
  replace B := bt B b3
  clear b3
  have c4 : w3.cell? ⟨w.heap.size + 1, 4, none⟩ = some (.int .i64 (0)) := X.at_ 4
  have z4 := X.free 4
  go_wp2_with fail
  clear c4 z4
  replace X : Whole (w3.setCell ⟨w.heap.size + 1, 4, none⟩ (.int .i64 (twoR s ((s.length : Int) - 12 + 3)))) (w.heap.size + 1) 33 (C7 (0) (0) (0) (twoR s ((s.length : Int) - 12)) (twoR s ((s.length : Int) - 12 + 3)) (0) (0)) := X.put 4 (.int .i64 (twoR s ((s.length : Int) - 12 + 3)))
  replace R := R.far (p := ⟨w.heap.size + 1, 4, none⟩) (by simp) (.int .i64 (twoR s ((s.length : Int) - 12 + 3)))
  replace B := B.setCell (p := ⟨w.heap.size + 1, 4, none⟩) (by simp) (.int .i64 (twoR s ((s.length : Int) - 12 + 3)))
  generalize hw4 : w3.setCell ⟨w.heap.size + 1, 4, none⟩ (.int .i64 (twoR s ((s.length : Int) - 12 + 3))) = w4 at X R B ⊢
  clear hw4
  refine (refTwoB _ _ (by omega) (by omega) _).mono ?_; rintro e w5 ⟨rfl, b5⟩
  replace X := X.keep b5 X.lt
  replace R := R.keep b5 R.lt
  replace B := bt B b5
  clear b5
  have c6 : w5.cell? ⟨w.heap.size + 1, 5, none⟩ = some (.int .i64 (0)) := X.at_ 5
  have z6 := X.free 5
  go_wp2_with fail
  clear c6 z6
  replace X : Whole (w5.setCell ⟨w.heap.size + 1, 5, none⟩ (.int .i64 (twoR s ((s.length : Int) - 12 + 6)))) (w.heap.size + 1) 33 (C7 (0) (0) (0) (twoR s ((s.length : Int) - 12)) (twoR s ((s.length : Int) - 12 + 3)) (twoR s ((s.length : Int) - 12 + 6)) (0)) := X.put 5 (.int .i64 (twoR s ((s.length : Int) - 12 + 6)))
  replace R := R.far (p := ⟨w.heap.size + 1, 5, none⟩) (by simp) (.int .i64 (twoR s ((s.length : Int) - 12 + 6)))
  replace B := B.setCell (p := ⟨w.heap.size + 1, 5, none⟩) (by simp) (.int .i64 (twoR s ((s.length : Int) - 12 + 6)))
  generalize hw6 : w5.setCell ⟨w.heap.size + 1, 5, none⟩ (.int .i64 (twoR s ((s.length : Int) - 12 + 6))) = w6 at X R B ⊢
  clear hw6
  refine (refTwoB _ _ (by omega) (by omega) _).mono ?_; rintro e w7 ⟨rfl, b7⟩
  replace X := X.keep b7 X.lt
  replace R := R.keep b7 R.lt
  replace B := bt B b7
  clear b7
  have c8 : w7.cell? ⟨w.heap.size + 1, 2, none⟩ = some (.int .i64 (0)) := X.at_ 2
  have z8 := X.free 2
  go_wp2_with fail
  clear c8 z8
  replace X : Whole (w7.setCell ⟨w.heap.size + 1, 2, none⟩ (.int .i64 (twoR s 5))) (w.heap.size + 1) 33 (C7 (0) (0) (twoR s 5) (twoR s ((s.length : Int) - 12)) (twoR s ((s.length : Int) - 12 + 3)) (twoR s ((s.length : Int) - 12 + 6)) (0)) := X.put 2 (.int .i64 (twoR s 5))
  replace R := R.far (p := ⟨w.heap.size + 1, 2, none⟩) (by simp) (.int .i64 (twoR s 5))
  replace B := B.setCell (p := ⟨w.heap.size + 1, 2, none⟩) (by simp) (.int .i64 (twoR s 5))
  generalize hw8 : w7.setCell ⟨w.heap.size + 1, 2, none⟩ (.int .i64 (twoR s 5)) = w8 at X R B ⊢
  clear hw8
  refine (refMonth_any _ _ (by omega) (by omega) _).mono ?_; rintro e w9 ⟨rfl, b9⟩
  replace X := X.keep b9 X.lt
  replace R := R.keep b9 R.lt
  replace B := bt B b9
  clear b9
  have c10 : w9.cell? ⟨w.heap.size + 1, 1, none⟩ = some (.int .i64 (0)) := X.at_ 1
  have z10 := X.free 1
  go_wp2_with fail
  clear c10 z10
  replace X : Whole (w9.setCell ⟨w.heap.size + 1, 1, none⟩ (.int .i64 (monR s 8))) (w.heap.size + 1) 33 (C7 (0) (monR s 8) (twoR s 5) (twoR s ((s.length : Int) - 12)) (twoR s ((s.length : Int) - 12 + 3)) (twoR s ((s.length : Int) - 12 + 6)) (0)) := X.put 1 (.int .i64 (monR s 8))
  replace R := R.far (p := ⟨w.heap.size + 1, 1, none⟩) (by simp) (.int .i64 (monR s 8))
  replace B := B.setCell (p := ⟨w.heap.size + 1, 1, none⟩) (by simp) (.int .i64 (monR s 8))
  generalize hw10 : w9.setCell ⟨w.heap.size + 1, 1, none⟩ (.int .i64 (monR s 8)) = w10 at X R B ⊢
  clear hw10
  refine (refTwoB _ _ (by omega) (by omega) _).mono ?_; rintro e w11 ⟨rfl, b11⟩
  replace X := X.keep b11 X.lt
  replace R := R.keep b11 R.lt
  replace B := bt B b11
  clear b11
  go_wp2_with fail
  refine (refTwoB _ _ (by omega) (by omega) _).mono ?_; rintro e w12 ⟨rfl, b12⟩
  replace X := X.keep b12 X.lt
  replace R := R.keep b12 R.lt
  replace B := bt B b12
  clear b12
  have c0 : w12.cell? ⟨w.heap.size + 1, 0, none⟩ = some (.int .i64 0) := X.at_ 0
  have z0 := X.free 0
  have c1 : w12.cell? ⟨w.heap.size + 1, 1, none⟩ = some (.int .i64 (monR s 8)) := X.at_ 1
  have c2 : w12.cell? ⟨w.heap.size + 1, 2, none⟩ = some (.int .i64 (twoR s 5)) := X.at_ 2
  have c3 : w12.cell? ⟨w.heap.size + 1, 3, none⟩ = some (.int .i64 (twoR s ((s.length : Int) - 12))) := X.at_ 3
  have c4 : w12.cell? ⟨w.heap.size + 1, 4, none⟩ = some (.int .i64 (twoR s ((s.length : Int) - 12 + 3))) := X.at_ 4
  have c5 : w12.cell? ⟨w.heap.size + 1, 5, none⟩ = some (.int .i64 (twoR s ((s.length : Int) - 12 + 6))) := X.at_ 5
  have c6 : w12.cell? ⟨w.heap.size + 1, 6, none⟩ = some (.int .i64 (0)) := X.at_ 6
  have r0 : w12.cell? ⟨w.heap.size, 0, none⟩ = some (.int .i64 0) := R.at_ 0
  have f0 := R.free 0
  have r1 : w12.cell? ⟨w.heap.size, 1, none⟩ = some (.int .i64 0) := R.at_ 1
  have f1 := R.free 1
  have r2 : w12.cell? ⟨w.heap.size, 2, none⟩ = some (.int .i64 0) := R.at_ 2
  have f2 := R.free 2
  have r3 : w12.cell? ⟨w.heap.size, 3, none⟩ = some (.int .i64 0) := R.at_ 3
  have f3 := R.free 3
  have r4 : w12.cell? ⟨w.heap.size, 4, none⟩ = some (.int .i64 0) := R.at_ 4
  have f4 := R.free 4
  have r5 : w12.cell? ⟨w.heap.size, 5, none⟩ = some (.int .i64 0) := R.at_ 5
  have f5 := R.free 5
  have r6 : w12.cell? ⟨w.heap.size, 6, none⟩ = some (.int .i64 0) := R.at_ 6
  have f6 := R.free 6
  go_wp2_with fail
  refine bodyPost_ret (v := .agg #[.int .i64 (twoR s 12 * 100 + twoR s 14), .int .i64 (monR s 8), .int .i64 (twoR s 5), .int .i64 (twoR s ((s.length : Int) - 12)), .int .i64 (twoR s ((s.length : Int) - 12 + 3)), .int .i64 (twoR s ((s.length : Int) - 12 + 6)), .int .i64 (0)]) (by simp [results, Try.results25, go_sem, r0, r1, r2, r3, r4, r5, r6]) rfl ⟨?_, ?_⟩
  · rw [Hf.out]
  · repeat (refine Below.setCell ?_ (by simp) _)
    exact B
set_option maxHeartbeats 3200000 in
theorem guess1 (s : List UInt8) (c : Int) (k0 : 0 ≤ c) (k1 : c ≤ 100000) (hs : s.length ≤ 10000) (w : World) :
    Calls Try.prog 25 #[.string (S s), .int .i64 1, .int .i64 c] w fun e w' => e = .returned (guessR s 1 c).v ∧ Below w.heap.size w w' := by
  obtain ⟨y, hy⟩ : ∃ y, y = c / 100 * 100 + twoR s ((s.length : Int) - 12 - 3) := ⟨_, rfl⟩
  have Hf : Hid ((guessR s 1 c).v = .agg #[.int .i64 (if c + 50 < y then y - 100 else y), .int .i64 (monR s ((s.length : Int) - 12 - 7)), .int .i64 (twoR s ((s.length : Int) - 12 - 10)), .int .i64 (twoR s ((s.length : Int) - 12)), .int .i64 (twoR s ((s.length : Int) - 12 + 3)), .int .i64 (twoR s ((s.length : Int) - 12 + 6)), .int .i64 0]) := Lib.hid (by
    unfold guessR D7.v; rw [hy]; simp)
  have t1 := twoR_bd s ((s.length : Int) - 12 - 3)
  have hcd : 0 ≤ c / 100 ∧ c / 100 ≤ 1000 := by omega
  have hyb : -1 ≤ y ∧ y ≤ 200000 := by omega
  have Hy := Lib.hid hy
  clear hy
  obtain ⟨B, R, X⟩ := start_g w
  go_enter Try.func25, Try.ntmps25
  go_wp2_with fail
  generalize hw0 : ((w.alloc (.cells #[.int .i64 0, .int .i64 0, .int .i64 0, .int .i64 0, .int .i64 0, .int .i64 0, .int .i64 0] 33)).alloc (.cells #[.int .i64 0, .int .i64 0, .int .i64 0, .int .i64 0, .int .i64 0, .int .i64 0, .int .i64 0] 33)) = w0 at B R X ⊢
  clear hw0
  refine (refTwoB _ _ (by omega) (by omega) _).mono ?_; rintro e w13 ⟨rfl, b13⟩
  replace X := X.keep b13 X.lt
  replace R := R.keep b13 R.lt
  replace B := bt B b13
  clear b13
  have c14 : w13.cell? ⟨w.heap.size + 1, 3, none⟩ = some (.int .i64 (0)) := X.at_ 3
  have z14 := X.free 3
  go_wp2_with fail
  clear c14 z14
  replace X : Whole (w13.setCell ⟨w.heap.size + 1, 3, none⟩ (.int .i64 (twoR s ((s.length : Int) - 12)))) (w.heap.size + 1) 33 (C7 (0) (0) (0) (twoR s ((s.length : Int) - 12)) (0) (0) (0)) := X.put 3 (.int .i64 (twoR s ((s.length : Int) - 12)))
  replace R := R.far (p := ⟨w.heap.size + 1, 3, none⟩) (by simp) (.int .i64 (twoR s ((s.length : Int) - 12)))
  replace B := B.setCell (p := ⟨w.heap.size + 1, 3, none⟩) (by simp) (.int .i64 (twoR s ((s.length : Int) - 12)))
  generalize hw14 : w13.setCell ⟨w.heap.size + 1, 3, none⟩ (.int .i64 (twoR s ((s.length : Int) - 12))) = w14 at X R B ⊢
  clear hw14
  refine (refTwoB _ _ (by omega) (by omega) _).mono ?_; rintro e w15 ⟨rfl, b15⟩
  replace X := X.keep b15 X.lt
  replace R := R.keep b15 R.lt
  replace B := bt B b15
  clear b15
  have c16 : w15.cell? ⟨w.heap.size + 1, 4, none⟩ = some (.int .i64 (0)) := X.at_ 4
  have z16 := X.free 4
  go_wp2_with fail
  clear c16 z16
  replace X : Whole (w15.setCell ⟨w.heap.size + 1, 4, none⟩ (.int .i64 (twoR s ((s.length : Int) - 12 + 3)))) (w.heap.size + 1) 33 (C7 (0) (0) (0) (twoR s ((s.length : Int) - 12)) (twoR s ((s.length : Int) - 12 + 3)) (0) (0)) := X.put 4 (.int .i64 (twoR s ((s.length : Int) - 12 + 3)))
  replace R := R.far (p := ⟨w.heap.size + 1, 4, none⟩) (by simp) (.int .i64 (twoR s ((s.length : Int) - 12 + 3)))
  replace B := B.setCell (p := ⟨w.heap.size + 1, 4, none⟩) (by simp) (.int .i64 (twoR s ((s.length : Int) - 12 + 3)))
  generalize hw16 : w15.setCell ⟨w.heap.size + 1, 4, none⟩ (.int .i64 (twoR s ((s.length : Int) - 12 + 3))) = w16 at X R B ⊢
  clear hw16
  refine (refTwoB _ _ (by omega) (by omega) _).mono ?_; rintro e w17 ⟨rfl, b17⟩
  replace X := X.keep b17 X.lt
  replace R := R.keep b17 R.lt
  replace B := bt B b17
  clear b17
  have c18 : w17.cell? ⟨w.heap.size + 1, 5, none⟩ = some (.int .i64 (0)) := X.at_ 5
  have z18 := X.free 5
  go_wp2_with fail
  clear c18 z18
  replace X : Whole (w17.setCell ⟨w.heap.size + 1, 5, none⟩ (.int .i64 (twoR s ((s.length : Int) - 12 + 6)))) (w.heap.size + 1) 33 (C7 (0) (0) (0) (twoR s ((s.length : Int) - 12)) (twoR s ((s.length : Int) - 12 + 3)) (twoR s ((s.length : Int) - 12 + 6)) (0)) := X.put 5 (.int .i64 (twoR s ((s.length : Int) - 12 + 6)))
  replace R := R.far (p := ⟨w.heap.size + 1, 5, none⟩) (by simp) (.int .i64 (twoR s ((s.length : Int) - 12 + 6)))
  replace B := B.setCell (p := ⟨w.heap.size + 1, 5, none⟩) (by simp) (.int .i64 (twoR s ((s.length : Int) - 12 + 6)))
  generalize hw18 : w17.setCell ⟨w.heap.size + 1, 5, none⟩ (.int .i64 (twoR s ((s.length : Int) - 12 + 6))) = w18 at X R B ⊢
  clear hw18
  refine (refTwoB _ _ (by omega) (by omega) _).mono ?_; rintro e w19 ⟨rfl, b19⟩
  replace X := X.keep b19 X.lt
  replace R := R.keep b19 R.lt
  replace B := bt B b19
  clear b19
  have c20 : w19.cell? ⟨w.heap.size + 1, 2, none⟩ = some (.int .i64 (0)) := X.at_ 2
  have z20 := X.free 2
  go_wp2_with fail
  clear c20 z20
  replace X : Whole (w19.setCell ⟨w.heap.size + 1, 2, none⟩ (.int .i64 (twoR s ((s.length : Int) - 12 - 10)))) (w.heap.size + 1) 33 (C7 (0) (0) (twoR s ((s.length : Int) - 12 - 10)) (twoR s ((s.length : Int) - 12)) (twoR s ((s.length : Int) - 12 + 3)) (twoR s ((s.length : Int) - 12 + 6)) (0)) := X.put 2 (.int .i64 (twoR s ((s.length : Int) - 12 - 10)))
  replace R := R.far (p := ⟨w.heap.size + 1, 2, none⟩) (by simp) (.int .i64 (twoR s ((s.length : Int) - 12 - 10)))
  replace B := B.setCell (p := ⟨w.heap.size + 1, 2, none⟩) (by simp) (.int .i64 (twoR s ((s.length : Int) - 12 - 10)))
  generalize hw20 : w19.setCell ⟨w.heap.size + 1, 2, none⟩ (.int .i64 (twoR s ((s.length : Int) - 12 - 10))) = w20 at X R B ⊢
  clear hw20
  refine (refMonth_any _ _ (by omega) (by omega) _).mono ?_; rintro e w21 ⟨rfl, b21⟩
  replace X := X.keep b21 X.lt
  replace R := R.keep b21 R.lt
  replace B := bt B b21
  clear b21
  have c22 : w21.cell? ⟨w.heap.size + 1, 1, none⟩ = some (.int .i64 (0)) := X.at_ 1
  have z22 := X.free 1
  go_wp2_with fail
  clear c22 z22
  replace X : Whole (w21.setCell ⟨w.heap.size + 1, 1, none⟩ (.int .i64 (monR s ((s.length : Int) - 12 - 7)))) (w.heap.size + 1) 33 (C7 (0) (monR s ((s.length : Int) - 12 - 7)) (twoR s ((s.length : Int) - 12 - 10)) (twoR s ((s.length : Int) - 12)) (twoR s ((s.length : Int) - 12 + 3)) (twoR s ((s.length : Int) - 12 + 6)) (0)) := X.put 1 (.int .i64 (monR s ((s.length : Int) - 12 - 7)))
  replace R := R.far (p := ⟨w.heap.size + 1, 1, none⟩) (by simp) (.int .i64 (monR s ((s.length : Int) - 12 - 7)))
  replace B := B.setCell (p := ⟨w.heap.size + 1, 1, none⟩) (by simp) (.int .i64 (monR s ((s.length : Int) - 12 - 7)))
  generalize hw22 : w21.setCell ⟨w.heap.size + 1, 1, none⟩ (.int .i64 (monR s ((s.length : Int) - 12 - 7))) = w22 at X R B ⊢
  clear hw22
  refine (refTwoB _ _ (by omega) (by omega) _).mono ?_; rintro e w23 ⟨rfl, b23⟩
  replace X := X.keep b23 X.lt
  replace R := R.keep b23 R.lt
  replace B := bt B b23
  clear b23
  rw [show twoR s ((s.length : Int) - 12 - 3) = y - c / 100 * 100 by have := Hy.out; omega]
  have hsum : c / 100 * 100 + (y - c / 100 * 100) = y := by omega
  have c0 : w23.cell? ⟨w.heap.size + 1, 0, none⟩ = some (.int .i64 0) := X.at_ 0
  have z0 := X.free 0
  have c1 : w23.cell? ⟨w.heap.size + 1, 1, none⟩ = some (.int .i64 (monR s ((s.length : Int) - 12 - 7))) := X.at_ 1
  have c2 : w23.cell? ⟨w.heap.size + 1, 2, none⟩ = some (.int .i64 (twoR s ((s.length : Int) - 12 - 10))) := X.at_ 2
  have c3 : w23.cell? ⟨w.heap.size + 1, 3, none⟩ = some (.int .i64 (twoR s ((s.length : Int) - 12))) := X.at_ 3
  have c4 : w23.cell? ⟨w.heap.size + 1, 4, none⟩ = some (.int .i64 (twoR s ((s.length : Int) - 12 + 3))) := X.at_ 4
  have c5 : w23.cell? ⟨w.heap.size + 1, 5, none⟩ = some (.int .i64 (twoR s ((s.length : Int) - 12 + 6))) := X.at_ 5
  have c6 : w23.cell? ⟨w.heap.size + 1, 6, none⟩ = some (.int .i64 (0)) := X.at_ 6
  have r0 : w23.cell? ⟨w.heap.size, 0, none⟩ = some (.int .i64 0) := R.at_ 0
  have f0 := R.free 0
  have r1 : w23.cell? ⟨w.heap.size, 1, none⟩ = some (.int .i64 0) := R.at_ 1
  have f1 := R.free 1
  have r2 : w23.cell? ⟨w.heap.size, 2, none⟩ = some (.int .i64 0) := R.at_ 2
  have f2 := R.free 2
  have r3 : w23.cell? ⟨w.heap.size, 3, none⟩ = some (.int .i64 0) := R.at_ 3
  have f3 := R.free 3
  have r4 : w23.cell? ⟨w.heap.size, 4, none⟩ = some (.int .i64 0) := R.at_ 4
  have f4 := R.free 4
  have r5 : w23.cell? ⟨w.heap.size, 5, none⟩ = some (.int .i64 0) := R.at_ 5
  have f5 := R.free 5
  have r6 : w23.cell? ⟨w.heap.size, 6, none⟩ = some (.int .i64 0) := R.at_ 6
  have f6 := R.free 6
  by_cases hgt : c + 50 < y
  · rw [if_pos hgt] at Hf
    go_wp2_with fail
    refine bodyPost_ret (v := .agg #[.int .i64 (y - 100), .int .i64 (monR s ((s.length : Int) - 12 - 7)), .int .i64 (twoR s ((s.length : Int) - 12 - 10)), .int .i64 (twoR s ((s.length : Int) - 12)), .int .i64 (twoR s ((s.length : Int) - 12 + 3)), .int .i64 (twoR s ((s.length : Int) - 12 + 6)), .int .i64 (0)]) (by simp [results, Try.results25, go_sem, r0, r1, r2, r3, r4, r5, r6]) rfl ⟨?_, ?_⟩
    · rw [Hf.out]
    · repeat (refine Below.setCell ?_ (by simp) _)
      exact B
  · rw [if_neg hgt] at Hf
    go_wp2_with fail
    refine bodyPost_ret (v := .agg #[.int .i64 (y), .int .i64 (monR s ((s.length : Int) - 12 - 7)), .int .i64 (twoR s ((s.length : Int) - 12 - 10)), .int .i64 (twoR s ((s.length : Int) - 12)), .int .i64 (twoR s ((s.length : Int) - 12 + 3)), .int .i64 (twoR s ((s.length : Int) - 12 + 6)), .int .i64 (0)]) (by simp [results, Try.results25, go_sem, r0, r1, r2, r3, r4, r5, r6]) rfl ⟨?_, ?_⟩
    · rw [Hf.out]
    · repeat (refine Below.setCell ?_ (by simp) _)
      exact B
set_option maxHeartbeats 6400000 in
theorem guess2 (s : List UInt8) (c : Int) (hs : s.length ≤ 10000) (w : World) :
    Calls Try.prog 25 #[.string (S s), .int .i64 2, .int .i64 c] w fun e w' => e = .returned (guessR s 2 c).v ∧ Below w.heap.size w w' := by
  obtain ⟨dd, hdd⟩ : ∃ dd, dd = (guessR s 2 c).d := ⟨_, rfl⟩
  have Hf : Hid ((guessR s 2 c).v = .agg #[.int .i64 (twoR s 20 * 100 + twoR s 22), .int .i64 (monR s 4), .int .i64 dd, .int .i64 (twoR s ((s.length : Int) - 13)), .int .i64 (twoR s ((s.length : Int) - 13 + 3)), .int .i64 (twoR s ((s.length : Int) - 13 + 6)), .int .i64 0]) := Lib.hid (by
    rw [hdd]; unfold guessR D7.v; simp)
  have Hdd : Hid (dd = dayG s) := Lib.hid (by rw [hdd]; unfold guessR; simp)
  clear hdd
  have t1 := twoR_bd s 20
  have t2 := twoR_bd s 22
  obtain ⟨B, R, X⟩ := start_g w
  go_enter Try.func25, Try.ntmps25
  go_wp2_with fail
  generalize hw0 : ((w.alloc (.cells #[.int .i64 0, .int .i64 0, .int .i64 0, .int .i64 0, .int .i64 0, .int .i64 0, .int .i64 0] 33)).alloc (.cells #[.int .i64 0, .int .i64 0, .int .i64 0, .int .i64 0, .int .i64 0, .int .i64 0, .int .i64 0] 33)) = w0 at B R X ⊢
  clear hw0
  refine (refTwoB _ _ (by omega) (by omega) _).mono ?_; rintro e w24 ⟨rfl, b24⟩
  replace X := X.keep b24 X.lt
  replace R := R.keep b24 R.lt
  replace B := bt B b24
  clear b24
  have c25 : w24.cell? ⟨w.heap.size + 1, 3, none⟩ = some (.int .i64 (0)) := X.at_ 3
  have z25 := X.free 3
  go_wp2_with fail
  clear c25 z25
  replace X : Whole (w24.setCell ⟨w.heap.size + 1, 3, none⟩ (.int .i64 (twoR s ((s.length : Int) - 13)))) (w.heap.size + 1) 33 (C7 (0) (0) (0) (twoR s ((s.length : Int) - 13)) (0) (0) (0)) := X.put 3 (.int .i64 (twoR s ((s.length : Int) - 13)))
  replace R := R.far (p := ⟨w.heap.size + 1, 3, none⟩) (by simp) (.int .i64 (twoR s ((s.length : Int) - 13)))
  replace B := B.setCell (p := ⟨w.heap.size + 1, 3, none⟩) (by simp) (.int .i64 (twoR s ((s.length : Int) - 13)))
  generalize hw25 : w24.setCell ⟨w.heap.size + 1, 3, none⟩ (.int .i64 (twoR s ((s.length : Int) - 13))) = w25 at X R B ⊢
  clear hw25
  refine (refTwoB _ _ (by omega) (by omega) _).mono ?_; rintro e w26 ⟨rfl, b26⟩
  replace X := X.keep b26 X.lt
  replace R := R.keep b26 R.lt
  replace B := bt B b26
  clear b26
  have c27 : w26.cell? ⟨w.heap.size + 1, 4, none⟩ = some (.int .i64 (0)) := X.at_ 4
  have z27 := X.free 4
  go_wp2_with fail
  clear c27 z27
  replace X : Whole (w26.setCell ⟨w.heap.size + 1, 4, none⟩ (.int .i64 (twoR s ((s.length : Int) - 13 + 3)))) (w.heap.size + 1) 33 (C7 (0) (0) (0) (twoR s ((s.length : Int) - 13)) (twoR s ((s.length : Int) - 13 + 3)) (0) (0)) := X.put 4 (.int .i64 (twoR s ((s.length : Int) - 13 + 3)))
  replace R := R.far (p := ⟨w.heap.size + 1, 4, none⟩) (by simp) (.int .i64 (twoR s ((s.length : Int) - 13 + 3)))
  replace B := B.setCell (p := ⟨w.heap.size + 1, 4, none⟩) (by simp) (.int .i64 (twoR s ((s.length : Int) - 13 + 3)))
  generalize hw27 : w26.setCell ⟨w.heap.size + 1, 4, none⟩ (.int .i64 (twoR s ((s.length : Int) - 13 + 3))) = w27 at X R B ⊢
  clear hw27
  refine (refTwoB _ _ (by omega) (by omega) _).mono ?_; rintro e w28 ⟨rfl, b28⟩
  replace X := X.keep b28 X.lt
  replace R := R.keep b28 R.lt
  replace B := bt B b28
  clear b28
  have c29 : w28.cell? ⟨w.heap.size + 1, 5, none⟩ = some (.int .i64 (0)) := X.at_ 5
  have z29 := X.free 5
  go_wp2_with fail
  clear c29 z29
  replace X : Whole (w28.setCell ⟨w.heap.size + 1, 5, none⟩ (.int .i64 (twoR s ((s.length : Int) - 13 + 6)))) (w.heap.size + 1) 33 (C7 (0) (0) (0) (twoR s ((s.length : Int) - 13)) (twoR s ((s.length : Int) - 13 + 3)) (twoR s ((s.length : Int) - 13 + 6)) (0)) := X.put 5 (.int .i64 (twoR s ((s.length : Int) - 13 + 6)))
  replace R := R.far (p := ⟨w.heap.size + 1, 5, none⟩) (by simp) (.int .i64 (twoR s ((s.length : Int) - 13 + 6)))
  replace B := B.setCell (p := ⟨w.heap.size + 1, 5, none⟩) (by simp) (.int .i64 (twoR s ((s.length : Int) - 13 + 6)))
  generalize hw29 : w28.setCell ⟨w.heap.size + 1, 5, none⟩ (.int .i64 (twoR s ((s.length : Int) - 13 + 6))) = w29 at X R B ⊢
  clear hw29
  refine (refMonth_any _ _ (by omega) (by omega) _).mono ?_; rintro e w30 ⟨rfl, b30⟩
  replace X := X.keep b30 X.lt
  replace R := R.keep b30 R.lt
  replace B := bt B b30
  clear b30
  have c31 : w30.cell? ⟨w.heap.size + 1, 1, none⟩ = some (.int .i64 (0)) := X.at_ 1
  have z31 := X.free 1
  go_wp2_with fail
  clear c31 z31
  replace X : Whole (w30.setCell ⟨w.heap.size + 1, 1, none⟩ (.int .i64 (monR s 4))) (w.heap.size + 1) 33 (C7 (0) (monR s 4) (0) (twoR s ((s.length : Int) - 13)) (twoR s ((s.length : Int) - 13 + 3)) (twoR s ((s.length : Int) - 13 + 6)) (0)) := X.put 1 (.int .i64 (monR s 4))
  replace R := R.far (p := ⟨w.heap.size + 1, 1, none⟩) (by simp) (.int .i64 (monR s 4))
  replace B := B.setCell (p := ⟨w.heap.size + 1, 1, none⟩) (by simp) (.int .i64 (monR s 4))
  generalize hw31 : w30.setCell ⟨w.heap.size + 1, 1, none⟩ (.int .i64 (monR s 4)) = w31 at X R B ⊢
  clear hw31
  refine (refTwoB _ _ (by omega) (by omega) _).mono ?_; rintro e w32 ⟨rfl, b32⟩
  replace X := X.keep b32 X.lt
  replace R := R.keep b32 R.lt
  replace B := bt B b32
  clear b32
  by_cases h9 : 9 < s.length
  · obtain ⟨a, ha⟩ : ∃ a : UInt8, s[8]'(by omega) = a := ⟨_, rfl⟩
    obtain ⟨b, hb⟩ : ∃ b : UInt8, s[9]'(by omega) = b := ⟨_, rfl⟩
    have e8 : s[8]? = some a := by rw [List.getElem?_eq_getElem (by omega), ha]
    have e9 : s[9]? = some b := by rw [List.getElem?_eq_getElem (by omega), hb]
    have Hde : Hid (dd = if a = 32 ∧ isDg b = true then (b.toNat : Int) - 48 else twoR s 8) := Lib.hid (by rw [Hdd.out]; unfold dayG; rw [e8, e9])
    have x8 : (S s)[8]'(by rw [S_size]; omega) = a := by rw [S_idx s 8 (by omega), ha]
    have x9 : (S s)[9]'(by rw [S_size]; omega) = b := by rw [S_idx s 9 (by omega), hb]
    have h8 : 8 < s.length := by omega
    have g9 : decide ((9 : Int) < (s.length : Int)) = true := decide_eq_true (by omega)
    have cb := b.toNat_lt
    clear ha hb e8 e9
    by_cases h32 : a = 32
    · subst h32
      by_cases hdg : 48 ≤ b.toNat ∧ b.toNat ≤ 57
      · have edg : decide (48 ≤ b.toNat ∧ b.toNat ≤ 57) = true := decide_eq_true hdg
        have hd' : dd = (b.toNat : Int) - 48 := by rw [Hde.out]; simp [isDg, hdg]
        have Hd' := Lib.hid hd'
        clear hd'
        have c2 : w32.cell? ⟨w.heap.size + 1, 2, none⟩ = some (.int .i64 0) := X.at_ 2
        have z2 := X.free 2
        go_wp2_with (go_at_call 42; refine (refDigit_u8 _ _).mono ?_; rintro e w' ⟨rfl, rfl⟩)
        clear c2 z2
        replace X := (X.put 2 (.int .i64 (twoR s 8))).put 2 (.int .i64 ((b.toNat : Int) - 48))
        replace R := (R.far (p := ⟨w.heap.size + 1, 2, none⟩) (by simp) (.int .i64 (twoR s 8))).far (p := ⟨w.heap.size + 1, 2, none⟩) (by simp) (.int .i64 ((b.toNat : Int) - 48))
        replace B := (B.setCell (p := ⟨w.heap.size + 1, 2, none⟩) (by simp) (.int .i64 (twoR s 8))).setCell (p := ⟨w.heap.size + 1, 2, none⟩) (by simp) (.int .i64 ((b.toNat : Int) - 48))
        rw [← Hd'.out] at X R B ⊢
        replace X : Whole ((w32.setCell ⟨w.heap.size + 1, 2, none⟩ (.int .i64 (twoR s 8))).setCell ⟨w.heap.size + 1, 2, none⟩ (.int .i64 dd)) (w.heap.size + 1) 33 (C7 (0) (monR s 4) (dd) (twoR s ((s.length : Int) - 13)) (twoR s ((s.length : Int) - 13 + 3)) (twoR s ((s.length : Int) - 13 + 6)) (0)) := X
        generalize hw99 : (w32.setCell ⟨w.heap.size + 1, 2, none⟩ (.int .i64 (twoR s 8))).setCell ⟨w.heap.size + 1, 2, none⟩ (.int .i64 dd) = w99 at X R B ⊢
        clear hw99
        refine (refTwoB _ _ (by omega) (by omega) _).mono ?_; rintro e w73 ⟨rfl, b73⟩
        replace X := X.keep b73 X.lt
        replace R := R.keep b73 R.lt
        replace B := bt B b73
        clear b73
        go_wp2_with fail
        refine (refTwoB _ _ (by omega) (by omega) _).mono ?_; rintro e w74 ⟨rfl, b74⟩
        replace X := X.keep b74 X.lt
        replace R := R.keep b74 R.lt
        replace B := bt B b74
        clear b74
        have c0 : w74.cell? ⟨w.heap.size + 1, 0, none⟩ = some (.int .i64 0) := X.at_ 0
        have z0 := X.free 0
        have c1 : w74.cell? ⟨w.heap.size + 1, 1, none⟩ = some (.int .i64 (monR s 4)) := X.at_ 1
        have c2 : w74.cell? ⟨w.heap.size + 1, 2, none⟩ = some (.int .i64 (dd)) := X.at_ 2
        have c3 : w74.cell? ⟨w.heap.size + 1, 3, none⟩ = some (.int .i64 (twoR s ((s.length : Int) - 13))) := X.at_ 3
        have c4 : w74.cell? ⟨w.heap.size + 1, 4, none⟩ = some (.int .i64 (twoR s ((s.length : Int) - 13 + 3))) := X.at_ 4
        have c5 : w74.cell? ⟨w.heap.size + 1, 5, none⟩ = some (.int .i64 (twoR s ((s.length : Int) - 13 + 6))) := X.at_ 5
        have c6 : w74.cell? ⟨w.heap.size + 1, 6, none⟩ = some (.int .i64 (0)) := X.at_ 6
        have r0 : w74.cell? ⟨w.heap.size, 0, none⟩ = some (.int .i64 0) := R.at_ 0
        have f0 := R.free 0
        have r1 : w74.cell? ⟨w.heap.size, 1, none⟩ = some (.int .i64 0) := R.at_ 1
        have f1 := R.free 1
        have r2 : w74.cell? ⟨w.heap.size, 2, none⟩ = some (.int .i64 0) := R.at_ 2
        have f2 := R.free 2
        have r3 : w74.cell? ⟨w.heap.size, 3, none⟩ = some (.int .i64 0) := R.at_ 3
        have f3 := R.free 3
        have r4 : w74.cell? ⟨w.heap.size, 4, none⟩ = some (.int .i64 0) := R.at_ 4
        have f4 := R.free 4
        have r5 : w74.cell? ⟨w.heap.size, 5, none⟩ = some (.int .i64 0) := R.at_ 5
        have f5 := R.free 5
        have r6 : w74.cell? ⟨w.heap.size, 6, none⟩ = some (.int .i64 0) := R.at_ 6
        have f6 := R.free 6
        go_wp2_with fail
        refine bodyPost_ret (v := .agg #[.int .i64 (twoR s 20 * 100 + twoR s 22), .int .i64 (monR s 4), .int .i64 (dd), .int .i64 (twoR s ((s.length : Int) - 13)), .int .i64 (twoR s ((s.length : Int) - 13 + 3)), .int .i64 (twoR s ((s.length : Int) - 13 + 6)), .int .i64 (0)]) (by simp [results, Try.results25, go_sem, r0, r1, r2, r3, r4, r5, r6]) rfl ⟨?_, ?_⟩
        · rw [Hf.out]
        · repeat (refine Below.setCell ?_ (by simp) _)
          exact B
      · have edg : decide (48 ≤ b.toNat ∧ b.toNat ≤ 57) = false := decide_eq_false hdg
        have hd' : twoR s 8 = dd := by rw [Hde.out, if_neg (by simp [isDg]; omega)]
        replace hd' := Lib.hid hd'
        rw [hd'.out]
        have c95 : w32.cell? ⟨w.heap.size + 1, 2, none⟩ = some (.int .i64 (0)) := X.at_ 2
        have z95 := X.free 2
        go_wp2_with (go_at_call 42; refine (refDigit_u8 _ _).mono ?_; rintro e w' ⟨rfl, rfl⟩)
        clear c95 z95
        replace X : Whole (w32.setCell ⟨w.heap.size + 1, 2, none⟩ (.int .i64 (dd))) (w.heap.size + 1) 33 (C7 (0) (monR s 4) (dd) (twoR s ((s.length : Int) - 13)) (twoR s ((s.length : Int) - 13 + 3)) (twoR s ((s.length : Int) - 13 + 6)) (0)) := X.put 2 (.int .i64 (dd))
        replace R := R.far (p := ⟨w.heap.size + 1, 2, none⟩) (by simp) (.int .i64 (dd))
        replace B := B.setCell (p := ⟨w.heap.size + 1, 2, none⟩) (by simp) (.int .i64 (dd))
        generalize hw95 : w32.setCell ⟨w.heap.size + 1, 2, none⟩ (.int .i64 (dd)) = w95 at X R B ⊢
        clear hw95
        refine (refTwoB _ _ (by omega) (by omega) _).mono ?_; rintro e w96 ⟨rfl, b96⟩
        replace X := X.keep b96 X.lt
        replace R := R.keep b96 R.lt
        replace B := bt B b96
        clear b96
        go_wp2_with fail
        refine (refTwoB _ _ (by omega) (by omega) _).mono ?_; rintro e w97 ⟨rfl, b97⟩
        replace X := X.keep b97 X.lt
        replace R := R.keep b97 R.lt
        replace B := bt B b97
        clear b97
        have c0 : w97.cell? ⟨w.heap.size + 1, 0, none⟩ = some (.int .i64 0) := X.at_ 0
        have z0 := X.free 0
        have c1 : w97.cell? ⟨w.heap.size + 1, 1, none⟩ = some (.int .i64 (monR s 4)) := X.at_ 1
        have c2 : w97.cell? ⟨w.heap.size + 1, 2, none⟩ = some (.int .i64 (dd)) := X.at_ 2
        have c3 : w97.cell? ⟨w.heap.size + 1, 3, none⟩ = some (.int .i64 (twoR s ((s.length : Int) - 13))) := X.at_ 3
        have c4 : w97.cell? ⟨w.heap.size + 1, 4, none⟩ = some (.int .i64 (twoR s ((s.length : Int) - 13 + 3))) := X.at_ 4
        have c5 : w97.cell? ⟨w.heap.size + 1, 5, none⟩ = some (.int .i64 (twoR s ((s.length : Int) - 13 + 6))) := X.at_ 5
        have c6 : w97.cell? ⟨w.heap.size + 1, 6, none⟩ = some (.int .i64 (0)) := X.at_ 6
        have r0 : w97.cell? ⟨w.heap.size, 0, none⟩ = some (.int .i64 0) := R.at_ 0
        have f0 := R.free 0
        have r1 : w97.cell? ⟨w.heap.size, 1, none⟩ = some (.int .i64 0) := R.at_ 1
        have f1 := R.free 1
        have r2 : w97.cell? ⟨w.heap.size, 2, none⟩ = some (.int .i64 0) := R.at_ 2
        have f2 := R.free 2
        have r3 : w97.cell? ⟨w.heap.size, 3, none⟩ = some (.int .i64 0) := R.at_ 3
        have f3 := R.free 3
        have r4 : w97.cell? ⟨w.heap.size, 4, none⟩ = some (.int .i64 0) := R.at_ 4
        have f4 := R.free 4
        have r5 : w97.cell? ⟨w.heap.size, 5, none⟩ = some (.int .i64 0) := R.at_ 5
        have f5 := R.free 5
        have r6 : w97.cell? ⟨w.heap.size, 6, none⟩ = some (.int .i64 0) := R.at_ 6
        have f6 := R.free 6
        go_wp2_with fail
        refine bodyPost_ret (v := .agg #[.int .i64 (twoR s 20 * 100 + twoR s 22), .int .i64 (monR s 4), .int .i64 (dd), .int .i64 (twoR s ((s.length : Int) - 13)), .int .i64 (twoR s ((s.length : Int) - 13 + 3)), .int .i64 (twoR s ((s.length : Int) - 13 + 6)), .int .i64 (0)]) (by simp [results, Try.results25, go_sem, r0, r1, r2, r3, r4, r5, r6]) rfl ⟨?_, ?_⟩
        · rw [Hf.out]
        · repeat (refine Below.setCell ?_ (by simp) _)
          exact B
    · have e32 : (a == 32) = false := by rw [beq_eq_false_iff_ne]; exact h32
      have n32 : ((a.toNat : Int) == 32) = false := by rw [beq_eq_false_iff_ne]; intro h; exact h32 (by apply UInt8.toNat_inj.1; show a.toNat = 32; omega)
      have ca := a.toNat_lt
      have hd' : twoR s 8 = dd := by rw [Hde.out, if_neg (fun e => h32 e.1)]
      replace hd' := Lib.hid hd'
      rw [hd'.out]
      have c118 : w32.cell? ⟨w.heap.size + 1, 2, none⟩ = some (.int .i64 (0)) := X.at_ 2
      have z118 := X.free 2
      go_wp2_with (go_at_call 42; refine (refDigit_u8 _ _).mono ?_; rintro e w' ⟨rfl, rfl⟩)
      clear c118 z118
      replace X : Whole (w32.setCell ⟨w.heap.size + 1, 2, none⟩ (.int .i64 (dd))) (w.heap.size + 1) 33 (C7 (0) (monR s 4) (dd) (twoR s ((s.length : Int) - 13)) (twoR s ((s.length : Int) - 13 + 3)) (twoR s ((s.length : Int) - 13 + 6)) (0)) := X.put 2 (.int .i64 (dd))
      replace R := R.far (p := ⟨w.heap.size + 1, 2, none⟩) (by simp) (.int .i64 (dd))
      replace B := B.setCell (p := ⟨w.heap.size + 1, 2, none⟩) (by simp) (.int .i64 (dd))
      generalize hw118 : w32.setCell ⟨w.heap.size + 1, 2, none⟩ (.int .i64 (dd)) = w118 at X R B ⊢
      clear hw118
      refine (refTwoB _ _ (by omega) (by omega) _).mono ?_; rintro e w119 ⟨rfl, b119⟩
      replace X := X.keep b119 X.lt
      replace R := R.keep b119 R.lt
      replace B := bt B b119
      clear b119
      go_wp2_with fail
      refine (refTwoB _ _ (by omega) (by omega) _).mono ?_; rintro e w120 ⟨rfl, b120⟩
      replace X := X.keep b120 X.lt
      replace R := R.keep b120 R.lt
      replace B := bt B b120
      clear b120
      have c0 : w120.cell? ⟨w.heap.size + 1, 0, none⟩ = some (.int .i64 0) := X.at_ 0
      have z0 := X.free 0
      have c1 : w120.cell? ⟨w.heap.size + 1, 1, none⟩ = some (.int .i64 (monR s 4)) := X.at_ 1
      have c2 : w120.cell? ⟨w.heap.size + 1, 2, none⟩ = some (.int .i64 (dd)) := X.at_ 2
      have c3 : w120.cell? ⟨w.heap.size + 1, 3, none⟩ = some (.int .i64 (twoR s ((s.length : Int) - 13))) := X.at_ 3
      have c4 : w120.cell? ⟨w.heap.size + 1, 4, none⟩ = some (.int .i64 (twoR s ((s.length : Int) - 13 + 3))) := X.at_ 4
      have c5 : w120.cell? ⟨w.heap.size + 1, 5, none⟩ = some (.int .i64 (twoR s ((s.length : Int) - 13 + 6))) := X.at_ 5
      have c6 : w120.cell? ⟨w.heap.size + 1, 6, none⟩ = some (.int .i64 (0)) := X.at_ 6
      have r0 : w120.cell? ⟨w.heap.size, 0, none⟩ = some (.int .i64 0) := R.at_ 0
      have f0 := R.free 0
      have r1 : w120.cell? ⟨w.heap.size, 1, none⟩ = some (.int .i64 0) := R.at_ 1
      have f1 := R.free 1
      have r2 : w120.cell? ⟨w.heap.size, 2, none⟩ = some (.int .i64 0) := R.at_ 2
      have f2 := R.free 2
      have r3 : w120.cell? ⟨w.heap.size, 3, none⟩ = some (.int .i64 0) := R.at_ 3
      have f3 := R.free 3
      have r4 : w120.cell? ⟨w.heap.size, 4, none⟩ = some (.int .i64 0) := R.at_ 4
      have f4 := R.free 4
      have r5 : w120.cell? ⟨w.heap.size, 5, none⟩ = some (.int .i64 0) := R.at_ 5
      have f5 := R.free 5
      have r6 : w120.cell? ⟨w.heap.size, 6, none⟩ = some (.int .i64 0) := R.at_ 6
      have f6 := R.free 6
      go_wp2_with fail
      refine bodyPost_ret (v := .agg #[.int .i64 (twoR s 20 * 100 + twoR s 22), .int .i64 (monR s 4), .int .i64 (dd), .int .i64 (twoR s ((s.length : Int) - 13)), .int .i64 (twoR s ((s.length : Int) - 13 + 3)), .int .i64 (twoR s ((s.length : Int) - 13 + 6)), .int .i64 (0)]) (by simp [results, Try.results25, go_sem, r0, r1, r2, r3, r4, r5, r6]) rfl ⟨?_, ?_⟩
      · rw [Hf.out]
      · repeat (refine Below.setCell ?_ (by simp) _)
        exact B
  · have g9 : decide ((9 : Int) < (s.length : Int)) = false := decide_eq_false (by omega)
    have hd' : twoR s 8 = dd := by rw [Hdd.out]; unfold dayG; rw [List.getElem?_eq_none (show s.length ≤ 9 by omega)]; cases s[8]? <;> rfl
    replace hd' := Lib.hid hd'
    rw [hd'.out]
    have c141 : w32.cell? ⟨w.heap.size + 1, 2, none⟩ = some (.int .i64 (0)) := X.at_ 2
    have z141 := X.free 2
    go_wp2_with (go_at_call 42; refine (refDigit_u8 _ _).mono ?_; rintro e w' ⟨rfl, rfl⟩)
    clear c141 z141
    replace X : Whole (w32.setCell ⟨w.heap.size + 1, 2, none⟩ (.int .i64 (dd))) (w.heap.size + 1) 33 (C7 (0) (monR s 4) (dd) (twoR s ((s.length : Int) - 13)) (twoR s ((s.length : Int) - 13 + 3)) (twoR s ((s.length : Int) - 13 + 6)) (0)) := X.put 2 (.int .i64 (dd))
    replace R := R.far (p := ⟨w.heap.size + 1, 2, none⟩) (by simp) (.int .i64 (dd))
    replace B := B.setCell (p := ⟨w.heap.size + 1, 2, none⟩) (by simp) (.int .i64 (dd))
    generalize hw141 : w32.setCell ⟨w.heap.size + 1, 2, none⟩ (.int .i64 (dd)) = w141 at X R B ⊢
    clear hw141
    refine (refTwoB _ _ (by omega) (by omega) _).mono ?_; rintro e w142 ⟨rfl, b142⟩
    replace X := X.keep b142 X.lt
    replace R := R.keep b142 R.lt
    replace B := bt B b142
    clear b142
    go_wp2_with fail
    refine (refTwoB _ _ (by omega) (by omega) _).mono ?_; rintro e w143 ⟨rfl, b143⟩
    replace X := X.keep b143 X.lt
    replace R := R.keep b143 R.lt
    replace B := bt B b143
    clear b143
    have c0 : w143.cell? ⟨w.heap.size + 1, 0, none⟩ = some (.int .i64 0) := X.at_ 0
    have z0 := X.free 0
    have c1 : w143.cell? ⟨w.heap.size + 1, 1, none⟩ = some (.int .i64 (monR s 4)) := X.at_ 1
    have c2 : w143.cell? ⟨w.heap.size + 1, 2, none⟩ = some (.int .i64 (dd)) := X.at_ 2
    have c3 : w143.cell? ⟨w.heap.size + 1, 3, none⟩ = some (.int .i64 (twoR s ((s.length : Int) - 13))) := X.at_ 3
    have c4 : w143.cell? ⟨w.heap.size + 1, 4, none⟩ = some (.int .i64 (twoR s ((s.length : Int) - 13 + 3))) := X.at_ 4
    have c5 : w143.cell? ⟨w.heap.size + 1, 5, none⟩ = some (.int .i64 (twoR s ((s.length : Int) - 13 + 6))) := X.at_ 5
    have c6 : w143.cell? ⟨w.heap.size + 1, 6, none⟩ = some (.int .i64 (0)) := X.at_ 6
    have r0 : w143.cell? ⟨w.heap.size, 0, none⟩ = some (.int .i64 0) := R.at_ 0
    have f0 := R.free 0
    have r1 : w143.cell? ⟨w.heap.size, 1, none⟩ = some (.int .i64 0) := R.at_ 1
    have f1 := R.free 1
    have r2 : w143.cell? ⟨w.heap.size, 2, none⟩ = some (.int .i64 0) := R.at_ 2
    have f2 := R.free 2
    have r3 : w143.cell? ⟨w.heap.size, 3, none⟩ = some (.int .i64 0) := R.at_ 3
    have f3 := R.free 3
    have r4 : w143.cell? ⟨w.heap.size, 4, none⟩ = some (.int .i64 0) := R.at_ 4
    have f4 := R.free 4
    have r5 : w143.cell? ⟨w.heap.size, 5, none⟩ = some (.int .i64 0) := R.at_ 5
    have f5 := R.free 5
    have r6 : w143.cell? ⟨w.heap.size, 6, none⟩ = some (.int .i64 0) := R.at_ 6
    have f6 := R.free 6
    go_wp2_with fail
    refine bodyPost_ret (v := .agg #[.int .i64 (twoR s 20 * 100 + twoR s 22), .int .i64 (monR s 4), .int .i64 (dd), .int .i64 (twoR s ((s.length : Int) - 13)), .int .i64 (twoR s ((s.length : Int) - 13 + 3)), .int .i64 (twoR s ((s.length : Int) - 13 + 6)), .int .i64 (0)]) (by simp [results, Try.results25, go_sem, r0, r1, r2, r3, r4, r5, r6]) rfl ⟨?_, ?_⟩
    · rw [Hf.out]
    · repeat (refine Below.setCell ?_ (by simp) _)
      exact B
end Go.Proofs.Ytnaapoigmihjoaa
