/- The law OctetBack: what is put as bytes is taken as it was, wherever it stands; with a byte less there is none. No condition. -/
import Derived.Test.YtefodepamjpmjaaLawKit
import Derived.Test.YtefodepamjpmjaaOctT
namespace Go.Proofs.Ytefodepamjpmjaa.octetBack
open Go Go.RowKit
open Go.ChangeShapes Go.WideShapes Go.ChangeAt
open Go.ChangeMaps (open_string shut_string)
theorem take258 (w : World) (A : Option Addr) (c : Nat) (hc : 3 ≤ c) (hm : c ≤ maxLen) (B : Nat) (h : Rd w B A [0, 1, 2]) :
    Calls Try.prog 9 #[.slice A 3 c, .int .i64 1, .int .i64 2] w fun e w' => e = .returned (.tuple #[.int .u32 258, .int .i64 0]) ∧ w = w' :=
  take_any [0, 1, 2] A c hc hm 1 2 (by omega) w B h
theorem back (a : List UInt8) (k n : Nat) (h1 : 1 ≤ k) (h4 : k ≤ 4) : takeV (a ++ putB k n) a.length k = ((n % 256 ^ k : Nat) : Int) ∧ takeE (a ++ putB k n) a.length k = 0 := by
  have hl := putB_length k n
  constructor
  · unfold takeV
    rw [if_neg (by simp [hl]; omega)]
    simp only [Int.toNat_natCast]
    rw [List.drop_left' rfl, List.take_of_length_le (by omega), putB_val]
  · unfold takeE
    rw [if_neg (by omega), if_neg (by simp [hl])]
theorem less (a : List UInt8) (k n : Nat) (h1 : 1 ≤ k) (h4 : k ≤ 4) : takeV ((a ++ putB k n).take (a.length + k - 1)) a.length k = 0 ∧ takeE ((a ++ putB k n).take (a.length + k - 1)) a.length k = 12 := by
  have hl := putB_length k n
  have h2 : ((a ++ putB k n).take (a.length + k - 1)).length = a.length + k - 1 := by rw [List.length_take, List.length_append, hl]; omega
  constructor
  · unfold takeV
    rw [if_pos (by rw [h2]; omega)]
  · unfold takeE
    rw [if_neg (by omega), if_pos (by rw [h2]; omega)]
theorem bytes012 (w : World) : Rd (w.alloc (.cells #[.int .u8 0, .int .u8 1, .int .u8 2] 5)) (w.heap.size + 1) (some ⟨w.heap.size, 0, none⟩) [0, 1, 2] :=
  Rd.of_whole (Whole.new w 5 [.int .u8 0, .int .u8 1, .int .u8 2]) 0 (by omega) (fun i hi => by
    have : i = 0 ∨ i = 1 ∨ i = 2 := by simp at hi; omega
    rcases this with rfl | rfl | rfl <;> rfl)
theorem back1 (n : Nat) (hn : n < 4294967296) (l : List UInt8) (A : Option Addr) (c : Nat) (hc : l.length + 1 ≤ c) (hm : c ≤ maxLen) (w : World) (B : Nat) (h : Rd w B A (l ++ putB 1 n)) :
    Calls Try.prog 9 #[.slice A (l.length + 1) c, .int .i64 l.length, .int .i64 1] w fun e w' => e = .returned (.tuple #[.int .u32 ((n : Int) % 256), .int .i64 0]) ∧ w = w' := by
  have hl : (l ++ putB 1 n).length = l.length + 1 := by simp [putB_length]
  have h1 := take_any (l ++ putB 1 n) A c (by omega) hm l.length 1 (by unfold maxLen at hm; omega) w B h
  have h2 := back l 1 n (by omega) (by omega)
  rw [hl] at h1
  refine h1.mono ?_
  rintro e w' ⟨rfl, rfl⟩
  exact ⟨ret_int2 (h2.1.trans (by omega)) h2.2, rfl⟩
theorem less1 (n : Nat) (l : List UInt8) (A : Option Addr) (c : Nat) (hc : l.length + 1 ≤ c) (hm : c ≤ maxLen) (w : World) (B : Nat) (h : Rd w B A (l ++ putB 1 n)) :
    Calls Try.prog 9 #[.slice A (l.length + 1 - 1) c, .int .i64 l.length, .int .i64 1] w fun e w' => e = .returned (.tuple #[.int .u32 0, .int .i64 12]) ∧ w = w' := by
  have hl : ((l ++ putB 1 n).take (l.length + 1 - 1)).length = l.length + 1 - 1 := by simp [putB_length]
  have h1 := take_any ((l ++ putB 1 n).take (l.length + 1 - 1)) A c (by omega) hm l.length 1 (by unfold maxLen at hm; omega) w B (h.pre _)
  have h2 := less l 1 n (by omega) (by omega)
  rw [hl] at h1
  refine h1.mono ?_
  rintro e w' ⟨rfl, rfl⟩
  exact ⟨ret_int2 h2.1 h2.2, rfl⟩
theorem walk1 (w : World) (n : Nat) (hn : n < 4294967296) (s : Nat) (hs : s ≤ 255) (hk : (s : Int) % 4 = 0) (A : Option Addr) (c : Nat) (l : List UInt8) (hb : l.length ≤ c ∧ c ≤ 140737488351232 ∧ Rd w w.heap.size A l) :
    Calls Try.prog 4 #[.int .u32 n, .int .u8 s, .slice A l.length c] w fun e w' => e = .returned (.bool true) ∧ Below w.heap.size w w' := by
  obtain ⟨hl1, hl2, hrd⟩ := hb
  obtain ⟨i8, hi8⟩ := uint8_row
  have Hi8 := Lib.hid hi8
  clear hi8
  have hb1 : Below w.heap.size w (w.alloc (.cells #[.int .u8 0, .int .u8 1, .int .u8 2] 5)) := (Below.refl _ _).alloc (Nat.le_refl _) _
  have hr0 := bytes012 w
  go_enter Try.func4, Try.ntmps4
  (go_wp2_with fail); refine (take258 _ _ 3 (by omega) (by simp [maxLen]) _ hr0).mono ?_; rintro e w' ⟨rfl, rfl⟩
  go_wp2_with (at_builtin; refine wpList_append_bytes rfl (.tmp 39) (.tmp 40) 23 rfl Try.underlying23 Hi8.out w.heap.size w.heap.size (.slice (some ⟨w.heap.size + 1, 0, none⟩) 0 0) [] l rfl A l.length c rfl ?_ ?c1 ?c2 ?c3 ?c4 ?c5; intro v2 w2 hown2 hg2 hat2 hb2)
  case c1 => exact Own.new0 _ _ _ _ (by simp) (by simp)
  case c2 => exact hrd.keep (hb1.alloc hb1.size _)
  case c3 => rfl
  case c4 => simp; omega
  case c5 => simp; omega
  have hw2 : Below w.heap.size w w2 := (hb1.alloc hb1.size _).trans hb2
  clear hb1 hb2 hg2 hat2 hr0
  rw [List.nil_append] at hown2
  refine (put_any n hn 1 _).mono ?_
  rintro e w3 ⟨⟨v3, rfl, ho3⟩, hb3⟩
  have hw3 := bt hw2 hb3
  have hown3 : Own w3 w.heap.size 5 v2 l := own_keep hown2 hb3
  obtain ⟨A3, c3, rfl, _, _, hr3, _⟩ := ho3.open_
  have e3 : putL n 1 = putB 1 n := rfl
  rw [e3] at hr3 ⊢
  have hl3 := putB_length 1 n
  have Hl3 := Lib.hid hl3
  rw [hl3]
  clear hl3 e3 ho3 hown2 hb3 hw2
  go_wp2_with (at_builtin; refine wpList_append_bytes rfl (.tmp 41) (.tmp 44) 23 rfl Try.underlying23 Hi8.out w.heap.size w3.heap.size v2 l (putB 1 n) rfl A3 1 c3 rfl ?_ ?d1 ?d2 ?d3 ?d4 ?d5; intro v4 w4 hown4 hg4 hat4 hb4; obtain ⟨A4, c4, hv4, ha4, hm4, hr4, _⟩ := hown4.open_; rw [List.length_append, Hl3.out] at hv4 ha4; subst hv4)
  case d1 => exact hown3
  case d2 => exact hr3
  case d3 => exact Hl3.out.symm
  case d4 => rw [Hl3.out]; omega
  case d5 => exact hw3.size
  clear hown4 hat4 hg4 hown3 hr3
  refine (back1 n hn l A4 c4 ha4 hm4 w4 _ hr4).mono ?_; rintro e w' ⟨rfl, rfl⟩
  (go_wp2_with fail); refine (less1 n l A4 c4 ha4 hm4 _ _ hr4).mono ?_; rintro e w' ⟨rfl, rfl⟩
  go_wp2_with fail
  go_ret
  exact ⟨rfl, hw3.trans hb4⟩
theorem back2 (n : Nat) (hn : n < 4294967296) (l : List UInt8) (A : Option Addr) (c : Nat) (hc : l.length + 2 ≤ c) (hm : c ≤ maxLen) (w : World) (B : Nat) (h : Rd w B A (l ++ putB 2 n)) :
    Calls Try.prog 9 #[.slice A (l.length + 2) c, .int .i64 l.length, .int .i64 2] w fun e w' => e = .returned (.tuple #[.int .u32 ((n : Int) % 65536), .int .i64 0]) ∧ w = w' := by
  have hl : (l ++ putB 2 n).length = l.length + 2 := by simp [putB_length]
  have h1 := take_any (l ++ putB 2 n) A c (by omega) hm l.length 2 (by unfold maxLen at hm; omega) w B h
  have h2 := back l 2 n (by omega) (by omega)
  rw [hl] at h1
  refine h1.mono ?_
  rintro e w' ⟨rfl, rfl⟩
  exact ⟨ret_int2 (h2.1.trans (by omega)) h2.2, rfl⟩
theorem less2 (n : Nat) (l : List UInt8) (A : Option Addr) (c : Nat) (hc : l.length + 2 ≤ c) (hm : c ≤ maxLen) (w : World) (B : Nat) (h : Rd w B A (l ++ putB 2 n)) :
    Calls Try.prog 9 #[.slice A (l.length + 2 - 1) c, .int .i64 l.length, .int .i64 2] w fun e w' => e = .returned (.tuple #[.int .u32 0, .int .i64 12]) ∧ w = w' := by
  have hl : ((l ++ putB 2 n).take (l.length + 2 - 1)).length = l.length + 2 - 1 := by simp [putB_length]
  have h1 := take_any ((l ++ putB 2 n).take (l.length + 2 - 1)) A c (by omega) hm l.length 2 (by unfold maxLen at hm; omega) w B (h.pre _)
  have h2 := less l 2 n (by omega) (by omega)
  rw [hl] at h1
  refine h1.mono ?_
  rintro e w' ⟨rfl, rfl⟩
  exact ⟨ret_int2 h2.1 h2.2, rfl⟩
theorem walk2 (w : World) (n : Nat) (hn : n < 4294967296) (s : Nat) (hs : s ≤ 255) (hk : (s : Int) % 4 = 1) (A : Option Addr) (c : Nat) (l : List UInt8) (hb : l.length ≤ c ∧ c ≤ 140737488351232 ∧ Rd w w.heap.size A l) :
    Calls Try.prog 4 #[.int .u32 n, .int .u8 s, .slice A l.length c] w fun e w' => e = .returned (.bool true) ∧ Below w.heap.size w w' := by
  obtain ⟨hl1, hl2, hrd⟩ := hb
  obtain ⟨i8, hi8⟩ := uint8_row
  have Hi8 := Lib.hid hi8
  clear hi8
  have hb1 : Below w.heap.size w (w.alloc (.cells #[.int .u8 0, .int .u8 1, .int .u8 2] 5)) := (Below.refl _ _).alloc (Nat.le_refl _) _
  have hr0 := bytes012 w
  go_enter Try.func4, Try.ntmps4
  (go_wp2_with fail); refine (take258 _ _ 3 (by omega) (by simp [maxLen]) _ hr0).mono ?_; rintro e w' ⟨rfl, rfl⟩
  go_wp2_with (at_builtin; refine wpList_append_bytes rfl (.tmp 39) (.tmp 40) 23 rfl Try.underlying23 Hi8.out w.heap.size w.heap.size (.slice (some ⟨w.heap.size + 1, 0, none⟩) 0 0) [] l rfl A l.length c rfl ?_ ?c1 ?c2 ?c3 ?c4 ?c5; intro v2 w2 hown2 hg2 hat2 hb2)
  case c1 => exact Own.new0 _ _ _ _ (by simp) (by simp)
  case c2 => exact hrd.keep (hb1.alloc hb1.size _)
  case c3 => rfl
  case c4 => simp; omega
  case c5 => simp; omega
  have hw2 : Below w.heap.size w w2 := (hb1.alloc hb1.size _).trans hb2
  clear hb1 hb2 hg2 hat2 hr0
  rw [List.nil_append] at hown2
  refine (put_any n hn 2 _).mono ?_
  rintro e w3 ⟨⟨v3, rfl, ho3⟩, hb3⟩
  have hw3 := bt hw2 hb3
  have hown3 : Own w3 w.heap.size 5 v2 l := own_keep hown2 hb3
  obtain ⟨A3, c3, rfl, _, _, hr3, _⟩ := ho3.open_
  have e3 : putL n 2 = putB 2 n := rfl
  rw [e3] at hr3 ⊢
  have hl3 := putB_length 2 n
  have Hl3 := Lib.hid hl3
  rw [hl3]
  clear hl3 e3 ho3 hown2 hb3 hw2
  go_wp2_with (at_builtin; refine wpList_append_bytes rfl (.tmp 41) (.tmp 44) 23 rfl Try.underlying23 Hi8.out w.heap.size w3.heap.size v2 l (putB 2 n) rfl A3 2 c3 rfl ?_ ?d1 ?d2 ?d3 ?d4 ?d5; intro v4 w4 hown4 hg4 hat4 hb4; obtain ⟨A4, c4, hv4, ha4, hm4, hr4, _⟩ := hown4.open_; rw [List.length_append, Hl3.out] at hv4 ha4; subst hv4)
  case d1 => exact hown3
  case d2 => exact hr3
  case d3 => exact Hl3.out.symm
  case d4 => rw [Hl3.out]; omega
  case d5 => exact hw3.size
  clear hown4 hat4 hg4 hown3 hr3
  refine (back2 n hn l A4 c4 ha4 hm4 w4 _ hr4).mono ?_; rintro e w' ⟨rfl, rfl⟩
  (go_wp2_with fail); refine (less2 n l A4 c4 ha4 hm4 _ _ hr4).mono ?_; rintro e w' ⟨rfl, rfl⟩
  go_wp2_with fail
  go_ret
  exact ⟨rfl, hw3.trans hb4⟩
theorem back3 (n : Nat) (hn : n < 4294967296) (l : List UInt8) (A : Option Addr) (c : Nat) (hc : l.length + 3 ≤ c) (hm : c ≤ maxLen) (w : World) (B : Nat) (h : Rd w B A (l ++ putB 3 n)) :
    Calls Try.prog 9 #[.slice A (l.length + 3) c, .int .i64 l.length, .int .i64 3] w fun e w' => e = .returned (.tuple #[.int .u32 ((n : Int) % 16777216), .int .i64 0]) ∧ w = w' := by
  have hl : (l ++ putB 3 n).length = l.length + 3 := by simp [putB_length]
  have h1 := take_any (l ++ putB 3 n) A c (by omega) hm l.length 3 (by unfold maxLen at hm; omega) w B h
  have h2 := back l 3 n (by omega) (by omega)
  rw [hl] at h1
  refine h1.mono ?_
  rintro e w' ⟨rfl, rfl⟩
  exact ⟨ret_int2 (h2.1.trans (by omega)) h2.2, rfl⟩
theorem less3 (n : Nat) (l : List UInt8) (A : Option Addr) (c : Nat) (hc : l.length + 3 ≤ c) (hm : c ≤ maxLen) (w : World) (B : Nat) (h : Rd w B A (l ++ putB 3 n)) :
    Calls Try.prog 9 #[.slice A (l.length + 3 - 1) c, .int .i64 l.length, .int .i64 3] w fun e w' => e = .returned (.tuple #[.int .u32 0, .int .i64 12]) ∧ w = w' := by
  have hl : ((l ++ putB 3 n).take (l.length + 3 - 1)).length = l.length + 3 - 1 := by simp [putB_length]
  have h1 := take_any ((l ++ putB 3 n).take (l.length + 3 - 1)) A c (by omega) hm l.length 3 (by unfold maxLen at hm; omega) w B (h.pre _)
  have h2 := less l 3 n (by omega) (by omega)
  rw [hl] at h1
  refine h1.mono ?_
  rintro e w' ⟨rfl, rfl⟩
  exact ⟨ret_int2 h2.1 h2.2, rfl⟩
theorem walk3 (w : World) (n : Nat) (hn : n < 4294967296) (s : Nat) (hs : s ≤ 255) (hk : (s : Int) % 4 = 2) (A : Option Addr) (c : Nat) (l : List UInt8) (hb : l.length ≤ c ∧ c ≤ 140737488351232 ∧ Rd w w.heap.size A l) :
    Calls Try.prog 4 #[.int .u32 n, .int .u8 s, .slice A l.length c] w fun e w' => e = .returned (.bool true) ∧ Below w.heap.size w w' := by
  obtain ⟨hl1, hl2, hrd⟩ := hb
  obtain ⟨i8, hi8⟩ := uint8_row
  have Hi8 := Lib.hid hi8
  clear hi8
  have hb1 : Below w.heap.size w (w.alloc (.cells #[.int .u8 0, .int .u8 1, .int .u8 2] 5)) := (Below.refl _ _).alloc (Nat.le_refl _) _
  have hr0 := bytes012 w
  go_enter Try.func4, Try.ntmps4
  (go_wp2_with fail); refine (take258 _ _ 3 (by omega) (by simp [maxLen]) _ hr0).mono ?_; rintro e w' ⟨rfl, rfl⟩
  go_wp2_with (at_builtin; refine wpList_append_bytes rfl (.tmp 39) (.tmp 40) 23 rfl Try.underlying23 Hi8.out w.heap.size w.heap.size (.slice (some ⟨w.heap.size + 1, 0, none⟩) 0 0) [] l rfl A l.length c rfl ?_ ?c1 ?c2 ?c3 ?c4 ?c5; intro v2 w2 hown2 hg2 hat2 hb2)
  case c1 => exact Own.new0 _ _ _ _ (by simp) (by simp)
  case c2 => exact hrd.keep (hb1.alloc hb1.size _)
  case c3 => rfl
  case c4 => simp; omega
  case c5 => simp; omega
  have hw2 : Below w.heap.size w w2 := (hb1.alloc hb1.size _).trans hb2
  clear hb1 hb2 hg2 hat2 hr0
  rw [List.nil_append] at hown2
  refine (put_any n hn 3 _).mono ?_
  rintro e w3 ⟨⟨v3, rfl, ho3⟩, hb3⟩
  have hw3 := bt hw2 hb3
  have hown3 : Own w3 w.heap.size 5 v2 l := own_keep hown2 hb3
  obtain ⟨A3, c3, rfl, _, _, hr3, _⟩ := ho3.open_
  have e3 : putL n 3 = putB 3 n := rfl
  rw [e3] at hr3 ⊢
  have hl3 := putB_length 3 n
  have Hl3 := Lib.hid hl3
  rw [hl3]
  clear hl3 e3 ho3 hown2 hb3 hw2
  go_wp2_with (at_builtin; refine wpList_append_bytes rfl (.tmp 41) (.tmp 44) 23 rfl Try.underlying23 Hi8.out w.heap.size w3.heap.size v2 l (putB 3 n) rfl A3 3 c3 rfl ?_ ?d1 ?d2 ?d3 ?d4 ?d5; intro v4 w4 hown4 hg4 hat4 hb4; obtain ⟨A4, c4, hv4, ha4, hm4, hr4, _⟩ := hown4.open_; rw [List.length_append, Hl3.out] at hv4 ha4; subst hv4)
  case d1 => exact hown3
  case d2 => exact hr3
  case d3 => exact Hl3.out.symm
  case d4 => rw [Hl3.out]; omega
  case d5 => exact hw3.size
  clear hown4 hat4 hg4 hown3 hr3
  refine (back3 n hn l A4 c4 ha4 hm4 w4 _ hr4).mono ?_; rintro e w' ⟨rfl, rfl⟩
  (go_wp2_with fail); refine (less3 n l A4 c4 ha4 hm4 _ _ hr4).mono ?_; rintro e w' ⟨rfl, rfl⟩
  go_wp2_with fail
  go_ret
  exact ⟨rfl, hw3.trans hb4⟩
theorem back4 (n : Nat) (hn : n < 4294967296) (l : List UInt8) (A : Option Addr) (c : Nat) (hc : l.length + 4 ≤ c) (hm : c ≤ maxLen) (w : World) (B : Nat) (h : Rd w B A (l ++ putB 4 n)) :
    Calls Try.prog 9 #[.slice A (l.length + 4) c, .int .i64 l.length, .int .i64 4] w fun e w' => e = .returned (.tuple #[.int .u32 ((n : Int)), .int .i64 0]) ∧ w = w' := by
  have hl : (l ++ putB 4 n).length = l.length + 4 := by simp [putB_length]
  have h1 := take_any (l ++ putB 4 n) A c (by omega) hm l.length 4 (by unfold maxLen at hm; omega) w B h
  have h2 := back l 4 n (by omega) (by omega)
  rw [hl] at h1
  refine h1.mono ?_
  rintro e w' ⟨rfl, rfl⟩
  exact ⟨ret_int2 (h2.1.trans (by omega)) h2.2, rfl⟩
theorem less4 (n : Nat) (l : List UInt8) (A : Option Addr) (c : Nat) (hc : l.length + 4 ≤ c) (hm : c ≤ maxLen) (w : World) (B : Nat) (h : Rd w B A (l ++ putB 4 n)) :
    Calls Try.prog 9 #[.slice A (l.length + 4 - 1) c, .int .i64 l.length, .int .i64 4] w fun e w' => e = .returned (.tuple #[.int .u32 0, .int .i64 12]) ∧ w = w' := by
  have hl : ((l ++ putB 4 n).take (l.length + 4 - 1)).length = l.length + 4 - 1 := by simp [putB_length]
  have h1 := take_any ((l ++ putB 4 n).take (l.length + 4 - 1)) A c (by omega) hm l.length 4 (by unfold maxLen at hm; omega) w B (h.pre _)
  have h2 := less l 4 n (by omega) (by omega)
  rw [hl] at h1
  refine h1.mono ?_
  rintro e w' ⟨rfl, rfl⟩
  exact ⟨ret_int2 h2.1 h2.2, rfl⟩
theorem walk4 (w : World) (n : Nat) (hn : n < 4294967296) (s : Nat) (hs : s ≤ 255) (hk : (s : Int) % 4 = 3) (A : Option Addr) (c : Nat) (l : List UInt8) (hb : l.length ≤ c ∧ c ≤ 140737488351232 ∧ Rd w w.heap.size A l) :
    Calls Try.prog 4 #[.int .u32 n, .int .u8 s, .slice A l.length c] w fun e w' => e = .returned (.bool true) ∧ Below w.heap.size w w' := by
  obtain ⟨hl1, hl2, hrd⟩ := hb
  obtain ⟨i8, hi8⟩ := uint8_row
  have Hi8 := Lib.hid hi8
  clear hi8
  have hb1 : Below w.heap.size w (w.alloc (.cells #[.int .u8 0, .int .u8 1, .int .u8 2] 5)) := (Below.refl _ _).alloc (Nat.le_refl _) _
  have hr0 := bytes012 w
  go_enter Try.func4, Try.ntmps4
  (go_wp2_with fail); refine (take258 _ _ 3 (by omega) (by simp [maxLen]) _ hr0).mono ?_; rintro e w' ⟨rfl, rfl⟩
  go_wp2_with (at_builtin; refine wpList_append_bytes rfl (.tmp 39) (.tmp 40) 23 rfl Try.underlying23 Hi8.out w.heap.size w.heap.size (.slice (some ⟨w.heap.size + 1, 0, none⟩) 0 0) [] l rfl A l.length c rfl ?_ ?c1 ?c2 ?c3 ?c4 ?c5; intro v2 w2 hown2 hg2 hat2 hb2)
  case c1 => exact Own.new0 _ _ _ _ (by simp) (by simp)
  case c2 => exact hrd.keep (hb1.alloc hb1.size _)
  case c3 => rfl
  case c4 => simp; omega
  case c5 => simp; omega
  have hw2 : Below w.heap.size w w2 := (hb1.alloc hb1.size _).trans hb2
  clear hb1 hb2 hg2 hat2 hr0
  rw [List.nil_append] at hown2
  refine (put_any n hn 4 _).mono ?_
  rintro e w3 ⟨⟨v3, rfl, ho3⟩, hb3⟩
  have hw3 := bt hw2 hb3
  have hown3 : Own w3 w.heap.size 5 v2 l := own_keep hown2 hb3
  obtain ⟨A3, c3, rfl, _, _, hr3, _⟩ := ho3.open_
  have e3 : putL n 4 = putB 4 n := rfl
  rw [e3] at hr3 ⊢
  have hl3 := putB_length 4 n
  have Hl3 := Lib.hid hl3
  rw [hl3]
  clear hl3 e3 ho3 hown2 hb3 hw2
  go_wp2_with (at_builtin; refine wpList_append_bytes rfl (.tmp 41) (.tmp 44) 23 rfl Try.underlying23 Hi8.out w.heap.size w3.heap.size v2 l (putB 4 n) rfl A3 4 c3 rfl ?_ ?d1 ?d2 ?d3 ?d4 ?d5; intro v4 w4 hown4 hg4 hat4 hb4; obtain ⟨A4, c4, hv4, ha4, hm4, hr4, _⟩ := hown4.open_; rw [List.length_append, Hl3.out] at hv4 ha4; subst hv4)
  case d1 => exact hown3
  case d2 => exact hr3
  case d3 => exact Hl3.out.symm
  case d4 => rw [Hl3.out]; omega
  case d5 => exact hw3.size
  clear hown4 hat4 hg4 hown3 hr3
  refine (back4 n hn l A4 c4 ha4 hm4 w4 _ hr4).mono ?_; rintro e w' ⟨rfl, rfl⟩
  (go_wp2_with fail); refine (less4 n l A4 c4 ha4 hm4 _ _ hr4).mono ?_; rintro e w' ⟨rfl, rfl⟩
  go_wp2_with fail
  go_ret
  exact ⟨rfl, hw3.trans hb4⟩
theorem walk (w : World) (n : Int) (wn : (Lit.int .u32 n).wf = true) (s : Int) (ws : (Lit.int .u8 s).wf = true) (A : Option Addr) (c : Nat) (l : List UInt8) (hb : l.length ≤ c ∧ c ≤ 140737488351232 ∧ Rd w w.heap.size A l) :
    Calls Try.prog 4 #[.int .u32 n, .int .u8 s, .slice A l.length c] w fun e w' => e = .returned (.bool true) ∧ Below w.heap.size w w' := by
  have hn := bounds_u32 wn
  have hs := bounds_u8 ws
  obtain ⟨n, rfl⟩ := Int.eq_ofNat_of_zero_le hn.1
  obtain ⟨s, rfl⟩ := Int.eq_ofNat_of_zero_le hs.1
  rcases (by omega : (s : Int) % 4 = 0 ∨ (s : Int) % 4 = 1 ∨ (s : Int) % 4 = 2 ∨ (s : Int) % 4 = 3) with h | h | h | h
  · exact walk1 w n (by omega) s (by omega) h A c l hb
  · exact walk2 w n (by omega) s (by omega) h A c l hb
  · exact walk3 w n (by omega) s (by omega) h A c l hb
  · exact walk4 w n (by omega) s (by omega) h A c l hb
set_option maxRecDepth 100000 in
theorem lifted (os : Os) (started : os.Started) (H : Type) (enc : TypeId × Value → H) :
    ReturnsInHanded {} Try.checked os 4 .any (Rows.octetBackSpec.pre6 enc Try.prog Try.f4 Rows.octetBackRow.domain false) (Rows.octetBackSpec.post enc Try.prog Try.f4 false true false false) := by
  refine returnsInHanded_of_change_sized (C := Try.checked) own started (by kernel_rfl) Try.func4
    (ChangeSpec.witness6 (enc := enc) (C := Try.checked) false ⟨#[], #[.int .u32 0, .int .u8 0, .slice none 0 0], []⟩ 8 (by kernel_rfl) (by kernel_rfl) (by kernel_rfl) (by kernel_rfl)) ?_
  intro W base args ds gs before hval0 hW _ hsz0 _
  have hsz : (DataW.weightsEach Try.prog (Try.f4.params.toList ++ Rows.octetBackSpec.plain.varTypes Try.prog) (ds ++ gs)).all (· ≤ reachBytes) = true := hsz0
  clear hsz0
  have hval : ∀ (j : Nat) t v, Try.f4.params[j]? = some t → args[j]? = some v → Value.okWide Try.prog W .any base t v := hval0
  have hW' := hW
  obtain ⟨p, q, hA0, hV, rfl, _, _⟩ := hW
  have hA : DataW.TrodAll enc Try.prog W 0 (fun _ => true) true Try.f4.params.toList args.toList ds p := hA0
  rw [Try.params4] at hA hval hsz
  obtain ⟨v0, vs0, d0, ds0, p0, q0, hargs, rfl, rfl, h0, r0⟩ := trodAll_cons hA
  obtain ⟨v1, vs1, d1, ds1, p1, q1, rfl, rfl, rfl, h1, r1⟩ := trodAll_cons r0
  obtain ⟨v2, vs2, d2, ds2, p2, q2, rfl, rfl, rfl, h2, r2⟩ := trodAll_cons r1
  obtain ⟨rfl, rfl, rfl⟩ := trodAll_nil r2
  obtain rfl : args = #[v0, v1, v2] := by cases args; simp_all
  obtain ⟨rfl, rfl⟩ := trodVars_none hV
  obtain ⟨a0, rfl, rfl, rfl, w0⟩ := open_int Try.underlying22 (hval 0 22 v0 rfl rfl) h0
  obtain ⟨a1, rfl, rfl, rfl, w1⟩ := open_int Try.underlying5 (hval 1 5 v1 rfl rfl) h1
  have k2 := h2
  have lt2 : ∀ x ∈ p2, x.block < W.heap.size := by obtain ⟨m, hm⟩ := k2; exact DataW.trod_lt m _ _ _ hm
  have z2 := fun el sp (hd : d2 = .slice el sp) => sized_slice hsz (j := 2) (t := 23) (elems := el) (spare := sp) rfl (by rw [hd]; rfl) Try.underlying23
  obtain ⟨a2_0, a2_1, a2_2, rfl, w2⟩ := open_bytes Try.underlying23 Try.underlying5 (by kernel_rfl) (by kernel_rfl) (hval 2 23 v2 rfl rfl) h2 z2
  clear hA0 hval0
  refine (walk W a0 w0 a1 w1 a2_0 a2_1 a2_2 w2).mono fun e W' ⟨he, bel⟩ => ?_
  subst he
  exact ⟨_, rfl, _, _, _, [], _, [], hW', trodAll_mk1 (shut_bool Try.underlying4 _), (trodAll_cons_mk (shut_int Try.underlying22 w0) (trodAll_cons_mk (shut_int Try.underlying5 w1) (trodAll_cons_mk (Below.trod laidOut (by kernel_rfl) (of_decide_eq_true (by kernel_rfl)) k2 bel lt2) trodAll_mk0))), rfl, bel.frame _, fun h => by cases h⟩
theorem over : Rows.octetBackRow.holds Try.pinned (OpenSpec.ofChange Rows.octetBackSpec) :=
  OpenClaim.holds_of_wide 4 Try.f4 rfl rfl rfl rfl rfl rfl rfl ⟨rfl, rfl, rfl, rfl, rfl⟩ rfl rfl rfl rfl rfl (by kernel_rfl) Try.func4 (by kernel_rfl)
    (of_decide_eq_true (by kernel_rfl)) (by unfold Func.isWrapper; first | (rw [if_pos (by decide +kernel)]; kernel_rfl) | (rw [if_neg (by decide +kernel)]; exact ⟨rfl, rfl⟩))
    (fun os started H enc _ => lifted os started H enc)
theorem proved : Rows.OctetBackSaid := over
#print axioms proved
end Go.Proofs.Ytefodepamjpmjaa.octetBack
