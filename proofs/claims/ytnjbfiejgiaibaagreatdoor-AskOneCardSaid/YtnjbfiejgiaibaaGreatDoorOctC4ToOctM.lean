/- Layer 1: contracts of the reference's Trim, of Lower, its reference, and Same. No condition. -/
import Derived.Test.YtnjbfiejgiaibaaGreatDoorOctC2ToTab
import Derived.Test.YtnjbfiejgiaibaaGreatDoorBase
namespace Go.Proofs.YtnjbfiejgiaibaaGreatDoor
set_option linter.all false
open Go Go.RowKit
set_option maxRecDepth 20000

@[simp] theorem S_at (l : List UInt8) (k : Nat) (h : k < (S l).size) : (S l)[k] = l[k]'(by rw [S_size] at h; exact h) := by
  have := toget (S l) k h
  rw [← this]; simp
theorem refLower_any (s : ByteArray) (w : World) (hs : s.size ≤ 140737488351232) :
    Calls Tryz.prog 36 #[.string s] w fun e w' => e = .returned (.string (S (lowM s.toList))) ∧ Below w.heap.size w w' := by
  obtain ⟨i8, hi8⟩ := uint8_row
  have Hi8 := Lib.hid hi8
  clear hi8
  go_enter Tryz.func36, Tryz.ntmps36
  go_wp2
  go_loopw [3, 4] (fun v i wr => ∃ k : Nat, k ≤ s.size ∧ i = .int .i64 k ∧ Own wr w.heap.size 5 v (lowM (s.toList.take k)) ∧ Below w.heap.size w wr) (fun _ i _ => s.size - (intOf i).toNat)
  case atStart => exact ⟨0, Nat.zero_le _, rfl, Own.new0 _ _ _ _ rfl (Nat.le_refl _), (Below.refl _ _).alloc (Nat.le_refl _) _⟩
  case round =>
    obtain ⟨k, hk, rfl, hown, hb⟩ := hrel
    by_cases hlt : k < s.size
    · have Hs : Hid (∀ c : UInt8, s[k] = c → lowM (s.toList.take (k + 1)) = lowM (s.toList.take k) ++ [lowC c]) := Lib.hid (fun c hc => by rw [take_snoc s k hlt, hc]; simp [lowM])
      obtain ⟨c, hc⟩ : ∃ c : UInt8, s[k] = c := ⟨_, rfl⟩
      have Hs2 := Lib.hid (Hs.out c hc)
      have hlen : (lowM (s.toList.take k)).length ≤ s.size := by rw [lowM_len, List.length_take]; have := tolen s; omega
      have hclt := c.toNat_lt
      clear Hs
      by_cases hup : 65 ≤ c.toNat ∧ c.toNat ≤ 90
      · have Hx := Lib.hid (lowC_add c hup)
        go_wp2_with (at_builtin; refine wpList_append_bytes rfl (.tmp 24) (.tmp 26) 22 rfl Tryz.underlying22 Hi8.out w.heap.size (wr.heap.size + 1) _ (lowM (s.toList.take k)) [lowC c] rfl (some ⟨wr.heap.size, 0, none⟩) 1 1 rfl ?_ ?c1a ?c2a rfl ?c4a ?c5a; intro v2 w2 hown2 hg2 hat2 hb2)
        case c1a => exact own_past hown _
        case c2a => exact rd_new1 _ _ _ _ Hx.out
        case c4a => first | omega | (simp; omega)
        case c5a => have := hb.size; first | omega | (simp; omega)
        go_roundw
        case rel => exact ⟨k + 1, by omega, by go_num, by rw [Hs2.out]; exact hown2, (hb.alloc hb.size _).trans hb2⟩
        case measure => simp [intOf]; omega
      · have Hx : Hid (((lowC c).toNat : Int) = c.toNat) := Lib.hid (by rw [lowC_no c hup])
        have hor : c.toNat < 65 ∨ 90 < c.toNat := by omega
        clear hup
        rcases hor with h65 | h90
        · by_cases h90 : c.toNat ≤ 90
          · go_wp2_with (at_builtin; refine wpList_append_bytes rfl (.tmp 24) (.tmp 26) 22 rfl Tryz.underlying22 Hi8.out w.heap.size (wr.heap.size + 1) _ (lowM (s.toList.take k)) [lowC c] rfl (some ⟨wr.heap.size, 0, none⟩) 1 1 rfl ?_ ?c1b ?c2b rfl ?c4b ?c5b; intro v2 w2 hown2 hg2 hat2 hb2)
            case c1b => exact own_past hown _
            case c2b => exact rd_new1 _ _ _ _ Hx.out
            case c4b => first | omega | (simp; omega)
            case c5b => have := hb.size; first | omega | (simp; omega)
            go_roundw
            case rel => exact ⟨k + 1, by omega, by go_num, by rw [Hs2.out]; exact hown2, (hb.alloc hb.size _).trans hb2⟩
            case measure => simp [intOf]; omega
          · exfalso; omega
        · have h65 : 65 ≤ c.toNat := by omega
          go_wp2_with (at_builtin; refine wpList_append_bytes rfl (.tmp 24) (.tmp 26) 22 rfl Tryz.underlying22 Hi8.out w.heap.size (wr.heap.size + 1) _ (lowM (s.toList.take k)) [lowC c] rfl (some ⟨wr.heap.size, 0, none⟩) 1 1 rfl ?_ ?c1c ?c2c rfl ?c4c ?c5c; intro v2 w2 hown2 hg2 hat2 hb2)
          case c1c => exact own_past hown _
          case c2c => exact rd_new1 _ _ _ _ Hx.out
          case c4c => first | omega | (simp; omega)
          case c5c => have := hb.size; first | omega | (simp; omega)
          go_roundw
          case rel => exact ⟨k + 1, by omega, by go_num, by rw [Hs2.out]; exact hown2, (hb.alloc hb.size _).trans hb2⟩
          case measure => simp [intOf]; omega
    · have Ht := Lib.hid (take_full s k (by omega))
      rw [Ht.out] at hown
      obtain ⟨A, c, rfl, _, _, hrd, _⟩ := hown.open_
      have hcv := conv_rd (P := Tryz.prog) hrd 22 9 5 c Tryz.underlying22 Tryz.underlying5 Tryz.underlying9
      clear hown
      go_wp2
      go_ret
      exact ⟨rfl, hb⟩
theorem Lower_any (s : ByteArray) (w : World) (hs : s.size ≤ 140737488351232) :
    Calls Tryz.prog 56 #[.string s] w fun e w' => e = .returned (.string (S (lowM s.toList))) ∧ Below w.heap.size w w' := by
  obtain ⟨W1, cs0, c0, hrun, hb1, hm1, hcs0, hc0, hl0⟩ := conv_str (P := Tryz.prog) w 9 22 5 s Tryz.underlying9 Tryz.underlying22 Tryz.underlying5
  have Hl0 := Lib.hid hl0
  have Hcs0 := Lib.hid hcs0
  have Hlen := Lib.hid (tolen s)
  clear hl0 hcs0
  go_enter Tryz.func56, Tryz.ntmps56
  go_wp2
  go_loopw [10] (fun i wr => ∃ (k : Nat) (cs : List Value), k ≤ s.size ∧ i = .int .i64 k ∧ Marked wr w.heap.size 5 cs ∧ Hid (cs.length = c0) ∧ Hid (cs.take s.size = (lowM (s.toList.take k) ++ s.toList.drop k).map U) ∧ Below w.heap.size w wr) (fun i _ => s.size - (intOf i).toNat)
  case atStart => exact ⟨0, cs0, Nat.zero_le _, rfl, hm1, Hl0, Lib.hid (by rw [Hcs0.out]; simp [lowM]), hb1⟩
  case round =>
    obtain ⟨k, cs, hk, rfl, hm, hl, hcs, hb⟩ := hrel
    by_cases hlt : k < s.size
    · obtain ⟨c, hc⟩ : ∃ c : UInt8, s[k] = c := ⟨_, rfl⟩
      have Hdrop : Hid (s.toList.drop k = c :: s.toList.drop (k + 1)) := Lib.hid (by
        rw [List.drop_eq_getElem_cons (by rw [tolen]; exact hlt), toget s k hlt, hc])
      have Htk : Hid (lowM (s.toList.take (k + 1)) = lowM (s.toList.take k) ++ [lowC c]) := Lib.hid (by rw [take_snoc s k hlt, hc]; simp [lowM])
      have Hll : Hid ((lowM (s.toList.take k)).length = k) := Lib.hid (by rw [lowM_len, List.length_take, Hlen.out]; omega)
      have hcl : k < cs.length := by have := hl.out; omega
      have hcell : wr.cell? ⟨w.heap.size, k, none⟩ = some (U c) := by
        rw [hm.at_]
        have : (cs.take s.size)[k]? = some (U c) := by
          rw [hcs.out, Hdrop.out, List.map_append, List.getElem?_append_right (by rw [List.length_map, Hll.out]; exact Nat.le_refl _), List.length_map, Hll.out, Nat.sub_self]; rfl
        rwa [List.getElem?_take_of_lt hlt] at this
      have hfree := hm.free k hcl
      have hclt := c.toNat_lt
      by_cases hup : 65 ≤ c.toNat ∧ c.toNat ≤ 90
      · have hput := hm.put k (.int .u8 (bits .or .u8 (c.toNat : Int) 32))
        have hb2 := hb.setCell (p := ⟨w.heap.size, k, none⟩) (Nat.le_refl _) (.int .u8 (bits .or .u8 (c.toNat : Int) 32))
        have hor := lowC_up c hup
        have Hor : Hid (Value.int .u8 (bits .or .u8 (c.toNat : Int) 32) = U (lowC c)) := Lib.hid (by rw [← hor])
        have Hset : Hid ((cs.set k (.int .u8 (bits .or .u8 (c.toNat : Int) 32))).take s.size = (lowM (s.toList.take (k + 1)) ++ s.toList.drop (k + 1)).map U) := Lib.hid (by
          rw [Hor.out, List.take_set, hcs.out, Hdrop.out, Htk.out, List.map_append, List.set_append_right _ _ (by rw [List.length_map, Hll.out]; exact Nat.le_refl _), List.length_map, Hll.out, Nat.sub_self]
          simp)
        have Hl2 : Hid ((cs.set k (.int .u8 (bits .or .u8 (c.toNat : Int) 32))).length = c0) := Lib.hid (by rw [List.length_set]; exact hl.out)
        clear hor hc
        go_wp2
        go_roundw
        case rel => exact ⟨k + 1, _, by omega, by go_num, hput, Hl2, Hset, hb2⟩
        case measure => simp [intOf]; omega
      · have Hx := Lib.hid (lowC_no c hup)
        have Hset : Hid (cs.take s.size = (lowM (s.toList.take (k + 1)) ++ s.toList.drop (k + 1)).map U) := Lib.hid (by
          rw [hcs.out, Hdrop.out, Htk.out, Hx.out]; simp)
        have hor : c.toNat < 65 ∨ 90 < c.toNat := by omega
        clear hup hc
        rcases hor with h65 | h90
        · go_wp2
          all_goals
            go_roundw
            case rel => exact ⟨k + 1, cs, by omega, by go_num, hm, hl, Hset, hb⟩
            case measure => simp [intOf]; omega
        · go_wp2
          all_goals
            go_roundw
            case rel => exact ⟨k + 1, cs, by omega, by go_num, hm, hl, Hset, hb⟩
            case measure => simp [intOf]; omega
    · have hrd : Rd wr (w.heap.size + 1) (some ⟨w.heap.size, 0, none⟩) (lowM s.toList) := hm.rd 0 (by omega) (fun i hi => by
        rw [lowM_len, Hlen.out] at hi
        have h1 := hcs.out
        rw [take_full s k (by omega), List.drop_eq_nil_of_le (by rw [Hlen.out]; omega), List.append_nil] at h1
        have : (cs.take s.size)[i]? = some (U (lowM s.toList)[i]) := by rw [h1, List.getElem?_map, List.getElem?_eq_getElem (by rw [lowM_len, Hlen.out]; exact hi)]; rfl
        rw [List.getElem?_take_of_lt hi] at this
        simpa using this)
      have hcv := conv_rd (P := Tryz.prog) hrd 22 9 5 c0 Tryz.underlying22 Tryz.underlying5 Tryz.underlying9
      rw [lowM_len, Hlen.out] at hcv
      go_wp2
      go_ret
      exact ⟨rfl, hb⟩
theorem Same_any (a b : ByteArray) (w : World) (ha : a.size ≤ 140737488351232) (hb : b.size ≤ 140737488351232) :
    Calls Tryz.prog 84 #[.string a, .string b] w fun e w' => e = .returned (.bool (decide (lowM a.toList = lowM b.toList))) ∧ Below w.heap.size w w' := by
  by_cases hq : a.size = b.size
  · have hz : ((a.size : Int) == (b.size : Int)) = true := by rw [hq]; simp
    clear hq
    go_enter Tryz.func84, Tryz.ntmps84
    go_wp2_with fail
    refine (Lower_any a _ ha).mono ?_; rintro e w1 ⟨rfl, hb1⟩
    go_wp2_with fail
    refine (Lower_any b _ hb).mono ?_; rintro e w2 ⟨rfl, hb2⟩
    go_wp2
    go_ret
    refine ⟨ret_bool ?_, bt hb1 hb2⟩
    rw [Bool.eq_iff_iff]; simp
  · have hz : ((a.size : Int) == (b.size : Int)) = false := by rw [beq_eq_false_iff_ne]; omega
    have Hf : Hid (decide (lowM a.toList = lowM b.toList) = false) := Lib.hid (by
      apply decide_eq_false
      intro h
      have := congrArg List.length h
      rw [lowM_len, lowM_len, tolen, tolen] at this
      exact hq this)
    clear hq
    go_enter Tryz.func84, Tryz.ntmps84
    go_wp2
    go_ret
    exact ⟨ret_bool Hf.out.symm, Below.refl _ _⟩
end Go.Proofs.YtnjbfiejgiaibaaGreatDoor

/- Layer 1 in plain Lean: what digits say. No program. No condition. -/
namespace Go.Proofs.YtnjbfiejgiaibaaGreatDoor
set_option linter.all false
open Go Go.RowKit

def digitM (c : Nat) : Int := if 48 ≤ c ∧ c ≤ 57 then (c:Int) - 48 else if 97 ≤ c ∧ c ≤ 102 then (c:Int) - 87 else if 65 ≤ c ∧ c ≤ 70 then (c:Int) - 55 else 16
def worthM (c : Nat) : Int := if 48 ≤ c ∧ c ≤ 57 then (c:Int) - 48 else if 97 ≤ c ∧ c ≤ 102 then (c:Int) - 87 else if 65 ≤ c ∧ c ≤ 70 then (c:Int) - 55 else 99
theorem digitM_bd (c : Nat) : 0 ≤ digitM c ∧ digitM c ≤ 16 := by unfold digitM; split <;> (try split) <;> (try split) <;> omega
theorem worthM_bd (c : Nat) : 0 ≤ worthM c ∧ worthM c ≤ 99 := by unfold worthM; split <;> (try split) <;> (try split) <;> omega
theorem worthM_ge (c : Nat) (base : Int) (hb : base ≤ 16) : (base ≤ worthM c) = (base ≤ digitM c) := by
  unfold worthM digitM; split <;> (try split) <;> (try split) <;> simp <;> omega
theorem worthM_lt (c : Nat) (base : Int) (hb : base ≤ 16) (h : worthM c < base) : worthM c = digitM c := by
  unfold worthM at h; unfold worthM digitM; split <;> (try split) <;> (try split) <;> simp_all <;> omega
def valM (base : Int) (l : List UInt8) : Int := l.foldl (fun n c => n * base + digitM c.toNat) 0
def badM (base : Int) (l : List UInt8) : Bool := l.any (fun c => decide (base ≤ digitM c.toNat))
/-- What a text says in a base: the number, and the error's number. -/
def numV (base : Int) (l : List UInt8) : Int := if l.isEmpty || badM base l || decide (1099511627776 < valM base l) then 0 else valM base l
def numE (base : Int) (l : List UInt8) : Int := if l.isEmpty || badM base l then 10 else if 1099511627776 < valM base l then 11 else 0
theorem valM_snoc (base : Int) (l : List UInt8) (c : UInt8) : valM base (l ++ [c]) = valM base l * base + digitM c.toNat := by simp [valM]
theorem badM_snoc (base : Int) (l : List UInt8) (c : UInt8) : badM base (l ++ [c]) = (badM base l || decide (base ≤ digitM c.toNat)) := by simp [badM]
theorem badM_take (base : Int) (l : List UInt8) (k : Nat) (h : badM base (l.take k) = true) : badM base l = true := by
  unfold badM at *; rw [List.any_eq_true] at *; obtain ⟨x, hx, hp⟩ := h; exact ⟨x, List.mem_of_mem_take hx, hp⟩
theorem badM_at (base : Int) (s : ByteArray) (k : Nat) (h : k < s.size) (hd : base ≤ digitM s[k].toNat) : badM base s.toList = true :=
  badM_take base _ (k + 1) (by rw [take_snoc s k h, badM_snoc]; simp [hd])
theorem valM_nonneg (base : Int) (hb : 1 ≤ base) (l : List UInt8) : 0 ≤ valM base l := by
  induction l using snoc_ind with
  | h0 => simp [valM]
  | h l c ih => rw [valM_snoc]; have := (digitM_bd c.toNat).1; have := Int.mul_nonneg ih (show 0 ≤ base by omega); omega
theorem valM_append (base : Int) (hb : 1 ≤ base) (l r : List UInt8) : valM base l ≤ valM base (l ++ r) := by
  induction r using snoc_ind with
  | h0 => simp
  | h r c ih =>
    rw [← List.append_assoc, valM_snoc]
    have := (digitM_bd c.toNat).1
    have h1 := valM_nonneg base hb (l ++ r)
    have := Int.mul_le_mul_of_nonneg_left hb h1
    omega
theorem valM_take (base : Int) (hb : 1 ≤ base) (l : List UInt8) (k : Nat) : valM base (l.take k) ≤ valM base l := by
  have := valM_append base hb (l.take k) (l.drop k); rwa [List.take_append_drop] at this
theorem num_nil (base : Int) (l : List UInt8) (h : l = []) : numV base l = 0 ∧ numE base l = 10 := by subst h; exact ⟨rfl, rfl⟩
theorem num_bad (base : Int) (l : List UInt8) (h : badM base l = true) : numV base l = 0 ∧ numE base l = 10 := by simp [numV, numE, h]
theorem num_big (base : Int) (l : List UInt8) (hn : l.isEmpty = false) (h : badM base l = false) (hv : 1099511627776 < valM base l) : numV base l = 0 ∧ numE base l = 11 := by
  unfold numV numE; rw [hn, h]; simp [hv]
theorem num_ok (base : Int) (l : List UInt8) (hn : l.isEmpty = false) (h : badM base l = false) (hv : valM base l ≤ 1099511627776) : numV base l = valM base l ∧ numE base l = 0 := by
  have : ¬ 1099511627776 < valM base l := by omega
  unfold numV numE; rw [hn, h]; simp [this]

/-- A digit's sign. -/
def chM (d : Nat) : UInt8 := UInt8.ofNat (if d < 10 then 48 + d else 87 + d)
/-- A number's digits in a base. -/
def digsF (b : Nat) : Nat → Nat → List UInt8
  | 0, _ => []
  | f + 1, n => if n < b then [chM n] else digsF b f (n / b) ++ [chM (n % b)]
def digsM (b n : Nat) : List UInt8 := digsF b (n + 1) n
theorem digitM_ch (d : Nat) (h : d < 16) : digitM (chM d).toNat = d := by
  have : ∀ d : Fin 16, digitM (chM d.val).toNat = d.val := by decide
  exact this ⟨d, h⟩
theorem digsF_fuel (b : Nat) (hb : 2 ≤ b) : ∀ f g n, n < f → n < g → digsF b f n = digsF b g n := by
  intro f
  induction f with
  | zero => intro g n h; omega
  | succ f ih =>
    intro g n hf hg
    cases g with
    | zero => omega
    | succ g =>
      simp only [digsF]
      split
      · rfl
      · have : n / b < n := Nat.div_lt_self (by omega) (by omega)
        rw [ih g (n / b) (by omega) (by omega)]
theorem digsM_eq (b : Nat) (hb : 2 ≤ b) (n : Nat) : digsM b n = if n < b then [chM n] else digsM b (n / b) ++ [chM (n % b)] := by
  unfold digsM
  rw [digsF]
  split
  · rfl
  · have : n / b < n := Nat.div_lt_self (by omega) (by omega)
    rw [digsF_fuel b hb n (n / b + 1) (n / b) (by omega) (by omega)]
theorem digs_ind (b : Nat) (hb : 2 ≤ b) {P : Nat → Prop} (h0 : ∀ n, n < b → P n) (h1 : ∀ n, b ≤ n → P (n / b) → P n) : ∀ n, P n := by
  intro n
  induction n using Nat.strongRecOn with
  | _ n ih =>
    rcases Nat.lt_or_ge n b with h | h
    · exact h0 n h
    · exact h1 n h (ih _ (Nat.div_lt_self (by omega) (by omega)))
theorem digs_val (b : Nat) (hb : 2 ≤ b) (h16 : b ≤ 16) (n : Nat) : valM b (digsM b n) = n := by
  induction n using digs_ind b hb with
  | h0 n h => rw [digsM_eq b hb, if_pos h]; simp [valM, digitM_ch n (by omega)]
  | h1 n h ih =>
    rw [digsM_eq b hb, if_neg (by omega), valM_snoc, ih, digitM_ch _ (by have := Nat.mod_lt n (show b > 0 by omega); omega)]
    have := Nat.div_add_mod n b
    rw [Nat.mul_comm] at this
    exact_mod_cast this
theorem digs_bad (b : Nat) (hb : 2 ≤ b) (h16 : b ≤ 16) (n : Nat) : badM b (digsM b n) = false := by
  induction n using digs_ind b hb with
  | h0 n h => rw [digsM_eq b hb, if_pos h]; simp [badM, digitM_ch n (by omega)]; omega
  | h1 n h ih =>
    have := Nat.mod_lt n (show b > 0 by omega)
    rw [digsM_eq b hb, if_neg (by omega), badM_snoc, ih, digitM_ch _ (by omega)]
    simp; omega
theorem digs_ne (b : Nat) (hb : 2 ≤ b) (n : Nat) : (digsM b n).isEmpty = false := by
  rw [digsM_eq b hb]; split <;> simp
theorem pow8 (k m : Nat) (h1 : 1 ≤ m) (h : m * 8 ^ k < 9223372036854775808) : k ≤ 20 := by
  rcases Nat.lt_or_ge k 21 with h2 | h2
  · omega
  · have h3 : 8 ^ 21 ≤ 8 ^ k := Nat.pow_le_pow_right (by omega) h2
    have h4 : 8 ^ k ≤ m * 8 ^ k := Nat.le_mul_of_pos_left _ (by omega)
    have h5 : (8:Nat) ^ 21 = 9223372036854775808 := by decide
    omega
theorem pow8_step (b k m : Nat) (hb : 8 ≤ b) (h : m * 8 ^ k < 9223372036854775808) : (m / b) * 8 ^ (k + 1) < 9223372036854775808 := by
  have h1 : m / b * 8 ≤ m := by
    have := Nat.div_mul_le_self m b
    have h2 : m / b * 8 ≤ m / b * b := Nat.mul_le_mul_left _ hb
    omega
  have h3 : m / b * 8 * 8 ^ k ≤ m * 8 ^ k := Nat.mul_le_mul_right _ h1
  rw [Nat.pow_succ, Nat.mul_comm (8 ^ k) 8, ← Nat.mul_assoc]
  omega
/-- A number's text; nothing below 0. -/
def digs (b : Nat) (n : Int) : List UInt8 := if n < 0 then [] else digsM b n.toNat
theorem digs_small (b : Nat) (hb : 2 ≤ b) (h16 : b ≤ 16) (n : Int) (h0 : 0 ≤ n) (h : n ≤ 1099511627776) : numV b (digs b n) = n ∧ numE b (digs b n) = 0 := by
  unfold digs; rw [if_neg (by omega)]
  have hv := digs_val b hb h16 n.toNat
  have := num_ok b _ (digs_ne b hb n.toNat) (digs_bad b hb h16 n.toNat) (by omega)
  omega
theorem digsM_short (b : Nat) (hb : 8 ≤ b) : ∀ k n, n < 8 ^ (k + 1) → (digsM b n).length ≤ k + 1 := by
  intro k
  induction k with
  | zero =>
    intro n h
    rw [digsM_eq b (by omega), if_pos (by simp at h; omega)]; simp
  | succ k ih =>
    intro n h
    rw [digsM_eq b (by omega)]
    split
    · simp
    · have h1 : n / b < 8 ^ (k + 1) := by
        rw [Nat.div_lt_iff_lt_mul (by omega)]
        have : 8 ^ (k + 1) * 8 ≤ 8 ^ (k + 1) * b := Nat.mul_le_mul_left _ hb
        rw [Nat.pow_succ] at h; omega
      have := ih _ h1
      simp; omega
theorem digs_length (b : Nat) (hb : 8 ≤ b) (n : Int) (hn : n ≤ 9223372036854775807) : (digs b n).length ≤ 21 := by
  unfold digs; split
  · simp
  · exact digsM_short b hb 20 _ (by have : (8:Nat) ^ (20 + 1) = 9223372036854775808 := by decide
                                    omega)
end Go.Proofs.YtnjbfiejgiaibaaGreatDoor
