/- Layer 1 in plain Lean: tokens, values, small letters, blanks. No program. No condition. -/
import Derived.Test.YthflfnehdlpmdaaDoorBase
import Derived.Lib.SlTrimSet
import Derived.Lib.Bytealg
import Derived.Test.YthflfnehdlpmdaaDoorChecked
import Derived.Test.YthflfnehdlpmdaaDoorShelf
import Derived.Test.YthflfnehdlpmdaaDoorMemToGl
import Derived.WalkLawsBesides
import Derived.WalkSpells
import Derived.Outline
namespace Go.Proofs.YthflfnehdlpmdaaDoor
set_option linter.all false
open Go Go.RowKit

def markL : List UInt8 := [33, 35, 36, 37, 38, 39, 42, 43, 45, 46, 94, 95, 96, 124, 126]
def markM (c : Nat) : Bool := decide (c = 33 ∨ c = 35 ∨ c = 36 ∨ c = 37 ∨ c = 38 ∨ c = 39 ∨ c = 42 ∨ c = 43 ∨ c = 45 ∨ c = 46 ∨ c = 94 ∨ c = 95 ∨ c = 96 ∨ c = 124 ∨ c = 126)
theorem mark_index : ∀ c : Fin 256, decide (0 ≤ Lib.indexByte markL (UInt8.ofNat c.val)) = markM c.val := by decide +kernel
def alnum (c : Nat) : Bool := decide (48 ≤ c ∧ c ≤ 57 ∨ 97 ≤ c ∧ c ≤ 122 ∨ 65 ≤ c ∧ c ≤ 90)
def tokM (c : Nat) : Bool := alnum c || markM c
def tokenM (l : List UInt8) : Bool := !l.isEmpty && l.all fun c => tokM c.toNat
def blankM (c : Nat) : Bool := decide (c = 32 ∨ c = 9)
def badV (c : Nat) : Bool := decide (c < 32 ∧ c ≠ 9 ∨ c = 127)
def trimM (l : List UInt8) : List UInt8 := Lib.trimS l [32, 9]
def valueM (l : List UInt8) : Bool := decide ((trimM l).length = l.length) && l.all fun c => !badV c.toNat
def lowC (c : UInt8) : UInt8 := if 65 ≤ c.toNat ∧ c.toNat ≤ 90 then c + 32 else c
def lowM (l : List UInt8) : List UInt8 := l.map lowC
theorem lowM_len (l : List UInt8) : (lowM l).length = l.length := by simp [lowM]
theorem or32 : ∀ c : Fin 256, 65 ≤ c.val → c.val ≤ 90 → bits .or .u8 (c.val : Int) 32 = (c.val : Int) + 32 := by decide +kernel
theorem lowC_up (c : UInt8) (h : 65 ≤ c.toNat ∧ c.toNat ≤ 90) : ((lowC c).toNat : Int) = bits .or .u8 (c.toNat : Int) 32 := by
  have := or32 ⟨c.toNat, c.toNat_lt⟩ h.1 h.2
  rw [this]
  unfold lowC; rw [if_pos h, UInt8.toNat_add]; simp; omega
theorem lowC_no (c : UInt8) (h : ¬(65 ≤ c.toNat ∧ c.toNat ≤ 90)) : lowC c = c := by unfold lowC; rw [if_neg h]

section
variable (p : UInt8 → Bool)
theorem dw_len (l : List UInt8) : (l.dropWhile p).length = l.length ↔ ∀ a, l.head? = some a → p a = false := by
  cases l with
  | nil => simp
  | cons a t =>
    by_cases h : p a = true
    · rw [List.dropWhile_cons_of_pos h]
      have := (List.dropWhile_sublist p (l := t)).length_le
      simp [h]; omega
    · rw [List.dropWhile_cons_of_neg h]; simpa using h
theorem dw_le (l : List UInt8) : (l.dropWhile p).length ≤ l.length := (List.dropWhile_sublist p (l := l)).length_le
theorem dw_same (l : List UInt8) (h : (l.dropWhile p).length = l.length) : l.dropWhile p = l := (List.dropWhile_sublist p (l := l)).eq_of_length h
def rdw (l : List UInt8) : List UInt8 := (l.reverse.dropWhile p).reverse
theorem rdw_cons (a : UInt8) (t : List UInt8) : rdw p (a :: t) = if p a = true ∧ rdw p t = [] then [] else a :: rdw p t := by
  unfold rdw
  rw [List.reverse_cons, List.dropWhile_append]
  by_cases h : (t.reverse.dropWhile p).isEmpty = true
  · rw [if_pos h]
    have h2 : t.reverse.dropWhile p = [] := by simpa using h
    by_cases ha : p a = true <;> simp [h2, ha, List.dropWhile]
  · rw [if_neg h]
    have h2 : ¬ t.reverse.dropWhile p = [] := by simpa using h
    simp [h2]
theorem rdw_nil_dw (t : List UInt8) (h : rdw p t = []) : t.dropWhile p = [] := by
  induction t with
  | nil => rfl
  | cons a t ih =>
    rw [rdw_cons] at h
    split at h
    · rename_i h1; rw [List.dropWhile_cons_of_pos h1.1]; exact ih h1.2
    · cases h
theorem dw_rdw (l : List UInt8) : (rdw p l).dropWhile p = rdw p (l.dropWhile p) := by
  induction l with
  | nil => rfl
  | cons a t ih =>
    rw [rdw_cons]
    by_cases ha : p a = true
    · rw [List.dropWhile_cons_of_pos ha]
      split
      · rename_i h; rw [rdw_nil_dw p t h.2]; rfl
      · rw [List.dropWhile_cons_of_pos ha]; exact ih
    · rw [List.dropWhile_cons_of_neg ha, if_neg (by simp [ha]), List.dropWhile_cons_of_neg ha, rdw_cons, if_neg (by simp [ha])]
end
def isBl (c : UInt8) : Bool := blankM c.toNat
theorem contains_bl : (fun c => ([32, 9] : List UInt8).contains c) = isBl := by
  funext c
  have : ∀ c : Fin 256, ([32, 9] : List UInt8).contains (UInt8.ofNat c.val) = isBl (UInt8.ofNat c.val) := by decide +kernel
  have h := this ⟨c.toNat, c.toNat_lt⟩
  simpa using h
theorem trimM_eq (l : List UInt8) : trimM l = (rdw isBl l).dropWhile isBl := by
  unfold trimM Lib.trimS Lib.trimLeftS Lib.trimRightS
  rw [contains_bl]; rfl
theorem trimM_eq' (l : List UInt8) : trimM l = rdw isBl (l.dropWhile isBl) := by rw [trimM_eq, dw_rdw]
theorem trim_len (l : List UInt8) : (trimM l).length = l.length ↔ (∀ a, l.head? = some a → isBl a = false) ∧ (∀ a, l.getLast? = some a → isBl a = false) := by
  rw [trimM_eq']
  have hr : ∀ k : List UInt8, (rdw isBl k).length = k.length ↔ ∀ a, k.getLast? = some a → isBl a = false := by
    intro k
    unfold rdw
    rw [List.length_reverse, ← @List.length_reverse _ k, dw_len, List.head?_reverse]
  have hle : (rdw isBl (l.dropWhile isBl)).length ≤ (l.dropWhile isBl).length := by
    unfold rdw; rw [List.length_reverse]
    have := dw_le isBl (l.dropWhile isBl).reverse
    rwa [List.length_reverse] at this
  have hle2 := dw_le isBl l
  constructor
  · intro h
    have h1 : (l.dropWhile isBl).length = l.length := by omega
    have h2 := dw_same isBl l h1
    rw [h2] at h
    exact ⟨(dw_len isBl l).1 h1, (hr l).1 h⟩
  · intro ⟨h1, h2⟩
    have h3 := dw_same isBl l ((dw_len isBl l).2 h1)
    rw [h3]
    exact (hr l).2 h2
end Go.Proofs.YthflfnehdlpmdaaDoor

/- Layer 1: contracts of Lower, Trim, Token, Value, Same and their references. No condition. -/
namespace Go.Proofs.YthflfnehdlpmdaaDoor
set_option linter.all false
open Go Go.RowKit

theorem mark_any (c : UInt8) (w : World) :
    Calls Tryd.prog 74 #[.int .u8 c.toNat] w fun e w' => e = .returned (.bool (markM c.toNat)) ∧ w = w' := by
  have h := Any.strings_IndexByte Tryd.lays137 { data := #[33, 35, 36, 37, 38, 39, 42, 43, 45, 46, 94, 95, 96, 124, 126] } c.toNat w
  change Calls Tryd.prog 76 _ _ _ at h
  have hc := mark_index ⟨c.toNat, c.toNat_lt⟩
  have e1 : UInt8.ofNat c.toNat = c := by simp
  have Hc : Hid (decide (0 ≤ Lib.indexByte markL c) = markM c.toNat) := Lib.hid (by rw [← hc]; simp)
  clear hc
  have e2 : ((c.toNat : Int)).toNat.toUInt8 = c := by simp
  rw [e2] at h
  clear e1 e2
  have e3 : ({ data := #[33, 35, 36, 37, 38, 39, 42, 43, 45, 46, 94, 95, 96, 124, 126] } : ByteArray).data.toList = markL := rfl
  rw [e3] at h
  have H := Lib.hid h
  clear h e3
  go_enter Tryd.func74, Tryd.ntmps74
  go_wp2_with fail
  refine (H.out).mono ?_; rintro e w' ⟨rfl, rfl⟩
  go_wp2
  go_ret
  exact ⟨ret_bool Hc.out, rfl⟩
theorem token_any (c : UInt8) (w : World) :
    Calls Tryd.prog 64 #[.int .u8 c.toNat] w fun e w' => e = .returned (.bool (tokM c.toNat)) ∧ w = w' := by
  have hlt := c.toNat_lt
  by_cases h : 48 ≤ c.toNat ∧ c.toNat ≤ 57 ∨ 97 ≤ c.toNat ∧ c.toNat ≤ 122 ∨ 65 ≤ c.toNat ∧ c.toNat ≤ 90
  · have Hf : Hid (tokM c.toNat = true) := Lib.hid (by unfold tokM alnum; rw [decide_eq_true h]; rfl)
    go_enter Tryd.func64, Tryd.ntmps64
    go_wp2_with (go_at_call 74; exfalso; omega)
    all_goals (go_ret; exact ⟨ret_bool Hf.out.symm, rfl⟩)
  · have Hf : Hid (tokM c.toNat = markM c.toNat) := Lib.hid (by unfold tokM alnum; rw [decide_eq_false h]; rfl)
    go_enter Tryd.func64, Tryd.ntmps64
    go_wp2_with (go_at_call 74; refine (mark_any c _).mono ?_; rintro e w' ⟨rfl, rfl⟩)
    all_goals (go_ret; first | exact ⟨ret_bool Hf.out.symm, rfl⟩ | (exfalso; omega))

end Go.Proofs.YthflfnehdlpmdaaDoor
