/- Abstract states: a text's bytes as a row of one's own, marked behind its last place. No program, no condition. -/
import Derived.Test.YthflfnehdlpmdaaDoorAzToAkA
import Derived.Test.YthflfnehdlpmdaaDoorHdCToAv
import Derived.Test.YthflfnehdlpmdaaDoorShelf
namespace Go.Proofs.YthflfnehdlpmdaaDoor
set_option linter.all false
open Go Go.RowKit
section
variable {X : Cx} {G : Gh} {w w' : World} {m : Mem}
end
section
variable {X : Cx} {o : Oper} {f : Nat → D} {m : Mem}
end
end Go.Proofs.YthflfnehdlpmdaaDoor

/- Chapter 14: contracts of the library's searches. No condition but on lengths. -/
namespace Go.Proofs.YthflfnehdlpmdaaDoor
set_option linter.all false
open Go Go.RowKit
set_option maxRecDepth 10000
theorem con_sCut {s r : List UInt8} (hs : s.length < 4294967281) : Con Tryd.prog 24 [.v (.str s), .v (.str r)] [] 0 (.ret (.tup [.v (.str (Lib.cut s r).1), .v (.str (Lib.cut s r).2.1), .v (.bool (Lib.cut s r).2.2)])) [] :=
  con_pureS fun K G w us hsh hl hA => by
    obtain rfl := es2 hA
    obtain ⟨m, hm⟩ := hsh.2.1
    refine (Any.strings_Cut Tryd.lays145 (S s) (S r) m w (by rw [S_size]; exact hs) hm).mono fun e w' ⟨he, q, hw⟩ => ?_
    subst hw
    exact ⟨_, he, fun m => .tup _ [_, _, _] rfl (RepDs.cons (mk_str _) (.cons (mk_str _) (.cons (mk_bool _) .nil))).2, (Below.refl _ _).trans ⟨rfl, rfl, rfl, Nat.le_refl _, fun _ _ => rfl⟩⟩
end Go.Proofs.YthflfnehdlpmdaaDoor

/- Abstract states: bytes of a slice that is known exactly, in a block that is kept (and may be written again by the caller, later). No program, no condition. -/
namespace Go.Proofs.YthflfnehdlpmdaaDoor
set_option linter.all false
open Go Go.RowKit
/-- Bytes at the head of a block that is kept. -/
def KB (X : Cx) (A : Option Addr) (l : List UInt8) (cap : Nat) : Prop :=
  l.length ≤ cap ∧ cap ≤ maxLen ∧ ((l = [] ∧ (A = none ∨ ∃ g, A = some ⟨g, 0, none⟩)) ∨ ∃ g, A = some ⟨g, 0, none⟩ ∧ X.K g ∧ ∀ i b, l[i]? = some b → X.w0.cell? ⟨g, i, none⟩ = some (.int .u8 (b.toNat : Int)))
/-- The slice behind its first i places. -/
def skv (A : Option Addr) (i n cap : Nat) : Value := .slice (if i = cap then A.map (·.add (i - 1)) else A.map (·.add i)) (n - i) (cap - i)
section
variable {X : Cx} {o : Oper} {f : Nat → D} {m : Mem} {A : Option Addr} {l : List UInt8} {cap i : Nat}
theorem KB.cell (h : KB X A l cap) {G : Gh} {w : World} {m : Mem} (hO : Ok X G w m) {b : UInt8} (hb : l[i]? = some b) : ∃ g, A = some ⟨g, 0, none⟩ ∧ w.cell? ⟨g, i, none⟩ = some (.int .u8 (b.toNat : Int)) := by
  rcases h.2.2 with ⟨h, _⟩ | ⟨g, h1, h2, h3⟩
  · subst h; cases hb
  · refine ⟨g, h1, ?_⟩
    have h4 := h3 i b hb
    have h5 := (hO.keep g h2).2
    simp only [World.cell?] at h4 ⊢
    rw [h5]; exact h4
theorem KB.to (h : KB X A l cap) {Y : Cx} (hK : ∀ g, X.K g → Y.K g) {G : Gh} {m : Mem} (hO : Ok X G Y.w0 m) : KB Y A l cap := by
  refine ⟨h.1, h.2.1, ?_⟩
  rcases h.2.2 with h' | ⟨g, h1, h2, h3⟩
  · exact .inl h'
  · refine .inr ⟨g, h1, hK g h2, fun i b hb => ?_⟩
    obtain ⟨g', e1, e2⟩ := h.cell hO hb
    rw [h1] at e1; injection e1 with e1; injection e1 with e1; subst e1
    exact e2
/-- The rest, as bytes. -/
theorem KB.rep (h : KB X A l cap) {G : Gh} {w : World} {m : Mem} (hO : Ok X G w m) (hi : i ≤ l.length) : RepV (fun _ => True) w (.sl (bs (l.drop i))) (skv A i l.length cap) := by
  have hl := h.1
  have hc := h.2.1
  by_cases he : i = l.length
  · have e1 : l.drop i = [] := by rw [he, List.drop_length]
    rw [e1]
    unfold skv
    rw [he, Nat.sub_self]
    exact .nil _ _ (by omega)
  · obtain ⟨b, hb⟩ : ∃ b, l[i]? = some b := ⟨_, List.getElem?_eq_getElem (by omega)⟩
    obtain ⟨g, e1, _⟩ := h.cell hO hb
    subst e1
    unfold skv
    rw [if_neg (by omega), Option.map_some, addr_add, Nat.zero_add]
    have e2 : l.length - i = (bs (l.drop i)).length := by simp
    rw [e2]
    refine .sl _ g i 1 _ (fun q _ => .int .u8 ((l[i + q]?.getD 0).toNat : Int)) (by simp; omega) trivial (Nat.le_refl _) (bs_one _) (by simp; omega) (by omega) (fun q j x hx => ?_) (fun q j x hx => ?_)
    all_goals
      unfold elem? bs at hx
      rw [List.getElem?_map, List.getElem?_drop] at hx
      cases hq : l[i + q]? with
      | none => rw [hq] at hx; cases hx
      | some b =>
        rw [hq] at hx
        cases j with
        | succ j => simp at hx
        | zero =>
          simp at hx; subst hx
          first
            | exact .int _ _
            | (obtain ⟨g', e3, e4⟩ := h.cell hO hq
               injection e3 with e3; injection e3 with e3; subst e3
               rw [Nat.mul_one, Nat.add_zero]
               exact e4)
theorem hnew_of {f : Nat → D} {l : List Nat} {pre post : AH} {m' : Mem} {T : List Nat} (hnd : nodupB l = true) (hT : ∀ x ∈ T, x ∈ (keys pre).map (rho l) ∨ ∀ i, dom post i = true → rho l i ≠ x) (hn : ∀ p ∈ AH.ren (rho l) post, p.1 ∉ T → m' p.1 = none) : ∀ i, dom post i = true → dom pre i = false → m' (rho l i) = none := fun i h1 h2 => by
  have hinj := rho_inj hnd
  obtain ⟨o', ho'⟩ := of_dom h1
  have hin : (rho l i, o'.ren (rho l)) ∈ AH.ren (rho l) post := by
    have := mem_of_look (ah := AH.ren (rho l) post) (i := rho l i) (o := o'.ren (rho l)) (by rw [look_ren hinj, ho']; rfl)
    exact this
  refine hn _ hin fun hmem => ?_
  rcases hT _ hmem with hmem | hne
  · obtain ⟨j, hj, he⟩ := List.mem_map.1 hmem
    have := hinj _ _ he
    subst this
    unfold keys at hj
    obtain ⟨p, hp, rfl⟩ := List.mem_map.1 hj
    rw [dom_mem hp] at h2; cases h2
  · exact hne i h1 rfl
end
end Go.Proofs.YthflfnehdlpmdaaDoor

/- Abstract states: a part of a body that only reads, and what follows it, in one. No program, no condition. -/
namespace Go.Proofs.YthflfnehdlpmdaaDoor
set_option linter.all false
open Go Go.RowKit
end Go.Proofs.YthflfnehdlpmdaaDoor
