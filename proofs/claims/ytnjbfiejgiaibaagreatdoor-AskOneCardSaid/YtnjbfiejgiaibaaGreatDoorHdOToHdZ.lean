/- Layer 10: a list of fields that comes in; requests compared; the first answers. No condition. -/
import Derived.Test.YtnjbfiejgiaibaaGreatDoorMemToGl
import Derived.Test.YtnjbfiejgiaibaaGreatDoorLoToLz
import Derived.Test.YtnjbfiejgiaibaaGreatDoorHdX
namespace Go.Proofs.YtnjbfiejgiaibaaGreatDoor
set_option linter.all false
open Go Go.RowKit
set_option maxRecDepth 10000
set_option maxHeartbeats 4000000
abbrev g0 (W : World) : Gh := ⟨fun _ => none, fun _ => 0, fun g => g < W.heap.size⟩
theorem fit_field {xs : List V} (h : FitZ Tryz.prog reachBytes 2 46 xs) : ∃ f : Fd, xs = f.vs ∧ f.n.length ≤ 140737488351232 ∧ f.v.length ≤ 140737488351232 := by
  have h1 := fitz_struct Tryz.underlying46 h
  simp only [FitAll] at h1
  obtain ⟨a0, r0, rfl, k0, a1, r1, rfl, k1, a2, r2, rfl, k2, rfl⟩ := h1
  obtain ⟨n0, rfl, w0⟩ := fitz_str Tryz.underlying9 k0
  obtain ⟨n1, rfl, w1⟩ := fitz_str Tryz.underlying9 k1
  obtain ⟨n2, rfl⟩ := fitz_bool Tryz.underlying4 k2
  exact ⟨⟨n0, n1, n2⟩, rfl, w0, w1⟩
theorem fields_of : ∀ c : List (List V), (∀ x ∈ c, FitZ Tryz.prog reachBytes 2 46 x) → ∃ l, c = fdV l ∧ ∀ f ∈ l, f.n.length ≤ 140737488351232 ∧ f.v.length ≤ 140737488351232
  | [], _ => ⟨[], rfl, by simp⟩
  | x :: c, h => by
    obtain ⟨f, rfl, h1, h2⟩ := fit_field (h x List.mem_cons_self)
    obtain ⟨l, rfl, h3⟩ := fields_of c fun y hy => h y (List.mem_cons_of_mem _ hy)
    refine ⟨f :: l, rfl, fun g hg => ?_⟩
    rcases List.mem_cons.1 hg with rfl | hg
    · exact ⟨h1, h2⟩
    · exact h3 g hg
theorem field_bytes : Tryz.prog.bytesOf 46 = 40 := by kernel_rfl
/-- What is known of a list that comes in. -/
def InL (l : List Fd) : Prop := l.length ≤ 4398046511104 ∧ ∀ f ∈ l, f.n.length ≤ 140737488351232 ∧ f.v.length ≤ 140737488351232
open Go.WideShapes Go.ChangeShapes in
theorem open_fields {H : Type} {enc : TypeId × Value → H} {W : World} {base b0 : Nat} {spare : Nat → Bool} {held : Bool} {r : Reach} {v : Value} {d : DataW H} {p : List MemPlace} {e : TypeId} (ht : Tryz.prog.underlying 24 = some (.slice e)) (hv : Value.okWide Tryz.prog W r b0 24 v) (h : DataW.Trod enc Tryz.prog W base spare held 24 v d p) (hw : ∀ n ∈ DataW.weights Tryz.prog 24 d, n ≤ reachBytes) :
    ∃ (l : List Fd) (A : Option Addr) (n c : Nat), v = .slice A n c ∧ (RepD (g0 W) W (look []) (.v (.sl (fdV l))) (.slice A n c) ∧ InL l) := by
  obtain ⟨A, len, cap, rfl⟩ := okWide_slice ht hv
  obtain ⟨fuel, hf⟩ := h
  obtain ⟨xs, h1, h2, _⟩ := open_anyZ (R := reachBytes) 3 24 fuel _ _ (by kernel_rfl) hf hw
  obtain ⟨c, rfl, hc, hall⟩ := fitz_sl Tryz.underlying24 h1
  obtain ⟨l, rfl, hl⟩ := fields_of c hall
  have h3 := h2.2 0 _ (.slice A len cap) rfl (by simp [Value.cells])
  rw [field_bytes, fdV_len, show reachBytes = 140737488351232 from rfl] at hc
  exact ⟨l, A, len, cap, rfl, .v _ _ h3, by omega, hl⟩
end Go.Proofs.YtnjbfiejgiaibaaGreatDoor

/- Layer 10: the laws HeadTrailers, HeadAnswers, HeadReads, walked. No condition. -/
namespace Go.Proofs.YtnjbfiejgiaibaaGreatDoor
set_option linter.all false
open Go Go.RowKit
set_option maxRecDepth 10000
set_option maxHeartbeats 4000000
theorem con_rRead {l : List Fd} (hs : szM l ≤ 1099511627776) : Con Tryz.prog 14 [.v (.sl (fdV l))] [] 0 (.ret (.tup [.agg (readR l).cs, .v (.int .i64 (readE l))])) [] := by
  by_cases h0 : askM names4 [] l = 0
  · exact con_rRead0 hs h0
  · exact con_rRead1 hs h0
end Go.Proofs.YtnjbfiejgiaibaaGreatDoor

/- Layer 10: plain laws of requests with hosts, with pseudo-fields twice, read again. No program, no condition. -/
namespace Go.Proofs.YtnjbfiejgiaibaaGreatDoor
set_option linter.all false
open Go Go.RowKit
theorem ask_app {names : List (List UInt8)} : ∀ (l p r : List Fd), askM names p (l ++ r) = if askM names p l = 0 then askM names (p ++ l) r else askM names p l
  | [], p, r => by simp [askM]
  | f :: l, p, r => by
    rw [List.cons_append, askM, askM]
    by_cases h : okF names p f = 0
    · rw [if_pos h, if_pos h, ask_app l (p ++ [f]) r]; simp
    · rw [if_neg h, if_neg h, if_neg h]
/-- All plain fields may be. -/
def fineL (l : List Fd) : Prop := ∀ f ∈ l, pseudoM f.n = false → plainM f = true
theorem ask_fine {names : List (List UInt8)} : ∀ (l p : List Fd), askM names p l = 0 → fineL l
  | [], _, _ => fun f h => by cases h
  | f :: l, p, h => by
    rw [askM] at h
    split at h
    · rename_i ho
      intro g hg hp
      rcases List.mem_cons.1 hg with rfl | hg
      · rw [okF_plain hp] at ho
        split at ho
        · assumption
        · cases ho
      · exact ask_fine l _ h g hg hp
    · rename_i ho; exact absurd h ho
theorem ask_two {names : List (List UInt8)} : ∀ (l p : List Fd), fineL l → askM names p l = 0 ∨ askM names p l = 100
  | [], _, _ => .inl rfl
  | f :: l, p, h => by
    rw [askM]
    split
    · exact ask_two l _ fun g hg => h g (List.mem_cons_of_mem _ hg)
    · rename_i ho
      cases hp : pseudoM f.n with
      | false => rw [okF_plain hp, if_pos (h f List.mem_cons_self hp)] at ho; exact absurd rfl ho
      | true =>
        rw [okF_pseudo hp] at ho ⊢
        split at ho
        · exact absurd rfl ho
        · rename_i hh; rw [if_neg hh]; exact .inr rfl
theorem ask_plains {names : List (List UInt8)} : ∀ (l p : List Fd), (∀ f ∈ l, pseudoM f.n = false ∧ plainM f = true) → askM names p l = 0
  | [], _, _ => rfl
  | f :: l, p, h => by
    obtain ⟨h1, h2⟩ := h f List.mem_cons_self
    rw [askM, okF_plain h1, if_pos h2, if_pos rfl]
    exact ask_plains l _ fun g hg => h g (List.mem_cons_of_mem _ hg)
/-- What a list that reads has. -/
theorem read_has {l : List Fd} (h : readE l = 0) : askM names4 [] l = 0 ∧ headM l = true ∧ placeM l = 0 ∧ (lenM l).2.2 = 0 := by
  have h0 : askM names4 [] l = 0 := by
    by_cases h1 : askM names4 [] l = 0
    · exact h1
    · rw [readE_ask h1] at h; exact h
  obtain ⟨h1, h2, h3⟩ := readE_0 h0 h
  exact ⟨h0, h1, h2, h3⟩
theorem head_has {l : List Fd} (h : headM l = true) : ¬ valuesM l [58, 109, 101, 116, 104, 111, 100] = [] ∧ ¬ valuesM l [58, 112, 97, 116, 104] = [] := by
  constructor
  · intro hv
    rw [head_no (.inl (.inl (.inl (by rw [get_nil (by rw [hv]; decide)]; rfl))))] at h; cases h
  · intro hv
    rw [head_no (.inr (by rw [get_nil (k := [58, 112, 97, 116, 104]) (by rw [hv]; decide)]; rfl))] at h; cases h
theorem readE_100 {l : List Fd} (hf : fineL l) (h : ¬ askM names4 [] l = 0) : readE l = 100 ∧ readR l = Rq.nil := by
  have h1 : readE l = 100 := by rw [readE_ask h]; exact (ask_two l [] hf).resolve_left h
  exact ⟨h1, if_neg (by rw [h1]; decide)⟩
/-- A field of a list that reads, once more ahead of it. -/
theorem twice {l : List Fd} (h : readE l = 0) {f : Fd} (hm : f ∈ l) : readE (f :: l) = 100 := by
  obtain ⟨h0, h1, -, -⟩ := read_has h
  have hfine := ask_fine l [] h0
  refine (readE_100 (fun g hg => ?_) fun hz => ?_).1
  · rcases List.mem_cons.1 hg with rfl | hg
    · exact hfine _ hm
    · exact hfine g hg
  · cases hp : pseudoM f.n with
    | true =>
      have := ask_le (k := f.n) hp hz
      rw [show f :: l = [f] ++ l from rfl, valuesM_app, valuesM_one, if_pos rfl, List.length_append] at this
      have h2 : f.v ∈ valuesM l f.n := by unfold valuesM; exact List.mem_map.2 ⟨f, List.mem_filter.2 ⟨hm, by simp⟩, rfl⟩
      have h3 := List.length_pos_of_mem h2
      simp only [List.length_singleton] at this; omega
    | false =>
      rw [askM] at hz
      split at hz
      · have h2 := ask_plain l [f] hz ⟨f, List.mem_cons_self, hp⟩
        obtain ⟨v, hv⟩ := List.exists_mem_of_ne_nil _ (head_has h1).1
        obtain ⟨g, hg, hgn, -⟩ := valuesM_mem hv
        have := h2 g hg
        rw [hgn] at this; cases this
      · rename_i ho; exact ho hz
/-- A plain field and a path behind it. -/
theorem behind {l : List Fd} (h : readE l = 0) : readE (l ++ [⟨[122, 122], [49], false⟩, ⟨[58, 112, 97, 116, 104], [47], false⟩]) = 100 ∧ readR (l ++ [⟨[122, 122], [49], false⟩, ⟨[58, 112, 97, 116, 104], [47], false⟩]) = Rq.nil := by
  obtain ⟨h0, h1, -, -⟩ := read_has h
  have hfine := ask_fine l [] h0
  refine readE_100 (fun g hg hp => ?_) fun hz => ?_
  · rcases List.mem_append.1 hg with hg | hg
    · exact hfine g hg hp
    · rcases List.mem_cons.1 hg with rfl | hg
      · decide
      · rw [List.mem_singleton.1 hg] at hp; cases hp
  · have := ask_le (k := [58, 112, 97, 116, 104]) (by decide) hz
    rw [valuesM_app, List.length_append] at this
    have h2 := List.length_pos_iff.2 (head_has h1).2
    have h3 : (valuesM [(⟨[122, 122], [49], false⟩ : Fd), ⟨[58, 112, 97, 116, 104], [47], false⟩] [58, 112, 97, 116, 104]).length = 1 := by decide
    omega
theorem auth_low (c : UInt8) : authC c = true → authC (lowC c) = true ∧ (isBl c = false ∧ badV c.toNat = false) := by
  have : ∀ k : Fin 256, authC (UInt8.ofNat k.val) = true → authC (lowC (UInt8.ofNat k.val)) = true ∧ (isBl (UInt8.ofNat k.val) = false ∧ badV (UInt8.ofNat k.val).toNat = false) := by decide +kernel
  have h := this ⟨c.toNat, c.toNat_lt⟩
  simpa using h
theorem authM_low {s : List UInt8} (h : authM s = true) : authM (lowM s) = true := by
  unfold authM lowM at *
  rw [Bool.and_eq_true] at h ⊢
  refine ⟨?_, by cases s <;> simp_all⟩
  rw [List.all_eq_true] at *
  intro x hx
  obtain ⟨c, hc, rfl⟩ := List.mem_map.1 hx
  exact (auth_low c (h.1 c hc)).1
theorem value_iff (l : List UInt8) : valueM l = true ↔ ((∀ a, l.head? = some a → isBl a = false) ∧ (∀ a, l.getLast? = some a → isBl a = false)) ∧ ∀ c ∈ l, badV c.toNat = false := by
  unfold valueM
  rw [Bool.and_eq_true, decide_eq_true_iff, trim_len, List.all_eq_true]
  refine and_congr Iff.rfl ⟨fun h c hc => by simpa using h c hc, fun h c hc => by simp [h c hc]⟩
theorem auth_value {s : List UInt8} (h : authM s = true) : valueM s = true := by
  unfold authM at h
  rw [Bool.and_eq_true, List.all_eq_true] at h
  rw [value_iff]
  exact ⟨⟨fun a ha => (auth_low a (h.1 a (List.mem_of_mem_head? ha))).2.1, fun a ha => (auth_low a (h.1 a (List.mem_of_getLast? ha))).2.1⟩, fun c hc => (auth_low c (h.1 c hc)).2.2⟩
end Go.Proofs.YtnjbfiejgiaibaaGreatDoor
