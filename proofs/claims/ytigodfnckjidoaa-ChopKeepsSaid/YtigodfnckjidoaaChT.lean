/- Layer 7: ChopParts: facts. No condition. -/
import Derived.Test.YtigodfnckjidoaaChS
namespace Go.Proofs.Ytigodfnckjidoaa
set_option linter.all false
open Go Go.RowKit
set_option maxRecDepth 10000
set_option maxHeartbeats 4000000
theorem goF_len (m : Int) : ∀ (k : Nat) (b : List UInt8), (goF m k b).1.length ≤ k
  | 0, b => Nat.le_refl _
  | k + 1, b => by
    unfold goF
    split
    · exact Nat.zero_le _
    · split
      · show 1 ≤ _; omega
      · have := goF_len m k (b.drop (takeF b m).n)
        simp only [List.length_cons]; omega
theorem feed_len (f : Fd7) (b : List UInt8) : (f.take b).1.length ≤ f.left.length + b.length + 1 ∧ (f.take b).2.left.length ≤ f.left.length + b.length := by
  by_cases ho : f.over = true
  · rw [take_over ho]; exact ⟨Nat.zero_le _, by show f.left.length ≤ _; omega⟩
  · have ho : f.over = false := by simpa using ho
    cases hg : greetM f.pre b with
    | mk k o =>
      cases o with
      | none => rw [take_none ho hg]; exact ⟨by show 1 ≤ _; omega, by show f.left.length ≤ _; omega⟩
      | some r =>
        obtain ⟨its, l, o, hi⟩ : ∃ i l o, itemsM f.most (f.left ++ r) = (i, l, o) := ⟨_, _, _, rfl⟩
        rw [take_some ho hg hi]
        have h1 := goF_len f.most ((f.left ++ r).length + 1) (f.left ++ r)
        have h2 := items_left f.most (f.left ++ r)
        have h3 := greet_len hg
        have e1 : (goF f.most ((f.left ++ r).length + 1) (f.left ++ r)).1 = its := by show (itemsM f.most (f.left ++ r)).1 = its; rw [hi]
        rw [e1] at h1
        rw [hi] at h2
        rw [List.length_append] at h1 h2
        refine ⟨by show its.length ≤ _; omega, ?_⟩
        show (if o = true then [] else l).length ≤ _
        split
        · exact Nat.zero_le _
        · have h2 : l.length ≤ f.left.length + r.length := h2
          omega
theorem join_some : ∀ {r : List (List UInt8)} {a all : List UInt8} {i : Nat}, joinGo a i r = some all → all = a ++ r.flatten ∧ (a.length ≤ 131072 → all.length ≤ 131072)
  | [], a, all, i, h => by injection h with h; subst h; simp
  | p :: r, a, all, i, h => by
    unfold joinGo at h
    split at h
    · rename_i hc
      obtain ⟨h1, h2⟩ := join_some h
      exact ⟨by rw [h1]; simp, fun _ => h2 (by rw [List.length_append]; omega)⟩
    · cases h
theorem new_ok (m : Int) (p : Bool) : (Fd7.new m p).ok ∧ (Fd7.new m p).over = false ∧ (Fd7.new m p).left = [] := ⟨⟨by cases p <;> simp [Fd7.new], fun _ _ => rfl⟩, rfl, rfl⟩
/-- What is told of parts is what is told of the whole. -/
theorem Fed.len {f0 f : Fd7} {c : List UInt8} {told : List Itm} (h : Fed f0 c told f) (h0 : f0.left = []) : told.length ≤ c.length + 1 := by
  have := (feed_len f0 c).1
  rw [← h.told, h0] at this
  simpa using this
theorem flat_take {ps : List (List UInt8)} {i : Nat} (h : i < ps.length) : (ps.take (i + 1)).flatten = (ps.take i).flatten ++ ps[i] := by
  have e : ps.take (i + 1) = ps.take i ++ [ps[i]] := by rw [List.take_add_one, List.getElem?_eq_getElem h]; rfl
  rw [e, List.flatten_append]; simp
theorem flat_le (ps : List (List UInt8)) (i : Nat) : (ps.take i).flatten.length ≤ ps.flatten.length := by
  have h : (ps.take i).flatten ++ (ps.drop i).flatten = ps.flatten := by rw [← List.flatten_append, List.take_append_drop]
  rw [← h, List.length_append]; omega
theorem flat_at {ps : List (List UInt8)} {i : Nat} (h : i < ps.length) : (ps.take i).flatten.length + ps[i].length ≤ ps.flatten.length := by
  have := flat_le ps (i + 1)
  rw [flat_take h, List.length_append] at this; exact this
/-- A feed's memory, its row by name. -/
abbrev fdI (id : Nat) (f : Fd7) (v : Nat) : List D := [.v (.int .i64 f.most), .v (.int .i64 (f.pre : Int)), .view id v 0 f.left.length, .v (.bool f.over)]
theorem lentI {id : Nat} {f : Fd7} {v : Nat} : Lent id v (bs f.left) (fdI id f v) (f.vs.map .v) :=
  .same rfl (.same rfl (.view (by have := cut_all (bs f.left); rwa [bs_length] at this) (.same rfl .nil)))
theorem con_PartsN {m : Int} {p : Bool} {ps : List (List UInt8)} (hl : ps.length ≤ 9223372036854775807) (hR : joinM ps = none) : Con Try.prog 4 [.v (.int .i64 m), .v (.bool p), .v (.sl (psV ps))] [] 0 (.ret (.v (.bool true))) [] := by
  refine con_of Try.func4 rfl (by show _ ≤ 116; simp) fun X Q hP hnt hnp hret hpan => ?_
  obtain ⟨P0, nt0, w0, K0, S0, np0, pin0, df0⟩ := X
  simp only at hP hnt hnp
  subst hP hnp
  obtain rfl : nt0 = 116 := hnt
  refine aw_region fun K1 hK1 => ?_
  refine aL z_assign ?_
  refine awl_nil (hK1 _ _ ?_)
  clear hK1 K1
  refine aw_seq fun K2 hK2 => ?_
  refine aw_region fun K3 hK3 => ?_
  refine aL (z_call0 .nil en_8 (con_awake)) ?_
  refine aL z_not ?_
  refine awl_nil (hK3 _ _ ?_)
  clear hK3 K3
  refine aC (fun r1 c1 => ?_) (fun r1 c1 => ?_)
  · exact absurd c1 (by decide)
  · refine aw_skip ?_
    refine hK2 _ _ ?_
    clear hK2
    refine aw_region fun K4 hK4 => ?_
    refine aL z_move ?_
    refine aL (z_call0 (eC .nil) en_9 (con_joined (R := none) hR hl)) ?_
    refine aL z_move ?_
    refine aL z_extract ?_
    refine aL z_extract ?_
    refine aL z_assign ?_
    refine aL z_assign ?_
    refine awl_nil (hK4 _ _ ?_)
    clear hK4 K4
    refine aw_seq fun K5 hK5 => ?_
    refine aw_region fun K6 hK6 => ?_
    refine aL z_move ?_
    refine aL z_not ?_
    refine awl_nil (hK6 _ _ ?_)
    clear hK6 K6
    refine aC (fun r2 c2 => ?_) (fun r2 c2 => ?_)
    · refine aw_region fun K7 hK7 => ?_
      refine aL z_assign ?_
      refine awl_nil (hK7 _ _ ?_)
      clear hK7 K7
      refine aw_ret ?_
      refine (hret _ _ _ _ _ rfl (.tmp rfl .nil) rfl ?_ .nil rfl).1
      rfl
    · exact absurd c2 (by decide)
end Go.Proofs.Ytigodfnckjidoaa
