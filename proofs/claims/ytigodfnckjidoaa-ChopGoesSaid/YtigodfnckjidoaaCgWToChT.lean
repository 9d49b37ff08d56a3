/- Layer 6: the document's Put; the law FramePuts, walked. No condition. -/
import Derived.Test.YtigodfnckjidoaaCgP
import Derived.Test.YtigodfnckjidoaaChSToCgG
namespace Go.Proofs.Ytigodfnckjidoaa
set_option linter.all false
open Go Go.RowKit
set_option maxRecDepth 10000
set_option maxHeartbeats 4000000
theorem con_refPayL {f : Fr} (hm : mayB f = true) (hd : f.data.length ≤ 1000000) (hn : f.sets.length ≤ 1000000) : Con Try.prog 22 [.agg f.cs] [] 0 (.ret (.v (.sl (bs (payL f))))) [] := by
  rw [← pay_ref f hm]
  refine con_refPayload ?_ hd hn
  unfold mayB at hm
  rw [Bool.and_eq_true] at hm
  exact hm.1
theorem bs_byte2 {a b : Int} (a0 : 0 ≤ a) (a1 : a ≤ 255) (b0 : 0 ≤ b) (b1 : b ≤ 255) : ([[.int .u8 a], [.int .u8 b]] : List (List V)) = bs [UInt8.ofNat a.toNat, UInt8.ofNat b.toNat] := by
  show ([[.int .u8 a]] : List (List V)) ++ [[.int .u8 b]] = bs ([UInt8.ofNat a.toNat] ++ [UInt8.ofNat b.toNat])
  rw [← bs_append, ← bs_byte a0 a1, ← bs_byte b0 b1]
theorem cut_is {c : List (List V)} {n : Nat} (h : n = c.length) : cut 0 (0 + n) c = c := by subst h; exact cut_all c
theorem may_ranges {f : Fr} (hm : mayB f = true) : rangesB f = true := by
  unfold mayB at hm
  rw [Bool.and_eq_true] at hm
  exact hm.1
theorem con_refPutF {f : Fr} (hd : f.data.length ≤ 1000000) (hn : f.sets.length ≤ 1000000) : Con Try.prog 16 [.agg f.cs] [] 0 (.ret (.tup [.v (.sl (bs (putF f))), .v (.int .i64 (putE f))])) [] := by
  have h1 : mayB f = false → putE f = 1 := fun h => by unfold putE; rw [h]; rfl
  have h2 : mayB f = true → 16777215 < ((payL f).length : Int) → putE f = 2 := fun h k => by unfold putE; rw [h, if_pos rfl, if_pos (by omega)]
  have h0 : mayB f = true → ((payL f).length : Int) ≤ 16777215 → putE f = 0 := fun h k => by unfold putE; rw [h, if_pos rfl, if_neg (by omega)]
  have hr : mayB f = true → 0 ≤ f.ty ∧ f.ty ≤ 255 ∧ 0 ≤ f.fl ∧ f.fl ≤ 255 ∧ 0 ≤ f.st ∧ f.st ≤ 2147483647 := fun h => by
    obtain ⟨a, b, -, -, c, -⟩ := mapply (may_ranges h)
    exact ⟨a.1, a.2, b.1, b.2, c.1, c.2⟩
  have hpl : (putL (payL f).length 3).length = 3 := putB_length _ _
  refine con_of Try.func16 rfl (by show _ ≤ 35; simp) fun X Q hP hnt hnp hret hpan => ?_
  obtain ⟨P0, nt0, w0, K0, S0, np0, pin0, df0⟩ := X
  simp only at hP hnt hnp
  subst hP hnp
  obtain rfl : nt0 = 35 := hnt
  refine aw_region fun K1 hK1 => ?_
  refine aL (z_box 0) ?_
  refine aL z_assign ?_
  refine aL z_assign ?_
  refine awl_nil (hK1 _ _ ?_)
  clear hK1 K1
  refine aw_seq fun K2 hK2 => ?_
  refine aw_region fun K3 hK3 => ?_
  first
    | refine aL (z_load sz_40) ?_
    | refine aL (z_loadRef sz_40) ?_
    | refine aL (z_loadV sz_40) ?_
  refine aL (z_call0 (eC .nil) en_21 (con_May hd hn)) ?_
  refine aL z_not ?_
  refine awl_nil (hK3 _ _ ?_)
  clear hK3 K3
  refine aC (fun r1 c1 => ?_) (fun r1 c1 => ?_)
  · refine aw_region fun K4 hK4 => ?_
    refine aL z_assign ?_
    refine aL z_assign ?_
    refine awl_nil (hK4 _ _ ?_)
    clear hK4 K4
    first
      | (have he := h1 (by assumption); have hp := putF_bad (f := f) (by rw [he]; decide); refine aw_weak (weak_all (fr' := [(2, .v (.sl (bs (putF f)))), (3, .v (.int .i64 (putE f)))]) (ah' := []) none trivial .nil (.cons rfl (.eq' .nil (by rw [hp]; rfl)) (.cons rfl (.eq (d_int he.symm) (.keep rfl)) .nil))) ?_)
      | (have he := h2 (by assumption) (by omega); have hp := putF_bad (f := f) (by rw [he]; decide); refine aw_weak (weak_all (fr' := [(2, .v (.sl (bs (putF f)))), (3, .v (.int .i64 (putE f)))]) (ah' := []) none trivial .nil (.cons rfl (.eq' .nil (by rw [hp]; rfl)) (.cons rfl (.eq (d_int he.symm) (.keep rfl)) .nil))) ?_)
      | (have he := h0 (by assumption) (by omega); have hp := (put_ok (f := f) he).2.2; refine aw_weak (weak_all (fr' := [(2, .v (.sl (bs (putF f)))), (3, .v (.int .i64 (putE f)))]) (ah' := []) (some (1, 2, bs (putF f))) ⟨rfl, _, _, by rw [hp]; rfl⟩ .nil (.cons rfl (.view rfl (by rw [hp, show headL f (payL f).length ++ payL f = putB 3 (payL f).length ++ [UInt8.ofNat f.ty.toNat, UInt8.ofNat f.fl.toNat] ++ putB 4 f.st.toNat ++ payL f from rfl]; exact cut_is (by simp; try omega))) (.cons rfl (.eq (d_int he.symm) (.keep rfl)) .nil))) ?_)
    refine aw_ret ?_
    refine (hret _ _ _ _ _ rfl (.tmp rfl (.tmp rfl .nil)) rfl ?_ .nil rfl).1
    rfl
  · refine aw_skip ?_
    refine hK2 _ _ ?_
    clear hK2
    refine aw_region fun K5 hK5 => ?_
    first
      | refine aL (z_load sz_40) ?_
      | refine aL (z_loadRef sz_40) ?_
      | refine aL (z_loadV sz_40) ?_
    refine aL (z_call0 (eC .nil) en_22 (con_refPayL (by assumption) hd hn)) ?_
    refine aL z_assign ?_
    refine awl_nil (hK5 _ _ ?_)
    clear hK5 K5
    refine aw_seq fun K6 hK6 => ?_
    refine aw_region fun K7 hK7 => ?_
    refine aL z_move ?_
    first
      | refine aL (z_lenB Try.underlying24) ?_
      | refine aL (z_len Try.underlying24) ?_
      | refine aL (z_lenV Try.underlying24) ?_
    refine aL z_gtr ?_
    refine awl_nil (hK7 _ _ ?_)
    clear hK7 K7
    refine aC (fun r2 c2 => ?_) (fun r2 c2 => ?_)
    · refine aw_region fun K8 hK8 => ?_
      refine aL z_assign ?_
      refine aL z_assign ?_
      refine awl_nil (hK8 _ _ ?_)
      clear hK8 K8
      first
        | (have he := h1 (by assumption); have hp := putF_bad (f := f) (by rw [he]; decide); refine aw_weak (weak_all (fr' := [(2, .v (.sl (bs (putF f)))), (3, .v (.int .i64 (putE f)))]) (ah' := []) none trivial .nil (.cons rfl (.eq' .nil (by rw [hp]; rfl)) (.cons rfl (.eq (d_int he.symm) (.keep rfl)) .nil))) ?_)
        | (have he := h2 (by assumption) (by omega); have hp := putF_bad (f := f) (by rw [he]; decide); refine aw_weak (weak_all (fr' := [(2, .v (.sl (bs (putF f)))), (3, .v (.int .i64 (putE f)))]) (ah' := []) none trivial .nil (.cons rfl (.eq' .nil (by rw [hp]; rfl)) (.cons rfl (.eq (d_int he.symm) (.keep rfl)) .nil))) ?_)
        | (have he := h0 (by assumption) (by omega); have hp := (put_ok (f := f) he).2.2; refine aw_weak (weak_all (fr' := [(2, .v (.sl (bs (putF f)))), (3, .v (.int .i64 (putE f)))]) (ah' := []) (some (1, 2, bs (putF f))) ⟨rfl, _, _, by rw [hp]; rfl⟩ .nil (.cons rfl (.view rfl (by rw [hp, show headL f (payL f).length ++ payL f = putB 3 (payL f).length ++ [UInt8.ofNat f.ty.toNat, UInt8.ofNat f.fl.toNat] ++ putB 4 f.st.toNat ++ payL f from rfl]; exact cut_is (by simp; try omega))) (.cons rfl (.eq (d_int he.symm) (.keep rfl)) .nil))) ?_)
      refine aw_ret ?_
      refine (hret _ _ _ _ _ rfl (.tmp rfl (.tmp rfl .nil)) rfl ?_ .nil rfl).1
      rfl
    · refine aw_skip ?_
      refine hK6 _ _ ?_
      clear hK6
      refine aw_region fun K9 hK9 => ?_
      refine aL z_move ?_
      first
        | refine aL (z_lenB Try.underlying24) ?_
        | refine aL (z_len Try.underlying24) ?_
        | refine aL (z_lenV Try.underlying24) ?_
      refine aL (z_conv Try.underlying62 ⟨_, Try.underlying3⟩) ?_
      refine aL (z_call1 1 (eC (eC .nil)) en_23 (con_refPut (n := (payL f).length) (by omega))) ?_
      refine aL z_assign ?_
      refine awl_nil (hK9 _ _ ?_)
      clear hK9 K9
      refine aw_region fun K10 hK10 => ?_
      obtain ⟨t0, t1, f0, f1, s0, s1⟩ := hr (by assumption)
      refine aL z_move ?_
      first
        | refine aL (z_fieldAddr fo_40_0) ?_
        | refine aL (z_fieldRef fo_40_0) ?_
        | refine aL (z_fieldV fo_40_0) ?_
      first
        | refine aL (z_load sz_3) ?_
        | refine aL (z_loadRef sz_3) ?_
        | refine aL (z_loadV sz_3) ?_
      refine aL (z_conv Try.underlying5 ⟨_, Try.underlying3⟩) ?_
      first
        | refine aL (z_fieldAddr fo_40_1) ?_
        | refine aL (z_fieldRef fo_40_1) ?_
        | refine aL (z_fieldV fo_40_1) ?_
      first
        | refine aL (z_load sz_3) ?_
        | refine aL (z_loadRef sz_3) ?_
        | refine aL (z_loadV sz_3) ?_
      refine aL (z_conv Try.underlying5 ⟨_, Try.underlying3⟩) ?_
      refine aL (z_lits (pC (pC .nil)) Try.underlying24 sz_5 zc_5 zl_5 (c := [[_], [_]])) ?_
      first
        | refine aL (z_app Try.underlying24 zi_5) ?_
        | refine aL (z_appV Try.underlying24 zi_5) ?_
        | refine aL (z_appN 2 Try.underlying24 zi_5) ?_
        | refine aL (z_appNV 2 Try.underlying24 zi_5) ?_
      refine aL z_assign ?_
      refine awl_nil (hK10 _ _ ?_)
      clear hK10 K10
      refine aw_weak (fr' := [(1, .ptr 0 0), (4, .v (.sl (bs (payL f)))), (5, .view 1 0 0 (bs (putB 3 (payL f).length ++ [UInt8.ofNat f.ty.toNat, UInt8.ofNat f.fl.toNat])).length)]) (ah' := [(0, .box f.cs), (1, .row 0 1 5 (bs (putB 3 (payL f).length ++ [UInt8.ofNat f.ty.toNat, UInt8.ofNat f.fl.toNat])))]) (wRow 5 1 (bs (putB 3 (payL f).length ++ [UInt8.ofNat f.ty.toNat, UInt8.ofNat f.fl.toNat])) (hc := by rw [bs_byte2 t0 t1 f0 f1]; exact row_app (l := putB 3 (payL f).length) rfl)) ?_
      refine aw_region fun K11 hK11 => ?_
      refine aL z_move ?_
      first
        | refine aL (z_fieldAddr fo_40_2) ?_
        | refine aL (z_fieldRef fo_40_2) ?_
        | refine aL (z_fieldV fo_40_2) ?_
      first
        | refine aL (z_load sz_3) ?_
        | refine aL (z_loadRef sz_3) ?_
        | refine aL (z_loadV sz_3) ?_
      refine aL (z_call0 (eC .nil) en_24 (con_rfour (by omega) (by omega))) ?_
      first
        | refine aL (z_app Try.underlying24 zi_5) ?_
        | refine aL (z_appV Try.underlying24 zi_5) ?_
        | refine aL (z_appN 3 Try.underlying24 zi_5) ?_
        | refine aL (z_appNV 3 Try.underlying24 zi_5) ?_
      refine aL z_assign ?_
      refine awl_nil (hK11 _ _ ?_)
      clear hK11 K11
      refine aw_region fun K12 hK12 => ?_
      refine aL z_move ?_
      refine aL z_move ?_
      first
        | refine aL (z_app Try.underlying24 zi_5) ?_
        | refine aL (z_appV Try.underlying24 zi_5) ?_
        | refine aL (z_appN 4 Try.underlying24 zi_5) ?_
        | refine aL (z_appNV 4 Try.underlying24 zi_5) ?_
      refine aL z_assign ?_
      refine aL z_assign ?_
      refine awl_nil (hK12 _ _ ?_)
      clear hK12 K12
      first
        | (have he := h1 (by assumption); have hp := putF_bad (f := f) (by rw [he]; decide); refine aw_weak (weak_all (fr' := [(2, .v (.sl (bs (putF f)))), (3, .v (.int .i64 (putE f)))]) (ah' := []) none trivial .nil (.cons rfl (.eq' .nil (by rw [hp]; rfl)) (.cons rfl (.eq (d_int he.symm) (.keep rfl)) .nil))) ?_)
        | (have he := h2 (by assumption) (by omega); have hp := putF_bad (f := f) (by rw [he]; decide); refine aw_weak (weak_all (fr' := [(2, .v (.sl (bs (putF f)))), (3, .v (.int .i64 (putE f)))]) (ah' := []) none trivial .nil (.cons rfl (.eq' .nil (by rw [hp]; rfl)) (.cons rfl (.eq (d_int he.symm) (.keep rfl)) .nil))) ?_)
        | (have he := h0 (by assumption) (by omega); have hp := (put_ok (f := f) he).2.2; refine aw_weak (weak_all (fr' := [(2, .v (.sl (bs (putF f)))), (3, .v (.int .i64 (putE f)))]) (ah' := []) (some (1, 2, bs (putF f))) ⟨rfl, _, _, by rw [hp]; rfl⟩ .nil (.cons rfl (.view rfl (by rw [hp, show headL f (payL f).length ++ payL f = putB 3 (payL f).length ++ [UInt8.ofNat f.ty.toNat, UInt8.ofNat f.fl.toNat] ++ putB 4 f.st.toNat ++ payL f from rfl]; exact cut_is (by simp; try omega))) (.cons rfl (.eq (d_int he.symm) (.keep rfl)) .nil))) ?_)
      refine aw_ret ?_
      refine (hret _ _ _ _ _ rfl (.tmp rfl (.tmp rfl .nil)) rfl ?_ .nil rfl).1
      rfl
end Go.Proofs.Ytigodfnckjidoaa

/- Layer 7: ChopParts: facts. No condition. -/
namespace Go.Proofs.Ytigodfnckjidoaa
set_option linter.all false
open Go Go.RowKit
set_option maxRecDepth 10000
set_option maxHeartbeats 4000000
theorem goF_len (m : Int) : ∀ (k : Nat) (b : List UInt8), (goF m k b).1.length ≤ k
  | 0, b => Nat.le_refl _
  | k + 1, b => by
    unfold goF
    split
    · exact Nat.zero_le _
    · split
      · show 1 ≤ _; omega
      · have := goF_len m k (b.drop (takeF b m).n)
        simp only [List.length_cons]; omega
theorem feed_len (f : Fd7) (b : List UInt8) : (f.take b).1.length ≤ f.left.length + b.length + 1 ∧ (f.take b).2.left.length ≤ f.left.length + b.length := by
  by_cases ho : f.over = true
  · rw [take_over ho]; exact ⟨Nat.zero_le _, by show f.left.length ≤ _; omega⟩
  · have ho : f.over = false := by simpa using ho
    cases hg : greetM f.pre b with
    | mk k o =>
      cases o with
      | none => rw [take_none ho hg]; exact ⟨by show 1 ≤ _; omega, by show f.left.length ≤ _; omega⟩
      | some r =>
        obtain ⟨its, l, o, hi⟩ : ∃ i l o, itemsM f.most (f.left ++ r) = (i, l, o) := ⟨_, _, _, rfl⟩
        rw [take_some ho hg hi]
        have h1 := goF_len f.most ((f.left ++ r).length + 1) (f.left ++ r)
        have h2 := items_left f.most (f.left ++ r)
        have h3 := greet_len hg
        have e1 : (goF f.most ((f.left ++ r).length + 1) (f.left ++ r)).1 = its := by show (itemsM f.most (f.left ++ r)).1 = its; rw [hi]
        rw [e1] at h1
        rw [hi] at h2
        rw [List.length_append] at h1 h2
        refine ⟨by show its.length ≤ _; omega, ?_⟩
        show (if o = true then [] else l).length ≤ _
        split
        · exact Nat.zero_le _
        · have h2 : l.length ≤ f.left.length + r.length := h2
          omega
theorem join_some : ∀ {r : List (List UInt8)} {a all : List UInt8} {i : Nat}, joinGo a i r = some all → all = a ++ r.flatten ∧ (a.length ≤ 131072 → all.length ≤ 131072)
  | [], a, all, i, h => by injection h with h; subst h; simp
  | p :: r, a, all, i, h => by
    unfold joinGo at h
    split at h
    · rename_i hc
      obtain ⟨h1, h2⟩ := join_some h
      exact ⟨by rw [h1]; simp, fun _ => h2 (by rw [List.length_append]; omega)⟩
    · cases h
theorem new_ok (m : Int) (p : Bool) : (Fd7.new m p).ok ∧ (Fd7.new m p).over = false ∧ (Fd7.new m p).left = [] := ⟨⟨by cases p <;> simp [Fd7.new], fun _ _ => rfl⟩, rfl, rfl⟩
/-- What is told of parts is what is told of the whole. -/
theorem Fed.len {f0 f : Fd7} {c : List UInt8} {told : List Itm} (h : Fed f0 c told f) (h0 : f0.left = []) : told.length ≤ c.length + 1 := by
  have := (feed_len f0 c).1
  rw [← h.told, h0] at this
  simpa using this
theorem flat_take {ps : List (List UInt8)} {i : Nat} (h : i < ps.length) : (ps.take (i + 1)).flatten = (ps.take i).flatten ++ ps[i] := by
  have e : ps.take (i + 1) = ps.take i ++ [ps[i]] := by rw [List.take_add_one, List.getElem?_eq_getElem h]; rfl
  rw [e, List.flatten_append]; simp
theorem flat_le (ps : List (List UInt8)) (i : Nat) : (ps.take i).flatten.length ≤ ps.flatten.length := by
  have h : (ps.take i).flatten ++ (ps.drop i).flatten = ps.flatten := by rw [← List.flatten_append, List.take_append_drop]
  rw [← h, List.length_append]; omega
theorem flat_at {ps : List (List UInt8)} {i : Nat} (h : i < ps.length) : (ps.take i).flatten.length + ps[i].length ≤ ps.flatten.length := by
  have := flat_le ps (i + 1)
  rw [flat_take h, List.length_append] at this; exact this
/-- A feed's memory, its row by name. -/
abbrev fdI (id : Nat) (f : Fd7) (v : Nat) : List D := [.v (.int .i64 f.most), .v (.int .i64 (f.pre : Int)), .view id v 0 f.left.length, .v (.bool f.over)]
theorem lentI {id : Nat} {f : Fd7} {v : Nat} : Lent id v (bs f.left) (fdI id f v) (f.vs.map .v) :=
  .same rfl (.same rfl (.view (by have := cut_all (bs f.left); rwa [bs_length] at this) (.same rfl .nil)))
theorem con_PartsN {m : Int} {p : Bool} {ps : List (List UInt8)} (hl : ps.length ≤ 9223372036854775807) (hR : joinM ps = none) : Con Try.prog 4 [.v (.int .i64 m), .v (.bool p), .v (.sl (psV ps))] [] 0 (.ret (.v (.bool true))) [] := by
  refine con_of Try.func4 rfl (by show _ ≤ 116; simp) fun X Q hP hnt hnp hret hpan => ?_
  obtain ⟨P0, nt0, w0, K0, S0, np0, pin0, df0⟩ := X
  simp only at hP hnt hnp
  subst hP hnp
  obtain rfl : nt0 = 116 := hnt
  refine aw_region fun K1 hK1 => ?_
  refine aL z_assign ?_
  refine awl_nil (hK1 _ _ ?_)
  clear hK1 K1
  refine aw_seq fun K2 hK2 => ?_
  refine aw_region fun K3 hK3 => ?_
  refine aL (z_call0 .nil en_8 (con_awake)) ?_
  refine aL z_not ?_
  refine awl_nil (hK3 _ _ ?_)
  clear hK3 K3
  refine aC (fun r1 c1 => ?_) (fun r1 c1 => ?_)
  · exact absurd c1 (by decide)
  · refine aw_skip ?_
    refine hK2 _ _ ?_
    clear hK2
    refine aw_region fun K4 hK4 => ?_
    refine aL z_move ?_
    refine aL (z_call0 (eC .nil) en_9 (con_joined (R := none) hR hl)) ?_
    refine aL z_move ?_
    refine aL z_extract ?_
    refine aL z_extract ?_
    refine aL z_assign ?_
    refine aL z_assign ?_
    refine awl_nil (hK4 _ _ ?_)
    clear hK4 K4
    refine aw_seq fun K5 hK5 => ?_
    refine aw_region fun K6 hK6 => ?_
    refine aL z_move ?_
    refine aL z_not ?_
    refine awl_nil (hK6 _ _ ?_)
    clear hK6 K6
    refine aC (fun r2 c2 => ?_) (fun r2 c2 => ?_)
    · refine aw_region fun K7 hK7 => ?_
      refine aL z_assign ?_
      refine awl_nil (hK7 _ _ ?_)
      clear hK7 K7
      refine aw_ret ?_
      refine (hret _ _ _ _ _ rfl (.tmp rfl .nil) rfl ?_ .nil rfl).1
      rfl
    · exact absurd c2 (by decide)
end Go.Proofs.Ytigodfnckjidoaa
