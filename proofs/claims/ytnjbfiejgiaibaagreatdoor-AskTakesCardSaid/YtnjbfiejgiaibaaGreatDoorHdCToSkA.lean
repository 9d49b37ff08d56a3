/- Layer 10: contracts of digits and bytes; the greater of two numbers; maps from texts to texts. No condition. -/
import Derived.Test.YtnjbfiejgiaibaaGreatDoorOctToHdB
import Derived.Test.YtnjbfiejgiaibaaGreatDoorHdM
import Derived.Test.YtnjbfiejgiaibaaGreatDoorBeToBh
import Derived.Test.YtnjbfiejgiaibaaGreatDoorShelf
namespace Go.Proofs.YtnjbfiejgiaibaaGreatDoor
set_option linter.all false
open Go Go.RowKit
theorem con_Decimal {l : List UInt8} (hl : l.length ≤ maxLen) : Con Tryz.prog 83 [.v (.str l)] [] 0 (.ret (.tup [.v (.int .i64 (numV 10 l)), .v (.int .i64 (numE 10 l))])) [] :=
  con_pure fun G w us _ hA => by
    obtain rfl := es1 hA
    refine (decimal_any (S l) w (by rw [S_size]; exact hl)).mono fun e w' ⟨he, hw⟩ => ?_
    subst hw
    exact ⟨_, he, fun m => by rw [S_toList]; exact .tup _ [.int .i64 (numV 10 l), .int .i64 (numE 10 l)] rfl (RepDs.cons (mk_int _ _) (.cons (mk_int _ _) .nil)).2, Below.refl _ _⟩
theorem con_rDecimal {l : List UInt8} (hl : l.length ≤ maxLen) : Con Tryz.prog 62 [.v (.str l)] [] 0 (.ret (.tup [.v (.int .i64 (numV 10 l)), .v (.int .i64 (numE 10 l))])) [] :=
  con_pure fun G w us _ hA => by
    obtain rfl := es1 hA
    refine (refdecimal_any (S l) w (by rw [S_size]; exact hl)).mono fun e w' ⟨he, hw⟩ => ?_
    subst hw
    exact ⟨_, he, fun m => by rw [S_toList]; exact .tup _ [.int .i64 (numV 10 l), .int .i64 (numE 10 l)] rfl (RepDs.cons (mk_int _ _) (.cons (mk_int _ _) .nil)).2, Below.refl _ _⟩
theorem ei1 {G : Gh} {w : World} {m : Mem} {k : IntKind} {n : Int} {us : List Value} (h : RepDs G w m [.v (.int k n)] us) : us = [.int k n] := by
  match us, h.1 with
  | [u], _ => rw [rep_int (h.2 0 _ u rfl rfl)]
theorem ei2 {G : Gh} {w : World} {m : Mem} {k k' : IntKind} {n n' : Int} {us : List Value} (h : RepDs G w m [.v (.int k n), .v (.int k' n')] us) : us = [.int k n, .int k' n'] := by
  match us, h.1 with
  | [u, v], _ => rw [rep_int (h.2 0 _ u rfl rfl), rep_int (h.2 1 _ v rfl rfl)]
theorem con_Digits {n : Int} (hn : n ≤ 9223372036854775807) : Con Tryz.prog 41 [.v (.int .i64 n)] [] 0 (.ret (.v (.str (digs 10 n)))) [] :=
  con_pure fun G w us _ hA => by
    obtain rfl := ei1 hA
    refine (octDigits_all n hn w).mono fun e w' ⟨he, hw⟩ => ?_
    exact ⟨_, he, fun m => mk_str _, hw⟩
theorem esu {G : Gh} {w : World} {m : Mem} {k : IntKind} {n : Int} {l : List UInt8} {us : List Value} (h : RepDs G w m [.v (.str l), .v (.int k n)] us) : us = [.string (S l), .int k n] := by
  match us, h.1 with
  | [u, v], _ => rw [rep_str (h.2 0 _ u rfl rfl), rep_int (h.2 1 _ v rfl rfl)]
theorem con_IndexByte {l : List UInt8} {c : UInt8} : Con Tryz.prog 117 [.v (.str l), .v (.int .u8 (c.toNat : Int))] [] 0 (.ret (.v (.int .i64 (Lib.indexByte l c)))) [] :=
  con_pure fun G w us _ hA => by
    obtain rfl := esu hA
    refine (show Calls Tryz.prog 117 _ w _ from Any.strings_IndexByte Tryz.lays137 (S l) c.toNat w).mono fun e w' ⟨he, hw⟩ => ?_
    subst hw
    exact ⟨_, he, fun m => by rw [← Lib.toList_data, S_toList, show ((c.toNat : Int)).toNat.toUInt8 = c from by simp]; exact mk_int _ _, Below.refl _ _⟩
/-- A map from texts to structs of one text. -/
abbrev Wd := List (List UInt8 × List UInt8)
def wdV (m : Wd) : List (List UInt8 × List V) := m.map fun p => (p.1, [V.str p.2])
def lk (k : List UInt8) : Wd → Option (List UInt8)
  | [] => none
  | x :: r => if x.1 = k then some x.2 else lk k r
theorem lookM_wd (k : List UInt8) : ∀ m : Wd, lookM k (wdV m) = (lk k m).map fun s => [V.str s]
  | [] => rfl
  | x :: r => by
    simp only [wdV, List.map_cons, lookM, lk]
    by_cases h : x.1 = k
    · simp [h]
    · simp only [h, if_false]; exact lookM_wd k r
theorem lookM_get (k : List UInt8) (m : Wd) : ((lookM k (wdV m)).getD [V.str []]).map D.v = [.v (.str ((lk k m).getD []))] := by
  rw [lookM_wd]; cases lk k m <;> rfl
theorem look_wdT (k : List UInt8) (m : Wd) : (if true = true then D.tup [rd true (((lookM k (wdV m)).getD [V.str []]).map .v), .v (.bool (lookM k (wdV m)).isSome)] else rd true (((lookM k (wdV m)).getD [V.str []]).map .v)) = .tup [.agg [.v (.str ((lk k m).getD []))], .v (.bool (lk k m).isSome)] := by
  rw [if_pos rfl, lookM_get, lookM_wd, Option.isSome_map]; rfl
theorem look_wdF (k : List UInt8) (m : Wd) : (if false = true then D.tup [rd true (((lookM k (wdV m)).getD [V.str []]).map .v), .v (.bool (lookM k (wdV m)).isSome)] else rd true (((lookM k (wdV m)).getD [V.str []]).map .v)) = .agg [.v (.str ((lk k m).getD []))] := by
  rw [if_neg (by decide), lookM_get]; rfl
theorem put_wd {k v : List UInt8} : ∀ {m : Wd}, lk k m = none → putM k [V.str v] (wdV m) = wdV (m ++ [(k, v)])
  | [], _ => rfl
  | x :: r, h => by
    unfold lk at h
    split at h
    · cases h
    · rename_i hx
      have e : putM k [V.str v] (wdV (x :: r)) = (x.1, [V.str x.2]) :: putM k [V.str v] (wdV r) := by
        show putM k [V.str v] ((x.1, [V.str x.2]) :: wdV r) = _
        rw [putM, if_neg hx]
      rw [e, put_wd h]; rfl
theorem lk_none {k : List UInt8} : ∀ {m : Wd}, lk k m = none ↔ ∀ p ∈ m, ¬ p.1 = k
  | [] => by simp [lk]
  | x :: r => by
    unfold lk
    by_cases h : x.1 = k
    · simp [h]
    · rw [if_neg h, lk_none]; simp [h]
theorem lk_app (k : List UInt8) : ∀ (a b : Wd), lk k (a ++ b) = (lk k a).or (lk k b)
  | [], b => by simp [lk]
  | x :: a, b => by
    simp only [List.cons_append, lk]
    by_cases h : x.1 = k
    · simp [h]
    · simp only [h, if_false]; exact lk_app k a b
end Go.Proofs.YtnjbfiejgiaibaaGreatDoor

/- Chapter 14: contracts of the library's searches. No condition but on lengths. -/
namespace Go.Proofs.YtnjbfiejgiaibaaGreatDoor
set_option linter.all false
open Go Go.RowKit
set_option maxRecDepth 10000
theorem con_sContains {s r : List UInt8} (hs : s.length < 4294967281) : Con Tryz.prog 52 [.v (.str s), .v (.str r)] [] 0 (.ret (.v (.bool (Lib.contains s r)))) [] :=
  con_pureS fun K G w us hsh hl hA => by
    obtain rfl := es2 hA
    obtain ⟨m, hm⟩ := hsh.2.1
    refine (Any.strings_Contains Tryz.lays144 (S s) (S r) m w (by rw [S_size]; exact hs) hm).mono fun e w' ⟨he, hw⟩ => ?_
    subst hw
    exact ⟨_, he, fun m => mk_bool _, Below.refl _ _⟩
theorem con_sCut {s r : List UInt8} (hs : s.length < 4294967281) : Con Tryz.prog 53 [.v (.str s), .v (.str r)] [] 0 (.ret (.tup [.v (.str (Lib.cut s r).1), .v (.str (Lib.cut s r).2.1), .v (.bool (Lib.cut s r).2.2)])) [] :=
  con_pureS fun K G w us hsh hl hA => by
    obtain rfl := es2 hA
    obtain ⟨m, hm⟩ := hsh.2.1
    refine (Any.strings_Cut Tryz.lays145 (S s) (S r) m w (by rw [S_size]; exact hs) hm).mono fun e w' ⟨he, q, hw⟩ => ?_
    subst hw
    exact ⟨_, he, fun m => .tup _ [_, _, _] rfl (RepDs.cons (mk_str _) (.cons (mk_str _) (.cons (mk_bool _) .nil))).2, (Below.refl _ _).trans ⟨rfl, rfl, rfl, Nat.le_refl _, fun _ _ => rfl⟩⟩
theorem bytesOf_nat (l : List UInt8) : Lib.bytesOf (l.map fun b => (b.toNat : Int)) = l := by
  unfold Lib.bytesOf
  rw [List.map_map]
  conv => rhs; rw [← List.map_id l]
  exact List.map_congr_left fun b _ => by simp
theorem getD_nat {l : List UInt8} {i : Nat} (h : i < l.length) : (l.map fun b => (b.toNat : Int)).getD i 0 = (l[i].toNat : Int) := by
  rw [List.getD_eq_getElem?_getD, List.getElem?_map, List.getElem?_eq_getElem h]; rfl
theorem range_nat (l : List UInt8) : ∀ x ∈ l.map (fun b => (b.toNat : Int)), 0 ≤ x ∧ x < 256 := fun x hx => by
  obtain ⟨b, _, rfl⟩ := List.mem_map.1 hx
  have := b.toNat_lt
  omega
/-- bytes.Index at a separator of two bytes or more. -/
theorem con_bIndex {s r : List UInt8} (hs : s.length < 4294967281) (hr : 2 ≤ r.length) (hr2 : r.length ≤ 1000) : Con Tryz.prog 49 [.v (.sl (bs s)), .v (.sl (bs r))] [] 0 (.ret (.v (.int .i64 (Lib.index s r)))) [] :=
  con_pureS fun K G w us hsh hl hA => by
    obtain ⟨u, u', rfl, h1, h2⟩ := ds2 hA
    obtain ⟨A, c, rfl, k1, k2, k3⟩ := rd_of (rep_sl h1) hl
    obtain ⟨B, d, rfl, q1, q2, q3⟩ := rd_of (rep_sl h2) hl
    obtain ⟨m, hm⟩ := hsh.2.1
    rcases k3 with rfl | ⟨g, o, rfl, _, k4⟩
    · refine (Any.bytes_Index_longer Tryz.lays185 A B 0 c r.length d w hr (by omega) (by omega)).mono fun e w' ⟨he, hw⟩ => ?_
      subst hw
      refine ⟨_, he, fun m => ?_, Below.refl _ _⟩
      have e1 : Lib.index [] r = -1 := by
        unfold Lib.index
        cases r with
        | nil => simp at hr
        | cons a r => rfl
      rw [e1]
      exact mk_int _ _
    · rcases q3 with rfl | ⟨g', o', rfl, _, q4⟩
      · simp at hr
      refine (Any.bytes_Index_at Tryz.lays185 ⟨g, o, none⟩ ⟨g', o', none⟩ s.length c r.length d (s.map fun b => (b.toNat : Int)) (r.map fun b => (b.toNat : Int)) m w (by simp) (by simp) (range_nat s) (range_nat r) (fun i hi => ?_) (fun i hi => ?_) k1 hs (by omega) hm).mono fun e w' ⟨he, q, hw⟩ => ?_
      · rw [addr_add, getD_nat hi]; exact k4 i hi
      · rw [addr_add, getD_nat hi]; exact q4 i hi
      · subst hw
        rw [bytesOf_nat, bytesOf_nat] at he
        exact ⟨_, he, fun m => mk_int _ _, (Below.refl _ _).trans ⟨rfl, rfl, rfl, Nat.le_refl _, fun _ _ => rfl⟩⟩
/-- Split at a separator that is not empty: a row of texts. -/
theorem splitB_S (sep : List UInt8) (k : Nat) (s : List UInt8) : Lib.splitB (S sep) 0 k (S s) = (Lib.splitK sep 0 k s).map S := by
  have h := Lib.splitB_data (S sep) 0 k (S s)
  have e1 : (S sep).data.toList = sep := rfl
  have e2 : (S s).data.toList = s := rfl
  rw [e1, e2] at h
  rw [← h, List.map_map]
  conv => lhs; rw [← List.map_id (Lib.splitB (S sep) 0 k (S s))]
  refine List.map_congr_left fun b _ => ?_
  cases b
  simp [S]
theorem split_count (sep : List UInt8) : ∀ (f : Nat) (s : List UInt8), (Lib.splitK sep 0 (Lib.countFrom sep f s) s).length = Lib.countFrom sep f s + 1
  | 0, s => rfl
  | f + 1, s => by
    unfold Lib.countFrom
    split
    · rfl
    · rename_i h
      rw [Nat.add_comm 1]
      unfold Lib.splitK
      rw [if_neg h, List.length_cons, split_count sep f]
theorem split_len {s r : List UInt8} (hr : 1 ≤ r.length) : (Lib.split s r).length = Lib.count s r + 1 := by
  unfold Lib.split Lib.count
  exact split_count r _ s
theorem con_sSplit {s r : List UInt8} (hs : s.length < 4294967281) (hr : 1 ≤ r.length) : Con Tryz.prog 46 [.v (.str s), .v (.str r)] [] 0 (.ret (.view 0 0 0 (Lib.split s r).length)) [(0, .row 0 1 9 (stV (Lib.split s r)))] := by
  intro K G w us hSK hO hA
  obtain rfl := es2 hA
  obtain ⟨m, hm⟩ := hO.shp.2.1
  have hlen := split_len (s := s) hr
  have hsp : Lib.splitB (S r) 0 (Lib.countB (S s) (S r)) (S s) = (Lib.split s r).map S := splitB_S r _ s
  have hmx : (Lib.split s r).length ≤ maxLen := by
    rw [hlen]
    have := Lib.count_le s r
    unfold maxLen; omega
  refine (Any.strings_Split Tryz.lays146 (by kernel_rfl) (S s) (S r) m w (by rw [S_size]; exact hs) hm (by rw [S_size]; exact hr)).mono fun e w' ⟨he, hw⟩ => ?_
  subst hw he
  rw [hsp, List.map_map]
  have hfl : ∀ l : List (List UInt8), (stV l).flatten = l.map V.str := fun l => by
    unfold stV
    induction l with
    | nil => rfl
    | cons a l ih => rw [List.map_cons, List.flatten_cons, ih]; rfl
  obtain ⟨k1, k2, k3⟩ := hO.newRow (id := 0) (n := 1) rfl (Nat.le_refl _) 9 (stV (Lib.split s r)) ((Lib.split s r).map (Value.string ∘ S)) (by decide) (stV_one _) (by simp) (by rw [stV_len]; exact hmx) (fun k x hx => by
    rw [hfl, List.getElem?_map] at hx
    cases hk : (Lib.split s r)[k]? with
    | none => rw [hk] at hx; cases hx
    | some b =>
      rw [hk] at hx
      injection hx with hx; subst hx
      exact ⟨.string (S b), by rw [List.getElem?_map, hk]; rfl, .str b⟩)
  rw [over_cons] at k1 k3
  rw [stV_len] at k1 k3
  refine ⟨_, k1, ?_⟩
  show RepD _ _ _ (.view 0 0 0 (Lib.split s r).length) (.slice (some ⟨w.heap.size, 0, none⟩) (Lib.countB (S s) (S r) + 1) (Lib.countB (S s) (S r) + 1))
  have e1 : Lib.countB (S s) (S r) + 1 = (Lib.split s r).length := hlen.symm
  rw [e1]
  exact k3
/-- Without a carriage return at the end. -/
def noCR (l : List UInt8) : List UInt8 := if l.getLast? = some 13 then l.take (l.length - 1) else l
theorem noCR_suffix (l : List UInt8) : Lib.hasSuffix l [13] = true ↔ l.getLast? = some 13 := by
  unfold Lib.hasSuffix
  rw [List.isSuffixOf_iff_suffix]
  constructor
  · rintro ⟨t, rfl⟩; simp
  · intro h
    obtain ⟨t, rfl⟩ := List.getLast?_eq_some_iff.1 h
    exact ⟨t, rfl⟩
theorem con_bTrimCR {s : List UInt8} (hs : s.length < 4294967281) : Con Tryz.prog 51 [.v (.sl (bs s)), .v (.sl (bs [13]))] [] 0 (.ret (.v (.sl (bs (noCR s))))) [] :=
  con_pureS fun K G w us hsh hl hA => by
    obtain ⟨u, u', rfl, h1, h2⟩ := ds2 hA
    have hr := rep_sl h1
    obtain ⟨A, c, rfl, k1, k2, k3⟩ := rd_of (rep_sl h1) hl
    obtain ⟨B, d, rfl, q1, q2, q3⟩ := rd_of (rep_sl h2) hl
    refine (Any.bytes_TrimSuffix_all Tryz.lays140 A B s.length c 1 d (s.map fun b => (b.toNat : Int)) [13] w (by simp) rfl k1 (by omega) (fun hp => ?_) (fun hp => ?_)).mono fun e w' ⟨he, hw⟩ => ?_
    · rcases k3 with rfl | ⟨g, o, rfl, _, k4⟩
      · simp at hp
      · exact ⟨g, o, rfl, fun i hi => by rw [getD_nat hi]; exact k4 i hi⟩
    · rcases q3 with h | ⟨g, o, rfl, _, q4⟩
      · cases h
      · exact ⟨g, o, rfl, fun i hi => by
          obtain rfl : i = 0 := by omega
          exact q4 0 (by decide)⟩
    · subst hw
      refine ⟨_, he, fun m => ?_, Below.refl _ _⟩
      refine .v _ _ ?_
      unfold Lib.trimSuffixV
      rcases k3 with rfl | ⟨g, o, rfl, _, k4⟩
      · have e1 : noCR [] = [] := rfl
        rw [e1]
        cases A with
        | none => exact hr
        | some a =>
          obtain ⟨g, o, sp⟩ := a
          cases sp with
          | none =>
            show RepV _ _ _ (Lib.bytesTrimSuffix g o 0 c [] [13])
            exact hr
          | some q => exact hr
      · show RepV _ _ _ (Lib.bytesTrimSuffix g o s.length c _ [13])
        unfold Lib.bytesTrimSuffix
        rw [bytesOf_nat]
        have e2 : Lib.bytesOf [13] = [13] := rfl
        rw [e2]
        unfold noCR
        by_cases hb : s.getLast? = some 13
        · rw [if_pos ((noCR_suffix s).2 hb), if_pos hb]
          obtain ⟨A', cap', e3, h3, h4⟩ := repV_cut hr 0 (s.length - 1) 1 (Nat.zero_le _) (by rw [bs_length]; omega) (bs_one s)
          rw [bs_length] at e3
          injection e3 with e3 e4 e5
          subst e3 e5
          have hpos : 0 < s.length := by cases s with | nil => cases hb | cons a s => simp
          rw [if_neg (by omega)] at h4
          have e6 : cut 0 (s.length - 1) (bs s) = bs (s.take (s.length - 1)) := by simp [cut, bs]
          rw [e6] at h4
          have h5 : RepV G.S w' (V.sl (bs (List.take (s.length - 1) s))) (Value.slice (some { block := g, off := o }) (s.length - 1) c) := by simpa [Addr.add] using h4
          exact h5
        · rw [if_neg (fun h => hb ((noCR_suffix s).1 h)), if_neg hb]
          exact hr
end Go.Proofs.YtnjbfiejgiaibaaGreatDoor
