/- Layer 11: all elements of a name, Strip, Via: the program's. No condition. -/
import Derived.Test.YthflfnehdlpmdaaDoorHpB
namespace Go.Proofs.YthflfnehdlpmdaaDoor
set_option linter.all false
open Go Go.RowKit
set_option maxRecDepth 10000
set_option maxHeartbeats 4000000
theorem splG_len : ∀ (r cur : List UInt8) (q t : Bool), (splG q t r cur).length ≤ r.length + 1
  | [], cur, q, t => by simp [splG]
  | c :: r, cur, q, t => by
    have h := fun cur q t => splG_len r cur q t
    unfold splG
    split
    · have := h (cur ++ [c]) q false; simp only [List.length_cons]; omega
    · split
      · have := h (cur ++ [c]) q true; simp only [List.length_cons]; omega
      · split
        · have := h (cur ++ [c]) (!q) false; simp only [List.length_cons]; omega
        · split
          · have := h [] q false; simp only [List.length_cons]; omega
          · have := h (cur ++ [c]) q false; simp only [List.length_cons]; omega
theorem splG_mem : ∀ (r cur : List UInt8) (q t : Bool), ∀ p ∈ splG q t r cur, p.length ≤ cur.length + r.length
  | [], cur, q, t, p, hp => by rw [splG, List.mem_singleton] at hp; subst hp; simp
  | c :: r, cur, q, t, p, hp => by
    have h := fun cur q t p hp => splG_mem r cur q t p hp
    unfold splG at hp
    have e : ∀ q t, p ∈ splG q t r (cur ++ [c]) → p.length ≤ cur.length + (c :: r).length := fun q t hp => by
      have := h (cur ++ [c]) q t p hp
      simp only [List.length_append, List.length_cons, List.length_nil] at this ⊢; omega
    split at hp
    · exact e _ _ hp
    · split at hp
      · exact e _ _ hp
      · split at hp
        · exact e _ _ hp
        · split at hp
          · rcases List.mem_cons.1 hp with rfl | hp
            · omega
            · have := h [] q false p hp
              simp only [List.length_nil, List.length_cons] at this ⊢; omega
          · exact e _ _ hp
theorem trimM_le (l : List UInt8) : (trimM l).length ≤ l.length := by
  unfold trimM Lib.trimS Lib.trimLeftS Lib.trimRightS
  have h1 := dw_le ([32, 9].contains ·) (l.reverse.dropWhile ([32, 9].contains ·)).reverse
  have h2 := dw_le ([32, 9].contains ·) l.reverse
  rw [List.length_reverse] at h1 h2
  omega
theorem elM_len (v : List UInt8) : (elM v).length ≤ v.length + 1 := by
  unfold elM elF
  have := splG_len v [] false false
  refine Nat.le_trans (List.length_filter_le _ _) ?_
  rw [List.length_map]; exact this
theorem elM_mem {v k : List UInt8} (h : k ∈ elM v) : k.length ≤ v.length := by
  unfold elM elF at h
  obtain ⟨h1, -⟩ := List.mem_filter.1 h
  obtain ⟨p, hp, rfl⟩ := List.mem_map.1 h1
  have h2 := splG_mem v [] false false p hp
  have h3 := trimM_le p
  simp only [List.length_nil] at h2; omega
def vsz (vs : List (List UInt8)) : Nat := (vs.map fun v => v.length + 1).sum
theorem vsz_app (a b : List (List UInt8)) : vsz (a ++ b) = vsz a + vsz b := by simp [vsz]
theorem elfl_len : ∀ vs : List (List UInt8), (vs.flatMap elM).length ≤ vsz vs
  | [] => by simp [vsz]
  | v :: vs => by
    have h1 := elfl_len vs
    have h2 := elM_len v
    rw [List.flatMap_cons, List.length_append]
    have : vsz (v :: vs) = v.length + 1 + vsz vs := by simp [vsz]
    omega
theorem vsz_take (vs : List (List UInt8)) (q : Nat) : vsz (vs.take q) ≤ vsz vs := by
  have : vsz vs = vsz (vs.take q) + vsz (vs.drop q) := by rw [← vsz_app, List.take_append_drop]
  omega
theorem hv_sz : ∀ (l : List Fd) (k : List UInt8), vsz (hvM l k) ≤ szM l
  | [], k => by simp [hvM, vsz, szM]
  | f :: l, k => by
    have h := hv_sz l k
    have e : hvM (f :: l) k = hvM [f] k ++ hvM l k := hvM_app [f] l k
    rw [e, vsz_app, szM_cons]
    have h2 : vsz (hvM [f] k) ≤ f.v.length + 1 := by
      unfold hvM; rw [List.filter_cons]; split <;> simp [vsz]
    omega
def hallM (l : List Fd) (k : List UInt8) : List (List UInt8) := (hvM l k).flatMap elM
theorem hall_len (l : List Fd) (k : List UInt8) : (hallM l k).length ≤ szM l := Nat.le_trans (elfl_len _) (hv_sz l k)
theorem hall_mem {l : List Fd} {k v : List UInt8} (h : v ∈ hallM l k) : v.length ≤ szM l := by
  unfold hallM at h
  obtain ⟨x, hx, hv⟩ := List.mem_flatMap.1 h
  obtain ⟨f, hf, rfl⟩ := hvM_mem hx
  have := szM_mem hf
  have := elM_mem hv
  omega
theorem fsz {l : List Fd} (hs : szM l ≤ 1000000000) : l.length ≤ 1099511627776 ∧ ∀ f ∈ l, f.n.length ≤ 140737488351232 ∧ f.v.length ≤ 1000000000 := by
  have := szM_len l
  exact ⟨by omega, fun f hf => by have := szM_mem hf; omega⟩
theorem con_hAll {l : List Fd} {k : List UInt8} (hs : szM l ≤ 1000000000) (hk : k.length ≤ 140737488351232) : Con Tryd.prog 30 [.v (.sl (fdV l)), .v (.str k)] [] 0 (.ret (.v (.sl (stV (hallM l k))))) [] := by
  obtain ⟨h1, h2⟩ := fsz hs
  obtain ⟨vs, hvs⟩ : ∃ vs, hvM l k = vs := ⟨_, rfl⟩
  have hvz : vsz vs ≤ szM l := by rw [← hvs]; exact hv_sz l k
  have hvl : vs.length ≤ l.length := by rw [← hvs]; exact hvM_le l k
  have hvm : ∀ v ∈ vs, v.length ≤ 1000000000 := fun v hv => by
    rw [← hvs] at hv
    obtain ⟨f, hf, rfl⟩ := hvM_mem hv
    exact (h2 f hf).2
  have hst := stV_len vs
  have e : hallM l k = vs.flatMap elM := by unfold hallM; rw [hvs]
  rw [e]
  have hV := con_Values (l := l) (k := k) h1 (fun f hf => (h2 f hf).1) hk
  rw [hvs] at hV
  refine con_of Tryd.func30 rfl (by show _ ≤ 22; simp) fun X Q hP hnt hnp hret hpan => ?_
  obtain ⟨P0, nt0, w0, K0, S0, np0, pin0, df0⟩ := X
  simp only at hP hnt hnp
  subst hP hnp
  obtain rfl : nt0 = 22 := hnt
  refine aw_region fun K1 hK1 => ?_
  refine aL z_assign ?_
  refine awl_nil (hK1 _ _ ?_)
  clear hK1 K1
  refine aw_region fun K2 hK2 => ?_
  refine aL z_assign ?_
  refine awl_nil (hK2 _ _ ?_)
  clear hK2 K2
  refine aw_seq fun K3 hK3 => ?_
  refine aw_region fun K4 hK4 => ?_
  refine aL z_move ?_
  refine aL z_move ?_
  refine aL (z_call0 (eC (eC .nil)) en_37 (hV)) ?_
  first
    | refine aL (z_lenB Tryd.underlying35) ?_
    | refine aL (z_len Tryd.underlying35) ?_
    | refine aL (z_lenV Tryd.underlying35) ?_
  refine aL z_move ?_
  refine awl_nil (hK4 _ _ ?_)
  clear hK4 K4
  refine aw_block ?_
  refine aw_loop (α := {q : Nat // q ≤ vs.length}) (fun x => ([(5, .view 2 0 0 ((vs.take x.1).flatMap elM).length), (10, .v (.sl (stV vs))), (11, .v (.int .i64 (vs.length : Int))), (12, .v (.int .i64 (x.1 : Int)))], [(2, .row 0 1 9 (stV ((vs.take x.1).flatMap elM)))])) (fun x => vs.length - x.1) ⟨0, Nat.zero_le _⟩ ?_ ?_
  · dsimp only
    rw [hst]
    refine Weak.trans (weak_nil (t := 5) 2 1 9 (by decide) (Nat.zero_le _) rfl rfl) ?_
    exact wK
  · rintro ⟨q, hq⟩ K5 hK5
    dsimp only
    refine aw_region fun K6 hK6 => ?_
    refine aL z_lss ?_
    refine awl_nil (hK6 _ _ ?_)
    clear hK6 K6
    refine aw_seq fun K7 hK7 => ?_
    refine aC (fun r1 c1 => ?_) (fun r1 c1 => ?_)
    · refine aw_skip ?_
      refine hK7 _ _ ?_
      clear hK7
      refine aw_seq fun K8 hK8 => ?_
      refine aw_block ?_
      refine aw_region fun K9 hK9 => ?_
      have hlt : q < vs.length := by omega
      have hi := stV_get hlt
      have hfl1 := elfl_len (vs.take q)
      have hfl2 := vsz_take vs q
      have hfl3 := elM_len vs[q]
      have hfl4 := hvm _ (List.getElem_mem hlt)
      first
        | refine aL (z_indexAddr Tryd.underlying35 sz_9) ?_
        | refine aL (z_indexAddrV Tryd.underlying35 sz_9) ?_
      first
        | refine aL (z_load sz_9) ?_
        | refine aL (z_loadRef sz_9) ?_
        | refine aL (z_loadV sz_9) ?_
      refine aL z_assign ?_
      refine awl_nil (hK9 _ _ ?_)
      clear hK9 K9
      refine aw_region_last ?_
      refine aL z_move ?_
      refine aL z_move ?_
      refine aL (z_call0 (eC .nil) en_38 (con_Elements (v := vs[q]) (hvm _ (List.getElem_mem hlt)))) ?_
      refine aL (z_app Tryd.underlying35 zi_9 (c' := stV ((vs.take q).flatMap elM ++ elM vs[q])) (hc := stV_join rfl) (hs := stV_one _) (hb := by simp only [stV_len]; omega)) ?_
      refine aL z_assign ?_
      refine awl_nil ?_
      refine hK8 _ _ ?_
      clear hK8
      refine aw_region_last ?_
      refine aL z_add ?_
      refine aL z_move ?_
      refine awl_nil ?_
      have e1 : (vs.take (q + 1)).flatMap elM = (vs.take q).flatMap elM ++ elM vs[q] := by rw [List.take_add_one, List.getElem?_eq_getElem hlt, List.flatMap_append]; simp
      refine hK5 _ _ ⟨q + 1, by omega⟩ (by dsimp only; omega) ?_
      dsimp only
      rw [e1]
      exact Weak.trans (weak_rever 2 0 rfl) wK
    · refine aw_exit ?_
      refine hK3 _ _ ?_
      clear hK3
      refine aw_region fun K10 hK10 => ?_
      refine aL z_move ?_
      refine aL z_assign ?_
      refine awl_nil (hK10 _ _ ?_)
      clear hK10 K10
      obtain rfl : q = vs.length := (by omega)
      rw [List.take_length]
      refine aw_weak (weak_all (fr' := [(4, .v (.sl (stV (vs.flatMap elM))))]) (ah' := []) (some (2, 0, stV (vs.flatMap elM))) ⟨rfl, _, _, rfl⟩ .nil (.cons rfl (.view rfl (cutW (by simp))) .nil)) ?_
      refine aw_ret ?_
      refine (hret _ _ _ _ _ rfl (.tmp rfl .nil) rfl ?_ .nil rfl).1
      rfl
end Go.Proofs.YthflfnehdlpmdaaDoor
