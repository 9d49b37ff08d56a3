/- Layer 6: the same frame; what the laws ask ahead. No condition. -/
import Derived.Test.YtigodfnckjidoaaFrW
namespace Go.Proofs.Ytigodfnckjidoaa
set_option linter.all false
open Go Go.RowKit
set_option maxRecDepth 10000
set_option maxHeartbeats 4000000
theorem nil_sl {G : Gh} {w : World} {m : Mem} {u : Value} (h : RepD G w m NIL u) : RepD G w m (.v (.sl [])) u := by
  obtain rfl := rep_nil h
  exact .v _ _ (.nil none 0 (by decide))
theorem con_args {P : Program} {g : FuncId} {args args' : List D} {post : AH} {o : Out} (h : Con P g args' [] 0 o post) (hw : ∀ (G : Gh) (w : World) (us : List Value), RepDs G w (look []) args us → RepDs G w (look []) args' us) : Con P g args [] 0 o post :=
  fun K G w us hSK hO hA => h K G w us hSK hO (hw G w us hA)
theorem csX_nil {G : Gh} {w : World} {m : Mem} {f : Fr} {u : Value} (hs : f.sets = []) (h : RepD G w m (.agg (f.csX NIL)) u) : RepD G w m (.agg f.cs) u := by
  cases h with
  | agg _ us hlen h1 h =>
    refine .agg _ us (by rw [hlen]; rfl) h1 fun i d u hd hu => ?_
    by_cases hi : i = 5
    · subst hi
      have e : f.cs[5]? = some (.v (.sl [])) := by simp [Fr.cs, hs, setV]
      rw [e] at hd; injection hd with hd; subst hd
      exact nil_sl (h 5 NIL u rfl hu)
    · refine h i d u ?_ hu
      rw [← hd]
      match i, hi with
      | 0, _ => rfl
      | 1, _ => rfl
      | 2, _ => rfl
      | 3, _ => rfl
      | 4, _ => rfl
      | 6, _ => rfl
      | 7, _ => rfl
      | 8, _ => rfl
      | 9, _ => rfl
      | 10, _ => rfl
      | 11, _ => rfl
      | k + 12, _ => rfl
def sameB (f g : Fr) : Bool :=
  decide (f.sets = g.sets) && (f.ty == g.ty && f.fl == g.fl && f.st == g.st && f.data == g.data && f.pad == g.pad && f.code == g.code && f.last == g.last && f.inc == g.inc && f.dep == g.dep && f.wt == g.wt && f.sole == g.sole)
theorem sameB_iff (f g : Fr) : sameB f g = true ↔ f = g := by
  constructor
  · intro h
    simp only [sameB, Bool.and_eq_true, decide_eq_true_eq, beq_iff_eq] at h
    obtain ⟨h0, ⟨⟨⟨⟨⟨⟨⟨⟨⟨⟨h1, h2⟩, h3⟩, h4⟩, h5⟩, h6⟩, h7⟩, h8⟩, h9⟩, h10⟩, h11⟩⟩ := h
    cases f; cases g; simp_all
  · rintro rfl; simp [sameB]
theorem con_Same {f g : Fr} (hl : f.sets.length ≤ 100000000) : Con Try.prog 18 [.agg f.cs, .agg g.cs] [] 0 (.ret (.v (.bool (sameB f g)))) [] := by
  have key : f.sets ≠ g.sets → sameB f g = false := fun h => by simp [sameB, h]
  have hz : (setV f.sets).length = f.sets.length := by simp [setV]
  have hz' : (setV g.sets).length = g.sets.length := by simp [setV]
  have hs2 : ∀ (l : List (Int × Int)), ∀ e ∈ setV l, e.length = 2 := by intro l e he; obtain ⟨s, _, rfl⟩ := List.mem_map.1 he; rfl
  refine con_of Try.func18 rfl (by show _ ≤ 106; simp) fun X Q hP hnt hnp hret hpan => ?_
  obtain ⟨P0, nt0, w0, K0, S0, np0, pin0, df0⟩ := X
  simp only at hP hnt hnp
  subst hP hnp
  obtain rfl : nt0 = 106 := hnt
  refine aw_region fun K1 hK1 => ?_
  refine aL (z_box 0) ?_
  refine aL (z_box 1) ?_
  refine aL z_assign ?_
  refine awl_nil (hK1 _ _ ?_)
  clear hK1 K1
  refine aw_seq fun K2 hK2 => ?_
  refine aw_region fun K3 hK3 => ?_
  first
    | refine aL (z_fieldAddr fo_40_5) ?_
    | refine aL (z_fieldRef fo_40_5) ?_
    | refine aL (z_fieldV fo_40_5) ?_
  first
    | refine aL (z_load sz_38) ?_
    | refine aL (z_loadRef sz_38) ?_
    | refine aL (z_loadV sz_38) ?_
  first
    | refine aL (z_lenB Try.underlying38) ?_
    | refine aL (z_len Try.underlying38) ?_
    | refine aL (z_lenV Try.underlying38) ?_
  first
    | refine aL (z_fieldAddr fo_40_5) ?_
    | refine aL (z_fieldRef fo_40_5) ?_
    | refine aL (z_fieldV fo_40_5) ?_
  first
    | refine aL (z_load sz_38) ?_
    | refine aL (z_loadRef sz_38) ?_
    | refine aL (z_loadV sz_38) ?_
  first
    | refine aL (z_lenB Try.underlying38) ?_
    | refine aL (z_len Try.underlying38) ?_
    | refine aL (z_lenV Try.underlying38) ?_
  refine aL z_neq ?_
  refine awl_nil (hK3 _ _ ?_)
  clear hK3 K3
  rw [hz, hz']
  refine aC (fun r1 c1 => ?_) (fun r1 c1 => ?_)
  · refine aw_region fun K4 hK4 => ?_
    refine aL z_assign ?_
    refine awl_nil (hK4 _ _ ?_)
    clear hK4 K4
    refine aw_ret ?_
    refine (hret _ _ _ _ _ rfl (.tmp rfl .nil) rfl ?_ .nil rfl).1
    first
      | (have hne : f.sets ≠ g.sets := (fun h => c1 (by rw [h])); rw [key hne]; rfl)
      | (have hne : f.sets ≠ g.sets := (fun h => by simp [h, eqXs, eqX] at c3); rw [key hne]; rfl)
      | (have he : f.sets = g.sets := (by rw [List.take_of_length_le (by omega), List.take_of_length_le (by omega)] at hq; exact hq); simp [sameB, he, retD, Bool.and_assoc])
  · refine aw_skip ?_
    refine hK2 _ _ ?_
    clear hK2
    refine aw_seq fun K5 hK5 => ?_
    refine aw_region fun K6 hK6 => ?_
    refine aL z_assign ?_
    refine awl_nil (hK6 _ _ ?_)
    clear hK6 K6
    refine aw_block ?_
    refine aw_loop (α := {k : Nat // k ≤ f.sets.length ∧ f.sets.take k = g.sets.take k}) (fun x => ([(2, .ptr 0 0), (3, .ptr 1 0), (5, .v (.int .i64 (x.1 : Int)))], [(0, .box f.cs), (1, .box g.cs)])) (fun x => f.sets.length - x.1) ⟨0, by omega, rfl⟩ ?_ ?_
    · dsimp only
      exact wK
    · rintro ⟨k, hk, hq⟩ K7 hK7
      dsimp only
      refine aw_seq fun K8 hK8 => ?_
      refine aw_region fun K9 hK9 => ?_
      refine aL z_move ?_
      first
        | refine aL (z_fieldAddr fo_40_5) ?_
        | refine aL (z_fieldRef fo_40_5) ?_
        | refine aL (z_fieldV fo_40_5) ?_
      first
        | refine aL (z_load sz_38) ?_
        | refine aL (z_loadRef sz_38) ?_
        | refine aL (z_loadV sz_38) ?_
      first
        | refine aL (z_lenB Try.underlying38) ?_
        | refine aL (z_len Try.underlying38) ?_
        | refine aL (z_lenV Try.underlying38) ?_
      refine aL z_lss ?_
      refine awl_nil (hK9 _ _ ?_)
      clear hK9 K9
      refine aC (fun r2 c2 => ?_) (fun r2 c2 => ?_)
      · refine aw_skip ?_
        refine hK8 _ _ ?_
        clear hK8
        refine aw_seq fun K10 hK10 => ?_
        refine aw_block ?_
        refine aw_regionD mx_all (by kernel_rfl) fun K11 hK11 => ?_
        have hlt : k < f.sets.length := by omega
        have hlt' : k < g.sets.length := by omega
        have hi : (setV f.sets)[k]? = some [V.int .i64 (f.sets[k]).1, V.int .i64 (f.sets[k]).2] := by simp [setV, hlt]
        have hi' : (setV g.sets)[k]? = some [V.int .i64 (g.sets[k]).1, V.int .i64 (g.sets[k]).2] := by simp [setV, hlt']
        first
          | refine aD (z_fieldAddr fo_40_5) ?_
          | refine aD (z_fieldRef fo_40_5) ?_
          | refine aD (z_fieldV fo_40_5) ?_
        first
          | refine aD (z_load sz_38) ?_
          | refine aD (z_loadRef sz_38) ?_
          | refine aD (z_loadV sz_38) ?_
        refine aD z_move ?_
        first
          | refine aD (z_indexAddr Try.underlying38 sz_70) ?_
          | refine aD (z_indexAddrV Try.underlying38 sz_70) ?_
        first
          | refine aD (z_load sz_70) ?_
          | refine aD (z_loadRef sz_70) ?_
          | refine aD (z_loadV sz_70) ?_
        first
          | refine aD (z_fieldAddr fo_40_5) ?_
          | refine aD (z_fieldRef fo_40_5) ?_
          | refine aD (z_fieldV fo_40_5) ?_
        first
          | refine aD (z_load sz_38) ?_
          | refine aD (z_loadRef sz_38) ?_
          | refine aD (z_loadV sz_38) ?_
        refine aD z_move ?_
        first
          | refine aD (z_indexAddr Try.underlying38 sz_70) ?_
          | refine aD (z_indexAddrV Try.underlying38 sz_70) ?_
        first
          | refine aD (z_load sz_70) ?_
          | refine aD (z_loadRef sz_70) ?_
          | refine aD (z_loadV sz_70) ?_
        refine aD (z_neqA sk_70) ?_
        refine awd_nil (by kernel_rfl) (hK11 _ _ ?_)
        clear hK11 K11
        refine aC (fun r3 c3 => ?_) (fun r3 c3 => ?_)
        · refine aw_region fun K12 hK12 => ?_
          refine aL z_assign ?_
          refine awl_nil (hK12 _ _ ?_)
          clear hK12 K12
          refine aw_ret ?_
          refine (hret _ _ _ _ _ rfl (.tmp rfl .nil) rfl ?_ .nil rfl).1
          first
            | (have hne : f.sets ≠ g.sets := (fun h => c1 (by rw [h])); rw [key hne]; rfl)
            | (have hne : f.sets ≠ g.sets := (fun h => by simp [h, eqXs, eqX] at c3); rw [key hne]; rfl)
            | (have he : f.sets = g.sets := (by rw [List.take_of_length_le (by omega), List.take_of_length_le (by omega)] at hq; exact hq); simp [sameB, he, retD, Bool.and_assoc])
        · refine aw_skip ?_
          refine hK10 _ _ ?_
          clear hK10
          refine aw_region_last ?_
          refine aL z_move ?_
          refine aL z_add ?_
          refine aL z_assign ?_
          refine awl_nil ?_
          have e : f.sets[k] = g.sets[k] := by
            simp [eqXs, eqX] at c3
            exact Prod.ext c3.1 c3.2
          refine hK7 _ _ ⟨k + 1, by omega, by rw [List.take_add_one, List.take_add_one, hq, List.getElem?_eq_getElem hlt, List.getElem?_eq_getElem hlt', e]⟩ (by dsimp only; omega) ?_
          exact wK
      · refine aw_exit ?_
        refine hK5 _ _ ?_
        clear hK5
        refine aw_region fun K13 hK13 => ?_
        first
          | refine aL (z_fieldAddr fo_40_0) ?_
          | refine aL (z_fieldRef fo_40_0) ?_
          | refine aL (z_fieldV fo_40_0) ?_
        first
          | refine aL (z_load sz_3) ?_
          | refine aL (z_loadRef sz_3) ?_
          | refine aL (z_loadV sz_3) ?_
        first
          | refine aL (z_fieldAddr fo_40_0) ?_
          | refine aL (z_fieldRef fo_40_0) ?_
          | refine aL (z_fieldV fo_40_0) ?_
        first
          | refine aL (z_load sz_3) ?_
          | refine aL (z_loadRef sz_3) ?_
          | refine aL (z_loadV sz_3) ?_
        refine aL z_eql ?_
        refine aL z_move ?_
        first
          | refine gL rfl rfl (ev_tmp rfl) (fun hg => z_fieldAddr fo_40_1) ?_
          | refine gL rfl rfl (ev_tmp rfl) (fun hg => z_fieldRef fo_40_1) ?_
          | refine gL rfl rfl (ev_tmp rfl) (fun hg => z_fieldV fo_40_1) ?_
          | refine hL rfl rfl (ev_tmp rfl) (fun hg => z_fieldAddr fo_40_1) ?_
          | refine hL rfl rfl (ev_tmp rfl) (fun hg => z_fieldRef fo_40_1) ?_
          | refine hL rfl rfl (ev_tmp rfl) (fun hg => z_fieldV fo_40_1) ?_
        first
          | refine gL rfl rfl (ev_tmp rfl) (fun hg => z_load sz_3) ?_
          | refine gL rfl rfl (ev_tmp rfl) (fun hg => z_loadRef sz_3) ?_
          | refine gL rfl rfl (ev_tmp rfl) (fun hg => z_loadV sz_3) ?_
          | refine hL rfl rfl (ev_tmp rfl) (fun hg => z_load sz_3) ?_
          | refine hL rfl rfl (ev_tmp rfl) (fun hg => z_loadRef sz_3) ?_
          | refine hL rfl rfl (ev_tmp rfl) (fun hg => z_loadV sz_3) ?_
        first
          | refine gL rfl rfl (ev_tmp rfl) (fun hg => z_fieldAddr fo_40_1) ?_
          | refine gL rfl rfl (ev_tmp rfl) (fun hg => z_fieldRef fo_40_1) ?_
          | refine gL rfl rfl (ev_tmp rfl) (fun hg => z_fieldV fo_40_1) ?_
          | refine hL rfl rfl (ev_tmp rfl) (fun hg => z_fieldAddr fo_40_1) ?_
          | refine hL rfl rfl (ev_tmp rfl) (fun hg => z_fieldRef fo_40_1) ?_
          | refine hL rfl rfl (ev_tmp rfl) (fun hg => z_fieldV fo_40_1) ?_
        first
          | refine gL rfl rfl (ev_tmp rfl) (fun hg => z_load sz_3) ?_
          | refine gL rfl rfl (ev_tmp rfl) (fun hg => z_loadRef sz_3) ?_
          | refine gL rfl rfl (ev_tmp rfl) (fun hg => z_loadV sz_3) ?_
          | refine hL rfl rfl (ev_tmp rfl) (fun hg => z_load sz_3) ?_
          | refine hL rfl rfl (ev_tmp rfl) (fun hg => z_loadRef sz_3) ?_
          | refine hL rfl rfl (ev_tmp rfl) (fun hg => z_loadV sz_3) ?_
        first
          | refine gL rfl rfl (ev_tmp rfl) (fun hg => z_eql) ?_
          | refine hL rfl rfl (ev_tmp rfl) (fun hg => z_eql) ?_
        refine aL z_and ?_
        refine aL z_move ?_
        first
          | refine gL rfl rfl (ev_tmp rfl) (fun hg => z_fieldAddr fo_40_2) ?_
          | refine gL rfl rfl (ev_tmp rfl) (fun hg => z_fieldRef fo_40_2) ?_
          | refine gL rfl rfl (ev_tmp rfl) (fun hg => z_fieldV fo_40_2) ?_
          | refine hL rfl rfl (ev_tmp rfl) (fun hg => z_fieldAddr fo_40_2) ?_
          | refine hL rfl rfl (ev_tmp rfl) (fun hg => z_fieldRef fo_40_2) ?_
          | refine hL rfl rfl (ev_tmp rfl) (fun hg => z_fieldV fo_40_2) ?_
        first
          | refine gL rfl rfl (ev_tmp rfl) (fun hg => z_load sz_3) ?_
          | refine gL rfl rfl (ev_tmp rfl) (fun hg => z_loadRef sz_3) ?_
          | refine gL rfl rfl (ev_tmp rfl) (fun hg => z_loadV sz_3) ?_
          | refine hL rfl rfl (ev_tmp rfl) (fun hg => z_load sz_3) ?_
          | refine hL rfl rfl (ev_tmp rfl) (fun hg => z_loadRef sz_3) ?_
          | refine hL rfl rfl (ev_tmp rfl) (fun hg => z_loadV sz_3) ?_
        first
          | refine gL rfl rfl (ev_tmp rfl) (fun hg => z_fieldAddr fo_40_2) ?_
          | refine gL rfl rfl (ev_tmp rfl) (fun hg => z_fieldRef fo_40_2) ?_
          | refine gL rfl rfl (ev_tmp rfl) (fun hg => z_fieldV fo_40_2) ?_
          | refine hL rfl rfl (ev_tmp rfl) (fun hg => z_fieldAddr fo_40_2) ?_
          | refine hL rfl rfl (ev_tmp rfl) (fun hg => z_fieldRef fo_40_2) ?_
          | refine hL rfl rfl (ev_tmp rfl) (fun hg => z_fieldV fo_40_2) ?_
        first
          | refine gL rfl rfl (ev_tmp rfl) (fun hg => z_load sz_3) ?_
          | refine gL rfl rfl (ev_tmp rfl) (fun hg => z_loadRef sz_3) ?_
          | refine gL rfl rfl (ev_tmp rfl) (fun hg => z_loadV sz_3) ?_
          | refine hL rfl rfl (ev_tmp rfl) (fun hg => z_load sz_3) ?_
          | refine hL rfl rfl (ev_tmp rfl) (fun hg => z_loadRef sz_3) ?_
          | refine hL rfl rfl (ev_tmp rfl) (fun hg => z_loadV sz_3) ?_
        first
          | refine gL rfl rfl (ev_tmp rfl) (fun hg => z_eql) ?_
          | refine hL rfl rfl (ev_tmp rfl) (fun hg => z_eql) ?_
        refine aL z_and ?_
        refine aL z_move ?_
        first
          | refine gL rfl rfl (ev_tmp rfl) (fun hg => z_fieldAddr fo_40_3) ?_
          | refine gL rfl rfl (ev_tmp rfl) (fun hg => z_fieldRef fo_40_3) ?_
          | refine gL rfl rfl (ev_tmp rfl) (fun hg => z_fieldV fo_40_3) ?_
          | refine hL rfl rfl (ev_tmp rfl) (fun hg => z_fieldAddr fo_40_3) ?_
          | refine hL rfl rfl (ev_tmp rfl) (fun hg => z_fieldRef fo_40_3) ?_
          | refine hL rfl rfl (ev_tmp rfl) (fun hg => z_fieldV fo_40_3) ?_
        first
          | refine gL rfl rfl (ev_tmp rfl) (fun hg => z_load sz_9) ?_
          | refine gL rfl rfl (ev_tmp rfl) (fun hg => z_loadRef sz_9) ?_
          | refine gL rfl rfl (ev_tmp rfl) (fun hg => z_loadV sz_9) ?_
          | refine hL rfl rfl (ev_tmp rfl) (fun hg => z_load sz_9) ?_
          | refine hL rfl rfl (ev_tmp rfl) (fun hg => z_loadRef sz_9) ?_
          | refine hL rfl rfl (ev_tmp rfl) (fun hg => z_loadV sz_9) ?_
        first
          | refine gL rfl rfl (ev_tmp rfl) (fun hg => z_fieldAddr fo_40_3) ?_
          | refine gL rfl rfl (ev_tmp rfl) (fun hg => z_fieldRef fo_40_3) ?_
          | refine gL rfl rfl (ev_tmp rfl) (fun hg => z_fieldV fo_40_3) ?_
          | refine hL rfl rfl (ev_tmp rfl) (fun hg => z_fieldAddr fo_40_3) ?_
          | refine hL rfl rfl (ev_tmp rfl) (fun hg => z_fieldRef fo_40_3) ?_
          | refine hL rfl rfl (ev_tmp rfl) (fun hg => z_fieldV fo_40_3) ?_
        first
          | refine gL rfl rfl (ev_tmp rfl) (fun hg => z_load sz_9) ?_
          | refine gL rfl rfl (ev_tmp rfl) (fun hg => z_loadRef sz_9) ?_
          | refine gL rfl rfl (ev_tmp rfl) (fun hg => z_loadV sz_9) ?_
          | refine hL rfl rfl (ev_tmp rfl) (fun hg => z_load sz_9) ?_
          | refine hL rfl rfl (ev_tmp rfl) (fun hg => z_loadRef sz_9) ?_
          | refine hL rfl rfl (ev_tmp rfl) (fun hg => z_loadV sz_9) ?_
        first
          | refine gL rfl rfl (ev_tmp rfl) (fun hg => z_eqlS) ?_
          | refine hL rfl rfl (ev_tmp rfl) (fun hg => z_eqlS) ?_
        refine aL z_and ?_
        refine aL z_move ?_
        first
          | refine gL rfl rfl (ev_tmp rfl) (fun hg => z_fieldAddr fo_40_4) ?_
          | refine gL rfl rfl (ev_tmp rfl) (fun hg => z_fieldRef fo_40_4) ?_
          | refine gL rfl rfl (ev_tmp rfl) (fun hg => z_fieldV fo_40_4) ?_
          | refine hL rfl rfl (ev_tmp rfl) (fun hg => z_fieldAddr fo_40_4) ?_
          | refine hL rfl rfl (ev_tmp rfl) (fun hg => z_fieldRef fo_40_4) ?_
          | refine hL rfl rfl (ev_tmp rfl) (fun hg => z_fieldV fo_40_4) ?_
        first
          | refine gL rfl rfl (ev_tmp rfl) (fun hg => z_load sz_3) ?_
          | refine gL rfl rfl (ev_tmp rfl) (fun hg => z_loadRef sz_3) ?_
          | refine gL rfl rfl (ev_tmp rfl) (fun hg => z_loadV sz_3) ?_
          | refine hL rfl rfl (ev_tmp rfl) (fun hg => z_load sz_3) ?_
          | refine hL rfl rfl (ev_tmp rfl) (fun hg => z_loadRef sz_3) ?_
          | refine hL rfl rfl (ev_tmp rfl) (fun hg => z_loadV sz_3) ?_
        first
          | refine gL rfl rfl (ev_tmp rfl) (fun hg => z_fieldAddr fo_40_4) ?_
          | refine gL rfl rfl (ev_tmp rfl) (fun hg => z_fieldRef fo_40_4) ?_
          | refine gL rfl rfl (ev_tmp rfl) (fun hg => z_fieldV fo_40_4) ?_
          | refine hL rfl rfl (ev_tmp rfl) (fun hg => z_fieldAddr fo_40_4) ?_
          | refine hL rfl rfl (ev_tmp rfl) (fun hg => z_fieldRef fo_40_4) ?_
          | refine hL rfl rfl (ev_tmp rfl) (fun hg => z_fieldV fo_40_4) ?_
        first
          | refine gL rfl rfl (ev_tmp rfl) (fun hg => z_load sz_3) ?_
          | refine gL rfl rfl (ev_tmp rfl) (fun hg => z_loadRef sz_3) ?_
          | refine gL rfl rfl (ev_tmp rfl) (fun hg => z_loadV sz_3) ?_
          | refine hL rfl rfl (ev_tmp rfl) (fun hg => z_load sz_3) ?_
          | refine hL rfl rfl (ev_tmp rfl) (fun hg => z_loadRef sz_3) ?_
          | refine hL rfl rfl (ev_tmp rfl) (fun hg => z_loadV sz_3) ?_
        first
          | refine gL rfl rfl (ev_tmp rfl) (fun hg => z_eql) ?_
          | refine hL rfl rfl (ev_tmp rfl) (fun hg => z_eql) ?_
        refine aL z_and ?_
        refine aL z_move ?_
        first
          | refine gL rfl rfl (ev_tmp rfl) (fun hg => z_fieldAddr fo_40_6) ?_
          | refine gL rfl rfl (ev_tmp rfl) (fun hg => z_fieldRef fo_40_6) ?_
          | refine gL rfl rfl (ev_tmp rfl) (fun hg => z_fieldV fo_40_6) ?_
          | refine hL rfl rfl (ev_tmp rfl) (fun hg => z_fieldAddr fo_40_6) ?_
          | refine hL rfl rfl (ev_tmp rfl) (fun hg => z_fieldRef fo_40_6) ?_
          | refine hL rfl rfl (ev_tmp rfl) (fun hg => z_fieldV fo_40_6) ?_
        first
          | refine gL rfl rfl (ev_tmp rfl) (fun hg => z_load sz_2) ?_
          | refine gL rfl rfl (ev_tmp rfl) (fun hg => z_loadRef sz_2) ?_
          | refine gL rfl rfl (ev_tmp rfl) (fun hg => z_loadV sz_2) ?_
          | refine hL rfl rfl (ev_tmp rfl) (fun hg => z_load sz_2) ?_
          | refine hL rfl rfl (ev_tmp rfl) (fun hg => z_loadRef sz_2) ?_
          | refine hL rfl rfl (ev_tmp rfl) (fun hg => z_loadV sz_2) ?_
        first
          | refine gL rfl rfl (ev_tmp rfl) (fun hg => z_fieldAddr fo_40_6) ?_
          | refine gL rfl rfl (ev_tmp rfl) (fun hg => z_fieldRef fo_40_6) ?_
          | refine gL rfl rfl (ev_tmp rfl) (fun hg => z_fieldV fo_40_6) ?_
          | refine hL rfl rfl (ev_tmp rfl) (fun hg => z_fieldAddr fo_40_6) ?_
          | refine hL rfl rfl (ev_tmp rfl) (fun hg => z_fieldRef fo_40_6) ?_
          | refine hL rfl rfl (ev_tmp rfl) (fun hg => z_fieldV fo_40_6) ?_
        first
          | refine gL rfl rfl (ev_tmp rfl) (fun hg => z_load sz_2) ?_
          | refine gL rfl rfl (ev_tmp rfl) (fun hg => z_loadRef sz_2) ?_
          | refine gL rfl rfl (ev_tmp rfl) (fun hg => z_loadV sz_2) ?_
          | refine hL rfl rfl (ev_tmp rfl) (fun hg => z_load sz_2) ?_
          | refine hL rfl rfl (ev_tmp rfl) (fun hg => z_loadRef sz_2) ?_
          | refine hL rfl rfl (ev_tmp rfl) (fun hg => z_loadV sz_2) ?_
        first
          | refine gL rfl rfl (ev_tmp rfl) (fun hg => z_eql) ?_
          | refine hL rfl rfl (ev_tmp rfl) (fun hg => z_eql) ?_
        refine aL z_and ?_
        refine aL z_move ?_
        first
          | refine gL rfl rfl (ev_tmp rfl) (fun hg => z_fieldAddr fo_40_7) ?_
          | refine gL rfl rfl (ev_tmp rfl) (fun hg => z_fieldRef fo_40_7) ?_
          | refine gL rfl rfl (ev_tmp rfl) (fun hg => z_fieldV fo_40_7) ?_
          | refine hL rfl rfl (ev_tmp rfl) (fun hg => z_fieldAddr fo_40_7) ?_
          | refine hL rfl rfl (ev_tmp rfl) (fun hg => z_fieldRef fo_40_7) ?_
          | refine hL rfl rfl (ev_tmp rfl) (fun hg => z_fieldV fo_40_7) ?_
        first
          | refine gL rfl rfl (ev_tmp rfl) (fun hg => z_load sz_3) ?_
          | refine gL rfl rfl (ev_tmp rfl) (fun hg => z_loadRef sz_3) ?_
          | refine gL rfl rfl (ev_tmp rfl) (fun hg => z_loadV sz_3) ?_
          | refine hL rfl rfl (ev_tmp rfl) (fun hg => z_load sz_3) ?_
          | refine hL rfl rfl (ev_tmp rfl) (fun hg => z_loadRef sz_3) ?_
          | refine hL rfl rfl (ev_tmp rfl) (fun hg => z_loadV sz_3) ?_
        first
          | refine gL rfl rfl (ev_tmp rfl) (fun hg => z_fieldAddr fo_40_7) ?_
          | refine gL rfl rfl (ev_tmp rfl) (fun hg => z_fieldRef fo_40_7) ?_
          | refine gL rfl rfl (ev_tmp rfl) (fun hg => z_fieldV fo_40_7) ?_
          | refine hL rfl rfl (ev_tmp rfl) (fun hg => z_fieldAddr fo_40_7) ?_
          | refine hL rfl rfl (ev_tmp rfl) (fun hg => z_fieldRef fo_40_7) ?_
          | refine hL rfl rfl (ev_tmp rfl) (fun hg => z_fieldV fo_40_7) ?_
        first
          | refine gL rfl rfl (ev_tmp rfl) (fun hg => z_load sz_3) ?_
          | refine gL rfl rfl (ev_tmp rfl) (fun hg => z_loadRef sz_3) ?_
          | refine gL rfl rfl (ev_tmp rfl) (fun hg => z_loadV sz_3) ?_
          | refine hL rfl rfl (ev_tmp rfl) (fun hg => z_load sz_3) ?_
          | refine hL rfl rfl (ev_tmp rfl) (fun hg => z_loadRef sz_3) ?_
          | refine hL rfl rfl (ev_tmp rfl) (fun hg => z_loadV sz_3) ?_
        first
          | refine gL rfl rfl (ev_tmp rfl) (fun hg => z_eql) ?_
          | refine hL rfl rfl (ev_tmp rfl) (fun hg => z_eql) ?_
        refine aL z_and ?_
        refine aL z_move ?_
        first
          | refine gL rfl rfl (ev_tmp rfl) (fun hg => z_fieldAddr fo_40_8) ?_
          | refine gL rfl rfl (ev_tmp rfl) (fun hg => z_fieldRef fo_40_8) ?_
          | refine gL rfl rfl (ev_tmp rfl) (fun hg => z_fieldV fo_40_8) ?_
          | refine hL rfl rfl (ev_tmp rfl) (fun hg => z_fieldAddr fo_40_8) ?_
          | refine hL rfl rfl (ev_tmp rfl) (fun hg => z_fieldRef fo_40_8) ?_
          | refine hL rfl rfl (ev_tmp rfl) (fun hg => z_fieldV fo_40_8) ?_
        first
          | refine gL rfl rfl (ev_tmp rfl) (fun hg => z_load sz_2) ?_
          | refine gL rfl rfl (ev_tmp rfl) (fun hg => z_loadRef sz_2) ?_
          | refine gL rfl rfl (ev_tmp rfl) (fun hg => z_loadV sz_2) ?_
          | refine hL rfl rfl (ev_tmp rfl) (fun hg => z_load sz_2) ?_
          | refine hL rfl rfl (ev_tmp rfl) (fun hg => z_loadRef sz_2) ?_
          | refine hL rfl rfl (ev_tmp rfl) (fun hg => z_loadV sz_2) ?_
        first
          | refine gL rfl rfl (ev_tmp rfl) (fun hg => z_fieldAddr fo_40_8) ?_
          | refine gL rfl rfl (ev_tmp rfl) (fun hg => z_fieldRef fo_40_8) ?_
          | refine gL rfl rfl (ev_tmp rfl) (fun hg => z_fieldV fo_40_8) ?_
          | refine hL rfl rfl (ev_tmp rfl) (fun hg => z_fieldAddr fo_40_8) ?_
          | refine hL rfl rfl (ev_tmp rfl) (fun hg => z_fieldRef fo_40_8) ?_
          | refine hL rfl rfl (ev_tmp rfl) (fun hg => z_fieldV fo_40_8) ?_
        first
          | refine gL rfl rfl (ev_tmp rfl) (fun hg => z_load sz_2) ?_
          | refine gL rfl rfl (ev_tmp rfl) (fun hg => z_loadRef sz_2) ?_
          | refine gL rfl rfl (ev_tmp rfl) (fun hg => z_loadV sz_2) ?_
          | refine hL rfl rfl (ev_tmp rfl) (fun hg => z_load sz_2) ?_
          | refine hL rfl rfl (ev_tmp rfl) (fun hg => z_loadRef sz_2) ?_
          | refine hL rfl rfl (ev_tmp rfl) (fun hg => z_loadV sz_2) ?_
        first
          | refine gL rfl rfl (ev_tmp rfl) (fun hg => z_eql) ?_
          | refine hL rfl rfl (ev_tmp rfl) (fun hg => z_eql) ?_
        refine aL z_and ?_
        refine aL z_move ?_
        first
          | refine gL rfl rfl (ev_tmp rfl) (fun hg => z_fieldAddr fo_40_9) ?_
          | refine gL rfl rfl (ev_tmp rfl) (fun hg => z_fieldRef fo_40_9) ?_
          | refine gL rfl rfl (ev_tmp rfl) (fun hg => z_fieldV fo_40_9) ?_
          | refine hL rfl rfl (ev_tmp rfl) (fun hg => z_fieldAddr fo_40_9) ?_
          | refine hL rfl rfl (ev_tmp rfl) (fun hg => z_fieldRef fo_40_9) ?_
          | refine hL rfl rfl (ev_tmp rfl) (fun hg => z_fieldV fo_40_9) ?_
        first
          | refine gL rfl rfl (ev_tmp rfl) (fun hg => z_load sz_3) ?_
          | refine gL rfl rfl (ev_tmp rfl) (fun hg => z_loadRef sz_3) ?_
          | refine gL rfl rfl (ev_tmp rfl) (fun hg => z_loadV sz_3) ?_
          | refine hL rfl rfl (ev_tmp rfl) (fun hg => z_load sz_3) ?_
          | refine hL rfl rfl (ev_tmp rfl) (fun hg => z_loadRef sz_3) ?_
          | refine hL rfl rfl (ev_tmp rfl) (fun hg => z_loadV sz_3) ?_
        first
          | refine gL rfl rfl (ev_tmp rfl) (fun hg => z_fieldAddr fo_40_9) ?_
          | refine gL rfl rfl (ev_tmp rfl) (fun hg => z_fieldRef fo_40_9) ?_
          | refine gL rfl rfl (ev_tmp rfl) (fun hg => z_fieldV fo_40_9) ?_
          | refine hL rfl rfl (ev_tmp rfl) (fun hg => z_fieldAddr fo_40_9) ?_
          | refine hL rfl rfl (ev_tmp rfl) (fun hg => z_fieldRef fo_40_9) ?_
          | refine hL rfl rfl (ev_tmp rfl) (fun hg => z_fieldV fo_40_9) ?_
        first
          | refine gL rfl rfl (ev_tmp rfl) (fun hg => z_load sz_3) ?_
          | refine gL rfl rfl (ev_tmp rfl) (fun hg => z_loadRef sz_3) ?_
          | refine gL rfl rfl (ev_tmp rfl) (fun hg => z_loadV sz_3) ?_
          | refine hL rfl rfl (ev_tmp rfl) (fun hg => z_load sz_3) ?_
          | refine hL rfl rfl (ev_tmp rfl) (fun hg => z_loadRef sz_3) ?_
          | refine hL rfl rfl (ev_tmp rfl) (fun hg => z_loadV sz_3) ?_
        first
          | refine gL rfl rfl (ev_tmp rfl) (fun hg => z_eql) ?_
          | refine hL rfl rfl (ev_tmp rfl) (fun hg => z_eql) ?_
        refine aL z_and ?_
        refine aL z_move ?_
        first
          | refine gL rfl rfl (ev_tmp rfl) (fun hg => z_fieldAddr fo_40_10) ?_
          | refine gL rfl rfl (ev_tmp rfl) (fun hg => z_fieldRef fo_40_10) ?_
          | refine gL rfl rfl (ev_tmp rfl) (fun hg => z_fieldV fo_40_10) ?_
          | refine hL rfl rfl (ev_tmp rfl) (fun hg => z_fieldAddr fo_40_10) ?_
          | refine hL rfl rfl (ev_tmp rfl) (fun hg => z_fieldRef fo_40_10) ?_
          | refine hL rfl rfl (ev_tmp rfl) (fun hg => z_fieldV fo_40_10) ?_
        first
          | refine gL rfl rfl (ev_tmp rfl) (fun hg => z_load sz_3) ?_
          | refine gL rfl rfl (ev_tmp rfl) (fun hg => z_loadRef sz_3) ?_
          | refine gL rfl rfl (ev_tmp rfl) (fun hg => z_loadV sz_3) ?_
          | refine hL rfl rfl (ev_tmp rfl) (fun hg => z_load sz_3) ?_
          | refine hL rfl rfl (ev_tmp rfl) (fun hg => z_loadRef sz_3) ?_
          | refine hL rfl rfl (ev_tmp rfl) (fun hg => z_loadV sz_3) ?_
        first
          | refine gL rfl rfl (ev_tmp rfl) (fun hg => z_fieldAddr fo_40_10) ?_
          | refine gL rfl rfl (ev_tmp rfl) (fun hg => z_fieldRef fo_40_10) ?_
          | refine gL rfl rfl (ev_tmp rfl) (fun hg => z_fieldV fo_40_10) ?_
          | refine hL rfl rfl (ev_tmp rfl) (fun hg => z_fieldAddr fo_40_10) ?_
          | refine hL rfl rfl (ev_tmp rfl) (fun hg => z_fieldRef fo_40_10) ?_
          | refine hL rfl rfl (ev_tmp rfl) (fun hg => z_fieldV fo_40_10) ?_
        first
          | refine gL rfl rfl (ev_tmp rfl) (fun hg => z_load sz_3) ?_
          | refine gL rfl rfl (ev_tmp rfl) (fun hg => z_loadRef sz_3) ?_
          | refine gL rfl rfl (ev_tmp rfl) (fun hg => z_loadV sz_3) ?_
          | refine hL rfl rfl (ev_tmp rfl) (fun hg => z_load sz_3) ?_
          | refine hL rfl rfl (ev_tmp rfl) (fun hg => z_loadRef sz_3) ?_
          | refine hL rfl rfl (ev_tmp rfl) (fun hg => z_loadV sz_3) ?_
        first
          | refine gL rfl rfl (ev_tmp rfl) (fun hg => z_eql) ?_
          | refine hL rfl rfl (ev_tmp rfl) (fun hg => z_eql) ?_
        refine aL z_and ?_
        refine aL z_move ?_
        first
          | refine gL rfl rfl (ev_tmp rfl) (fun hg => z_fieldAddr fo_40_11) ?_
          | refine gL rfl rfl (ev_tmp rfl) (fun hg => z_fieldRef fo_40_11) ?_
          | refine gL rfl rfl (ev_tmp rfl) (fun hg => z_fieldV fo_40_11) ?_
          | refine hL rfl rfl (ev_tmp rfl) (fun hg => z_fieldAddr fo_40_11) ?_
          | refine hL rfl rfl (ev_tmp rfl) (fun hg => z_fieldRef fo_40_11) ?_
          | refine hL rfl rfl (ev_tmp rfl) (fun hg => z_fieldV fo_40_11) ?_
        first
          | refine gL rfl rfl (ev_tmp rfl) (fun hg => z_load sz_4) ?_
          | refine gL rfl rfl (ev_tmp rfl) (fun hg => z_loadRef sz_4) ?_
          | refine gL rfl rfl (ev_tmp rfl) (fun hg => z_loadV sz_4) ?_
          | refine hL rfl rfl (ev_tmp rfl) (fun hg => z_load sz_4) ?_
          | refine hL rfl rfl (ev_tmp rfl) (fun hg => z_loadRef sz_4) ?_
          | refine hL rfl rfl (ev_tmp rfl) (fun hg => z_loadV sz_4) ?_
        first
          | refine gL rfl rfl (ev_tmp rfl) (fun hg => z_fieldAddr fo_40_11) ?_
          | refine gL rfl rfl (ev_tmp rfl) (fun hg => z_fieldRef fo_40_11) ?_
          | refine gL rfl rfl (ev_tmp rfl) (fun hg => z_fieldV fo_40_11) ?_
          | refine hL rfl rfl (ev_tmp rfl) (fun hg => z_fieldAddr fo_40_11) ?_
          | refine hL rfl rfl (ev_tmp rfl) (fun hg => z_fieldRef fo_40_11) ?_
          | refine hL rfl rfl (ev_tmp rfl) (fun hg => z_fieldV fo_40_11) ?_
        first
          | refine gL rfl rfl (ev_tmp rfl) (fun hg => z_load sz_4) ?_
          | refine gL rfl rfl (ev_tmp rfl) (fun hg => z_loadRef sz_4) ?_
          | refine gL rfl rfl (ev_tmp rfl) (fun hg => z_loadV sz_4) ?_
          | refine hL rfl rfl (ev_tmp rfl) (fun hg => z_load sz_4) ?_
          | refine hL rfl rfl (ev_tmp rfl) (fun hg => z_loadRef sz_4) ?_
          | refine hL rfl rfl (ev_tmp rfl) (fun hg => z_loadV sz_4) ?_
        first
          | refine gL rfl rfl (ev_tmp rfl) (fun hg => z_eqlB Try.underlying4) ?_
          | refine hL rfl rfl (ev_tmp rfl) (fun hg => z_eqlB Try.underlying4) ?_
        refine aL z_and ?_
        refine aL z_assign ?_
        refine awl_nil (hK13 _ _ ?_)
        clear hK13 K13
        refine aw_ret ?_
        refine (hret _ _ _ _ _ rfl (.tmp rfl .nil) rfl ?_ .nil rfl).1
        first
          | (have hne : f.sets ≠ g.sets := (fun h => c1 (by rw [h])); rw [key hne]; rfl)
          | (have hne : f.sets ≠ g.sets := (fun h => by simp [h, eqXs, eqX] at c3); rw [key hne]; rfl)
          | (have he : f.sets = g.sets := (by rw [List.take_of_length_le (by omega), List.take_of_length_le (by omega)] at hq; exact hq); simp [sameB, he, retD, Bool.and_assoc])
end Go.Proofs.Ytigodfnckjidoaa
