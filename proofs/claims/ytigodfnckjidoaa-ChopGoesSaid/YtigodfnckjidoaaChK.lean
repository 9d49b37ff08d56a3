/- Layer 7: the document's All, whole; the same items. No condition. -/
import Derived.Test.YtigodfnckjidoaaChJ
namespace Go.Proofs.Ytigodfnckjidoaa
set_option linter.all false
open Go Go.RowKit
set_option maxRecDepth 10000
set_option maxHeartbeats 4000000
def allM (b : List UInt8) (m : Int) (p : Bool) : List Itm × Int × Bool :=
  if p = true then (match greetM 0 b with
    | (_, none) => ([badI], 0, true)
    | (k, some r) => if k < 24 then ([], (k : Int), false) else coreM (max m 0) r)
  else coreM (max m 0) b
theorem tup_nilsl {G : Gh} {w : World} {m : Mem} {ds : List D} {u : Value} (h : RepD G w m (.tup (NIL :: ds)) u) : RepD G w m (.tup (.v (.sl []) :: ds)) u := by
  cases h with
  | tup _ us hl h =>
    refine .tup _ us (by rw [hl]; rfl) fun i d u hd hu => ?_
    cases i with
    | zero => injection hd with hd; subst hd; exact nil_sl (h 0 NIL u rfl hu)
    | succ i => exact h (i + 1) d u hd hu
theorem con_All {m : Int} {b : List UInt8} {p : Bool} (hb : b.length ≤ 1000000000) : Con Try.prog 12 [.v (.sl (bs b)), .v (.int .i64 m), .v (.bool p)] [] 0 (allD (allM b m p)) [] := by
  cases p with
  | false => exact con_All0 hb
  | true =>
    cases hg : greetM 0 b with
    | mk k o =>
      cases o with
      | none =>
        have e : allM b m true = ([badI], 0, true) := by unfold allM; rw [if_pos rfl]; simp only [hg]
        rw [e]; exact con_AllA hb hg
      | some r =>
        by_cases hk : k < 24
        · have e : allM b m true = ([], (k : Int), false) := by unfold allM; rw [if_pos rfl]; simp only [hg]; rw [if_pos hk]
          rw [e]
          exact con_weak (con_AllB hb hg hk) fun X _ => weak_one fun G w mm u h => tup_nilsl h
        · have e : allM b m true = coreM (max m 0) r := by unfold allM; rw [if_pos rfl]; simp only [hg]; rw [if_neg hk]
          rw [e]; exact con_AllC hb hg (by omega)
/-- The same items? -/
def sameX (x y : Flt) : Bool := x.is == y.is && x.code == y.code && x.st == y.st
theorem sameX_iff (x y : Flt) : sameX x y = true ↔ x = y := by
  cases x; cases y; simp [sameX, and_assoc]
theorem eqx (x y : Flt) : eqXs [V.bool x.is, V.int .i64 x.code, V.int .i64 x.st] [V.bool y.is, V.int .i64 y.code, V.int .i64 y.st] = sameX x y := by simp [eqXs, eqX, sameX, Bool.and_assoc]
theorem itm_ext {i j : Itm} (h1 : i.x = j.x) (h2 : i.f = j.f) : i = j := by cases i; cases j; simp_all
def sameI : List Itm → List Itm → Bool
  | [], [] => true
  | i :: a, j :: b => sameX i.x j.x && sameB i.f j.f && sameI a b
  | _, _ => false
theorem sameI_iff : ∀ a b : List Itm, sameI a b = true ↔ a = b
  | [], [] => by simp [sameI]
  | [], _ :: _ => by simp [sameI]
  | _ :: _, [] => by simp [sameI]
  | i :: a, j :: b => by
    simp only [sameI, Bool.and_eq_true, sameX_iff, sameB_iff, sameI_iff a b, List.cons.injEq]
    constructor
    · rintro ⟨⟨h1, h2⟩, h3⟩; cases i; cases j; simp_all
    · rintro ⟨rfl, rfl⟩; exact ⟨⟨rfl, rfl⟩, rfl⟩
theorem con_Same7 {a b : List Itm} (ha : a.length ≤ 1000000000) (hl : ∀ i ∈ a, i.f.sets.length ≤ 100000000) : Con Try.prog 13 [.v (.sl (itV a)), .v (.sl (itV b))] [] 0 (.ret (.v (.bool (sameI a b)))) [] := by
  have hA := itV_len a
  have hB := itV_len b
  have key : ¬ a = b → sameI a b = false := fun h => by
    cases hs : sameI a b with
    | false => rfl
    | true => exact absurd ((sameI_iff a b).1 hs) h
  refine con_of Try.func13 rfl (by show _ ≤ 42; simp) fun X Q hP hnt hnp hret hpan => ?_
  obtain ⟨P0, nt0, w0, K0, S0, np0, pin0, df0⟩ := X
  simp only at hP hnt hnp
  subst hP hnp
  obtain rfl : nt0 = 42 := hnt
  refine aw_region fun K1 hK1 => ?_
  refine aL z_assign ?_
  refine awl_nil (hK1 _ _ ?_)
  clear hK1 K1
  refine aw_seq fun K2 hK2 => ?_
  refine aw_region fun K3 hK3 => ?_
  refine aL z_move ?_
  first
    | refine aL (z_lenB Try.underlying29) ?_
    | refine aL (z_len Try.underlying29) ?_
    | refine aL (z_lenV Try.underlying29) ?_
  refine aL z_move ?_
  first
    | refine aL (z_lenB Try.underlying29) ?_
    | refine aL (z_len Try.underlying29) ?_
    | refine aL (z_lenV Try.underlying29) ?_
  refine aL z_neq ?_
  refine awl_nil (hK3 _ _ ?_)
  clear hK3 K3
  refine aC (fun r1 c1 => ?_) (fun r1 c1 => ?_)
  · refine aw_region fun K4 hK4 => ?_
    refine aL z_assign ?_
    refine awl_nil (hK4 _ _ ?_)
    clear hK4 K4
    refine aw_ret ?_
    refine (hret _ _ _ _ _ rfl (.tmp rfl .nil) rfl ?_ .nil rfl).1
    first
      | (have hne : ¬ a = b := (fun h => c1 (by rw [h]))
         rw [key hne]; rfl)
      | (have hh := c3
         have hne : ¬ a = b := (fun h => by
           subst h
           rcases c3 with h | h
           · rw [eqx, (sameX_iff _ _).2 rfl] at h; cases h
           · rw [(sameB_iff _ _).2 rfl] at h; cases h)
         rw [key hne]; rfl)
      | (have he : a = b := (by rw [List.take_of_length_le (by omega), List.take_of_length_le (by omega)] at hq; exact hq)
         rw [(sameI_iff a b).2 he]; rfl)
  · refine aw_skip ?_
    refine hK2 _ _ ?_
    clear hK2
    refine aw_seq fun K5 hK5 => ?_
    refine aw_region fun K6 hK6 => ?_
    refine aL z_assign ?_
    refine awl_nil (hK6 _ _ ?_)
    clear hK6 K6
    refine aw_block ?_
    refine aw_loop (α := {k : Nat // k ≤ a.length ∧ a.take k = b.take k}) (fun x => ([(0, .v (.sl (itV a))), (1, .v (.sl (itV b))), (5, .v (.int .i64 (x.1 : Int)))], [])) (fun x => a.length - x.1) ⟨0, by omega, rfl⟩ ?_ ?_
    · dsimp only
      exact wK
    · rintro ⟨k, hk, hq⟩ K7 hK7
      dsimp only
      refine aw_seq fun K8 hK8 => ?_
      refine aw_region fun K9 hK9 => ?_
      refine aL z_move ?_
      refine aL z_move ?_
      first
        | refine aL (z_lenB Try.underlying29) ?_
        | refine aL (z_len Try.underlying29) ?_
        | refine aL (z_lenV Try.underlying29) ?_
      refine aL z_lss ?_
      refine awl_nil (hK9 _ _ ?_)
      clear hK9 K9
      refine aC (fun r2 c2 => ?_) (fun r2 c2 => ?_)
      · refine aw_skip ?_
        refine hK8 _ _ ?_
        clear hK8
        refine aw_seq fun K10 hK10 => ?_
        refine aw_block ?_
        refine aw_regionD mx_all (by kernel_rfl) fun K11 hK11 => ?_
        have hlt : k < a.length := by omega
        have hlt' : k < b.length := by omega
        have hi : (itV a)[k]? = some a[k].vs := itV_get hlt
        have hi' : (itV b)[k]? = some b[k].vs := itV_get hlt'
        refine aD z_move ?_
        refine aD z_move ?_
        first
          | refine aD (z_indexAddr Try.underlying29 sz_42) ?_
          | refine aD (z_indexAddrV Try.underlying29 sz_42) ?_
        first
          | refine aD (z_fieldAddr fo_42_1) ?_
          | refine aD (z_fieldRef fo_42_1) ?_
          | refine aD (z_fieldV fo_42_1) ?_
        first
          | refine aD (z_load sz_37) ?_
          | refine aD (z_loadRef sz_37) ?_
          | refine aD (z_loadV sz_37) ?_
        refine aD z_move ?_
        refine aD z_move ?_
        first
          | refine aD (z_indexAddr Try.underlying29 sz_42) ?_
          | refine aD (z_indexAddrV Try.underlying29 sz_42) ?_
        first
          | refine aD (z_fieldAddr fo_42_1) ?_
          | refine aD (z_fieldRef fo_42_1) ?_
          | refine aD (z_fieldV fo_42_1) ?_
        first
          | refine aD (z_load sz_37) ?_
          | refine aD (z_loadRef sz_37) ?_
          | refine aD (z_loadV sz_37) ?_
        refine aD (z_neqA sk_37) ?_
        refine aD z_move ?_
        first
          | refine gD rfl rfl (ev_tmp rfl) (fun hg => z_move) ?_
          | refine hD rfl rfl (ev_tmp rfl) (fun hg => z_move) ?_
        first
          | refine gD rfl rfl (ev_tmp rfl) (fun hg => z_move) ?_
          | refine hD rfl rfl (ev_tmp rfl) (fun hg => z_move) ?_
        first
          | refine gD rfl rfl (ev_tmp rfl) (fun hg => z_indexAddr Try.underlying29 sz_42) ?_
          | refine gD rfl rfl (ev_tmp rfl) (fun hg => z_indexAddrV Try.underlying29 sz_42) ?_
          | refine hD rfl rfl (ev_tmp rfl) (fun hg => z_indexAddr Try.underlying29 sz_42) ?_
          | refine hD rfl rfl (ev_tmp rfl) (fun hg => z_indexAddrV Try.underlying29 sz_42) ?_
        first
          | refine gD rfl rfl (ev_tmp rfl) (fun hg => z_fieldAddr fo_42_0) ?_
          | refine gD rfl rfl (ev_tmp rfl) (fun hg => z_fieldRef fo_42_0) ?_
          | refine gD rfl rfl (ev_tmp rfl) (fun hg => z_fieldV fo_42_0) ?_
          | refine hD rfl rfl (ev_tmp rfl) (fun hg => z_fieldAddr fo_42_0) ?_
          | refine hD rfl rfl (ev_tmp rfl) (fun hg => z_fieldRef fo_42_0) ?_
          | refine hD rfl rfl (ev_tmp rfl) (fun hg => z_fieldV fo_42_0) ?_
        first
          | refine gD rfl rfl (ev_tmp rfl) (fun hg => z_load sz_40) ?_
          | refine gD rfl rfl (ev_tmp rfl) (fun hg => z_loadRef sz_40) ?_
          | refine gD rfl rfl (ev_tmp rfl) (fun hg => z_loadV sz_40) ?_
          | refine hD rfl rfl (ev_tmp rfl) (fun hg => z_load sz_40) ?_
          | refine hD rfl rfl (ev_tmp rfl) (fun hg => z_loadRef sz_40) ?_
          | refine hD rfl rfl (ev_tmp rfl) (fun hg => z_loadV sz_40) ?_
        first
          | refine gD rfl rfl (ev_tmp rfl) (fun hg => z_move) ?_
          | refine hD rfl rfl (ev_tmp rfl) (fun hg => z_move) ?_
        first
          | refine gD rfl rfl (ev_tmp rfl) (fun hg => z_move) ?_
          | refine hD rfl rfl (ev_tmp rfl) (fun hg => z_move) ?_
        first
          | refine gD rfl rfl (ev_tmp rfl) (fun hg => z_indexAddr Try.underlying29 sz_42) ?_
          | refine gD rfl rfl (ev_tmp rfl) (fun hg => z_indexAddrV Try.underlying29 sz_42) ?_
          | refine hD rfl rfl (ev_tmp rfl) (fun hg => z_indexAddr Try.underlying29 sz_42) ?_
          | refine hD rfl rfl (ev_tmp rfl) (fun hg => z_indexAddrV Try.underlying29 sz_42) ?_
        first
          | refine gD rfl rfl (ev_tmp rfl) (fun hg => z_fieldAddr fo_42_0) ?_
          | refine gD rfl rfl (ev_tmp rfl) (fun hg => z_fieldRef fo_42_0) ?_
          | refine gD rfl rfl (ev_tmp rfl) (fun hg => z_fieldV fo_42_0) ?_
          | refine hD rfl rfl (ev_tmp rfl) (fun hg => z_fieldAddr fo_42_0) ?_
          | refine hD rfl rfl (ev_tmp rfl) (fun hg => z_fieldRef fo_42_0) ?_
          | refine hD rfl rfl (ev_tmp rfl) (fun hg => z_fieldV fo_42_0) ?_
        first
          | refine gD rfl rfl (ev_tmp rfl) (fun hg => z_load sz_40) ?_
          | refine gD rfl rfl (ev_tmp rfl) (fun hg => z_loadRef sz_40) ?_
          | refine gD rfl rfl (ev_tmp rfl) (fun hg => z_loadV sz_40) ?_
          | refine hD rfl rfl (ev_tmp rfl) (fun hg => z_load sz_40) ?_
          | refine hD rfl rfl (ev_tmp rfl) (fun hg => z_loadRef sz_40) ?_
          | refine hD rfl rfl (ev_tmp rfl) (fun hg => z_loadV sz_40) ?_
        first
          | refine gD rfl rfl (ev_tmp rfl) (fun hg => z_call0 (eC (eC .nil)) en_18 (con_Same (f := a[k].f) (g := b[k].f) (hl _ (List.getElem_mem _)))) ?_
          | refine hD rfl rfl (ev_tmp rfl) (fun hg => z_call0 (eC (eC .nil)) en_18 (con_Same (f := a[k].f) (g := b[k].f) (hl _ (List.getElem_mem _)))) ?_
        first
          | refine gD rfl rfl (ev_tmp rfl) (fun hg => z_not) ?_
          | refine hD rfl rfl (ev_tmp rfl) (fun hg => z_not) ?_
        refine aD z_or ?_
        refine awd_nil (by kernel_rfl) (hK11 _ _ ?_)
        clear hK11 K11
        refine aC (fun r3 c3 => ?_) (fun r3 c3 => ?_)
        · refine aw_region fun K12 hK12 => ?_
          refine aL z_assign ?_
          refine awl_nil (hK12 _ _ ?_)
          clear hK12 K12
          refine aw_ret ?_
          refine (hret _ _ _ _ _ rfl (.tmp rfl .nil) rfl ?_ .nil rfl).1
          first
            | (have hne : ¬ a = b := (fun h => c1 (by rw [h]))
               rw [key hne]; rfl)
            | (have hh := c3
               have hne : ¬ a = b := (fun h => by
                 subst h
                 rcases c3 with h | h
                 · rw [eqx, (sameX_iff _ _).2 rfl] at h; cases h
                 · rw [(sameB_iff _ _).2 rfl] at h; cases h)
               rw [key hne]; rfl)
            | (have he : a = b := (by rw [List.take_of_length_le (by omega), List.take_of_length_le (by omega)] at hq; exact hq)
               rw [(sameI_iff a b).2 he]; rfl)
        · refine aw_skip ?_
          refine hK10 _ _ ?_
          clear hK10
          refine aw_region_last ?_
          refine aL z_move ?_
          refine aL z_add ?_
          refine aL z_assign ?_
          refine awl_nil ?_
          have e3 : sameX a[k].x b[k].x = true := (eqx _ _).symm.trans c3.1
          have e4 : a[k] = b[k] := itm_ext ((sameX_iff _ _).1 e3) ((sameB_iff _ _).1 c3.2)
          refine hK7 _ _ ⟨k + 1, by omega, by rw [List.take_add_one, List.take_add_one, hq, List.getElem?_eq_getElem hlt, List.getElem?_eq_getElem hlt', e4]⟩ (by dsimp only; omega) ?_
          exact wK
      · refine aw_exit ?_
        refine hK5 _ _ ?_
        clear hK5
        refine aw_region fun K13 hK13 => ?_
        refine aL z_assign ?_
        refine awl_nil (hK13 _ _ ?_)
        clear hK13 K13
        refine aw_ret ?_
        refine (hret _ _ _ _ _ rfl (.tmp rfl .nil) rfl ?_ .nil rfl).1
        first
          | (have hne : ¬ a = b := (fun h => c1 (by rw [h]))
             rw [key hne]; rfl)
          | (have hh := c3
             have hne : ¬ a = b := (fun h => by
               subst h
               rcases c3 with h | h
               · rw [eqx, (sameX_iff _ _).2 rfl] at h; cases h
               · rw [(sameB_iff _ _).2 rfl] at h; cases h)
             rw [key hne]; rfl)
          | (have he : a = b := (by rw [List.take_of_length_le (by omega), List.take_of_length_le (by omega)] at hq; exact hq)
             rw [(sameI_iff a b).2 he]; rfl)
end Go.Proofs.Ytigodfnckjidoaa
