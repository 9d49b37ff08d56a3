/- Abstract states: a row settles within a region: an operation whose result is a view of a row hands back what it holds for good; the row begins anew. No program, no condition. -/
import Derived.Test.YtnjbfiejgiaibaaGreatDoorAu
import Derived.Test.YtnjbfiejgiaibaaGreatDoorHdMToHdC
import Derived.Test.YtnjbfiejgiaibaaGreatDoorHdS
import Derived.Test.YtnjbfiejgiaibaaGreatDoorHdGToHdT
namespace Go.Proofs.YtnjbfiejgiaibaaGreatDoor
set_option linter.all false
open Go Go.RowKit
section
variable {X : Cx} {G : Gh} {w : World} {m : Mem}
theorem Ok.settle (h : Ok X G w m) {id v n : Nat} {e : TypeId} {c : List (List V)} (hm : m id = some (.row v n e c)) : ∃ G2, Ok X G2 w (over [(id, .row (v + 1) n e [])] m) ∧ Ext G w m G2 w (over [(id, .row (v + 1) n e [])] m) ∧ ∀ u, RepD G w m (.view id v 0 c.length) u → RepD G2 w (over [(id, .row (v + 1) n e [])] m) (.v (.sl c)) u := by
  have hrow : RowAt G w id n e c := h.ob id _ hm
  have hidn : m id ≠ none := by rw [hm]; simp
  obtain ⟨k1, k2⟩ := h.step (G' := G.at_ id none 0) (w' := w) id (.row (v + 1) n e []) rfl (fun i hi => Gh.at_ne G _ _ hi) (fun g hg => by rw [Gh.at_μ] at hg; cases hg) (fun g _ _ => rfl) (Nat.le_refl _) rfl rfl rfl
    (fun o' ho' => by
      rw [hm] at ho'; injection ho' with ho'; subst ho'
      exact ⟨fun cs he => (by cases he), fun ver n' e' c' he => by injection he with a1 a2 a3 a4; subst a1 a2 a3 a4; exact ⟨v + 1, [], rfl, Nat.le_succ _, fun hh => by omega⟩⟩)
    (fun k => ⟨by simp, hrow.2.1, by simp, by rw [Gh.at_cap]; simp [maxLen], .inl ⟨Gh.at_μ _ _ _ _, Gh.at_cap _ _ _ _⟩⟩) (fun cs _ he => by cases he)
  let G1 : Gh := G.at_ id none 0
  let G2 : Gh := { G1 with S := fun g => G.S g ∨ G.μ id = some g }
  have e1 : ∀ m', Ext G1 w m' G2 w m' := fun m' => ⟨fun g hg => ⟨.inl hg, rfl⟩, fun _ cs h => ⟨cs, h, rfl⟩, fun _ ver _ _ c h => ⟨ver, c, h, Nat.le_refl _, fun _ => ⟨Nat.le_refl _, rfl, rfl⟩⟩, fun _ a l h => ⟨a, l, h, rfl⟩⟩
  have hne : ∀ i g, G1.μ i = some g → i ≠ id := fun i g hg he => by subst he; rw [Gh.at_μ] at hg; cases hg
  have hin : ∀ i, i ≠ id → over [(id, Ob.row (v + 1) n e [])] m i ≠ none → m i ≠ none := fun i hi hh => by
    rwa [over_ne (by simpa using fun he => hi he)] at hh
  have hμ : ∀ i, i ≠ id → G1.μ i = G.μ i := fun i hi => (Gh.at_ne G _ _ hi).1
  refine ⟨G2, ⟨fun i o ho => (k1.ob i o ho).ext (e1 _) rfl rfl fun _ _ => rfl, k1.inj, fun i g hi hg => ⟨fun hs => ?_, (k1.apart i g hi hg).2⟩, fun g hg => ?_, k1.keep, k1.os, k1.tape, k1.output, k1.size, fun g hg => .inl (k1.s0 g hg), fun g hg hk => ?_, k1.pin, k1.shp⟩, k2.trans (e1 _), fun u hu => ?_⟩
  · have hi2 := hne i g hg
    rcases hs with hs | hs
    · exact (k1.apart i g hi hg).1 hs
    · have hg' : G.μ i = some g := by rw [← hμ i hi2]; exact hg
      exact hi2 (h.inj i id g (hin i hi2 hi) hidn hg' hs)
  · rcases hg with hg | hg
    · exact k1.low g hg
    · exact (h.ob id _ hm).lt hg
  · rcases hg with hg | hg
    · exact k1.sk g hg hk
    · exact absurd hk (h.apart id g hidn hg).2
  · obtain ⟨v1, v2⟩ := rep_view hu hm
    have := repV_view (Z := G2.S) hrow v2 v1 (fun g hg => .inl hg) (fun g hg => .inr hg)
    rw [cut_all] at this
    exact .v _ _ this
/-- The same operation, its row settled. -/
theorem StepU.settle {o : Oper} {f : Nat → D} {id v n len : Nat} {e : TypeId} {c : List (List V)} {upd : AH} {T : List Nat} (h : StepU X o f m (.view id v 0 len) upd T) (hu : look upd id = some (.row v n e c) := by exact rfl) (hT : id ∈ T := by decide) (hl : len = c.length := by first | rfl | (simp; done)) : StepU X o f m (.v (.sl c)) ((id, .row (v + 1) n e []) :: upd) T := by
  subst hl
  intro f' m' hf hT' hn G w a hO hF K Q hK
  refine h f' m' hf hT' (fun p hp hpT => hn p (List.mem_cons_of_mem _ hp) hpT) G w a hO hF K Q fun G' w' u k1 k2 k3 => ?_
  have hm : over upd m' id = some (.row v n e c) := by unfold over; rw [hu]
  obtain ⟨G2, q1, q2, q3⟩ := k1.settle hm
  have ho : over [(id, Ob.row (v + 1) n e [])] (over upd m') = over ((id, Ob.row (v + 1) n e []) :: upd) m' := by
    funext i
    unfold over
    by_cases hi : id = i
    · subst hi; rw [look_cons_self, look_cons_self]
    · rw [look_cons_ne _ _ hi, look_cons_ne _ _ hi]; rfl
  rw [ho] at q1 q2 q3
  exact hK G2 w' u q1 (k2.trans q2) (q3 u k3)
end
end Go.Proofs.YtnjbfiejgiaibaaGreatDoor

/- Layer 10: lists compared and measured. No condition. -/
namespace Go.Proofs.YtnjbfiejgiaibaaGreatDoor
set_option linter.all false
open Go Go.RowKit
set_option maxRecDepth 10000
set_option maxHeartbeats 4000000
theorem eqF (f g : Fd) : eqXs f.vs g.vs = decide (f = g) := by
  rw [Bool.eq_iff_iff, decide_eq_true_iff]
  simp only [Fd.vs, eqXs, eqX, Bool.and_eq_true, beq_iff_eq, and_true]
  exact ⟨fun h => Fd.ext' h.1 h.2.1 h.2.2, fun h => by subst h; exact ⟨rfl, rfl, rfl⟩⟩
theorem byM_at {l : List Fd} {q n : Nat} (h : q < l.length) : byM n (l.drop q) = byM (if n < 1073741824 then n + (l[q]).n.length + (l[q]).v.length + 32 else n) (l.drop (q + 1)) := by
  rw [List.drop_eq_getElem_cons h, byM]
def byI (n : Nat) (l : List Fd) (B : Nat) : Prop := byM n l = B
theorem byI_yes {l : List Fd} {q n B : Nat} (h : q < l.length) (hn : n < 1073741824) (hb : byI n (l.drop q) B) : byI (n + (l[q]).n.length + (l[q]).v.length + 32) (l.drop (q + 1)) B := by unfold byI at *; rw [byM_at h, if_pos hn] at hb; exact hb
theorem byI_no {l : List Fd} {q n B : Nat} (h : q < l.length) (hn : ¬ n < 1073741824) (hb : byI n (l.drop q) B) : byI n (l.drop (q + 1)) B := by unfold byI at *; rw [byM_at h, if_neg hn] at hb; exact hb
theorem con_Bytes {l : List Fd} (hl : l.length ≤ 4398046511104) (hf : ∀ f ∈ l, f.n.length ≤ 140737488351232 ∧ f.v.length ≤ 140737488351232) : Con Tryz.prog 12 [.v (.sl (fdV l))] [] 0 (.ret (.v (.int .i64 (byM 0 l : Nat)))) [] := by
  have hfl := fdV_len l
  generalize hB : byM 0 l = B
  replace hB : byI 0 l B := hB
  refine con_of Tryz.func12 rfl (by show _ ≤ 30; simp) fun X Q hP hnt hnp hret hpan => ?_
  obtain ⟨P0, nt0, w0, K0, S0, np0, pin0, df0⟩ := X
  simp only at hP hnt hnp
  subst hP hnp
  obtain rfl : nt0 = 30 := hnt
  refine aw_region fun K1 hK1 => ?_
  refine aL z_assign ?_
  refine awl_nil (hK1 _ _ ?_)
  clear hK1 K1
  refine aw_region fun K2 hK2 => ?_
  refine aL z_assign ?_
  refine awl_nil (hK2 _ _ ?_)
  clear hK2 K2
  refine aw_seq fun K3 hK3 => ?_
  refine aw_region fun K4 hK4 => ?_
  refine aL z_assign ?_
  refine awl_nil (hK4 _ _ ?_)
  clear hK4 K4
  refine aw_block ?_
  refine aw_loop (α := {x : Nat × Nat // x.1 ≤ l.length ∧ x.2 ≤ 1000000000000000 ∧ byI x.2 (l.drop x.1) B}) (fun x => ([(0, .v (.sl (fdV l))), (3, .v (.int .i64 (x.1.2 : Int))), (4, .v (.int .i64 (x.1.1 : Int)))], [])) (fun x => l.length - x.1.1) ⟨(0, 0), by omega, by omega, hB⟩ ?_ ?_
  · dsimp only
    exact wK
  · rintro ⟨⟨q, n⟩, hq, hn, hb⟩ K5 hK5
    dsimp only
    dsimp only at hq hn hb
    refine aw_seq fun K6 hK6 => ?_
    refine aw_region fun K7 hK7 => ?_
    refine aL z_move ?_
    refine aL z_move ?_
    first
      | refine aL (z_lenB Tryz.underlying24) ?_
      | refine aL (z_len Tryz.underlying24) ?_
      | refine aL (z_lenV Tryz.underlying24) ?_
    refine aL z_lss ?_
    refine awl_nil (hK7 _ _ ?_)
    clear hK7 K7
    refine aC (fun r1 c1 => ?_) (fun r1 c1 => ?_)
    · refine aw_skip ?_
      refine hK6 _ _ ?_
      clear hK6
      refine aw_seq fun K8 hK8 => ?_
      refine aw_block ?_
      refine aw_region fun K9 hK9 => ?_
      have hlt : q < l.length := by omega
      have hi := fdV_get hlt
      obtain ⟨hz1, hz2⟩ := hf _ (List.getElem_mem hlt)
      refine aL z_move ?_
      refine aL z_lss ?_
      refine awl_nil (hK9 _ _ ?_)
      clear hK9 K9
      refine aC (fun r2 c2 => ?_) (fun r2 c2 => ?_)
      · clear r2
        refine aw_regionD_last mx_all (by kernel_rfl) ?_
        refine aD z_move ?_
        refine aD z_move ?_
        refine aD z_move ?_
        first
          | refine aD (z_indexAddr Tryz.underlying24 sz_46) ?_
          | refine aD (z_indexAddrV Tryz.underlying24 sz_46) ?_
        first
          | refine aD (z_fieldAddr fo_46_0) ?_
          | refine aD (z_fieldRef fo_46_0) ?_
          | refine aD (z_fieldV fo_46_0) ?_
        first
          | refine aD (z_load sz_9) ?_
          | refine aD (z_loadRef sz_9) ?_
          | refine aD (z_loadV sz_9) ?_
        refine aD (z_lenS Tryz.underlying9) ?_
        refine aD z_add ?_
        refine aD z_move ?_
        refine aD z_move ?_
        first
          | refine aD (z_indexAddr Tryz.underlying24 sz_46) ?_
          | refine aD (z_indexAddrV Tryz.underlying24 sz_46) ?_
        first
          | refine aD (z_fieldAddr fo_46_1) ?_
          | refine aD (z_fieldRef fo_46_1) ?_
          | refine aD (z_fieldV fo_46_1) ?_
        first
          | refine aD (z_load sz_9) ?_
          | refine aD (z_loadRef sz_9) ?_
          | refine aD (z_loadV sz_9) ?_
        refine aD (z_lenS Tryz.underlying9) ?_
        refine aD z_add ?_
        refine aD z_add ?_
        refine aD z_assign ?_
        refine awd_nil (by kernel_rfl) ?_
        refine hK8 _ _ ?_
        clear hK8
        refine aw_region_last ?_
        refine aL z_move ?_
        refine aL z_add ?_
        refine aL z_assign ?_
        refine awl_nil ?_
        first
          | (have hn2 : n < 1073741824 := (by omega); have hb2 := byI_yes hlt hn2 hb; refine hK5 _ _ ⟨(q + 1, n + (l[q]).n.length + (l[q]).v.length + 32), by dsimp only; omega, by dsimp only; omega, hb2⟩ (by dsimp only; omega) ?_; dsimp only; exact wK)
          | (have hn2 : ¬ n < 1073741824 := (by omega); have hb2 := byI_no hlt hn2 hb; refine hK5 _ _ ⟨(q + 1, n), by dsimp only; omega, hn, hb2⟩ (by dsimp only; omega) ?_; dsimp only; exact wK)
      · clear r2
        refine aw_skip ?_
        refine hK8 _ _ ?_
        clear hK8
        refine aw_region_last ?_
        refine aL z_move ?_
        refine aL z_add ?_
        refine aL z_assign ?_
        refine awl_nil ?_
        first
          | (have hn2 : n < 1073741824 := (by omega); have hb2 := byI_yes hlt hn2 hb; refine hK5 _ _ ⟨(q + 1, n + (l[q]).n.length + (l[q]).v.length + 32), by dsimp only; omega, by dsimp only; omega, hb2⟩ (by dsimp only; omega) ?_; dsimp only; exact wK)
          | (have hn2 : ¬ n < 1073741824 := (by omega); have hb2 := byI_no hlt hn2 hb; refine hK5 _ _ ⟨(q + 1, n), by dsimp only; omega, hn, hb2⟩ (by dsimp only; omega) ?_; dsimp only; exact wK)
    · refine aw_exit ?_
      refine hK3 _ _ ?_
      clear hK3
      refine aw_region fun K10 hK10 => ?_
      refine aL z_move ?_
      refine aL z_assign ?_
      refine awl_nil (hK10 _ _ ?_)
      clear hK10 K10
      refine aw_ret ?_
      refine (hret _ _ _ _ _ rfl (.tmp rfl .nil) rfl ?_ .nil rfl).1
      have hx : q = l.length := (by omega)
      subst hx
      rw [List.drop_length] at hb
      obtain rfl : n = B := hb
      rfl
end Go.Proofs.YtnjbfiejgiaibaaGreatDoor

/- Layer 10: lists compared and measured; the document's Trailer, Answer, ReadAnswer. No condition. -/
namespace Go.Proofs.YtnjbfiejgiaibaaGreatDoor
set_option linter.all false
open Go Go.RowKit
set_option maxRecDepth 10000
set_option maxHeartbeats 4000000
end Go.Proofs.YtnjbfiejgiaibaaGreatDoor

/- Layer 10: the document's ReadAnswer. No condition. -/
namespace Go.Proofs.YtnjbfiejgiaibaaGreatDoor
set_option linter.all false
open Go Go.RowKit
set_option maxRecDepth 10000
set_option maxHeartbeats 4000000
theorem ask_plain {names : List (List UInt8)} : ∀ (l p : List Fd), askM names p l = 0 → (∃ g ∈ p, pseudoM g.n = false) → ∀ f ∈ l, pseudoM f.n = false
  | [], _, _, _ => by simp
  | f :: l, p, h, ⟨g, hg, hgp⟩ => by
    rw [askM] at h
    split at h
    · rename_i ho
      have hf : pseudoM f.n = false := by
        cases hp : pseudoM f.n with
        | false => rfl
        | true =>
          rw [okF_pseudo hp] at ho
          split at ho
          · rename_i hh
            have h0 := List.length_eq_zero_iff.1 hh.1
            have : g ∈ restM p := by unfold restM; rw [List.mem_filter]; exact ⟨hg, by simp [hgp]⟩
            rw [h0] at this; cases this
          · cases ho
      intro x hx
      rcases List.mem_cons.1 hx with rfl | hx
      · exact hf
      · exact ask_plain l (p ++ [f]) h ⟨g, by simp [hg], hgp⟩ x hx
    · rename_i ho; exact absurd h ho
theorem get_nil {l : List Fd} {k : List UInt8} (h : ¬ 0 < (valuesM l k).length) : getM l k = [] := by
  unfold getM; cases hv : valuesM l k with
  | nil => rfl
  | cons a r => rw [hv] at h; simp at h
end Go.Proofs.YtnjbfiejgiaibaaGreatDoor

/- Layer 10: Read. No condition. -/
namespace Go.Proofs.YtnjbfiejgiaibaaGreatDoor
set_option linter.all false
open Go Go.RowKit
set_option maxRecDepth 10000
set_option maxHeartbeats 4000000
theorem readE_ask {l : List Fd} (h : ¬ askM names4 [] l = 0) : readE l = askM names4 [] l := if_pos h
theorem readE_head {l : List Fd} (h : askM names4 [] l = 0) (h2 : headM l = false) : readE l = 100 := by unfold readE; rw [if_neg (by omega), if_pos h2]
theorem readE_place {l : List Fd} (h : askM names4 [] l = 0) (h2 : headM l = true) (h3 : ¬ placeM l = 0) : readE l = placeM l := by unfold readE; rw [if_neg (by omega), if_neg (by simp [h2]), if_pos h3]
theorem readE_len {l : List Fd} (h : askM names4 [] l = 0) (h2 : headM l = true) (h3 : placeM l = 0) : readE l = (lenM l).2.2 := by unfold readE; rw [if_neg (by omega), if_neg (by simp [h2]), if_neg (by omega)]
theorem readE_0 {l : List Fd} (h : askM names4 [] l = 0) (hr : readE l = 0) : headM l = true ∧ placeM l = 0 ∧ (lenM l).2.2 = 0 := by
  by_cases h2 : headM l = true
  · by_cases h3 : placeM l = 0
    · exact ⟨h2, h3, by rw [← readE_len h h2 h3]; exact hr⟩
    · rw [readE_place h h2 h3] at hr; exact absurd hr h3
  · rw [readE_head h (by simpa using h2)] at hr; cases hr
end Go.Proofs.YtnjbfiejgiaibaaGreatDoor
