/- Layer 10: a list of fields that comes in; requests compared; the first answers. No condition. -/
import Derived.Test.YtipmegjhlkhklaaDoorLawKit
import Derived.Test.YtipmegjhlkhklaaDoorLz
import Derived.Test.YtipmegjhlkhklaaDoorHdX
namespace Go.Proofs.YtipmegjhlkhklaaDoor
set_option linter.all false
open Go Go.RowKit
set_option maxRecDepth 10000
set_option maxHeartbeats 4000000
abbrev g0 (W : World) : Gh := ⟨fun _ => none, fun _ => 0, fun g => g < W.heap.size⟩
theorem fit_field {xs : List V} (h : FitZ Tryd.prog reachBytes 2 34 xs) : ∃ f : Fd, xs = f.vs ∧ f.n.length ≤ 140737488351232 ∧ f.v.length ≤ 140737488351232 := by
  have h1 := fitz_struct Tryd.underlying34 h
  simp only [FitAll] at h1
  obtain ⟨a0, r0, rfl, k0, a1, r1, rfl, k1, a2, r2, rfl, k2, rfl⟩ := h1
  obtain ⟨n0, rfl, w0⟩ := fitz_str Tryd.underlying9 k0
  obtain ⟨n1, rfl, w1⟩ := fitz_str Tryd.underlying9 k1
  obtain ⟨n2, rfl⟩ := fitz_bool Tryd.underlying4 k2
  exact ⟨⟨n0, n1, n2⟩, rfl, w0, w1⟩
theorem fields_of : ∀ c : List (List V), (∀ x ∈ c, FitZ Tryd.prog reachBytes 2 34 x) → ∃ l, c = fdV l ∧ ∀ f ∈ l, f.n.length ≤ 140737488351232 ∧ f.v.length ≤ 140737488351232
  | [], _ => ⟨[], rfl, by simp⟩
  | x :: c, h => by
    obtain ⟨f, rfl, h1, h2⟩ := fit_field (h x List.mem_cons_self)
    obtain ⟨l, rfl, h3⟩ := fields_of c fun y hy => h y (List.mem_cons_of_mem _ hy)
    refine ⟨f :: l, rfl, fun g hg => ?_⟩
    rcases List.mem_cons.1 hg with rfl | hg
    · exact ⟨h1, h2⟩
    · exact h3 g hg
theorem field_bytes : Tryd.prog.bytesOf 34 = 40 := by kernel_rfl
/-- What is known of a list that comes in. -/
def InL (l : List Fd) : Prop := l.length ≤ 4398046511104 ∧ ∀ f ∈ l, f.n.length ≤ 140737488351232 ∧ f.v.length ≤ 140737488351232
open Go.WideShapes Go.ChangeShapes in
theorem open_fields {H : Type} {enc : TypeId × Value → H} {W : World} {base b0 : Nat} {spare : Nat → Bool} {held : Bool} {r : Reach} {v : Value} {d : DataW H} {p : List MemPlace} {e : TypeId} (ht : Tryd.prog.underlying 22 = some (.slice e)) (hv : Value.okWide Tryd.prog W r b0 22 v) (h : DataW.Trod enc Tryd.prog W base spare held 22 v d p) (hw : ∀ n ∈ DataW.weights Tryd.prog 22 d, n ≤ reachBytes) :
    ∃ (l : List Fd) (A : Option Addr) (n c : Nat), v = .slice A n c ∧ (RepD (g0 W) W (look []) (.v (.sl (fdV l))) (.slice A n c) ∧ InL l) := by
  obtain ⟨A, len, cap, rfl⟩ := okWide_slice ht hv
  obtain ⟨fuel, hf⟩ := h
  obtain ⟨xs, h1, h2, _⟩ := open_anyZ (R := reachBytes) 3 22 fuel _ _ (by kernel_rfl) hf hw
  obtain ⟨c, rfl, hc, hall⟩ := fitz_sl Tryd.underlying22 h1
  obtain ⟨l, rfl, hl⟩ := fields_of c hall
  have h3 := h2.2 0 _ (.slice A len cap) rfl (by simp [Value.cells])
  rw [field_bytes, fdV_len, show reachBytes = 140737488351232 from rfl] at hc
  exact ⟨l, A, len, cap, rfl, .v _ _ h3, by omega, hl⟩
theorem in_small {l : List Fd} (h : InL l) (hb : ¬ (1048576 : Int) < (byM 0 l : Nat)) : szM l ≤ 1048576 := byM_small (by omega)
/-- Are two requests the same? -/
def sameQ (a b : Rq) : Bool := (a.m == b.m) && (a.s == b.s) && (a.a == b.a) && (a.p == b.p) && decide (a.f = b.f)
theorem sameQ_iff (a b : Rq) : sameQ a b = true ↔ a = b := by
  unfold sameQ
  simp only [Bool.and_eq_true, beq_iff_eq, decide_eq_true_eq]
  exact ⟨fun h => Rq.ext' h.1.1.1.1 h.1.1.1.2 h.1.1.2 h.1.2 h.2, fun h => by subst h; simp⟩
theorem sameQ_rfl (a : Rq) : sameQ a a = true := (sameQ_iff a a).2 rfl
theorem con_sameQ {a b : Rq} (ha : a.f.length ≤ 4398046511104) (hb : b.f.length ≤ 4398046511104) : Con Tryd.prog 15 [.agg a.cs, .agg b.cs] [] 0 (.ret (.v (.bool (sameQ a b)))) [] := by
  refine con_of Tryd.func15 rfl (by show _ ≤ 38; simp) fun X Q hP hnt hnp hret hpan => ?_
  obtain ⟨P0, nt0, w0, K0, S0, np0, pin0⟩ := X
  simp only at hP hnt hnp
  subst hP hnp
  obtain rfl : nt0 = 38 := hnt
  refine aw_region fun K1 hK1 => ?_
  refine aL (z_box 0) ?_
  refine aL (z_box 1) ?_
  refine aL z_assign ?_
  refine awl_nil (hK1 _ _ ?_)
  clear hK1 K1
  refine aw_region fun K2 hK2 => ?_
  refine aL (z_fieldAddr fo_26_0) ?_
  refine aL (z_load sz_9) ?_
  refine aL (z_fieldAddr fo_26_0) ?_
  refine aL (z_load sz_9) ?_
  refine aL z_eqlS ?_
  refine aL z_move ?_
  refine gL rfl rfl (ev_tmp rfl) (fun hg => z_fieldAddr fo_26_1) ?_
  refine gL rfl rfl (ev_tmp rfl) (fun hg => z_load sz_9) ?_
  refine gL rfl rfl (ev_tmp rfl) (fun hg => z_fieldAddr fo_26_1) ?_
  refine gL rfl rfl (ev_tmp rfl) (fun hg => z_load sz_9) ?_
  refine gL rfl rfl (ev_tmp rfl) (fun hg => z_eqlS) ?_
  refine aL z_and ?_
  refine aL z_move ?_
  refine gL rfl rfl (ev_tmp rfl) (fun hg => z_fieldAddr fo_26_2) ?_
  refine gL rfl rfl (ev_tmp rfl) (fun hg => z_load sz_9) ?_
  refine gL rfl rfl (ev_tmp rfl) (fun hg => z_fieldAddr fo_26_2) ?_
  refine gL rfl rfl (ev_tmp rfl) (fun hg => z_load sz_9) ?_
  refine gL rfl rfl (ev_tmp rfl) (fun hg => z_eqlS) ?_
  refine aL z_and ?_
  refine aL z_move ?_
  refine gL rfl rfl (ev_tmp rfl) (fun hg => z_fieldAddr fo_26_3) ?_
  refine gL rfl rfl (ev_tmp rfl) (fun hg => z_load sz_9) ?_
  refine gL rfl rfl (ev_tmp rfl) (fun hg => z_fieldAddr fo_26_3) ?_
  refine gL rfl rfl (ev_tmp rfl) (fun hg => z_load sz_9) ?_
  refine gL rfl rfl (ev_tmp rfl) (fun hg => z_eqlS) ?_
  refine aL z_and ?_
  refine aL z_move ?_
  refine gL rfl rfl (ev_tmp rfl) (fun hg => z_fieldAddr fo_26_4) ?_
  refine gL rfl rfl (ev_tmp rfl) (fun hg => z_load sz_22) ?_
  refine gL rfl rfl (ev_tmp rfl) (fun hg => z_fieldAddr fo_26_4) ?_
  refine gL rfl rfl (ev_tmp rfl) (fun hg => z_load sz_22) ?_
  refine gL rfl rfl (ev_tmp rfl) (fun hg => z_call0 (eC (eC .nil)) en_16 (con_Fields ha hb)) ?_
  refine aL z_and ?_
  refine aL z_assign ?_
  refine awl_nil (hK2 _ _ ?_)
  clear hK2 K2
  refine aw_ret ?_
  refine (hret _ _ _ _ _ rfl (.tmp rfl .nil) rfl ?_ .nil rfl).1
  rfl
theorem aw1 : readE [⟨[58, 109, 101, 116, 104, 111, 100], [71, 69, 84], false⟩, ⟨[58, 115, 99, 104, 101, 109, 101], [104, 116, 116, 112, 115], false⟩, ⟨[58, 97, 117, 116, 104, 111, 114, 105, 116, 121], [65, 46, 101, 120, 97, 109, 112, 108, 101], false⟩, ⟨[58, 112, 97, 116, 104], [47, 120], false⟩, ⟨[97], [98], false⟩] = 0 ∧ (readR [⟨[58, 109, 101, 116, 104, 111, 100], [71, 69, 84], false⟩, ⟨[58, 115, 99, 104, 101, 109, 101], [104, 116, 116, 112, 115], false⟩, ⟨[58, 97, 117, 116, 104, 111, 114, 105, 116, 121], [65, 46, 101, 120, 97, 109, 112, 108, 101], false⟩, ⟨[58, 112, 97, 116, 104], [47, 120], false⟩, ⟨[97], [98], false⟩]).a = [97, 46, 101, 120, 97, 109, 112, 108, 101] ∧ (readR [⟨[58, 109, 101, 116, 104, 111, 100], [71, 69, 84], false⟩, ⟨[58, 115, 99, 104, 101, 109, 101], [104, 116, 116, 112, 115], false⟩, ⟨[58, 97, 117, 116, 104, 111, 114, 105, 116, 121], [65, 46, 101, 120, 97, 109, 112, 108, 101], false⟩, ⟨[58, 112, 97, 116, 104], [47, 120], false⟩, ⟨[97], [98], false⟩]).f.length = 1 := by decide +kernel
theorem aw2 : readE [⟨[58, 109, 101, 116, 104, 111, 100], [71, 69, 84], false⟩] = 100 := by decide +kernel
theorem con_awake : Con Tryd.prog 9 [] [] 0 (.ret (.v (.bool true))) [] := by
  obtain ⟨e1, e2, e3⟩ := aw1
  have e4 := aw2
  refine con_of Tryd.func9 rfl (by show _ ≤ 38; simp) fun X Q hP hnt hnp hret hpan => ?_
  obtain ⟨P0, nt0, w0, K0, S0, np0, pin0⟩ := X
  simp only at hP hnt hnp
  subst hP hnp
  obtain rfl : nt0 = 38 := hnt
  refine aw_region fun K1 hK1 => ?_
  refine aL z_assign ?_
  refine awl_nil (hK1 _ _ ?_)
  clear hK1 K1
  refine aw_region fun K2 hK2 => ?_
  refine aL (z_build (pC (pC .nil)) pl_34 zc_34 zl_34) ?_
  refine aL (z_build (pC (pC .nil)) pl_34 zc_34 zl_34) ?_
  refine aL (z_build (pC (pC .nil)) pl_34 zc_34 zl_34) ?_
  refine aL (z_build (pC (pC .nil)) pl_34 zc_34 zl_34) ?_
  refine aL (z_build (pC (pC .nil)) pl_34 zc_34 zl_34) ?_
  refine aL (z_lits (pC (pC (pC (pC (pC .nil))))) Tryd.underlying22 sz_34 zc_34 zl_34 (c := [[.str [58, 109, 101, 116, 104, 111, 100], .str [71, 69, 84], .bool false], [.str [58, 115, 99, 104, 101, 109, 101], .str [104, 116, 116, 112, 115], .bool false], [.str [58, 97, 117, 116, 104, 111, 114, 105, 116, 121], .str [65, 46, 101, 120, 97, 109, 112, 108, 101], .bool false], [.str [58, 112, 97, 116, 104], .str [47, 120], .bool false], [.str [97], .str [98], .bool false]])) ?_
  refine aL (z_call0 (eC .nil) en_11 (con_Read (l := [⟨[58, 109, 101, 116, 104, 111, 100], [71, 69, 84], false⟩, ⟨[58, 115, 99, 104, 101, 109, 101], [104, 116, 116, 112, 115], false⟩, ⟨[58, 97, 117, 116, 104, 111, 114, 105, 116, 121], [65, 46, 101, 120, 97, 109, 112, 108, 101], false⟩, ⟨[58, 112, 97, 116, 104], [47, 120], false⟩, ⟨[97], [98], false⟩]) (by decide))) ?_
  refine aL z_move ?_
  refine aL z_extract ?_
  refine aL z_extract ?_
  refine aL (z_alloc 0 zc_26 zl_26) ?_
  refine aL (z_store sz_26) ?_
  refine aL z_assign ?_
  refine awl_nil (hK2 _ _ ?_)
  clear hK2 K2
  refine aw_region fun K3 hK3 => ?_
  refine aL (z_build (pC (pC .nil)) pl_34 zc_34 zl_34) ?_
  refine aL (z_lits (pC .nil) Tryd.underlying22 sz_34 zc_34 zl_34 (c := [[.str [58, 109, 101, 116, 104, 111, 100], .str [71, 69, 84], .bool false]])) ?_
  refine aL (z_call0 (eC .nil) en_11 (con_Read (l := [⟨[58, 109, 101, 116, 104, 111, 100], [71, 69, 84], false⟩]) (by decide))) ?_
  refine aL z_move ?_
  refine aL z_extract ?_
  refine aL z_extract ?_
  refine aL (z_alloc 1 zc_26 zl_26) ?_
  refine aL (z_store sz_26) ?_
  refine aL z_assign ?_
  refine awl_nil (hK3 _ _ ?_)
  clear hK3 K3
  refine aw_region fun K4 hK4 => ?_
  refine aL z_move ?_
  refine aL z_eql ?_
  refine aL z_move ?_
  refine gL rfl rfl (ev_tmp rfl) (fun hg => z_fieldAddr fo_26_2) ?_
  refine gL rfl rfl (ev_tmp rfl) (fun hg => z_load sz_9) ?_
  refine gL rfl rfl (ev_tmp rfl) (fun hg => z_eqlS) ?_
  refine aL z_and ?_
  refine aL z_move ?_
  refine gL rfl rfl (ev_tmp rfl) (fun hg => z_fieldAddr fo_26_4) ?_
  refine gL rfl rfl (ev_tmp rfl) (fun hg => z_load sz_22) ?_
  refine gL rfl rfl (ev_tmp rfl) (fun hg => z_len Tryd.underlying22) ?_
  refine gL rfl rfl (ev_tmp rfl) (fun hg => z_eql) ?_
  refine aL z_and ?_
  refine aL z_move ?_
  refine gL rfl rfl (ev_tmp rfl) (fun hg => z_move) ?_
  refine gL rfl rfl (ev_tmp rfl) (fun hg => z_eql) ?_
  refine aL z_and ?_
  refine aL z_assign ?_
  refine awl_nil (hK4 _ _ ?_)
  clear hK4 K4
  refine aw_ret ?_
  refine (hret _ _ _ _ _ rfl (.tmp rfl .nil) rfl ?_ .nil rfl).1
  rw [e1, e2, fdV_len, e3, e4]; rfl
end Go.Proofs.YtipmegjhlkhklaaDoor
