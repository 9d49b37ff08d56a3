/- Layer 6: the document's May. No condition. -/
import Derived.Test.YtigodfnckjidoaaCgQ
namespace Go.Proofs.Ytigodfnckjidoaa
set_option linter.all false
open Go Go.RowKit
theorem con_May {f : Fr} (hd : f.data.length ≤ 1000000) (hn : f.sets.length ≤ 1000000) : Con Try.prog 21 [.agg f.cs] [] 0 (.ret (.v (.bool (mayB f)))) [] :=
  con_pure fun G w us hl hA => by
    obtain ⟨u, rfl, h1⟩ := ds1 hA
    obtain ⟨A, c, rfl, hr⟩ := fr_of h1 hl
    exact (refMay f A c hd hn w hr).mono fun e w' ⟨he, hb⟩ => ⟨_, he, fun m => mk_bool _, hb⟩
end Go.Proofs.Ytigodfnckjidoaa
