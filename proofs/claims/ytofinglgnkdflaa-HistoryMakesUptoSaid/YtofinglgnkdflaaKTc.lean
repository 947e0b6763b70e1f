/- Layer 7: history.Preds. -/
import Derived.Test.YtofinglgnkdflaaKTb
import Derived.Test.YtofinglgnkdflaaKXG
namespace Go.Proofs.Ytofinglgnkdflaa
open Go.RowKit
open Go.Proofs.Ytofinglgnkdflaa.PHistoryChecks Go.Proofs.YtofinglgnkdflaaW.PrintWords Go.Proofs.YtofinglgnkdflaaW.PrintLast Go.Proofs.YtofinglgnkdflaaW.PrintMore
set_option linter.unusedVariables false
set_option linter.unusedSimpArgs false
theorem box_cells {w : World} {b : Nat} {P : PastL} {a1 : Option Addr} {c1 : Nat} {a2 : Option Addr} {c2 : Nat} {a3 : Option Addr} {c3 : Nat} (h : w.heap[b]? = some (.cells #[.slice a1 P.pr.length c1, .slice a2 P.ob.length c2, .slice a3 P.cl.length c3] 30 (0, 0))) :
    w.cell? ⟨b, 0, none⟩ = some (.slice a1 P.pr.length c1) ∧ w.cell? ⟨b, 1, none⟩ = some (.slice a2 P.ob.length c2) ∧ w.cell? ⟨b, 2, none⟩ = some (.slice a3 P.cl.length c3) :=
  ⟨(blk_cell h 0).trans rfl, (blk_cell h 1).trans rfl, (blk_cell h 2).trans rfl⟩
end Go.Proofs.Ytofinglgnkdflaa
