/- The reference of layer 7: Events: the walk. -/
import Derived.Test.YtofinglgnkdflaaKQr
import Derived.Test.YtofinglgnkdflaaKQm
namespace Go.Proofs.Ytofinglgnkdflaa
open Go.RowKit
open Go.Proofs.Ytofinglgnkdflaa.PHistoryChecks Go.Proofs.YtofinglgnkdflaaW.PrintWords Go.Proofs.YtofinglgnkdflaaW.PrintLast Go.Proofs.YtofinglgnkdflaaW.PrintMore
set_option linter.unusedVariables false
set_option linter.unusedSimpArgs false
theorem EvS.below {P : PastL} {x : S50} {A7 : Option Addr} {c7 : Nat} {A14 : Option Addr} {c14 c1 c2 c3 b b6 : Nat} {pd od ad : Addr} {w w2 : World} (h : EvS P x A7 c7 A14 c14 c1 c2 c3 b b6 pd od ad w) (hb : Below w.heap.size w w2) : EvS P x A7 c7 A14 c14 c1 c2 c3 b b6 pd od ad w2 :=
  ⟨(hb.block _ (blk_lt h.hb)).trans h.hb, (hb.block _ (blk_lt h.hc)).trans h.hc, pw_cell_below hb h.p, pw_cell_below hb h.o⟩
end Go.Proofs.Ytofinglgnkdflaa
