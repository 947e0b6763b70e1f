/- Two rows of words are the same (words of the law of layer 7); Before of the reference; rows of words (plain). -/
import Derived.Test.YtofinglgnkdflaaKTa
import Derived.Test.YtofinglgnkdflaaKXH
import Derived.BigQuiet
namespace Go.Proofs.Ytofinglgnkdflaa
open Go.RowKit
open Go.Proofs.Ytofinglgnkdflaa.PHistoryChecks Go.Proofs.YtofinglgnkdflaaW.PrintWords Go.Proofs.YtofinglgnkdflaaW.PrintLast Go.Proofs.YtofinglgnkdflaaW.PrintMore
set_option linter.unusedVariables false
set_option linter.unusedSimpArgs false
end Go.Proofs.Ytofinglgnkdflaa
