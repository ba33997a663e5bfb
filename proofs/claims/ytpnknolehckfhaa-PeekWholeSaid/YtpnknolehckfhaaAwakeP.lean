/- The example. -/
import Derived.Test.YtpnknolehckfhaaEqAwake34
import Derived.Test.YtpnknolehckfhaaClosed
set_option linter.unusedVariables false
set_option linter.unusedSimpArgs false
set_option maxRecDepth 100000
namespace Go.Proofs.Ytpnknolehckfhaa
open Go Go.Ax

theorem awake34 : ∃ M, LL.call 8 [] [] = some (.bool true, M) := closed 40 (by kernel_rfl)

end Go.Proofs.Ytpnknolehckfhaa
