/- The example. -/
import Derived.Test.YtmpgngilhhmlcaaEqAwake33
import Derived.Test.YtmpgngilhhmlcaaClosed
set_option linter.unusedVariables false
set_option linter.unusedSimpArgs false
set_option maxRecDepth 100000
namespace Go.Proofs.Ytmpgngilhhmlcaa
open Go Go.Ax

theorem awake33 : ∃ M, LL.call 8 [] [] = some (.bool true, M) := closed 40 (by kernel_rfl)

end Go.Proofs.Ytmpgngilhhmlcaa
