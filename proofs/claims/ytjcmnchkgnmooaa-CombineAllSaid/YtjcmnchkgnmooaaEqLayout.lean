/- What the pieces of some functions come to. -/
import Derived.Test.YtjcmnchkgnmooaaCode
set_option linter.unusedVariables false
set_option maxRecDepth 100000
namespace Go.Proofs.Ytjcmnchkgnmooaa
open Go Go.Ax
/-! #### layout.Right -/
theorem E12 (L : Rec) (x0_0 : Int) (x0_1 : Int) : enterF L a12 [.agg #[.int .i64 x0_0, .int .i64 x0_1]] [] =
  (if (decide (1 ≤ x0_0)) = true
    then (if (decide (x0_0 ≤ 65536)) = true
      then (if (decide (1 ≤ x0_1)) = true
        then some (.bool (decide (x0_1 ≤ 256)), ([AObj.cells [.int .i64 x0_0, .int .i64 x0_1] ⟨false, 0⟩] : AMem))
        else some (.bool false, ([AObj.cells [.int .i64 x0_0, .int .i64 x0_1] ⟨false, 0⟩] : AMem)))
      else some (.bool false, ([AObj.cells [.int .i64 x0_0, .int .i64 x0_1] ⟨false, 0⟩] : AMem)))
    else some (.bool false, ([AObj.cells [.int .i64 x0_0, .int .i64 x0_1] ⟨false, 0⟩] : AMem))) := by kernel_rfl
/-! #### layout.Stripe -/
theorem E14 (L : Rec) (x0_0 : Int) (x0_1 : Int) (x1 : Int) : enterF L a14 [.agg #[.int .i64 x0_0, .int .i64 x0_1], .int .i64 x1] [] =
  (Option.bind (L.call 12 [.agg #[.int .i64 x0_0, .int .i64 x0_1]] []) fun r_1 =>
    (Option.bind (boolOf? (some r_1.1)) fun q_2 =>
    (if (!q_2) = true
    then some (.int .i64 (-1), ([AObj.cells [.int .i64 x0_0, .int .i64 x0_1] ⟨false, 0⟩] : AMem))
    else (if (decide (x1 < 0)) = true
      then some (.int .i64 (-1), ([AObj.cells [.int .i64 x0_0, .int .i64 x0_1] ⟨false, 0⟩] : AMem))
      else (if (decide (x1 ≥ x0_0)) = true
        then some (.int .i64 (-1), ([AObj.cells [.int .i64 x0_0, .int .i64 x0_1] ⟨false, 0⟩] : AMem))
        else (if x0_1 = 0
          then none
          else some (.int .i64 (Int.tmod x1 x0_1), ([AObj.cells [.int .i64 x0_0, .int .i64 x0_1] ⟨false, 0⟩] : AMem)))))))) := by kernel_rfl
/-! #### skylightref31.Right -/
theorem E4 (L : Rec) (x0_0 : Int) (x0_1 : Int) : enterF L a4 [.agg #[.int .i64 x0_0, .int .i64 x0_1]] [] =
  (if (decide (x0_0 ≥ 1)) = true
    then (if (decide (x0_0 ≤ 65536)) = true
      then (if (decide (x0_1 ≥ 1)) = true
        then some (.bool (decide (x0_1 ≤ 256)), ([AObj.cells [.int .i64 x0_0, .int .i64 x0_1] ⟨false, 0⟩] : AMem))
        else some (.bool false, ([AObj.cells [.int .i64 x0_0, .int .i64 x0_1] ⟨false, 0⟩] : AMem)))
      else some (.bool false, ([AObj.cells [.int .i64 x0_0, .int .i64 x0_1] ⟨false, 0⟩] : AMem)))
    else some (.bool false, ([AObj.cells [.int .i64 x0_0, .int .i64 x0_1] ⟨false, 0⟩] : AMem))) := by kernel_rfl
end Go.Proofs.Ytjcmnchkgnmooaa
