/- What the pieces of some functions come to. -/
import Derived.Test.YtmpgngilhhmlcaaCode
set_option linter.unusedVariables false
set_option maxRecDepth 100000
namespace Go.Proofs.Ytmpgngilhhmlcaa
open Go Go.Ax
/-! #### layout.Right -/
theorem E39 (L : Rec) (x0_0 : Int) (x0_1 : Int) : enterF L a39 [.agg #[.int .i64 x0_0, .int .i64 x0_1]] [] =
  (if (decide (1 ≤ x0_0)) = true
    then (if (decide (x0_0 ≤ 65536)) = true
      then (if (decide (1 ≤ x0_1)) = true
        then some (.bool (decide (x0_1 ≤ 256)), ([AObj.cells [.int .i64 x0_0, .int .i64 x0_1] ⟨false, 0⟩] : AMem))
        else some (.bool false, ([AObj.cells [.int .i64 x0_0, .int .i64 x0_1] ⟨false, 0⟩] : AMem)))
      else some (.bool false, ([AObj.cells [.int .i64 x0_0, .int .i64 x0_1] ⟨false, 0⟩] : AMem)))
    else some (.bool false, ([AObj.cells [.int .i64 x0_0, .int .i64 x0_1] ⟨false, 0⟩] : AMem))) := by kernel_rfl
/-! #### layout.Layout.begins -/
noncomputable def k40_25 (L : Rec) : KT := retK [.tmp 4]
def s40_25 (m0_0 : Int) (m0_1 : Int) : List Value := [junk, junk, .pointer (some ⟨0, 0, none⟩), junk, junk, junk, junk, junk, junk, junk, junk, junk, junk, junk, junk, junk, junk, junk, junk]
theorem XP40_25 : ∃ P : Rec → Int → Int → Res, P = fun (L : Rec) (m0_0 : Int) (m0_1 : Int) => code L c40_25 (k40_25 L) (s40_25 m0_0 m0_1) ([AObj.cells [.int .i64 m0_0, .int .i64 m0_1] ⟨false, 0⟩] : AMem) := ⟨_, rfl⟩
noncomputable def P40_25 : Rec → Int → Int → Res := Classical.choose XP40_25
theorem QP40_25_eq (L : Rec) (P40_25 : Rec → Int → Int → Res) (hP40_25 : P40_25 = fun (L : Rec) (m0_0 : Int) (m0_1 : Int) => code L (.seq (.ops o40_26) (.ret)) (retK [.tmp 4]) (s40_25 m0_0 m0_1) ([AObj.cells [.int .i64 m0_0, .int .i64 m0_1] ⟨false, 0⟩] : AMem)) (m0_0 : Int) (m0_1 : Int) : P40_25 L m0_0 m0_1 =
  some (.int .i64 (IntKind.wrap .i64 (1 + (IntKind.wrap .i64 (2 * m0_1)))), ([AObj.cells [.int .i64 m0_0, .int .i64 m0_1] ⟨false, 0⟩] : AMem)) := by
  subst hP40_25; kernel_rfl
theorem P40_25_eq (L : Rec) (m0_0 : Int) (m0_1 : Int) : P40_25 L m0_0 m0_1 =
  some (.int .i64 (IntKind.wrap .i64 (1 + (IntKind.wrap .i64 (2 * m0_1)))), ([AObj.cells [.int .i64 m0_0, .int .i64 m0_1] ⟨false, 0⟩] : AMem)) := QP40_25_eq L P40_25 (Classical.choose_spec XP40_25) m0_0 m0_1
theorem QE40 (L : Rec) (c40_25 : ACode) (P40_25 : Rec → Int → Int → Res) (hP40_25 : P40_25 = fun (L : Rec) (m0_0 : Int) (m0_1 : Int) => code L c40_25 (retK [.tmp 4]) (s40_25 m0_0 m0_1) ([AObj.cells [.int .i64 m0_0, .int .i64 m0_1] ⟨false, 0⟩] : AMem)) (x0_0 : Int) (x0_1 : Int) (x1 : Int) : enterF L ⟨19, [.tmp 4], .seq (.ops o40_1) (.seq (.seq (.ops o40_4) (.block 0 (.seq (.ops o40_7) (.cond (.tmp 6) (.seq (.ops o40_10) (.ret)) (.seq (.ops o40_13) (.cond (.tmp 8) (.seq (.ops o40_16) (.ret)) (.seq (.ops o40_19) (.cond (.tmp 10) (.seq (.ops o40_22) (.ret)) (.skip))))))))) (.clear zl48 c40_25))⟩ [.agg #[.int .i64 x0_0, .int .i64 x0_1], .int .i64 x1] [] =
  (if (x1 == 1) = true
    then some (.int .i64 0, ([AObj.cells [.int .i64 x0_0, .int .i64 x0_1] ⟨false, 0⟩] : AMem))
    else (if (x1 == 2) = true
      then some (.int .i64 1, ([AObj.cells [.int .i64 x0_0, .int .i64 x0_1] ⟨false, 0⟩] : AMem))
      else (if (x1 == 3) = true
        then some (.int .i64 (IntKind.wrap .i64 (1 + x0_1)), ([AObj.cells [.int .i64 x0_0, .int .i64 x0_1] ⟨false, 0⟩] : AMem))
        else P40_25 L x0_0 x0_1))) := by
  subst hP40_25; kernel_rfl
theorem E40 (L : Rec) (x0_0 : Int) (x0_1 : Int) (x1 : Int) : enterF L a40 [.agg #[.int .i64 x0_0, .int .i64 x0_1], .int .i64 x1] [] =
  (if (x1 == 1) = true
    then some (.int .i64 0, ([AObj.cells [.int .i64 x0_0, .int .i64 x0_1] ⟨false, 0⟩] : AMem))
    else (if (x1 == 2) = true
      then some (.int .i64 1, ([AObj.cells [.int .i64 x0_0, .int .i64 x0_1] ⟨false, 0⟩] : AMem))
      else (if (x1 == 3) = true
        then some (.int .i64 (IntKind.wrap .i64 (1 + x0_1)), ([AObj.cells [.int .i64 x0_0, .int .i64 x0_1] ⟨false, 0⟩] : AMem))
        else P40_25 L x0_0 x0_1))) := QE40 L c40_25 P40_25 (Classical.choose_spec XP40_25) x0_0 x0_1 x1
/-! #### layout.Size -/
theorem E28 (L : Rec) (x0_0 : Int) (x0_1 : Int) : enterF L a28 [.agg #[.int .i64 x0_0, .int .i64 x0_1]] [] =
  (Option.bind (L.call 39 [.agg #[.int .i64 x0_0, .int .i64 x0_1]] []) fun r_1 =>
    (Option.bind (boolOf? (some r_1.1)) fun q_2 =>
    (if (!q_2) = true
    then some (.int .i64 0, ([AObj.cells [.int .i64 x0_0, .int .i64 x0_1] ⟨false, 0⟩] : AMem))
    else (Option.bind (L.call 40 [.agg #[.int .i64 x0_0, .int .i64 x0_1], .int .i64 4] []) fun r_3 =>
      (Option.bind (intOf? .i64 (some r_3.1)) fun x_4 =>
      some (.int .i64 (IntKind.wrap .i64 (x_4 + (IntKind.wrap .i64 (3 * x0_0)))), ([AObj.cells [.int .i64 x0_0, .int .i64 x0_1] ⟨false, 0⟩] : AMem))))))) := by kernel_rfl
/-! #### layout.Layout.place -/
theorem E42 (L : Rec) (x0_0 : Int) (x0_1 : Int) (x1 : Int) (x2 : Int) (x3 : Int) : enterF L a42 [.agg #[.int .i64 x0_0, .int .i64 x0_1], .int .i64 x1, .int .i64 x2, .int .i64 x3] [] =
  (Option.bind (L.call 39 [.agg #[.int .i64 x0_0, .int .i64 x0_1]] []) fun r_1 =>
    (Option.bind (boolOf? (some r_1.1)) fun q_2 =>
    (if (!q_2) = true
    then some (.int .i64 (-1), ([AObj.cells [.int .i64 x0_0, .int .i64 x0_1] ⟨false, 0⟩] : AMem))
    else (if (decide (x2 < 0)) = true
      then some (.int .i64 (-1), ([AObj.cells [.int .i64 x0_0, .int .i64 x0_1] ⟨false, 0⟩] : AMem))
      else (if (decide (x2 ≥ x3)) = true
        then some (.int .i64 (-1), ([AObj.cells [.int .i64 x0_0, .int .i64 x0_1] ⟨false, 0⟩] : AMem))
        else (Option.bind (L.call 40 [.agg #[.int .i64 x0_0, .int .i64 x0_1], .int .i64 x1] []) fun r_3 =>
          (Option.bind (intOf? .i64 (some r_3.1)) fun x_4 =>
          some (.int .i64 (IntKind.wrap .i64 (x_4 + x2)), ([AObj.cells [.int .i64 x0_0, .int .i64 x0_1] ⟨false, 0⟩] : AMem))))))))) := by kernel_rfl
/-! #### layout.Begun -/
theorem E34 (L : Rec) (x0_0 : Int) (x0_1 : Int) (x1 : Int) : enterF L a34 [.agg #[.int .i64 x0_0, .int .i64 x0_1], .int .i64 x1] [] =
  (Option.bind (L.call 42 [.agg #[.int .i64 x0_0, .int .i64 x0_1], .int .i64 2, .int .i64 x1, .int .i64 x0_1] []) fun r_1 =>
    (Option.bind (intOf? .i64 (some r_1.1)) fun x_2 =>
    some (.int .i64 x_2, ([AObj.cells [.int .i64 x0_0, .int .i64 x0_1] ⟨false, 0⟩] : AMem)))) := by kernel_rfl
/-! #### layout.Ended -/
theorem E45 (L : Rec) (x0_0 : Int) (x0_1 : Int) (x1 : Int) : enterF L a45 [.agg #[.int .i64 x0_0, .int .i64 x0_1], .int .i64 x1] [] =
  (Option.bind (L.call 42 [.agg #[.int .i64 x0_0, .int .i64 x0_1], .int .i64 3, .int .i64 x1, .int .i64 x0_1] []) fun r_1 =>
    (Option.bind (intOf? .i64 (some r_1.1)) fun x_2 =>
    some (.int .i64 x_2, ([AObj.cells [.int .i64 x0_0, .int .i64 x0_1] ⟨false, 0⟩] : AMem)))) := by kernel_rfl
/-! #### layout.Channel -/
theorem E30 (L : Rec) (x0_0 : Int) (x0_1 : Int) (x1 : Int) (x2 : Int) : enterF L a30 [.agg #[.int .i64 x0_0, .int .i64 x0_1], .int .i64 x1, .int .i64 x2] [] =
  (if (decide (x2 < 0)) = true
    then some (.int .i64 (-1), ([AObj.cells [.int .i64 x0_0, .int .i64 x0_1] ⟨false, 0⟩] : AMem))
    else (if (decide (x2 ≥ 3)) = true
      then some (.int .i64 (-1), ([AObj.cells [.int .i64 x0_0, .int .i64 x0_1] ⟨false, 0⟩] : AMem))
      else (if (decide (x1 < 0)) = true
        then some (.int .i64 (-1), ([AObj.cells [.int .i64 x0_0, .int .i64 x0_1] ⟨false, 0⟩] : AMem))
        else (if (decide (x1 ≥ x0_0)) = true
          then some (.int .i64 (-1), ([AObj.cells [.int .i64 x0_0, .int .i64 x0_1] ⟨false, 0⟩] : AMem))
          else (Option.bind (L.call 42 [.agg #[.int .i64 x0_0, .int .i64 x0_1], .int .i64 4, .int .i64 (IntKind.wrap .i64 ((IntKind.wrap .i64 (3 * x1)) + x2)), .int .i64 (IntKind.wrap .i64 (3 * x0_0))] []) fun r_1 =>
            (Option.bind (intOf? .i64 (some r_1.1)) fun x_2 =>
            some (.int .i64 x_2, ([AObj.cells [.int .i64 x0_0, .int .i64 x0_1] ⟨false, 0⟩] : AMem)))))))) := by kernel_rfl
/-! #### layout.Stripe -/
theorem E35 (L : Rec) (x0_0 : Int) (x0_1 : Int) (x1 : Int) : enterF L a35 [.agg #[.int .i64 x0_0, .int .i64 x0_1], .int .i64 x1] [] =
  (Option.bind (L.call 39 [.agg #[.int .i64 x0_0, .int .i64 x0_1]] []) fun r_1 =>
    (Option.bind (boolOf? (some r_1.1)) fun q_2 =>
    (if (!q_2) = true
    then some (.int .i64 (-1), ([AObj.cells [.int .i64 x0_0, .int .i64 x0_1] ⟨false, 0⟩] : AMem))
    else (if (decide (x1 < 0)) = true
      then some (.int .i64 (-1), ([AObj.cells [.int .i64 x0_0, .int .i64 x0_1] ⟨false, 0⟩] : AMem))
      else (if (decide (x1 ≥ x0_0)) = true
        then some (.int .i64 (-1), ([AObj.cells [.int .i64 x0_0, .int .i64 x0_1] ⟨false, 0⟩] : AMem))
        else (if x0_1 = 0
          then none
          else some (.int .i64 (Int.tmod x1 x0_1), ([AObj.cells [.int .i64 x0_0, .int .i64 x0_1] ⟨false, 0⟩] : AMem)))))))) := by kernel_rfl
/-! #### skylightref31.Right -/
theorem E6 (L : Rec) (x0_0 : Int) (x0_1 : Int) : enterF L a6 [.agg #[.int .i64 x0_0, .int .i64 x0_1]] [] =
  (if (decide (x0_0 ≥ 1)) = true
    then (if (decide (x0_0 ≤ 65536)) = true
      then (if (decide (x0_1 ≥ 1)) = true
        then some (.bool (decide (x0_1 ≤ 256)), ([AObj.cells [.int .i64 x0_0, .int .i64 x0_1] ⟨false, 0⟩] : AMem))
        else some (.bool false, ([AObj.cells [.int .i64 x0_0, .int .i64 x0_1] ⟨false, 0⟩] : AMem)))
      else some (.bool false, ([AObj.cells [.int .i64 x0_0, .int .i64 x0_1] ⟨false, 0⟩] : AMem)))
    else some (.bool false, ([AObj.cells [.int .i64 x0_0, .int .i64 x0_1] ⟨false, 0⟩] : AMem))) := by kernel_rfl
end Go.Proofs.Ytmpgngilhhmlcaa
