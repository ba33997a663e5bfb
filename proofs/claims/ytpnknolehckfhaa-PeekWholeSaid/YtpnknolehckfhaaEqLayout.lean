/- What the pieces of some functions come to. -/
import Derived.Test.YtpnknolehckfhaaCode
set_option linter.unusedVariables false
set_option maxRecDepth 100000
namespace Go.Proofs.Ytpnknolehckfhaa
open Go Go.Ax
/-! #### layout.Right -/
theorem E36 (L : Rec) (x0_0 : Int) (x0_1 : Int) : enterF L a36 [.agg #[.int .i64 x0_0, .int .i64 x0_1]] [] =
  (if (decide (1 ≤ x0_0)) = true
    then (if (decide (x0_0 ≤ 65536)) = true
      then (if (decide (1 ≤ x0_1)) = true
        then some (.bool (decide (x0_1 ≤ 256)), ([AObj.cells [.int .i64 x0_0, .int .i64 x0_1] ⟨false, 0⟩] : AMem))
        else some (.bool false, ([AObj.cells [.int .i64 x0_0, .int .i64 x0_1] ⟨false, 0⟩] : AMem)))
      else some (.bool false, ([AObj.cells [.int .i64 x0_0, .int .i64 x0_1] ⟨false, 0⟩] : AMem)))
    else some (.bool false, ([AObj.cells [.int .i64 x0_0, .int .i64 x0_1] ⟨false, 0⟩] : AMem))) := by kernel_rfl
/-! #### layout.Layout.begins -/
noncomputable def k53_25 (L : Rec) : KT := retK [.tmp 4]
def s53_25 (m0_0 : Int) (m0_1 : Int) : List Value := [junk, junk, .pointer (some ⟨0, 0, none⟩), junk, junk, junk, junk, junk, junk, junk, junk, junk, junk, junk, junk, junk, junk, junk, junk]
theorem XP53_25 : ∃ P : Rec → Int → Int → Res, P = fun (L : Rec) (m0_0 : Int) (m0_1 : Int) => code L c53_25 (k53_25 L) (s53_25 m0_0 m0_1) ([AObj.cells [.int .i64 m0_0, .int .i64 m0_1] ⟨false, 0⟩] : AMem) := ⟨_, rfl⟩
noncomputable def P53_25 : Rec → Int → Int → Res := Classical.choose XP53_25
theorem QP53_25_eq (L : Rec) (P53_25 : Rec → Int → Int → Res) (hP53_25 : Eq P53_25 fun L m0_0 m0_1 => code L (.seq (.ops o53_26) (.ret)) (retK [.tmp 4]) (s53_25 m0_0 m0_1) ([AObj.cells [.int .i64 m0_0, .int .i64 m0_1] ⟨false, 0⟩] : AMem)) (m0_0 : Int) (m0_1 : Int) : P53_25 L m0_0 m0_1 =
  some (.int .i64 (IntKind.wrap .i64 (1 + (IntKind.wrap .i64 (2 * m0_1)))), ([AObj.cells [.int .i64 m0_0, .int .i64 m0_1] ⟨false, 0⟩] : AMem)) := by
  subst hP53_25; kernel_rfl
theorem P53_25_eq (L : Rec) (m0_0 : Int) (m0_1 : Int) : P53_25 L m0_0 m0_1 =
  some (.int .i64 (IntKind.wrap .i64 (1 + (IntKind.wrap .i64 (2 * m0_1)))), ([AObj.cells [.int .i64 m0_0, .int .i64 m0_1] ⟨false, 0⟩] : AMem)) := QP53_25_eq L P53_25 (Classical.choose_spec XP53_25) m0_0 m0_1
theorem QE53 (L : Rec) (c53_25 : ACode) (P53_25 : Rec → Int → Int → Res) (hP53_25 : Eq P53_25 fun L m0_0 m0_1 => code L c53_25 (retK [.tmp 4]) (s53_25 m0_0 m0_1) ([AObj.cells [.int .i64 m0_0, .int .i64 m0_1] ⟨false, 0⟩] : AMem)) (x0_0 : Int) (x0_1 : Int) (x1 : Int) : enterF L ⟨19, [.tmp 4], .seq (.ops o53_1) (.seq (.seq (.ops o53_4) (.block 0 (.seq (.ops o53_7) (.cond (.tmp 6) (.seq (.ops o53_10) (.ret)) (.seq (.ops o53_13) (.cond (.tmp 8) (.seq (.ops o53_16) (.ret)) (.seq (.ops o53_19) (.cond (.tmp 10) (.seq (.ops o53_22) (.ret)) (.skip))))))))) (.clear zl67 c53_25))⟩ [.agg #[.int .i64 x0_0, .int .i64 x0_1], .int .i64 x1] [] =
  (if (x1 == 1) = true
    then some (.int .i64 0, ([AObj.cells [.int .i64 x0_0, .int .i64 x0_1] ⟨false, 0⟩] : AMem))
    else (if (x1 == 2) = true
      then some (.int .i64 1, ([AObj.cells [.int .i64 x0_0, .int .i64 x0_1] ⟨false, 0⟩] : AMem))
      else (if (x1 == 3) = true
        then some (.int .i64 (IntKind.wrap .i64 (1 + x0_1)), ([AObj.cells [.int .i64 x0_0, .int .i64 x0_1] ⟨false, 0⟩] : AMem))
        else P53_25 L x0_0 x0_1))) := by
  subst hP53_25; kernel_rfl
theorem E53 (L : Rec) (x0_0 : Int) (x0_1 : Int) (x1 : Int) : enterF L a53 [.agg #[.int .i64 x0_0, .int .i64 x0_1], .int .i64 x1] [] =
  (if (x1 == 1) = true
    then some (.int .i64 0, ([AObj.cells [.int .i64 x0_0, .int .i64 x0_1] ⟨false, 0⟩] : AMem))
    else (if (x1 == 2) = true
      then some (.int .i64 1, ([AObj.cells [.int .i64 x0_0, .int .i64 x0_1] ⟨false, 0⟩] : AMem))
      else (if (x1 == 3) = true
        then some (.int .i64 (IntKind.wrap .i64 (1 + x0_1)), ([AObj.cells [.int .i64 x0_0, .int .i64 x0_1] ⟨false, 0⟩] : AMem))
        else P53_25 L x0_0 x0_1))) := QE53 L c53_25 P53_25 (Classical.choose_spec XP53_25) x0_0 x0_1 x1
/-! #### layout.Size -/
theorem E35 (L : Rec) (x0_0 : Int) (x0_1 : Int) : enterF L a35 [.agg #[.int .i64 x0_0, .int .i64 x0_1]] [] =
  (Option.bind (L.call 36 [.agg #[.int .i64 x0_0, .int .i64 x0_1]] []) fun r_1 =>
    (Option.bind (boolOf? (some r_1.1)) fun q_2 =>
    (if (!q_2) = true
    then some (.int .i64 0, ([AObj.cells [.int .i64 x0_0, .int .i64 x0_1] ⟨false, 0⟩] : AMem))
    else (Option.bind (L.call 53 [.agg #[.int .i64 x0_0, .int .i64 x0_1], .int .i64 4] []) fun r_3 =>
      (Option.bind (intOf? .i64 (some r_3.1)) fun x_4 =>
      some (.int .i64 (IntKind.wrap .i64 (x_4 + (IntKind.wrap .i64 (3 * x0_0)))), ([AObj.cells [.int .i64 x0_0, .int .i64 x0_1] ⟨false, 0⟩] : AMem))))))) := by kernel_rfl
/-! #### layout.Layout.place -/
theorem E54 (L : Rec) (x0_0 : Int) (x0_1 : Int) (x1 : Int) (x2 : Int) (x3 : Int) : enterF L a54 [.agg #[.int .i64 x0_0, .int .i64 x0_1], .int .i64 x1, .int .i64 x2, .int .i64 x3] [] =
  (Option.bind (L.call 36 [.agg #[.int .i64 x0_0, .int .i64 x0_1]] []) fun r_1 =>
    (Option.bind (boolOf? (some r_1.1)) fun q_2 =>
    (if (!q_2) = true
    then some (.int .i64 (-1), ([AObj.cells [.int .i64 x0_0, .int .i64 x0_1] ⟨false, 0⟩] : AMem))
    else (if (decide (x2 < 0)) = true
      then some (.int .i64 (-1), ([AObj.cells [.int .i64 x0_0, .int .i64 x0_1] ⟨false, 0⟩] : AMem))
      else (if (decide (x2 ≥ x3)) = true
        then some (.int .i64 (-1), ([AObj.cells [.int .i64 x0_0, .int .i64 x0_1] ⟨false, 0⟩] : AMem))
        else (Option.bind (L.call 53 [.agg #[.int .i64 x0_0, .int .i64 x0_1], .int .i64 x1] []) fun r_3 =>
          (Option.bind (intOf? .i64 (some r_3.1)) fun x_4 =>
          some (.int .i64 (IntKind.wrap .i64 (x_4 + x2)), ([AObj.cells [.int .i64 x0_0, .int .i64 x0_1] ⟨false, 0⟩] : AMem))))))))) := by kernel_rfl
/-! #### layout.Begun -/
theorem E37 (L : Rec) (x0_0 : Int) (x0_1 : Int) (x1 : Int) : enterF L a37 [.agg #[.int .i64 x0_0, .int .i64 x0_1], .int .i64 x1] [] =
  (Option.bind (L.call 54 [.agg #[.int .i64 x0_0, .int .i64 x0_1], .int .i64 2, .int .i64 x1, .int .i64 x0_1] []) fun r_1 =>
    (Option.bind (intOf? .i64 (some r_1.1)) fun x_2 =>
    some (.int .i64 x_2, ([AObj.cells [.int .i64 x0_0, .int .i64 x0_1] ⟨false, 0⟩] : AMem)))) := by kernel_rfl
/-! #### layout.Ended -/
theorem E57 (L : Rec) (x0_0 : Int) (x0_1 : Int) (x1 : Int) : enterF L a57 [.agg #[.int .i64 x0_0, .int .i64 x0_1], .int .i64 x1] [] =
  (Option.bind (L.call 54 [.agg #[.int .i64 x0_0, .int .i64 x0_1], .int .i64 3, .int .i64 x1, .int .i64 x0_1] []) fun r_1 =>
    (Option.bind (intOf? .i64 (some r_1.1)) fun x_2 =>
    some (.int .i64 x_2, ([AObj.cells [.int .i64 x0_0, .int .i64 x0_1] ⟨false, 0⟩] : AMem)))) := by kernel_rfl
/-! #### layout.Channel -/
theorem E56 (L : Rec) (x0_0 : Int) (x0_1 : Int) (x1 : Int) (x2 : Int) : enterF L a56 [.agg #[.int .i64 x0_0, .int .i64 x0_1], .int .i64 x1, .int .i64 x2] [] =
  (if (decide (x2 < 0)) = true
    then some (.int .i64 (-1), ([AObj.cells [.int .i64 x0_0, .int .i64 x0_1] ⟨false, 0⟩] : AMem))
    else (if (decide (x2 ≥ 3)) = true
      then some (.int .i64 (-1), ([AObj.cells [.int .i64 x0_0, .int .i64 x0_1] ⟨false, 0⟩] : AMem))
      else (if (decide (x1 < 0)) = true
        then some (.int .i64 (-1), ([AObj.cells [.int .i64 x0_0, .int .i64 x0_1] ⟨false, 0⟩] : AMem))
        else (if (decide (x1 ≥ x0_0)) = true
          then some (.int .i64 (-1), ([AObj.cells [.int .i64 x0_0, .int .i64 x0_1] ⟨false, 0⟩] : AMem))
          else (Option.bind (L.call 54 [.agg #[.int .i64 x0_0, .int .i64 x0_1], .int .i64 4, .int .i64 (IntKind.wrap .i64 ((IntKind.wrap .i64 (3 * x1)) + x2)), .int .i64 (IntKind.wrap .i64 (3 * x0_0))] []) fun r_1 =>
            (Option.bind (intOf? .i64 (some r_1.1)) fun x_2 =>
            some (.int .i64 x_2, ([AObj.cells [.int .i64 x0_0, .int .i64 x0_1] ⟨false, 0⟩] : AMem)))))))) := by kernel_rfl
/-! #### layout.Stripe -/
theorem E38 (L : Rec) (x0_0 : Int) (x0_1 : Int) (x1 : Int) : enterF L a38 [.agg #[.int .i64 x0_0, .int .i64 x0_1], .int .i64 x1] [] =
  (Option.bind (L.call 36 [.agg #[.int .i64 x0_0, .int .i64 x0_1]] []) fun r_1 =>
    (Option.bind (boolOf? (some r_1.1)) fun q_2 =>
    (if (!q_2) = true
    then some (.int .i64 (-1), ([AObj.cells [.int .i64 x0_0, .int .i64 x0_1] ⟨false, 0⟩] : AMem))
    else (if (decide (x1 < 0)) = true
      then some (.int .i64 (-1), ([AObj.cells [.int .i64 x0_0, .int .i64 x0_1] ⟨false, 0⟩] : AMem))
      else (if (decide (x1 ≥ x0_0)) = true
        then some (.int .i64 (-1), ([AObj.cells [.int .i64 x0_0, .int .i64 x0_1] ⟨false, 0⟩] : AMem))
        else (if x0_1 = 0
          then none
          else some (.int .i64 (Int.tmod x1 x0_1), ([AObj.cells [.int .i64 x0_0, .int .i64 x0_1] ⟨false, 0⟩] : AMem)))))))) := by kernel_rfl
/-! #### skylightref31.Right -/
theorem E6 (L : Rec) (x0_0 : Int) (x0_1 : Int) : enterF L a6 [.agg #[.int .i64 x0_0, .int .i64 x0_1]] [] =
  (if (decide (x0_0 ≥ 1)) = true
    then (if (decide (x0_0 ≤ 65536)) = true
      then (if (decide (x0_1 ≥ 1)) = true
        then some (.bool (decide (x0_1 ≤ 256)), ([AObj.cells [.int .i64 x0_0, .int .i64 x0_1] ⟨false, 0⟩] : AMem))
        else some (.bool false, ([AObj.cells [.int .i64 x0_0, .int .i64 x0_1] ⟨false, 0⟩] : AMem)))
      else some (.bool false, ([AObj.cells [.int .i64 x0_0, .int .i64 x0_1] ⟨false, 0⟩] : AMem)))
    else some (.bool false, ([AObj.cells [.int .i64 x0_0, .int .i64 x0_1] ⟨false, 0⟩] : AMem))) := by kernel_rfl
end Go.Proofs.Ytpnknolehckfhaa
