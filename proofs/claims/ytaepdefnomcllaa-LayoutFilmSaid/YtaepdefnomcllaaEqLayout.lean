/- What the pieces of some functions come to. -/
import Derived.Test.YtaepdefnomcllaaCode
set_option linter.unusedVariables false
set_option maxRecDepth 100000
namespace Go.Proofs.Ytaepdefnomcllaa
open Go Go.Ax
/-! #### layout.Right -/
theorem GE15 (L : Rec) (x0_0 : Int) (x0_1 : Int) : enterF L ⟨21, [.tmp 2], .seq (.ops o15_1) (.seq (.ops o15_3) (.ret))⟩ [.agg #[.int .i64 x0_0, .int .i64 x0_1]] [] =
  (if (decide (1 ≤ x0_0)) = true
    then (if (decide (x0_0 ≤ 65536)) = true
      then (if (decide (1 ≤ x0_1)) = true
        then some (.bool (decide (x0_1 ≤ 256)), ([AObj.cells [.int .i64 x0_0, .int .i64 x0_1] ⟨false, 0⟩] : AMem))
        else some (.bool false, ([AObj.cells [.int .i64 x0_0, .int .i64 x0_1] ⟨false, 0⟩] : AMem)))
      else some (.bool false, ([AObj.cells [.int .i64 x0_0, .int .i64 x0_1] ⟨false, 0⟩] : AMem)))
    else some (.bool false, ([AObj.cells [.int .i64 x0_0, .int .i64 x0_1] ⟨false, 0⟩] : AMem))) := by kernel_rfl
theorem E15 (L : Rec) (x0_0 : Int) (x0_1 : Int) : enterF L a15 [.agg #[.int .i64 x0_0, .int .i64 x0_1]] [] =
  (if (decide (1 ≤ x0_0)) = true
    then (if (decide (x0_0 ≤ 65536)) = true
      then (if (decide (1 ≤ x0_1)) = true
        then some (.bool (decide (x0_1 ≤ 256)), ([AObj.cells [.int .i64 x0_0, .int .i64 x0_1] ⟨false, 0⟩] : AMem))
        else some (.bool false, ([AObj.cells [.int .i64 x0_0, .int .i64 x0_1] ⟨false, 0⟩] : AMem)))
      else some (.bool false, ([AObj.cells [.int .i64 x0_0, .int .i64 x0_1] ⟨false, 0⟩] : AMem)))
    else some (.bool false, ([AObj.cells [.int .i64 x0_0, .int .i64 x0_1] ⟨false, 0⟩] : AMem))) := Eq.mp (by kernel_rfl) (GE15 L  x0_0 x0_1)
/-! #### layout.Layout.begins -/
noncomputable def k49_25 (L : Rec) : KT := retK [.tmp 4]
def s49_25 (m0_0 : Int) (m0_1 : Int) : List Value := [junk, junk, .pointer (some ⟨0, 0, none⟩), junk, junk, junk, junk, junk, junk, junk, junk, junk, junk, junk, junk, junk, junk, junk, junk]
theorem XP49_25 : ∃ P : Rec → Int → Int → Res, P = fun (L : Rec) (m0_0 : Int) (m0_1 : Int) => code L c49_25 (k49_25 L) (s49_25 m0_0 m0_1) ([AObj.cells [.int .i64 m0_0, .int .i64 m0_1] ⟨false, 0⟩] : AMem) := ⟨_, rfl⟩
noncomputable def P49_25 : Rec → Int → Int → Res := Classical.choose XP49_25
theorem G49_25 (L : Rec) (m0_0 : Int) (m0_1 : Int) : code L (.seq (.ops o49_26) (.ret)) (retK [.tmp 4]) [junk, junk, .pointer (some ⟨0, 0, none⟩), junk, junk, junk, junk, junk, junk, junk, junk, junk, junk, junk, junk, junk, junk, junk, junk] ([AObj.cells [.int .i64 m0_0, .int .i64 m0_1] ⟨false, 0⟩] : AMem) =
  some (.int .i64 (IntKind.wrap .i64 (1 + (IntKind.wrap .i64 (2 * m0_1)))), ([AObj.cells [.int .i64 m0_0, .int .i64 m0_1] ⟨false, 0⟩] : AMem)) := by kernel_rfl
theorem QP49_25_eq (L : Rec) (P49_25 : Rec → Int → Int → Res) (hP49_25 : P49_25 = fun (L : Rec) (m0_0 : Int) (m0_1 : Int) => code L c49_25 (k49_25 L) (s49_25 m0_0 m0_1) ([AObj.cells [.int .i64 m0_0, .int .i64 m0_1] ⟨false, 0⟩] : AMem)) (m0_0 : Int) (m0_1 : Int) : P49_25 L m0_0 m0_1 =
  some (.int .i64 (IntKind.wrap .i64 (1 + (IntKind.wrap .i64 (2 * m0_1)))), ([AObj.cells [.int .i64 m0_0, .int .i64 m0_1] ⟨false, 0⟩] : AMem)) := by
  subst hP49_25; exact Eq.mp (by kernel_rfl) (G49_25 L  m0_0 m0_1)
theorem P49_25_eq (L : Rec) (m0_0 : Int) (m0_1 : Int) : P49_25 L m0_0 m0_1 =
  some (.int .i64 (IntKind.wrap .i64 (1 + (IntKind.wrap .i64 (2 * m0_1)))), ([AObj.cells [.int .i64 m0_0, .int .i64 m0_1] ⟨false, 0⟩] : AMem)) := QP49_25_eq L P49_25 (Classical.choose_spec XP49_25) m0_0 m0_1
theorem GE49 (L : Rec) (c49_25 : ACode) (x0_0 : Int) (x0_1 : Int) (x1 : Int) : enterF L ⟨19, [.tmp 4], .seq (.ops o49_1) (.seq (.seq (.ops o49_4) (.block 0 (.seq (.ops o49_7) (.cond (.tmp 6) (.seq (.ops o49_10) (.ret)) (.seq (.ops o49_13) (.cond (.tmp 8) (.seq (.ops o49_16) (.ret)) (.seq (.ops o49_19) (.cond (.tmp 10) (.seq (.ops o49_22) (.ret)) (.skip))))))))) (.clear [0, 1, 3, 4, 5, 6, 7, 8, 9, 10, 11, 12, 13, 14, 15, 16, 17, 18] c49_25))⟩ [.agg #[.int .i64 x0_0, .int .i64 x0_1], .int .i64 x1] [] =
  (if (x1 == 1) = true
    then some (.int .i64 0, ([AObj.cells [.int .i64 x0_0, .int .i64 x0_1] ⟨false, 0⟩] : AMem))
    else (if (x1 == 2) = true
      then some (.int .i64 1, ([AObj.cells [.int .i64 x0_0, .int .i64 x0_1] ⟨false, 0⟩] : AMem))
      else (if (x1 == 3) = true
        then some (.int .i64 (IntKind.wrap .i64 (1 + x0_1)), ([AObj.cells [.int .i64 x0_0, .int .i64 x0_1] ⟨false, 0⟩] : AMem))
        else code L c49_25 (retK [.tmp 4]) [junk, junk, .pointer (some ⟨0, 0, none⟩), junk, junk, junk, junk, junk, junk, junk, junk, junk, junk, junk, junk, junk, junk, junk, junk] ([AObj.cells [.int .i64 x0_0, .int .i64 x0_1] ⟨false, 0⟩] : AMem)))) := by kernel_rfl
theorem QE49 (L : Rec) (P49_25 : Rec → Int → Int → Res) (hP49_25 : P49_25 = fun (L : Rec) (m0_0 : Int) (m0_1 : Int) => code L c49_25 (k49_25 L) (s49_25 m0_0 m0_1) ([AObj.cells [.int .i64 m0_0, .int .i64 m0_1] ⟨false, 0⟩] : AMem)) (x0_0 : Int) (x0_1 : Int) (x1 : Int) : enterF L a49 [.agg #[.int .i64 x0_0, .int .i64 x0_1], .int .i64 x1] [] =
  (if (x1 == 1) = true
    then some (.int .i64 0, ([AObj.cells [.int .i64 x0_0, .int .i64 x0_1] ⟨false, 0⟩] : AMem))
    else (if (x1 == 2) = true
      then some (.int .i64 1, ([AObj.cells [.int .i64 x0_0, .int .i64 x0_1] ⟨false, 0⟩] : AMem))
      else (if (x1 == 3) = true
        then some (.int .i64 (IntKind.wrap .i64 (1 + x0_1)), ([AObj.cells [.int .i64 x0_0, .int .i64 x0_1] ⟨false, 0⟩] : AMem))
        else P49_25 L x0_0 x0_1))) := by
  subst hP49_25; exact Eq.mp (by kernel_rfl) (GE49 L c49_25 x0_0 x0_1 x1)
theorem E49 (L : Rec) (x0_0 : Int) (x0_1 : Int) (x1 : Int) : enterF L a49 [.agg #[.int .i64 x0_0, .int .i64 x0_1], .int .i64 x1] [] =
  (if (x1 == 1) = true
    then some (.int .i64 0, ([AObj.cells [.int .i64 x0_0, .int .i64 x0_1] ⟨false, 0⟩] : AMem))
    else (if (x1 == 2) = true
      then some (.int .i64 1, ([AObj.cells [.int .i64 x0_0, .int .i64 x0_1] ⟨false, 0⟩] : AMem))
      else (if (x1 == 3) = true
        then some (.int .i64 (IntKind.wrap .i64 (1 + x0_1)), ([AObj.cells [.int .i64 x0_0, .int .i64 x0_1] ⟨false, 0⟩] : AMem))
        else P49_25 L x0_0 x0_1))) := QE49 L P49_25 (Classical.choose_spec XP49_25) x0_0 x0_1 x1
/-! #### layout.Size -/
theorem GE16 (L : Rec) (x0_0 : Int) (x0_1 : Int) : enterF L ⟨12, [.tmp 2], .seq (.ops o16_1) (.seq (.seq (.ops o16_4) (.cond (.tmp 5) (.seq (.ops o16_7) (.ret)) (.skip))) (.seq (.draw [] 0 o16_11 []) (.ret)))⟩ [.agg #[.int .i64 x0_0, .int .i64 x0_1]] [] =
  (Option.bind (L.call 15 [.agg #[.int .i64 x0_0, .int .i64 x0_1]] []) fun r_1 =>
    (Option.bind (boolOf? (some r_1.1)) fun q_2 =>
    (if (!q_2) = true
    then some (.int .i64 0, ([AObj.cells [.int .i64 x0_0, .int .i64 x0_1] ⟨false, 0⟩] : AMem))
    else (Option.bind (L.call 49 [.agg #[.int .i64 x0_0, .int .i64 x0_1], .int .i64 4] []) fun r_3 =>
      (Option.bind (intOf? .i64 (some r_3.1)) fun x_4 =>
      some (.int .i64 (IntKind.wrap .i64 (x_4 + (IntKind.wrap .i64 (3 * x0_0)))), ([AObj.cells [.int .i64 x0_0, .int .i64 x0_1] ⟨false, 0⟩] : AMem))))))) := by kernel_rfl
theorem E16 (L : Rec) (x0_0 : Int) (x0_1 : Int) : enterF L a16 [.agg #[.int .i64 x0_0, .int .i64 x0_1]] [] =
  (Option.bind (L.call 15 [.agg #[.int .i64 x0_0, .int .i64 x0_1]] []) fun r_1 =>
    (Option.bind (boolOf? (some r_1.1)) fun q_2 =>
    (if (!q_2) = true
    then some (.int .i64 0, ([AObj.cells [.int .i64 x0_0, .int .i64 x0_1] ⟨false, 0⟩] : AMem))
    else (Option.bind (L.call 49 [.agg #[.int .i64 x0_0, .int .i64 x0_1], .int .i64 4] []) fun r_3 =>
      (Option.bind (intOf? .i64 (some r_3.1)) fun x_4 =>
      some (.int .i64 (IntKind.wrap .i64 (x_4 + (IntKind.wrap .i64 (3 * x0_0)))), ([AObj.cells [.int .i64 x0_0, .int .i64 x0_1] ⟨false, 0⟩] : AMem))))))) := Eq.mp (by kernel_rfl) (GE16 L  x0_0 x0_1)
/-! #### layout.Layout.place -/
theorem GE50 (L : Rec) (x0_0 : Int) (x0_1 : Int) (x1 : Int) (x2 : Int) (x3 : Int) : enterF L ⟨26, [.tmp 8], .seq (.ops o50_1) (.seq (.seq (.ops o50_4) (.cond (.tmp 20) (.seq (.ops o50_7) (.ret)) (.skip))) (.seq (.ops o50_11) (.ret)))⟩ [.agg #[.int .i64 x0_0, .int .i64 x0_1], .int .i64 x1, .int .i64 x2, .int .i64 x3] [] =
  (Option.bind (L.call 15 [.agg #[.int .i64 x0_0, .int .i64 x0_1]] []) fun r_1 =>
    (Option.bind (boolOf? (some r_1.1)) fun q_2 =>
    (if (!q_2) = true
    then some (.int .i64 (-1), ([AObj.cells [.int .i64 x0_0, .int .i64 x0_1] ⟨false, 0⟩] : AMem))
    else (if (decide (x2 < 0)) = true
      then some (.int .i64 (-1), ([AObj.cells [.int .i64 x0_0, .int .i64 x0_1] ⟨false, 0⟩] : AMem))
      else (if (decide (x2 ≥ x3)) = true
        then some (.int .i64 (-1), ([AObj.cells [.int .i64 x0_0, .int .i64 x0_1] ⟨false, 0⟩] : AMem))
        else (Option.bind (L.call 49 [.agg #[.int .i64 x0_0, .int .i64 x0_1], .int .i64 x1] []) fun r_3 =>
          (Option.bind (intOf? .i64 (some r_3.1)) fun x_4 =>
          some (.int .i64 (IntKind.wrap .i64 (x_4 + x2)), ([AObj.cells [.int .i64 x0_0, .int .i64 x0_1] ⟨false, 0⟩] : AMem))))))))) := by kernel_rfl
theorem E50 (L : Rec) (x0_0 : Int) (x0_1 : Int) (x1 : Int) (x2 : Int) (x3 : Int) : enterF L a50 [.agg #[.int .i64 x0_0, .int .i64 x0_1], .int .i64 x1, .int .i64 x2, .int .i64 x3] [] =
  (Option.bind (L.call 15 [.agg #[.int .i64 x0_0, .int .i64 x0_1]] []) fun r_1 =>
    (Option.bind (boolOf? (some r_1.1)) fun q_2 =>
    (if (!q_2) = true
    then some (.int .i64 (-1), ([AObj.cells [.int .i64 x0_0, .int .i64 x0_1] ⟨false, 0⟩] : AMem))
    else (if (decide (x2 < 0)) = true
      then some (.int .i64 (-1), ([AObj.cells [.int .i64 x0_0, .int .i64 x0_1] ⟨false, 0⟩] : AMem))
      else (if (decide (x2 ≥ x3)) = true
        then some (.int .i64 (-1), ([AObj.cells [.int .i64 x0_0, .int .i64 x0_1] ⟨false, 0⟩] : AMem))
        else (Option.bind (L.call 49 [.agg #[.int .i64 x0_0, .int .i64 x0_1], .int .i64 x1] []) fun r_3 =>
          (Option.bind (intOf? .i64 (some r_3.1)) fun x_4 =>
          some (.int .i64 (IntKind.wrap .i64 (x_4 + x2)), ([AObj.cells [.int .i64 x0_0, .int .i64 x0_1] ⟨false, 0⟩] : AMem))))))))) := Eq.mp (by kernel_rfl) (GE50 L  x0_0 x0_1 x1 x2 x3)
/-! #### layout.Begun -/
theorem GE17 (L : Rec) (x0_0 : Int) (x0_1 : Int) (x1 : Int) : enterF L ⟨10, [.tmp 4], .seq (.ops o17_1) (.seq (.ops o17_3) (.ret))⟩ [.agg #[.int .i64 x0_0, .int .i64 x0_1], .int .i64 x1] [] =
  (Option.bind (L.call 50 [.agg #[.int .i64 x0_0, .int .i64 x0_1], .int .i64 2, .int .i64 x1, .int .i64 x0_1] []) fun r_1 =>
    (Option.bind (intOf? .i64 (some r_1.1)) fun x_2 =>
    some (.int .i64 x_2, ([AObj.cells [.int .i64 x0_0, .int .i64 x0_1] ⟨false, 0⟩] : AMem)))) := by kernel_rfl
theorem E17 (L : Rec) (x0_0 : Int) (x0_1 : Int) (x1 : Int) : enterF L a17 [.agg #[.int .i64 x0_0, .int .i64 x0_1], .int .i64 x1] [] =
  (Option.bind (L.call 50 [.agg #[.int .i64 x0_0, .int .i64 x0_1], .int .i64 2, .int .i64 x1, .int .i64 x0_1] []) fun r_1 =>
    (Option.bind (intOf? .i64 (some r_1.1)) fun x_2 =>
    some (.int .i64 x_2, ([AObj.cells [.int .i64 x0_0, .int .i64 x0_1] ⟨false, 0⟩] : AMem)))) := Eq.mp (by kernel_rfl) (GE17 L  x0_0 x0_1 x1)
/-! #### layout.Ended -/
theorem GE19 (L : Rec) (x0_0 : Int) (x0_1 : Int) (x1 : Int) : enterF L ⟨10, [.tmp 4], .seq (.ops o19_1) (.seq (.ops o19_3) (.ret))⟩ [.agg #[.int .i64 x0_0, .int .i64 x0_1], .int .i64 x1] [] =
  (Option.bind (L.call 50 [.agg #[.int .i64 x0_0, .int .i64 x0_1], .int .i64 3, .int .i64 x1, .int .i64 x0_1] []) fun r_1 =>
    (Option.bind (intOf? .i64 (some r_1.1)) fun x_2 =>
    some (.int .i64 x_2, ([AObj.cells [.int .i64 x0_0, .int .i64 x0_1] ⟨false, 0⟩] : AMem)))) := by kernel_rfl
theorem E19 (L : Rec) (x0_0 : Int) (x0_1 : Int) (x1 : Int) : enterF L a19 [.agg #[.int .i64 x0_0, .int .i64 x0_1], .int .i64 x1] [] =
  (Option.bind (L.call 50 [.agg #[.int .i64 x0_0, .int .i64 x0_1], .int .i64 3, .int .i64 x1, .int .i64 x0_1] []) fun r_1 =>
    (Option.bind (intOf? .i64 (some r_1.1)) fun x_2 =>
    some (.int .i64 x_2, ([AObj.cells [.int .i64 x0_0, .int .i64 x0_1] ⟨false, 0⟩] : AMem)))) := Eq.mp (by kernel_rfl) (GE19 L  x0_0 x0_1 x1)
/-! #### layout.Channel -/
theorem GE20 (L : Rec) (x0_0 : Int) (x0_1 : Int) (x1 : Int) (x2 : Int) : enterF L ⟨32, [.tmp 6], .seq (.ops o20_1) (.seq (.seq (.ops o20_4) (.cond (.tmp 22) (.seq (.ops o20_7) (.ret)) (.skip))) (.seq (.ops o20_11) (.ret)))⟩ [.agg #[.int .i64 x0_0, .int .i64 x0_1], .int .i64 x1, .int .i64 x2] [] =
  (if (decide (x2 < 0)) = true
    then some (.int .i64 (-1), ([AObj.cells [.int .i64 x0_0, .int .i64 x0_1] ⟨false, 0⟩] : AMem))
    else (if (decide (x2 ≥ 3)) = true
      then some (.int .i64 (-1), ([AObj.cells [.int .i64 x0_0, .int .i64 x0_1] ⟨false, 0⟩] : AMem))
      else (if (decide (x1 < 0)) = true
        then some (.int .i64 (-1), ([AObj.cells [.int .i64 x0_0, .int .i64 x0_1] ⟨false, 0⟩] : AMem))
        else (if (decide (x1 ≥ x0_0)) = true
          then some (.int .i64 (-1), ([AObj.cells [.int .i64 x0_0, .int .i64 x0_1] ⟨false, 0⟩] : AMem))
          else (Option.bind (L.call 50 [.agg #[.int .i64 x0_0, .int .i64 x0_1], .int .i64 4, .int .i64 (IntKind.wrap .i64 ((IntKind.wrap .i64 (3 * x1)) + x2)), .int .i64 (IntKind.wrap .i64 (3 * x0_0))] []) fun r_1 =>
            (Option.bind (intOf? .i64 (some r_1.1)) fun x_2 =>
            some (.int .i64 x_2, ([AObj.cells [.int .i64 x0_0, .int .i64 x0_1] ⟨false, 0⟩] : AMem)))))))) := by kernel_rfl
theorem E20 (L : Rec) (x0_0 : Int) (x0_1 : Int) (x1 : Int) (x2 : Int) : enterF L a20 [.agg #[.int .i64 x0_0, .int .i64 x0_1], .int .i64 x1, .int .i64 x2] [] =
  (if (decide (x2 < 0)) = true
    then some (.int .i64 (-1), ([AObj.cells [.int .i64 x0_0, .int .i64 x0_1] ⟨false, 0⟩] : AMem))
    else (if (decide (x2 ≥ 3)) = true
      then some (.int .i64 (-1), ([AObj.cells [.int .i64 x0_0, .int .i64 x0_1] ⟨false, 0⟩] : AMem))
      else (if (decide (x1 < 0)) = true
        then some (.int .i64 (-1), ([AObj.cells [.int .i64 x0_0, .int .i64 x0_1] ⟨false, 0⟩] : AMem))
        else (if (decide (x1 ≥ x0_0)) = true
          then some (.int .i64 (-1), ([AObj.cells [.int .i64 x0_0, .int .i64 x0_1] ⟨false, 0⟩] : AMem))
          else (Option.bind (L.call 50 [.agg #[.int .i64 x0_0, .int .i64 x0_1], .int .i64 4, .int .i64 (IntKind.wrap .i64 ((IntKind.wrap .i64 (3 * x1)) + x2)), .int .i64 (IntKind.wrap .i64 (3 * x0_0))] []) fun r_1 =>
            (Option.bind (intOf? .i64 (some r_1.1)) fun x_2 =>
            some (.int .i64 x_2, ([AObj.cells [.int .i64 x0_0, .int .i64 x0_1] ⟨false, 0⟩] : AMem)))))))) := Eq.mp (by kernel_rfl) (GE20 L  x0_0 x0_1 x1 x2)
/-! #### layout.Stripe -/
theorem GE21 (L : Rec) (x0_0 : Int) (x0_1 : Int) (x1 : Int) : enterF L ⟨22, [.tmp 4], .seq (.ops o21_1) (.seq (.seq (.ops o21_4) (.cond (.tmp 17) (.seq (.ops o21_7) (.ret)) (.skip))) (.seq (.ops o21_11) (.ret)))⟩ [.agg #[.int .i64 x0_0, .int .i64 x0_1], .int .i64 x1] [] =
  (Option.bind (L.call 15 [.agg #[.int .i64 x0_0, .int .i64 x0_1]] []) fun r_1 =>
    (Option.bind (boolOf? (some r_1.1)) fun q_2 =>
    (if (!q_2) = true
    then some (.int .i64 (-1), ([AObj.cells [.int .i64 x0_0, .int .i64 x0_1] ⟨false, 0⟩] : AMem))
    else (if (decide (x1 < 0)) = true
      then some (.int .i64 (-1), ([AObj.cells [.int .i64 x0_0, .int .i64 x0_1] ⟨false, 0⟩] : AMem))
      else (if (decide (x1 ≥ x0_0)) = true
        then some (.int .i64 (-1), ([AObj.cells [.int .i64 x0_0, .int .i64 x0_1] ⟨false, 0⟩] : AMem))
        else (if x0_1 = 0
          then none
          else some (.int .i64 (Int.tmod x1 x0_1), ([AObj.cells [.int .i64 x0_0, .int .i64 x0_1] ⟨false, 0⟩] : AMem)))))))) := by kernel_rfl
theorem E21 (L : Rec) (x0_0 : Int) (x0_1 : Int) (x1 : Int) : enterF L a21 [.agg #[.int .i64 x0_0, .int .i64 x0_1], .int .i64 x1] [] =
  (Option.bind (L.call 15 [.agg #[.int .i64 x0_0, .int .i64 x0_1]] []) fun r_1 =>
    (Option.bind (boolOf? (some r_1.1)) fun q_2 =>
    (if (!q_2) = true
    then some (.int .i64 (-1), ([AObj.cells [.int .i64 x0_0, .int .i64 x0_1] ⟨false, 0⟩] : AMem))
    else (if (decide (x1 < 0)) = true
      then some (.int .i64 (-1), ([AObj.cells [.int .i64 x0_0, .int .i64 x0_1] ⟨false, 0⟩] : AMem))
      else (if (decide (x1 ≥ x0_0)) = true
        then some (.int .i64 (-1), ([AObj.cells [.int .i64 x0_0, .int .i64 x0_1] ⟨false, 0⟩] : AMem))
        else (if x0_1 = 0
          then none
          else some (.int .i64 (Int.tmod x1 x0_1), ([AObj.cells [.int .i64 x0_0, .int .i64 x0_1] ⟨false, 0⟩] : AMem)))))))) := Eq.mp (by kernel_rfl) (GE21 L  x0_0 x0_1 x1)
/-! #### layout.Of -/
noncomputable def k22_14 (L : Rec) : KT := blockK 0 (seqK (code L (.clear [0, 3, 5, 6, 7, 8, 9, 10, 11, 12, 13, 14, 15, 16, 17, 18, 19, 20, 21, 22, 23, 24, 25, 26, 27, 28, 29, 30, 31, 32, 33, 34, 35, 36, 37, 38, 39, 40, 41, 42, 43, 44, 45, 46, 47, 48, 49, 50] c22_33) (retK [.cell true [.int .i64, .int .i64, .int .i64] 4])) (retK [.cell true [.int .i64, .int .i64, .int .i64] 4]))
def s22_14 (x1 : Int) (x5 : Int) (m0_0 : Int) (m0_1 : Int) (m1_0 : Int) (m1_1 : Int) (m1_2 : Int) : List Value := [junk, .int .i64 x1, .pointer (some ⟨0, 0, none⟩), junk, .pointer (some ⟨1, 0, none⟩), .int .i64 x5, junk, junk, junk, junk, junk, junk, junk, junk, junk, junk, junk, junk, junk, junk, junk, junk, junk, junk, junk, junk, junk, junk, junk, junk, junk, junk, junk, junk, junk, junk, junk, junk, junk, junk, junk, junk, junk, junk, junk, junk, junk, junk, junk, junk, junk]
theorem XP22_14 : ∃ P : Rec → Int → Int → Int → Int → Int → Int → Int → Res, P = fun (L : Rec) (x1 : Int) (x5 : Int) (m0_0 : Int) (m0_1 : Int) (m1_0 : Int) (m1_1 : Int) (m1_2 : Int) => L.loop b22_14 (k22_14 L) (s22_14 x1 x5 m0_0 m0_1 m1_0 m1_1 m1_2) ([AObj.cells [.int .i64 m0_0, .int .i64 m0_1] ⟨false, 0⟩, AObj.cells [.int .i64 m1_0, .int .i64 m1_1, .int .i64 m1_2] ⟨false, 0⟩] : AMem) := ⟨_, rfl⟩
noncomputable def P22_14 : Rec → Int → Int → Int → Int → Int → Int → Int → Res := Classical.choose XP22_14
noncomputable def k22_32 (L : Rec) : KT := postK [0, 3, 6, 7, 8, 9, 10, 11, 12, 13, 14, 15, 16, 17, 18, 19, 20, 21, 22, 23, 24, 25, 26, 27, 28, 29, 30, 31, 32, 33, 34, 35, 36, 37, 38, 39, 40, 41, 42, 43, 44, 45, 46, 47, 48, 49, 50] (loopK L b22_14 (blockK 0 (seqK (code L (.clear [0, 3, 5, 6, 7, 8, 9, 10, 11, 12, 13, 14, 15, 16, 17, 18, 19, 20, 21, 22, 23, 24, 25, 26, 27, 28, 29, 30, 31, 32, 33, 34, 35, 36, 37, 38, 39, 40, 41, 42, 43, 44, 45, 46, 47, 48, 49, 50] c22_33) (retK [.cell true [.int .i64, .int .i64, .int .i64] 4])) (retK [.cell true [.int .i64, .int .i64, .int .i64] 4]))))
def s22_32 (x1 : Int) (x5 : Int) (m0_0 : Int) (m0_1 : Int) (m1_0 : Int) (m1_1 : Int) (m1_2 : Int) : List Value := [junk, .int .i64 x1, .pointer (some ⟨0, 0, none⟩), junk, .pointer (some ⟨1, 0, none⟩), .int .i64 x5, junk, junk, junk, junk, junk, junk, junk, junk, junk, junk, junk, junk, junk, junk, junk, junk, junk, junk, junk, junk, junk, junk, junk, junk, junk, junk, junk, junk, junk, junk, junk, junk, junk, junk, junk, junk, junk, junk, junk, junk, junk, junk, junk, junk, junk]
theorem XP22_32 : ∃ P : Rec → Int → Int → Int → Int → Int → Int → Int → Res, P = fun (L : Rec) (x1 : Int) (x5 : Int) (m0_0 : Int) (m0_1 : Int) (m1_0 : Int) (m1_1 : Int) (m1_2 : Int) => code L c22_32 (k22_32 L) (s22_32 x1 x5 m0_0 m0_1 m1_0 m1_1 m1_2) ([AObj.cells [.int .i64 m0_0, .int .i64 m0_1] ⟨false, 0⟩, AObj.cells [.int .i64 m1_0, .int .i64 m1_1, .int .i64 m1_2] ⟨false, 0⟩] : AMem) := ⟨_, rfl⟩
noncomputable def P22_32 : Rec → Int → Int → Int → Int → Int → Int → Int → Res := Classical.choose XP22_32
noncomputable def k22_33 (L : Rec) : KT := retK [.cell true [.int .i64, .int .i64, .int .i64] 4]
def s22_33 (x1 : Int) (m0_0 : Int) (m0_1 : Int) (m1_0 : Int) (m1_1 : Int) (m1_2 : Int) : List Value := [junk, .int .i64 x1, .pointer (some ⟨0, 0, none⟩), junk, .pointer (some ⟨1, 0, none⟩), junk, junk, junk, junk, junk, junk, junk, junk, junk, junk, junk, junk, junk, junk, junk, junk, junk, junk, junk, junk, junk, junk, junk, junk, junk, junk, junk, junk, junk, junk, junk, junk, junk, junk, junk, junk, junk, junk, junk, junk, junk, junk, junk, junk, junk, junk]
theorem XP22_33 : ∃ P : Rec → Int → Int → Int → Int → Int → Int → Res, P = fun (L : Rec) (x1 : Int) (m0_0 : Int) (m0_1 : Int) (m1_0 : Int) (m1_1 : Int) (m1_2 : Int) => code L c22_33 (k22_33 L) (s22_33 x1 m0_0 m0_1 m1_0 m1_1 m1_2) ([AObj.cells [.int .i64 m0_0, .int .i64 m0_1] ⟨false, 0⟩, AObj.cells [.int .i64 m1_0, .int .i64 m1_1, .int .i64 m1_2] ⟨false, 0⟩] : AMem) := ⟨_, rfl⟩
noncomputable def P22_33 : Rec → Int → Int → Int → Int → Int → Int → Res := Classical.choose XP22_33
theorem G22_14 (L : Rec) (b22_14 c22_32 c22_33 : ACode) (x1 : Int) (x5 : Int) (m0_0 : Int) (m0_1 : Int) (m1_0 : Int) (m1_1 : Int) (m1_2 : Int) : code L (.post (.seq (.seq (.ops o22_17) (.cond (.tmp 17) (.skip) (.exit 0))) (.seq (.block 1 (.seq (.ops o22_24) (.seq (.ops o22_26) (.cond (.tmp 33) (.seq (.ops o22_29) (.ret)) (.skip))))) (.clear [0, 3, 6, 7, 8, 9, 10, 11, 12, 13, 14, 15, 16, 17, 18, 19, 20, 21, 22, 23, 24, 25, 26, 27, 28, 29, 30, 31, 32, 33, 34, 35, 36, 37, 38, 39, 40, 41, 42, 43, 44, 45, 46, 47, 48, 49, 50] c22_32))) [0, 3, 6, 7, 8, 9, 10, 11, 12, 13, 14, 15, 16, 17, 18, 19, 20, 21, 22, 23, 24, 25, 26, 27, 28, 29, 30, 31, 32, 33, 34, 35, 36, 37, 38, 39, 40, 41, 42, 43, 44, 45, 46, 47, 48, 49, 50]) (loopK L b22_14 (blockK 0 (seqK (code L (.clear [0, 3, 5, 6, 7, 8, 9, 10, 11, 12, 13, 14, 15, 16, 17, 18, 19, 20, 21, 22, 23, 24, 25, 26, 27, 28, 29, 30, 31, 32, 33, 34, 35, 36, 37, 38, 39, 40, 41, 42, 43, 44, 45, 46, 47, 48, 49, 50] c22_33) (retK [.cell true [.int .i64, .int .i64, .int .i64] 4])) (retK [.cell true [.int .i64, .int .i64, .int .i64] 4])))) [junk, .int .i64 x1, .pointer (some ⟨0, 0, none⟩), junk, .pointer (some ⟨1, 0, none⟩), .int .i64 x5, junk, junk, junk, junk, junk, junk, junk, junk, junk, junk, junk, junk, junk, junk, junk, junk, junk, junk, junk, junk, junk, junk, junk, junk, junk, junk, junk, junk, junk, junk, junk, junk, junk, junk, junk, junk, junk, junk, junk, junk, junk, junk, junk, junk, junk] ([AObj.cells [.int .i64 m0_0, .int .i64 m0_1] ⟨false, 0⟩, AObj.cells [.int .i64 m1_0, .int .i64 m1_1, .int .i64 m1_2] ⟨false, 0⟩] : AMem) =
  (if (decide (x5 > 1)) = true
    then (Option.bind (L.call 49 [.agg #[.int .i64 m0_0, .int .i64 m0_1], .int .i64 x5] []) fun r_1 =>
      (Option.bind (intOf? .i64 (some r_1.1)) fun x_2 =>
      (if (decide (x1 ≥ x_2)) = true
      then (Option.bind (L.call 49 [.agg #[.int .i64 m0_0, .int .i64 m0_1], .int .i64 (IntKind.wrap .i64 (x5 + 1))] []) fun r_3 =>
        (Option.bind (intOf? .i64 (some r_3.1)) fun x_4 =>
        (if (decide (x1 < x_4)) = true
        then some (.agg #[.int .i64 x5, .int .i64 (IntKind.wrap .i64 (x1 - x_2)), .int .i64 0], ([AObj.cells [.int .i64 m0_0, .int .i64 m0_1] ⟨false, 0⟩, AObj.cells [.int .i64 x5, .int .i64 (IntKind.wrap .i64 (x1 - x_2)), .int .i64 0] ⟨false, 1⟩] : AMem))
        else code L c22_32 (postK [0, 3, 6, 7, 8, 9, 10, 11, 12, 13, 14, 15, 16, 17, 18, 19, 20, 21, 22, 23, 24, 25, 26, 27, 28, 29, 30, 31, 32, 33, 34, 35, 36, 37, 38, 39, 40, 41, 42, 43, 44, 45, 46, 47, 48, 49, 50] (loopK L b22_14 (blockK 0 (seqK (code L (.clear [0, 3, 5, 6, 7, 8, 9, 10, 11, 12, 13, 14, 15, 16, 17, 18, 19, 20, 21, 22, 23, 24, 25, 26, 27, 28, 29, 30, 31, 32, 33, 34, 35, 36, 37, 38, 39, 40, 41, 42, 43, 44, 45, 46, 47, 48, 49, 50] c22_33) (retK [.cell true [.int .i64, .int .i64, .int .i64] 4])) (retK [.cell true [.int .i64, .int .i64, .int .i64] 4]))))) [junk, .int .i64 x1, .pointer (some ⟨0, 0, none⟩), junk, .pointer (some ⟨1, 0, none⟩), .int .i64 x5, junk, junk, junk, junk, junk, junk, junk, junk, junk, junk, junk, junk, junk, junk, junk, junk, junk, junk, junk, junk, junk, junk, junk, junk, junk, junk, junk, junk, junk, junk, junk, junk, junk, junk, junk, junk, junk, junk, junk, junk, junk, junk, junk, junk, junk] ([AObj.cells [.int .i64 m0_0, .int .i64 m0_1] ⟨false, 0⟩, AObj.cells [.int .i64 m1_0, .int .i64 m1_1, .int .i64 m1_2] ⟨false, 0⟩] : AMem))))
      else code L c22_32 (postK [0, 3, 6, 7, 8, 9, 10, 11, 12, 13, 14, 15, 16, 17, 18, 19, 20, 21, 22, 23, 24, 25, 26, 27, 28, 29, 30, 31, 32, 33, 34, 35, 36, 37, 38, 39, 40, 41, 42, 43, 44, 45, 46, 47, 48, 49, 50] (loopK L b22_14 (blockK 0 (seqK (code L (.clear [0, 3, 5, 6, 7, 8, 9, 10, 11, 12, 13, 14, 15, 16, 17, 18, 19, 20, 21, 22, 23, 24, 25, 26, 27, 28, 29, 30, 31, 32, 33, 34, 35, 36, 37, 38, 39, 40, 41, 42, 43, 44, 45, 46, 47, 48, 49, 50] c22_33) (retK [.cell true [.int .i64, .int .i64, .int .i64] 4])) (retK [.cell true [.int .i64, .int .i64, .int .i64] 4]))))) [junk, .int .i64 x1, .pointer (some ⟨0, 0, none⟩), junk, .pointer (some ⟨1, 0, none⟩), .int .i64 x5, junk, junk, junk, junk, junk, junk, junk, junk, junk, junk, junk, junk, junk, junk, junk, junk, junk, junk, junk, junk, junk, junk, junk, junk, junk, junk, junk, junk, junk, junk, junk, junk, junk, junk, junk, junk, junk, junk, junk, junk, junk, junk, junk, junk, junk] ([AObj.cells [.int .i64 m0_0, .int .i64 m0_1] ⟨false, 0⟩, AObj.cells [.int .i64 m1_0, .int .i64 m1_1, .int .i64 m1_2] ⟨false, 0⟩] : AMem))))
    else code L c22_33 (retK [.cell true [.int .i64, .int .i64, .int .i64] 4]) [junk, .int .i64 x1, .pointer (some ⟨0, 0, none⟩), junk, .pointer (some ⟨1, 0, none⟩), junk, junk, junk, junk, junk, junk, junk, junk, junk, junk, junk, junk, junk, junk, junk, junk, junk, junk, junk, junk, junk, junk, junk, junk, junk, junk, junk, junk, junk, junk, junk, junk, junk, junk, junk, junk, junk, junk, junk, junk, junk, junk, junk, junk, junk, junk] ([AObj.cells [.int .i64 m0_0, .int .i64 m0_1] ⟨false, 0⟩, AObj.cells [.int .i64 m1_0, .int .i64 m1_1, .int .i64 m1_2] ⟨false, 0⟩] : AMem)) := by kernel_rfl
theorem QP22_14_eq (L : Rec) (hL : ∀ b K t A, L.loop b K t A = code L b (loopK L b K) t A) (P22_14 : Rec → Int → Int → Int → Int → Int → Int → Int → Res) (hP22_14 : P22_14 = fun (L : Rec) (x1 : Int) (x5 : Int) (m0_0 : Int) (m0_1 : Int) (m1_0 : Int) (m1_1 : Int) (m1_2 : Int) => L.loop b22_14 (k22_14 L) (s22_14 x1 x5 m0_0 m0_1 m1_0 m1_1 m1_2) ([AObj.cells [.int .i64 m0_0, .int .i64 m0_1] ⟨false, 0⟩, AObj.cells [.int .i64 m1_0, .int .i64 m1_1, .int .i64 m1_2] ⟨false, 0⟩] : AMem)) (P22_32 : Rec → Int → Int → Int → Int → Int → Int → Int → Res) (hP22_32 : P22_32 = fun (L : Rec) (x1 : Int) (x5 : Int) (m0_0 : Int) (m0_1 : Int) (m1_0 : Int) (m1_1 : Int) (m1_2 : Int) => code L c22_32 (k22_32 L) (s22_32 x1 x5 m0_0 m0_1 m1_0 m1_1 m1_2) ([AObj.cells [.int .i64 m0_0, .int .i64 m0_1] ⟨false, 0⟩, AObj.cells [.int .i64 m1_0, .int .i64 m1_1, .int .i64 m1_2] ⟨false, 0⟩] : AMem)) (P22_33 : Rec → Int → Int → Int → Int → Int → Int → Res) (hP22_33 : P22_33 = fun (L : Rec) (x1 : Int) (m0_0 : Int) (m0_1 : Int) (m1_0 : Int) (m1_1 : Int) (m1_2 : Int) => code L c22_33 (k22_33 L) (s22_33 x1 m0_0 m0_1 m1_0 m1_1 m1_2) ([AObj.cells [.int .i64 m0_0, .int .i64 m0_1] ⟨false, 0⟩, AObj.cells [.int .i64 m1_0, .int .i64 m1_1, .int .i64 m1_2] ⟨false, 0⟩] : AMem)) (x1 : Int) (x5 : Int) (m0_0 : Int) (m0_1 : Int) (m1_0 : Int) (m1_1 : Int) (m1_2 : Int) : P22_14 L x1 x5 m0_0 m0_1 m1_0 m1_1 m1_2 =
  (if (decide (x5 > 1)) = true
    then (Option.bind (L.call 49 [.agg #[.int .i64 m0_0, .int .i64 m0_1], .int .i64 x5] []) fun r_1 =>
      (Option.bind (intOf? .i64 (some r_1.1)) fun x_2 =>
      (if (decide (x1 ≥ x_2)) = true
      then (Option.bind (L.call 49 [.agg #[.int .i64 m0_0, .int .i64 m0_1], .int .i64 (IntKind.wrap .i64 (x5 + 1))] []) fun r_3 =>
        (Option.bind (intOf? .i64 (some r_3.1)) fun x_4 =>
        (if (decide (x1 < x_4)) = true
        then some (.agg #[.int .i64 x5, .int .i64 (IntKind.wrap .i64 (x1 - x_2)), .int .i64 0], ([AObj.cells [.int .i64 m0_0, .int .i64 m0_1] ⟨false, 0⟩, AObj.cells [.int .i64 x5, .int .i64 (IntKind.wrap .i64 (x1 - x_2)), .int .i64 0] ⟨false, 1⟩] : AMem))
        else P22_32 L x1 x5 m0_0 m0_1 m1_0 m1_1 m1_2)))
      else P22_32 L x1 x5 m0_0 m0_1 m1_0 m1_1 m1_2)))
    else P22_33 L x1 m0_0 m0_1 m1_0 m1_1 m1_2) := by
  subst hP22_14; subst hP22_32; subst hP22_33; exact Eq.trans (b := code L b22_14 (loopK L b22_14 (k22_14 L)) (s22_14 x1 x5 m0_0 m0_1 m1_0 m1_1 m1_2) ([AObj.cells [.int .i64 m0_0, .int .i64 m0_1] ⟨false, 0⟩, AObj.cells [.int .i64 m1_0, .int .i64 m1_1, .int .i64 m1_2] ⟨false, 0⟩] : AMem)) (hL b22_14 (k22_14 L) (s22_14 x1 x5 m0_0 m0_1 m1_0 m1_1 m1_2) ([AObj.cells [.int .i64 m0_0, .int .i64 m0_1] ⟨false, 0⟩, AObj.cells [.int .i64 m1_0, .int .i64 m1_1, .int .i64 m1_2] ⟨false, 0⟩] : AMem)) (Eq.mp (by kernel_rfl) (G22_14 L b22_14 c22_32 c22_33 x1 x5 m0_0 m0_1 m1_0 m1_1 m1_2))
theorem P22_14_eq (L : Rec) (hL : ∀ b K t A, L.loop b K t A = code L b (loopK L b K) t A) (x1 : Int) (x5 : Int) (m0_0 : Int) (m0_1 : Int) (m1_0 : Int) (m1_1 : Int) (m1_2 : Int) : P22_14 L x1 x5 m0_0 m0_1 m1_0 m1_1 m1_2 =
  (if (decide (x5 > 1)) = true
    then (Option.bind (L.call 49 [.agg #[.int .i64 m0_0, .int .i64 m0_1], .int .i64 x5] []) fun r_1 =>
      (Option.bind (intOf? .i64 (some r_1.1)) fun x_2 =>
      (if (decide (x1 ≥ x_2)) = true
      then (Option.bind (L.call 49 [.agg #[.int .i64 m0_0, .int .i64 m0_1], .int .i64 (IntKind.wrap .i64 (x5 + 1))] []) fun r_3 =>
        (Option.bind (intOf? .i64 (some r_3.1)) fun x_4 =>
        (if (decide (x1 < x_4)) = true
        then some (.agg #[.int .i64 x5, .int .i64 (IntKind.wrap .i64 (x1 - x_2)), .int .i64 0], ([AObj.cells [.int .i64 m0_0, .int .i64 m0_1] ⟨false, 0⟩, AObj.cells [.int .i64 x5, .int .i64 (IntKind.wrap .i64 (x1 - x_2)), .int .i64 0] ⟨false, 1⟩] : AMem))
        else P22_32 L x1 x5 m0_0 m0_1 m1_0 m1_1 m1_2)))
      else P22_32 L x1 x5 m0_0 m0_1 m1_0 m1_1 m1_2)))
    else P22_33 L x1 m0_0 m0_1 m1_0 m1_1 m1_2) := QP22_14_eq L hL P22_14 (Classical.choose_spec XP22_14) P22_32 (Classical.choose_spec XP22_32) P22_33 (Classical.choose_spec XP22_33) x1 x5 m0_0 m0_1 m1_0 m1_1 m1_2
theorem G22_32 (L : Rec) (b22_14 c22_33 : ACode) (x1 : Int) (x5 : Int) (m0_0 : Int) (m0_1 : Int) (m1_0 : Int) (m1_1 : Int) (m1_2 : Int) : code L (.ops o22_32) (postK [0, 3, 6, 7, 8, 9, 10, 11, 12, 13, 14, 15, 16, 17, 18, 19, 20, 21, 22, 23, 24, 25, 26, 27, 28, 29, 30, 31, 32, 33, 34, 35, 36, 37, 38, 39, 40, 41, 42, 43, 44, 45, 46, 47, 48, 49, 50] (loopK L b22_14 (blockK 0 (seqK (code L (.clear [0, 3, 5, 6, 7, 8, 9, 10, 11, 12, 13, 14, 15, 16, 17, 18, 19, 20, 21, 22, 23, 24, 25, 26, 27, 28, 29, 30, 31, 32, 33, 34, 35, 36, 37, 38, 39, 40, 41, 42, 43, 44, 45, 46, 47, 48, 49, 50] c22_33) (retK [.cell true [.int .i64, .int .i64, .int .i64] 4])) (retK [.cell true [.int .i64, .int .i64, .int .i64] 4]))))) [junk, .int .i64 x1, .pointer (some ⟨0, 0, none⟩), junk, .pointer (some ⟨1, 0, none⟩), .int .i64 x5, junk, junk, junk, junk, junk, junk, junk, junk, junk, junk, junk, junk, junk, junk, junk, junk, junk, junk, junk, junk, junk, junk, junk, junk, junk, junk, junk, junk, junk, junk, junk, junk, junk, junk, junk, junk, junk, junk, junk, junk, junk, junk, junk, junk, junk] ([AObj.cells [.int .i64 m0_0, .int .i64 m0_1] ⟨false, 0⟩, AObj.cells [.int .i64 m1_0, .int .i64 m1_1, .int .i64 m1_2] ⟨false, 0⟩] : AMem) =
  L.loop b22_14 (blockK 0 (seqK (code L (.clear [0, 3, 5, 6, 7, 8, 9, 10, 11, 12, 13, 14, 15, 16, 17, 18, 19, 20, 21, 22, 23, 24, 25, 26, 27, 28, 29, 30, 31, 32, 33, 34, 35, 36, 37, 38, 39, 40, 41, 42, 43, 44, 45, 46, 47, 48, 49, 50] c22_33) (retK [.cell true [.int .i64, .int .i64, .int .i64] 4])) (retK [.cell true [.int .i64, .int .i64, .int .i64] 4]))) [junk, .int .i64 x1, .pointer (some ⟨0, 0, none⟩), junk, .pointer (some ⟨1, 0, none⟩), .int .i64 (IntKind.wrap .i64 (x5 - 1)), junk, junk, junk, junk, junk, junk, junk, junk, junk, junk, junk, junk, junk, junk, junk, junk, junk, junk, junk, junk, junk, junk, junk, junk, junk, junk, junk, junk, junk, junk, junk, junk, junk, junk, junk, junk, junk, junk, junk, junk, junk, junk, junk, junk, junk] ([AObj.cells [.int .i64 m0_0, .int .i64 m0_1] ⟨false, 0⟩, AObj.cells [.int .i64 m1_0, .int .i64 m1_1, .int .i64 m1_2] ⟨false, 0⟩] : AMem) := by kernel_rfl
theorem QP22_32_eq (L : Rec) (P22_14 : Rec → Int → Int → Int → Int → Int → Int → Int → Res) (hP22_14 : P22_14 = fun (L : Rec) (x1 : Int) (x5 : Int) (m0_0 : Int) (m0_1 : Int) (m1_0 : Int) (m1_1 : Int) (m1_2 : Int) => L.loop b22_14 (k22_14 L) (s22_14 x1 x5 m0_0 m0_1 m1_0 m1_1 m1_2) ([AObj.cells [.int .i64 m0_0, .int .i64 m0_1] ⟨false, 0⟩, AObj.cells [.int .i64 m1_0, .int .i64 m1_1, .int .i64 m1_2] ⟨false, 0⟩] : AMem)) (P22_32 : Rec → Int → Int → Int → Int → Int → Int → Int → Res) (hP22_32 : P22_32 = fun (L : Rec) (x1 : Int) (x5 : Int) (m0_0 : Int) (m0_1 : Int) (m1_0 : Int) (m1_1 : Int) (m1_2 : Int) => code L c22_32 (k22_32 L) (s22_32 x1 x5 m0_0 m0_1 m1_0 m1_1 m1_2) ([AObj.cells [.int .i64 m0_0, .int .i64 m0_1] ⟨false, 0⟩, AObj.cells [.int .i64 m1_0, .int .i64 m1_1, .int .i64 m1_2] ⟨false, 0⟩] : AMem)) (x1 : Int) (x5 : Int) (m0_0 : Int) (m0_1 : Int) (m1_0 : Int) (m1_1 : Int) (m1_2 : Int) : P22_32 L x1 x5 m0_0 m0_1 m1_0 m1_1 m1_2 =
  P22_14 L x1 (IntKind.wrap .i64 (x5 - 1)) m0_0 m0_1 m1_0 m1_1 m1_2 := by
  subst hP22_14; subst hP22_32; exact Eq.mp (by kernel_rfl) (G22_32 L b22_14 c22_33 x1 x5 m0_0 m0_1 m1_0 m1_1 m1_2)
theorem P22_32_eq (L : Rec) (x1 : Int) (x5 : Int) (m0_0 : Int) (m0_1 : Int) (m1_0 : Int) (m1_1 : Int) (m1_2 : Int) : P22_32 L x1 x5 m0_0 m0_1 m1_0 m1_1 m1_2 =
  P22_14 L x1 (IntKind.wrap .i64 (x5 - 1)) m0_0 m0_1 m1_0 m1_1 m1_2 := QP22_32_eq L P22_14 (Classical.choose_spec XP22_14) P22_32 (Classical.choose_spec XP22_32) x1 x5 m0_0 m0_1 m1_0 m1_1 m1_2
theorem G22_33 (L : Rec) (x1 : Int) (m0_0 : Int) (m0_1 : Int) (m1_0 : Int) (m1_1 : Int) (m1_2 : Int) : code L (.seq (.seq (.ops o22_35) (.cond (.tmp 40) (.seq (.ops o22_38) (.ret)) (.skip))) (.seq (.ops o22_42) (.seq (.ops o22_44) (.ret)))) (retK [.cell true [.int .i64, .int .i64, .int .i64] 4]) [junk, .int .i64 x1, .pointer (some ⟨0, 0, none⟩), junk, .pointer (some ⟨1, 0, none⟩), junk, junk, junk, junk, junk, junk, junk, junk, junk, junk, junk, junk, junk, junk, junk, junk, junk, junk, junk, junk, junk, junk, junk, junk, junk, junk, junk, junk, junk, junk, junk, junk, junk, junk, junk, junk, junk, junk, junk, junk, junk, junk, junk, junk, junk, junk] ([AObj.cells [.int .i64 m0_0, .int .i64 m0_1] ⟨false, 0⟩, AObj.cells [.int .i64 m1_0, .int .i64 m1_1, .int .i64 m1_2] ⟨false, 0⟩] : AMem) =
  (if (x1 == 0) = true
    then some (.agg #[.int .i64 1, .int .i64 0, .int .i64 0], ([AObj.cells [.int .i64 m0_0, .int .i64 m0_1] ⟨false, 0⟩, AObj.cells [.int .i64 1, .int .i64 0, .int .i64 0] ⟨false, 1⟩] : AMem))
    else (Option.bind (L.call 49 [.agg #[.int .i64 m0_0, .int .i64 m0_1], .int .i64 4] []) fun r_1 =>
      (Option.bind (intOf? .i64 (some r_1.1)) fun x_2 =>
      some (.agg #[.int .i64 4, .int .i64 (IntKind.wrap .i64 (Int.tdiv (IntKind.wrap .i64 (x1 - x_2)) 3)), .int .i64 (Int.tmod (IntKind.wrap .i64 (x1 - x_2)) 3)], ([AObj.cells [.int .i64 m0_0, .int .i64 m0_1] ⟨false, 0⟩, AObj.cells [.int .i64 4, .int .i64 (IntKind.wrap .i64 (Int.tdiv (IntKind.wrap .i64 (x1 - x_2)) 3)), .int .i64 (Int.tmod (IntKind.wrap .i64 (x1 - x_2)) 3)] ⟨false, 1⟩] : AMem))))) := by kernel_rfl
theorem QP22_33_eq (L : Rec) (P22_33 : Rec → Int → Int → Int → Int → Int → Int → Res) (hP22_33 : P22_33 = fun (L : Rec) (x1 : Int) (m0_0 : Int) (m0_1 : Int) (m1_0 : Int) (m1_1 : Int) (m1_2 : Int) => code L c22_33 (k22_33 L) (s22_33 x1 m0_0 m0_1 m1_0 m1_1 m1_2) ([AObj.cells [.int .i64 m0_0, .int .i64 m0_1] ⟨false, 0⟩, AObj.cells [.int .i64 m1_0, .int .i64 m1_1, .int .i64 m1_2] ⟨false, 0⟩] : AMem)) (x1 : Int) (m0_0 : Int) (m0_1 : Int) (m1_0 : Int) (m1_1 : Int) (m1_2 : Int) : P22_33 L x1 m0_0 m0_1 m1_0 m1_1 m1_2 =
  (if (x1 == 0) = true
    then some (.agg #[.int .i64 1, .int .i64 0, .int .i64 0], ([AObj.cells [.int .i64 m0_0, .int .i64 m0_1] ⟨false, 0⟩, AObj.cells [.int .i64 1, .int .i64 0, .int .i64 0] ⟨false, 1⟩] : AMem))
    else (Option.bind (L.call 49 [.agg #[.int .i64 m0_0, .int .i64 m0_1], .int .i64 4] []) fun r_1 =>
      (Option.bind (intOf? .i64 (some r_1.1)) fun x_2 =>
      some (.agg #[.int .i64 4, .int .i64 (IntKind.wrap .i64 (Int.tdiv (IntKind.wrap .i64 (x1 - x_2)) 3)), .int .i64 (Int.tmod (IntKind.wrap .i64 (x1 - x_2)) 3)], ([AObj.cells [.int .i64 m0_0, .int .i64 m0_1] ⟨false, 0⟩, AObj.cells [.int .i64 4, .int .i64 (IntKind.wrap .i64 (Int.tdiv (IntKind.wrap .i64 (x1 - x_2)) 3)), .int .i64 (Int.tmod (IntKind.wrap .i64 (x1 - x_2)) 3)] ⟨false, 1⟩] : AMem))))) := by
  subst hP22_33; exact Eq.mp (by kernel_rfl) (G22_33 L  x1 m0_0 m0_1 m1_0 m1_1 m1_2)
theorem P22_33_eq (L : Rec) (x1 : Int) (m0_0 : Int) (m0_1 : Int) (m1_0 : Int) (m1_1 : Int) (m1_2 : Int) : P22_33 L x1 m0_0 m0_1 m1_0 m1_1 m1_2 =
  (if (x1 == 0) = true
    then some (.agg #[.int .i64 1, .int .i64 0, .int .i64 0], ([AObj.cells [.int .i64 m0_0, .int .i64 m0_1] ⟨false, 0⟩, AObj.cells [.int .i64 1, .int .i64 0, .int .i64 0] ⟨false, 1⟩] : AMem))
    else (Option.bind (L.call 49 [.agg #[.int .i64 m0_0, .int .i64 m0_1], .int .i64 4] []) fun r_1 =>
      (Option.bind (intOf? .i64 (some r_1.1)) fun x_2 =>
      some (.agg #[.int .i64 4, .int .i64 (IntKind.wrap .i64 (Int.tdiv (IntKind.wrap .i64 (x1 - x_2)) 3)), .int .i64 (Int.tmod (IntKind.wrap .i64 (x1 - x_2)) 3)], ([AObj.cells [.int .i64 m0_0, .int .i64 m0_1] ⟨false, 0⟩, AObj.cells [.int .i64 4, .int .i64 (IntKind.wrap .i64 (Int.tdiv (IntKind.wrap .i64 (x1 - x_2)) 3)), .int .i64 (Int.tmod (IntKind.wrap .i64 (x1 - x_2)) 3)] ⟨false, 1⟩] : AMem))))) := QP22_33_eq L P22_33 (Classical.choose_spec XP22_33) x1 m0_0 m0_1 m1_0 m1_1 m1_2
theorem GE22 (L : Rec) (b22_14 c22_33 : ACode) (x0_0 : Int) (x0_1 : Int) (x1 : Int) : enterF L ⟨51, [.cell true [.int .i64, .int .i64, .int .i64] 4], .seq (.ops o22_1) (.seq (.seq (.ops o22_4) (.cond (.tmp 14) (.seq (.ops o22_7) (.ret)) (.skip))) (.seq (.seq (.ops o22_12) (.block 0 (.clear [0, 3, 6, 7, 8, 9, 10, 11, 12, 13, 14, 15, 16, 17, 18, 19, 20, 21, 22, 23, 24, 25, 26, 27, 28, 29, 30, 31, 32, 33, 34, 35, 36, 37, 38, 39, 40, 41, 42, 43, 44, 45, 46, 47, 48, 49, 50] (.loop b22_14)))) (.clear [0, 3, 5, 6, 7, 8, 9, 10, 11, 12, 13, 14, 15, 16, 17, 18, 19, 20, 21, 22, 23, 24, 25, 26, 27, 28, 29, 30, 31, 32, 33, 34, 35, 36, 37, 38, 39, 40, 41, 42, 43, 44, 45, 46, 47, 48, 49, 50] c22_33)))⟩ [.agg #[.int .i64 x0_0, .int .i64 x0_1], .int .i64 x1] [] =
  (if (decide (x1 < 0)) = true
    then some (.agg #[.int .i64 0, .int .i64 0, .int .i64 0], ([AObj.cells [.int .i64 x0_0, .int .i64 x0_1] ⟨false, 0⟩, AObj.cells [.int .i64 0, .int .i64 0, .int .i64 0] ⟨false, 1⟩] : AMem))
    else (Option.bind (L.call 16 [.agg #[.int .i64 x0_0, .int .i64 x0_1]] []) fun r_1 =>
      (Option.bind (intOf? .i64 (some r_1.1)) fun x_2 =>
      (if (decide (x1 ≥ x_2)) = true
      then some (.agg #[.int .i64 0, .int .i64 0, .int .i64 0], ([AObj.cells [.int .i64 x0_0, .int .i64 x0_1] ⟨false, 0⟩, AObj.cells [.int .i64 0, .int .i64 0, .int .i64 0] ⟨false, 1⟩] : AMem))
      else L.loop b22_14 (blockK 0 (seqK (code L (.clear [0, 3, 5, 6, 7, 8, 9, 10, 11, 12, 13, 14, 15, 16, 17, 18, 19, 20, 21, 22, 23, 24, 25, 26, 27, 28, 29, 30, 31, 32, 33, 34, 35, 36, 37, 38, 39, 40, 41, 42, 43, 44, 45, 46, 47, 48, 49, 50] c22_33) (retK [.cell true [.int .i64, .int .i64, .int .i64] 4])) (retK [.cell true [.int .i64, .int .i64, .int .i64] 4]))) [junk, .int .i64 x1, .pointer (some ⟨0, 0, none⟩), junk, .pointer (some ⟨1, 0, none⟩), .int .i64 3, junk, junk, junk, junk, junk, junk, junk, junk, junk, junk, junk, junk, junk, junk, junk, junk, junk, junk, junk, junk, junk, junk, junk, junk, junk, junk, junk, junk, junk, junk, junk, junk, junk, junk, junk, junk, junk, junk, junk, junk, junk, junk, junk, junk, junk] ([AObj.cells [.int .i64 x0_0, .int .i64 x0_1] ⟨false, 0⟩, AObj.cells [.int .i64 0, .int .i64 0, .int .i64 0] ⟨false, 0⟩] : AMem))))) := by kernel_rfl
theorem QE22 (L : Rec) (P22_14 : Rec → Int → Int → Int → Int → Int → Int → Int → Res) (hP22_14 : P22_14 = fun (L : Rec) (x1 : Int) (x5 : Int) (m0_0 : Int) (m0_1 : Int) (m1_0 : Int) (m1_1 : Int) (m1_2 : Int) => L.loop b22_14 (k22_14 L) (s22_14 x1 x5 m0_0 m0_1 m1_0 m1_1 m1_2) ([AObj.cells [.int .i64 m0_0, .int .i64 m0_1] ⟨false, 0⟩, AObj.cells [.int .i64 m1_0, .int .i64 m1_1, .int .i64 m1_2] ⟨false, 0⟩] : AMem)) (x0_0 : Int) (x0_1 : Int) (x1 : Int) : enterF L a22 [.agg #[.int .i64 x0_0, .int .i64 x0_1], .int .i64 x1] [] =
  (if (decide (x1 < 0)) = true
    then some (.agg #[.int .i64 0, .int .i64 0, .int .i64 0], ([AObj.cells [.int .i64 x0_0, .int .i64 x0_1] ⟨false, 0⟩, AObj.cells [.int .i64 0, .int .i64 0, .int .i64 0] ⟨false, 1⟩] : AMem))
    else (Option.bind (L.call 16 [.agg #[.int .i64 x0_0, .int .i64 x0_1]] []) fun r_1 =>
      (Option.bind (intOf? .i64 (some r_1.1)) fun x_2 =>
      (if (decide (x1 ≥ x_2)) = true
      then some (.agg #[.int .i64 0, .int .i64 0, .int .i64 0], ([AObj.cells [.int .i64 x0_0, .int .i64 x0_1] ⟨false, 0⟩, AObj.cells [.int .i64 0, .int .i64 0, .int .i64 0] ⟨false, 1⟩] : AMem))
      else P22_14 L x1 3 x0_0 x0_1 0 0 0)))) := by
  subst hP22_14; exact Eq.mp (by kernel_rfl) (GE22 L b22_14 c22_33 x0_0 x0_1 x1)
theorem E22 (L : Rec) (x0_0 : Int) (x0_1 : Int) (x1 : Int) : enterF L a22 [.agg #[.int .i64 x0_0, .int .i64 x0_1], .int .i64 x1] [] =
  (if (decide (x1 < 0)) = true
    then some (.agg #[.int .i64 0, .int .i64 0, .int .i64 0], ([AObj.cells [.int .i64 x0_0, .int .i64 x0_1] ⟨false, 0⟩, AObj.cells [.int .i64 0, .int .i64 0, .int .i64 0] ⟨false, 1⟩] : AMem))
    else (Option.bind (L.call 16 [.agg #[.int .i64 x0_0, .int .i64 x0_1]] []) fun r_1 =>
      (Option.bind (intOf? .i64 (some r_1.1)) fun x_2 =>
      (if (decide (x1 ≥ x_2)) = true
      then some (.agg #[.int .i64 0, .int .i64 0, .int .i64 0], ([AObj.cells [.int .i64 x0_0, .int .i64 x0_1] ⟨false, 0⟩, AObj.cells [.int .i64 0, .int .i64 0, .int .i64 0] ⟨false, 1⟩] : AMem))
      else P22_14 L x1 3 x0_0 x0_1 0 0 0)))) := QE22 L P22_14 (Classical.choose_spec XP22_14) x0_0 x0_1 x1
/-! #### skylightref31.Right -/
theorem GE12 (L : Rec) (x0_0 : Int) (x0_1 : Int) : enterF L ⟨21, [.tmp 2], .seq (.ops o12_1) (.seq (.ops o12_3) (.ret))⟩ [.agg #[.int .i64 x0_0, .int .i64 x0_1]] [] =
  (if (decide (x0_0 ≥ 1)) = true
    then (if (decide (x0_0 ≤ 65536)) = true
      then (if (decide (x0_1 ≥ 1)) = true
        then some (.bool (decide (x0_1 ≤ 256)), ([AObj.cells [.int .i64 x0_0, .int .i64 x0_1] ⟨false, 0⟩] : AMem))
        else some (.bool false, ([AObj.cells [.int .i64 x0_0, .int .i64 x0_1] ⟨false, 0⟩] : AMem)))
      else some (.bool false, ([AObj.cells [.int .i64 x0_0, .int .i64 x0_1] ⟨false, 0⟩] : AMem)))
    else some (.bool false, ([AObj.cells [.int .i64 x0_0, .int .i64 x0_1] ⟨false, 0⟩] : AMem))) := by kernel_rfl
theorem E12 (L : Rec) (x0_0 : Int) (x0_1 : Int) : enterF L a12 [.agg #[.int .i64 x0_0, .int .i64 x0_1]] [] =
  (if (decide (x0_0 ≥ 1)) = true
    then (if (decide (x0_0 ≤ 65536)) = true
      then (if (decide (x0_1 ≥ 1)) = true
        then some (.bool (decide (x0_1 ≤ 256)), ([AObj.cells [.int .i64 x0_0, .int .i64 x0_1] ⟨false, 0⟩] : AMem))
        else some (.bool false, ([AObj.cells [.int .i64 x0_0, .int .i64 x0_1] ⟨false, 0⟩] : AMem)))
      else some (.bool false, ([AObj.cells [.int .i64 x0_0, .int .i64 x0_1] ⟨false, 0⟩] : AMem)))
    else some (.bool false, ([AObj.cells [.int .i64 x0_0, .int .i64 x0_1] ⟨false, 0⟩] : AMem))) := Eq.mp (by kernel_rfl) (GE12 L  x0_0 x0_1)
end Go.Proofs.Ytaepdefnomcllaa
