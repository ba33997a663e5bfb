/- What the pieces of some functions come to. -/
import Derived.Test.YtjcmnchkgnmooaaCode
set_option linter.unusedVariables false
set_option maxRecDepth 100000
namespace Go.Proofs.Ytjcmnchkgnmooaa
open Go Go.Ax
/-! #### hue.of -/
theorem E18 (L : Rec) (x0_0 : Int) (x0_1 : Int) (x0_2 : Int) : enterF L a18 [.agg #[.int .i64 x0_0, .int .i64 x0_1, .int .i64 x0_2]] [] =
  some (.agg #[.int .i64 x0_0, .int .i64 x0_1, .int .i64 x0_2], ([AObj.cells [.int .i64 x0_0, .int .i64 x0_1, .int .i64 x0_2] ⟨false, 0⟩, AObj.cells [.int .i64 x0_0, .int .i64 x0_1, .int .i64 x0_2] ⟨false, 1⟩] : AMem)) := by kernel_rfl
/-! #### hue.channels.within -/
noncomputable def k19_6 (L : Rec) : KT := blockK 0 (seqK (code L (.clear zl19 c19_25) (retK [.tmp 4])) (retK [.tmp 4]))
def s19_6 (x1 : Int) (x7_0 : Int) (x7_1 : Int) (x7_2 : Int) (x8 : Int) (m0_0 : Int) (m0_1 : Int) (m0_2 : Int) : List Value := [junk, .int .i64 x1, junk, junk, junk, junk, junk, .agg #[.int .i64 x7_0, .int .i64 x7_1, .int .i64 x7_2], .int .i64 x8, junk, junk, junk, junk, junk, junk, junk, junk, junk, junk]
theorem XP19_6 : ∃ P : Rec → Int → Int → Int → Int → Int → Int → Int → Int → Res, P = fun (L : Rec) (x1 : Int) (x7_0 : Int) (x7_1 : Int) (x7_2 : Int) (x8 : Int) (m0_0 : Int) (m0_1 : Int) (m0_2 : Int) => L.loop b19_6 (k19_6 L) (s19_6 x1 x7_0 x7_1 x7_2 x8 m0_0 m0_1 m0_2) ([AObj.cells [.int .i64 m0_0, .int .i64 m0_1, .int .i64 m0_2] ⟨false, 0⟩] : AMem) := ⟨_, rfl⟩
noncomputable def P19_6 : Rec → Int → Int → Int → Int → Int → Int → Int → Int → Res := Classical.choose XP19_6
noncomputable def k19_24 (L : Rec) : KT := postK zl18 (loopK L b19_6 (blockK 0 (seqK (code L (.clear zl19 c19_25) (retK [.tmp 4])) (retK [.tmp 4]))))
def s19_24 (x1 : Int) (x7_0 : Int) (x7_1 : Int) (x7_2 : Int) (x8 : Int) (m0_0 : Int) (m0_1 : Int) (m0_2 : Int) : List Value := [junk, .int .i64 x1, junk, junk, junk, junk, junk, .agg #[.int .i64 x7_0, .int .i64 x7_1, .int .i64 x7_2], .int .i64 x8, junk, junk, junk, junk, junk, junk, junk, junk, junk, junk]
theorem XP19_24 : ∃ P : Rec → Int → Int → Int → Int → Int → Int → Int → Int → Res, P = fun (L : Rec) (x1 : Int) (x7_0 : Int) (x7_1 : Int) (x7_2 : Int) (x8 : Int) (m0_0 : Int) (m0_1 : Int) (m0_2 : Int) => code L c19_24 (k19_24 L) (s19_24 x1 x7_0 x7_1 x7_2 x8 m0_0 m0_1 m0_2) ([AObj.cells [.int .i64 m0_0, .int .i64 m0_1, .int .i64 m0_2] ⟨false, 0⟩] : AMem) := ⟨_, rfl⟩
noncomputable def P19_24 : Rec → Int → Int → Int → Int → Int → Int → Int → Int → Res := Classical.choose XP19_24
noncomputable def k19_25 (L : Rec) : KT := retK [.tmp 4]
def s19_25 (m0_0 : Int) (m0_1 : Int) (m0_2 : Int) : List Value := [junk, junk, junk, junk, junk, junk, junk, junk, junk, junk, junk, junk, junk, junk, junk, junk, junk, junk, junk]
theorem XP19_25 : ∃ P : Rec → Int → Int → Int → Res, P = fun (L : Rec) (m0_0 : Int) (m0_1 : Int) (m0_2 : Int) => code L c19_25 (k19_25 L) (s19_25 m0_0 m0_1 m0_2) ([AObj.cells [.int .i64 m0_0, .int .i64 m0_1, .int .i64 m0_2] ⟨false, 0⟩] : AMem) := ⟨_, rfl⟩
noncomputable def P19_25 : Rec → Int → Int → Int → Res := Classical.choose XP19_25
theorem QP19_6_eq (L : Rec) (b19_6 c19_24 c19_25 : ACode) (hb : ∀ K t A, L.loop b19_6 K t A = code L (.post (.seq (.ops o19_8) (.seq (.cond (.tmp 9) (.skip) (.exit 0)) (.seq (.block 1 (.seq (.ops o19_16) (.seq (.ops o19_18) (.cond (.tmp 17) (.seq (.ops o19_21) (.ret)) (.skip))))) (.clear zl18 c19_24)))) zl18) (loopK L b19_6 K) t A) (P19_6 : Rec → Int → Int → Int → Int → Int → Int → Int → Int → Res) (hP19_6 : Eq P19_6 fun L x1 x7_0 x7_1 x7_2 x8 m0_0 m0_1 m0_2 => L.loop b19_6 (blockK 0 (seqK (code L (.clear zl19 c19_25) (retK [.tmp 4])) (retK [.tmp 4]))) (s19_6 x1 x7_0 x7_1 x7_2 x8 m0_0 m0_1 m0_2) ([AObj.cells [.int .i64 m0_0, .int .i64 m0_1, .int .i64 m0_2] ⟨false, 0⟩] : AMem)) (P19_24 : Rec → Int → Int → Int → Int → Int → Int → Int → Int → Res) (hP19_24 : Eq P19_24 fun L x1 x7_0 x7_1 x7_2 x8 m0_0 m0_1 m0_2 => code L c19_24 (postK zl18 (loopK L b19_6 (blockK 0 (seqK (code L (.clear zl19 c19_25) (retK [.tmp 4])) (retK [.tmp 4]))))) (s19_24 x1 x7_0 x7_1 x7_2 x8 m0_0 m0_1 m0_2) ([AObj.cells [.int .i64 m0_0, .int .i64 m0_1, .int .i64 m0_2] ⟨false, 0⟩] : AMem)) (P19_25 : Rec → Int → Int → Int → Res) (hP19_25 : Eq P19_25 fun L m0_0 m0_1 m0_2 => code L c19_25 (retK [.tmp 4]) (s19_25 m0_0 m0_1 m0_2) ([AObj.cells [.int .i64 m0_0, .int .i64 m0_1, .int .i64 m0_2] ⟨false, 0⟩] : AMem)) (x1 : Int) (x7_0 : Int) (x7_1 : Int) (x7_2 : Int) (x8 : Int) (m0_0 : Int) (m0_1 : Int) (m0_2 : Int) : P19_6 L x1 x7_0 x7_1 x7_2 x8 m0_0 m0_1 m0_2 =
  (if (decide (x8 < 3)) = true
    then (if (0 : Int) ≤ x8 ∧ x8 < 3
      then (Option.bind (([x7_0, x7_1, x7_2] : List Int)[((Int.toNat x8) * 1)]?) fun x_1 =>
        (if (decide (x_1 < 0)) = true
        then some (.bool false, ([AObj.cells [.int .i64 m0_0, .int .i64 m0_1, .int .i64 m0_2] ⟨false, 0⟩] : AMem))
        else (if (decide (x_1 > x1)) = true
          then some (.bool false, ([AObj.cells [.int .i64 m0_0, .int .i64 m0_1, .int .i64 m0_2] ⟨false, 0⟩] : AMem))
          else P19_24 L x1 x7_0 x7_1 x7_2 x8 m0_0 m0_1 m0_2)))
      else none)
    else P19_25 L m0_0 m0_1 m0_2) := by
  subst hP19_6; subst hP19_24; subst hP19_25; exact (hb (blockK 0 (seqK (code L (.clear zl19 c19_25) (retK [.tmp 4])) (retK [.tmp 4]))) (s19_6 x1 x7_0 x7_1 x7_2 x8 m0_0 m0_1 m0_2) ([AObj.cells [.int .i64 m0_0, .int .i64 m0_1, .int .i64 m0_2] ⟨false, 0⟩] : AMem)).trans (by kernel_rfl)
theorem P19_6_eq (L : Rec) (hL : ∀ b K t A, L.loop b K t A = code L b (loopK L b K) t A) (x1 : Int) (x7_0 : Int) (x7_1 : Int) (x7_2 : Int) (x8 : Int) (m0_0 : Int) (m0_1 : Int) (m0_2 : Int) : P19_6 L x1 x7_0 x7_1 x7_2 x8 m0_0 m0_1 m0_2 =
  (if (decide (x8 < 3)) = true
    then (if (0 : Int) ≤ x8 ∧ x8 < 3
      then (Option.bind (([x7_0, x7_1, x7_2] : List Int)[((Int.toNat x8) * 1)]?) fun x_1 =>
        (if (decide (x_1 < 0)) = true
        then some (.bool false, ([AObj.cells [.int .i64 m0_0, .int .i64 m0_1, .int .i64 m0_2] ⟨false, 0⟩] : AMem))
        else (if (decide (x_1 > x1)) = true
          then some (.bool false, ([AObj.cells [.int .i64 m0_0, .int .i64 m0_1, .int .i64 m0_2] ⟨false, 0⟩] : AMem))
          else P19_24 L x1 x7_0 x7_1 x7_2 x8 m0_0 m0_1 m0_2)))
      else none)
    else P19_25 L m0_0 m0_1 m0_2) := QP19_6_eq L b19_6 c19_24 c19_25 (hL b19_6) P19_6 (Classical.choose_spec XP19_6) P19_24 (Classical.choose_spec XP19_24) P19_25 (Classical.choose_spec XP19_25) x1 x7_0 x7_1 x7_2 x8 m0_0 m0_1 m0_2
theorem QP19_24_eq (L : Rec) (b19_6 c19_25 : ACode) (P19_6 : Rec → Int → Int → Int → Int → Int → Int → Int → Int → Res) (hP19_6 : Eq P19_6 fun L x1 x7_0 x7_1 x7_2 x8 m0_0 m0_1 m0_2 => L.loop b19_6 (blockK 0 (seqK (code L (.clear zl19 c19_25) (retK [.tmp 4])) (retK [.tmp 4]))) (s19_6 x1 x7_0 x7_1 x7_2 x8 m0_0 m0_1 m0_2) ([AObj.cells [.int .i64 m0_0, .int .i64 m0_1, .int .i64 m0_2] ⟨false, 0⟩] : AMem)) (P19_24 : Rec → Int → Int → Int → Int → Int → Int → Int → Int → Res) (hP19_24 : Eq P19_24 fun L x1 x7_0 x7_1 x7_2 x8 m0_0 m0_1 m0_2 => code L (.ops o19_24) (postK zl18 (loopK L b19_6 (blockK 0 (seqK (code L (.clear zl19 c19_25) (retK [.tmp 4])) (retK [.tmp 4]))))) (s19_24 x1 x7_0 x7_1 x7_2 x8 m0_0 m0_1 m0_2) ([AObj.cells [.int .i64 m0_0, .int .i64 m0_1, .int .i64 m0_2] ⟨false, 0⟩] : AMem)) (x1 : Int) (x7_0 : Int) (x7_1 : Int) (x7_2 : Int) (x8 : Int) (m0_0 : Int) (m0_1 : Int) (m0_2 : Int) : P19_24 L x1 x7_0 x7_1 x7_2 x8 m0_0 m0_1 m0_2 =
  P19_6 L x1 x7_0 x7_1 x7_2 (IntKind.wrap .i64 (x8 + 1)) m0_0 m0_1 m0_2 := by
  subst hP19_6; subst hP19_24; kernel_rfl
theorem P19_24_eq (L : Rec) (x1 : Int) (x7_0 : Int) (x7_1 : Int) (x7_2 : Int) (x8 : Int) (m0_0 : Int) (m0_1 : Int) (m0_2 : Int) : P19_24 L x1 x7_0 x7_1 x7_2 x8 m0_0 m0_1 m0_2 =
  P19_6 L x1 x7_0 x7_1 x7_2 (IntKind.wrap .i64 (x8 + 1)) m0_0 m0_1 m0_2 := QP19_24_eq L b19_6 c19_25 P19_6 (Classical.choose_spec XP19_6) P19_24 (Classical.choose_spec XP19_24) x1 x7_0 x7_1 x7_2 x8 m0_0 m0_1 m0_2
theorem QP19_25_eq (L : Rec) (P19_25 : Rec → Int → Int → Int → Res) (hP19_25 : Eq P19_25 fun L m0_0 m0_1 m0_2 => code L (.seq (.ops o19_26) (.ret)) (retK [.tmp 4]) (s19_25 m0_0 m0_1 m0_2) ([AObj.cells [.int .i64 m0_0, .int .i64 m0_1, .int .i64 m0_2] ⟨false, 0⟩] : AMem)) (m0_0 : Int) (m0_1 : Int) (m0_2 : Int) : P19_25 L m0_0 m0_1 m0_2 =
  some (.bool true, ([AObj.cells [.int .i64 m0_0, .int .i64 m0_1, .int .i64 m0_2] ⟨false, 0⟩] : AMem)) := by
  subst hP19_25; kernel_rfl
theorem P19_25_eq (L : Rec) (m0_0 : Int) (m0_1 : Int) (m0_2 : Int) : P19_25 L m0_0 m0_1 m0_2 =
  some (.bool true, ([AObj.cells [.int .i64 m0_0, .int .i64 m0_1, .int .i64 m0_2] ⟨false, 0⟩] : AMem)) := QP19_25_eq L P19_25 (Classical.choose_spec XP19_25) m0_0 m0_1 m0_2
theorem QE19 (L : Rec) (b19_6 c19_25 : ACode) (P19_6 : Rec → Int → Int → Int → Int → Int → Int → Int → Int → Res) (hP19_6 : Eq P19_6 fun L x1 x7_0 x7_1 x7_2 x8 m0_0 m0_1 m0_2 => L.loop b19_6 (blockK 0 (seqK (code L (.clear zl19 c19_25) (retK [.tmp 4])) (retK [.tmp 4]))) (s19_6 x1 x7_0 x7_1 x7_2 x8 m0_0 m0_1 m0_2) ([AObj.cells [.int .i64 m0_0, .int .i64 m0_1, .int .i64 m0_2] ⟨false, 0⟩] : AMem)) (x0_0 : Int) (x0_1 : Int) (x0_2 : Int) (x1 : Int) : enterF L ⟨19, [.tmp 4], .seq (.ops o19_1) (.seq (.seq (.ops o19_4) (.block 0 (.clear zl18 (.loop b19_6)))) (.clear zl19 c19_25))⟩ [.agg #[.int .i64 x0_0, .int .i64 x0_1, .int .i64 x0_2], .int .i64 x1] [] =
  P19_6 L x1 x0_0 x0_1 x0_2 0 x0_0 x0_1 x0_2 := by
  subst hP19_6; kernel_rfl
theorem E19 (L : Rec) (x0_0 : Int) (x0_1 : Int) (x0_2 : Int) (x1 : Int) : enterF L a19 [.agg #[.int .i64 x0_0, .int .i64 x0_1, .int .i64 x0_2], .int .i64 x1] [] =
  P19_6 L x1 x0_0 x0_1 x0_2 0 x0_0 x0_1 x0_2 := QE19 L b19_6 c19_25 P19_6 (Classical.choose_spec XP19_6) x0_0 x0_1 x0_2 x1
/-! #### hue.Weight -/
theorem E15 (L : Rec) (x0_0 : Int) (x0_1 : Int) (x0_2 : Int) : enterF L a15 [.agg #[.int .i64 x0_0, .int .i64 x0_1, .int .i64 x0_2]] [] =
  (Option.bind (L.call 18 [.agg #[.int .i64 x0_0, .int .i64 x0_1, .int .i64 x0_2]] []) fun r_1 =>
    (Option.bind (aggOf? 3 r_1.1) fun cs_2 =>
    (Option.bind (intOf? .i64 (cs_2[0]?)) fun x_3 =>
    (Option.bind (intOf? .i64 (cs_2[1]?)) fun x_4 =>
    (Option.bind (intOf? .i64 (cs_2[2]?)) fun x_5 =>
    (Option.bind (L.call 19 [.agg #[.int .i64 x_3, .int .i64 x_4, .int .i64 x_5], .int .i64 1099511627776] []) fun r_6 =>
    (Option.bind (boolOf? (some r_6.1)) fun q_7 =>
    some (.bool q_7, ([AObj.cells [.int .i64 x0_0, .int .i64 x0_1, .int .i64 x0_2] ⟨false, 0⟩] : AMem))))))))) := by kernel_rfl
end Go.Proofs.Ytjcmnchkgnmooaa
