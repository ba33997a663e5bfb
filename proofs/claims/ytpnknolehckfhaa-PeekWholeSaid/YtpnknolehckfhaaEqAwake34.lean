/- What the pieces of some functions come to. -/
import Derived.Test.YtpnknolehckfhaaCode
set_option linter.unusedVariables false
set_option maxRecDepth 100000
namespace Go.Proofs.Ytpnknolehckfhaa
open Go Go.Ax
/-! #### skylightlaw34.awake -/
noncomputable def k8_12 (L : Rec) : KT := blockK 0 (seqK (code L (.clear zl28 c8_21) (retK [.tmp 0])) (retK [.tmp 0]))
def s8_12 (x2 : Option Addr) (x3 : Option Addr) (x4 : Int) (M : AMem) : List Value := [junk, .pointer (some ⟨0, 0, none⟩), .pointer x2, .pointer x3, .int .i64 x4, junk, junk, junk, junk, junk, junk, junk, junk, junk, junk, junk, junk, junk, junk, junk, junk, junk, junk, junk, junk, junk, junk, junk, junk, junk, junk, junk, junk, junk, junk, junk, junk, junk, junk, junk, junk, junk, junk, junk, junk, junk, junk, junk, junk, junk, junk, junk]
theorem XP8_12 : ∃ P : Rec → (Option Addr) → (Option Addr) → Int → AMem → Res, P = fun (L : Rec) (x2 : Option Addr) (x3 : Option Addr) (x4 : Int) (M : AMem) => L.loop b8_12 (k8_12 L) (s8_12 x2 x3 x4 M) M := ⟨_, rfl⟩
noncomputable def P8_12 : Rec → (Option Addr) → (Option Addr) → Int → AMem → Res := Classical.choose XP8_12
noncomputable def k8_21 (L : Rec) : KT := retK [.tmp 0]
def s8_21 (x3 : Option Addr) (x4 : Int) (M : AMem) : List Value := [junk, .pointer (some ⟨0, 0, none⟩), junk, .pointer x3, .int .i64 x4, junk, junk, junk, junk, junk, junk, junk, junk, junk, junk, junk, junk, junk, junk, junk, junk, junk, junk, junk, junk, junk, junk, junk, junk, junk, junk, junk, junk, junk, junk, junk, junk, junk, junk, junk, junk, junk, junk, junk, junk, junk, junk, junk, junk, junk, junk, junk]
theorem XP8_21 : ∃ P : Rec → (Option Addr) → Int → AMem → Res, P = fun (L : Rec) (x3 : Option Addr) (x4 : Int) (M : AMem) => code L c8_21 (k8_21 L) (s8_21 x3 x4 M) M := ⟨_, rfl⟩
noncomputable def P8_21 : Rec → (Option Addr) → Int → AMem → Res := Classical.choose XP8_21
theorem QP8_12_eq (L : Rec) (b8_12 c8_21 : ACode) (hb : ∀ K t A, L.loop b8_12 K t A = code L (.post (.seq (.seq (.ops o8_15) (.cond (.tmp 19) (.skip) (.exit 0))) (.block 1 (.ops o8_20))) zl27) (loopK L b8_12 K) t A) (P8_12 : Rec → (Option Addr) → (Option Addr) → Int → AMem → Res) (hP8_12 : Eq P8_12 fun L x2 x3 x4 M => L.loop b8_12 (blockK 0 (seqK (code L (.clear zl28 c8_21) (retK [.tmp 0])) (retK [.tmp 0]))) (s8_12 x2 x3 x4 M) M) (P8_21 : Rec → (Option Addr) → Int → AMem → Res) (hP8_21 : Eq P8_21 fun L x3 x4 M => code L c8_21 (retK [.tmp 0]) (s8_21 x3 x4 M) M) (x2 : Option Addr) (x3 : Option Addr) (x4 : Int) (M : AMem) : P8_12 L x2 x3 x4 M =
  (if (decide (x4 < 9)) = true
    then (Option.bind (L.call 17 [.pointer x3, .pointer x2] M) fun r_1 =>
      (Option.bind (boolOf? (some r_1.1)) fun q_2 =>
      (if q_2 = true
      then P8_12 L x2 x3 (IntKind.wrap .i64 (x4 + 1)) r_1.2
      else P8_21 L x3 x4 r_1.2)))
    else P8_21 L x3 x4 M) := by
  subst hP8_12; subst hP8_21; exact (hb (blockK 0 (seqK (code L (.clear zl28 c8_21) (retK [.tmp 0])) (retK [.tmp 0]))) (s8_12 x2 x3 x4 M) M).trans (by kernel_rfl)
theorem P8_12_eq (L : Rec) (hL : ∀ b K t A, L.loop b K t A = code L b (loopK L b K) t A) (x2 : Option Addr) (x3 : Option Addr) (x4 : Int) (M : AMem) : P8_12 L x2 x3 x4 M =
  (if (decide (x4 < 9)) = true
    then (Option.bind (L.call 17 [.pointer x3, .pointer x2] M) fun r_1 =>
      (Option.bind (boolOf? (some r_1.1)) fun q_2 =>
      (if q_2 = true
      then P8_12 L x2 x3 (IntKind.wrap .i64 (x4 + 1)) r_1.2
      else P8_21 L x3 x4 r_1.2)))
    else P8_21 L x3 x4 M) := QP8_12_eq L b8_12 c8_21 (hL b8_12) P8_12 (Classical.choose_spec XP8_12) P8_21 (Classical.choose_spec XP8_21) x2 x3 x4 M
theorem QP8_21_eq (L : Rec) (P8_21 : Rec → (Option Addr) → Int → AMem → Res) (hP8_21 : Eq P8_21 fun L x3 x4 M => code L (.seq (.ops o8_22) (.seq (.ops o8_24) (.ret))) (retK [.tmp 0]) (s8_21 x3 x4 M) M) (x3 : Option Addr) (x4 : Int) (M : AMem) : P8_21 L x3 x4 M =
  (Option.bind (L.call 20 [.pointer x3] M) fun r_1 =>
    (Option.bind (tupOf? 2 r_1.1) fun cs_2 =>
    (Option.bind (cs_2[0]?) fun u_3 =>
    (Option.bind (sliceOf? (some u_3)) fun s_4 =>
    (Option.bind (cs_2[1]?) fun u_5 =>
    (Option.bind (intOf? .i64 (some u_5)) fun x_6 =>
    (if (x4 == 5) = true
    then (Option.bind (intOf? .i64 (AMem.ld r_1.2 0 0)) fun x_7 =>
      (Option.bind (intOf? .i64 (AMem.ld r_1.2 0 1)) fun x_8 =>
      (Option.bind (L.call 30 [.agg #[.int .i64 x_7, .int .i64 x_8]] []) fun r_9 =>
      (Option.bind (intOf? .i64 (some r_9.1)) fun x_10 =>
      (if (x_10 == 5) = true
      then (if (x_6 == 0) = true
        then (if ((Int.ofNat s_4.2.1) == 1) = true
          then (Option.bind (L.call 15 [.pointer x3] r_1.2) fun r_11 =>
            (Option.bind (boolOf? (some r_11.1)) fun q_12 =>
            (if q_12 = true
            then (Option.bind (intOf? .i64 (AMem.ld r_11.2 0 0)) fun x_13 =>
              (Option.bind (intOf? .i64 (AMem.ld r_11.2 0 1)) fun x_14 =>
              (Option.bind (L.call 11 [.agg #[.int .i64 x_13, .int .i64 x_14], .int .i64 0] r_11.2) fun r_15 =>
              (Option.bind (ptrOf? (some r_15.1)) fun p_16 =>
              some (.bool (Option.isNone p_16), r_15.2)))))
            else some (.bool false, r_11.2))))
          else some (.bool false, r_1.2))
        else some (.bool false, r_1.2))
      else some (.bool false, r_1.2))))))
    else some (.bool false, r_1.2)))))))) := by
  subst hP8_21; kernel_rfl
theorem P8_21_eq (L : Rec) (x3 : Option Addr) (x4 : Int) (M : AMem) : P8_21 L x3 x4 M =
  (Option.bind (L.call 20 [.pointer x3] M) fun r_1 =>
    (Option.bind (tupOf? 2 r_1.1) fun cs_2 =>
    (Option.bind (cs_2[0]?) fun u_3 =>
    (Option.bind (sliceOf? (some u_3)) fun s_4 =>
    (Option.bind (cs_2[1]?) fun u_5 =>
    (Option.bind (intOf? .i64 (some u_5)) fun x_6 =>
    (if (x4 == 5) = true
    then (Option.bind (intOf? .i64 (AMem.ld r_1.2 0 0)) fun x_7 =>
      (Option.bind (intOf? .i64 (AMem.ld r_1.2 0 1)) fun x_8 =>
      (Option.bind (L.call 30 [.agg #[.int .i64 x_7, .int .i64 x_8]] []) fun r_9 =>
      (Option.bind (intOf? .i64 (some r_9.1)) fun x_10 =>
      (if (x_10 == 5) = true
      then (if (x_6 == 0) = true
        then (if ((Int.ofNat s_4.2.1) == 1) = true
          then (Option.bind (L.call 15 [.pointer x3] r_1.2) fun r_11 =>
            (Option.bind (boolOf? (some r_11.1)) fun q_12 =>
            (if q_12 = true
            then (Option.bind (intOf? .i64 (AMem.ld r_11.2 0 0)) fun x_13 =>
              (Option.bind (intOf? .i64 (AMem.ld r_11.2 0 1)) fun x_14 =>
              (Option.bind (L.call 11 [.agg #[.int .i64 x_13, .int .i64 x_14], .int .i64 0] r_11.2) fun r_15 =>
              (Option.bind (ptrOf? (some r_15.1)) fun p_16 =>
              some (.bool (Option.isNone p_16), r_15.2)))))
            else some (.bool false, r_11.2))))
          else some (.bool false, r_1.2))
        else some (.bool false, r_1.2))
      else some (.bool false, r_1.2))))))
    else some (.bool false, r_1.2)))))))) := QP8_21_eq L P8_21 (Classical.choose_spec XP8_21) x3 x4 M
theorem QE8 (L : Rec) (b8_12 c8_21 : ACode) (P8_12 : Rec → (Option Addr) → (Option Addr) → Int → AMem → Res) (hP8_12 : Eq P8_12 fun L x2 x3 x4 M => L.loop b8_12 (blockK 0 (seqK (code L (.clear zl28 c8_21) (retK [.tmp 0])) (retK [.tmp 0]))) (s8_12 x2 x3 x4 M) M) : enterF L ⟨52, [.tmp 0], .seq (.ops o8_1) (.seq (.ops o8_3) (.seq (.ops o8_5) (.seq (.ops o8_7) (.seq (.ops o8_9) (.seq (.block 0 (.clear zl27 (.loop b8_12))) (.clear zl28 c8_21))))))⟩ [] [] =
  (Option.bind (L.call 35 [.agg #[.int .i64 1, .int .i64 1]] []) fun r_1 =>
    (Option.bind (intOf? .i64 (some r_1.1)) fun x_2 =>
    (Option.bind (L.call 9 [.int .i64 x_2] ([AObj.cells [.int .i64 1, .int .i64 1] ⟨false, 1⟩] : AMem)) fun r_3 =>
    (Option.bind (ptrOf? (some r_3.1)) fun p_4 =>
    (Option.bind (intOf? .i64 (AMem.ld r_3.2 0 0)) fun x_5 =>
    (Option.bind (intOf? .i64 (AMem.ld r_3.2 0 1)) fun x_6 =>
    (Option.bind (L.call 11 [.agg #[.int .i64 x_5, .int .i64 x_6], .int .i64 1] r_3.2) fun r_7 =>
    (Option.bind (ptrOf? (some r_7.1)) fun p_8 =>
    P8_12 L p_4 p_8 0 r_7.2)))))))) := by
  subst hP8_12; kernel_rfl
theorem E8 (L : Rec) : enterF L a8 [] [] =
  (Option.bind (L.call 35 [.agg #[.int .i64 1, .int .i64 1]] []) fun r_1 =>
    (Option.bind (intOf? .i64 (some r_1.1)) fun x_2 =>
    (Option.bind (L.call 9 [.int .i64 x_2] ([AObj.cells [.int .i64 1, .int .i64 1] ⟨false, 1⟩] : AMem)) fun r_3 =>
    (Option.bind (ptrOf? (some r_3.1)) fun p_4 =>
    (Option.bind (intOf? .i64 (AMem.ld r_3.2 0 0)) fun x_5 =>
    (Option.bind (intOf? .i64 (AMem.ld r_3.2 0 1)) fun x_6 =>
    (Option.bind (L.call 11 [.agg #[.int .i64 x_5, .int .i64 x_6], .int .i64 1] r_3.2) fun r_7 =>
    (Option.bind (ptrOf? (some r_7.1)) fun p_8 =>
    P8_12 L p_4 p_8 0 r_7.2)))))))) := QE8 L b8_12 c8_21 P8_12 (Classical.choose_spec XP8_12)
end Go.Proofs.Ytpnknolehckfhaa
