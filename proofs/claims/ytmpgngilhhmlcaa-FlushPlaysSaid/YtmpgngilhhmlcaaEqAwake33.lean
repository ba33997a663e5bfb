/- What the pieces of some functions come to. -/
import Derived.Test.YtmpgngilhhmlcaaCode
set_option linter.unusedVariables false
set_option maxRecDepth 100000
namespace Go.Proofs.Ytmpgngilhhmlcaa
open Go Go.Ax
/-! #### skylightlaw33.awake -/
noncomputable def k8_14 (L : Rec) : KT := blockK 0 (seqK (code L (.clear zl27 c8_23) (retK [.tmp 0])) (retK [.tmp 0]))
def s8_14 (x2n : Nat) (x3 : Option Addr) (x4 : Option Addr) (x5 : Int) (M : AMem) : List Value := [junk, .pointer (some ⟨0, 0, none⟩), .slice (some ⟨1, 0, none⟩) x2n 4, .pointer x3, .pointer x4, .int .i64 x5, junk, junk, junk, junk, junk, junk, junk, junk, junk, junk, junk, junk, junk, junk, junk, junk, junk, junk, junk, junk, junk, junk, junk, junk, junk, junk, junk, junk, junk, junk, junk, junk, junk, junk, junk, junk, junk, junk, junk, junk, junk, junk, junk, junk, junk, junk, junk, junk, junk, junk, junk, junk, junk]
theorem XP8_14 : ∃ P : Rec → Nat → (Option Addr) → (Option Addr) → Int → AMem → Res, P = fun (L : Rec) (x2n : Nat) (x3 : Option Addr) (x4 : Option Addr) (x5 : Int) (M : AMem) => L.loop b8_14 (k8_14 L) (s8_14 x2n x3 x4 x5 M) M := ⟨_, rfl⟩
noncomputable def P8_14 : Rec → Nat → (Option Addr) → (Option Addr) → Int → AMem → Res := Classical.choose XP8_14
noncomputable def k8_23 (L : Rec) : KT := retK [.tmp 0]
def s8_23 (x2n : Nat) (x3 : Option Addr) (x4 : Option Addr) (x5 : Int) (M : AMem) : List Value := [junk, .pointer (some ⟨0, 0, none⟩), .slice (some ⟨1, 0, none⟩) x2n 4, .pointer x3, .pointer x4, .int .i64 x5, junk, junk, junk, junk, junk, junk, junk, junk, junk, junk, junk, junk, junk, junk, junk, junk, junk, junk, junk, junk, junk, junk, junk, junk, junk, junk, junk, junk, junk, junk, junk, junk, junk, junk, junk, junk, junk, junk, junk, junk, junk, junk, junk, junk, junk, junk, junk, junk, junk, junk, junk, junk, junk]
theorem XP8_23 : ∃ P : Rec → Nat → (Option Addr) → (Option Addr) → Int → AMem → Res, P = fun (L : Rec) (x2n : Nat) (x3 : Option Addr) (x4 : Option Addr) (x5 : Int) (M : AMem) => code L c8_23 (k8_23 L) (s8_23 x2n x3 x4 x5 M) M := ⟨_, rfl⟩
noncomputable def P8_23 : Rec → Nat → (Option Addr) → (Option Addr) → Int → AMem → Res := Classical.choose XP8_23
theorem QP8_14_eq (L : Rec) (b8_14 c8_23 : ACode) (hb : ∀ K t A, L.loop b8_14 K t A = code L (.post (.seq (.seq (.ops o8_17) (.cond (.tmp 24) (.skip) (.exit 0))) (.block 1 (.ops o8_22))) zl27) (loopK L b8_14 K) t A) (P8_14 : Rec → Nat → (Option Addr) → (Option Addr) → Int → AMem → Res) (hP8_14 : P8_14 = fun (L : Rec) (x2n : Nat) (x3 : Option Addr) (x4 : Option Addr) (x5 : Int) (M : AMem) => L.loop b8_14 (blockK 0 (seqK (code L (.clear zl27 c8_23) (retK [.tmp 0])) (retK [.tmp 0]))) (s8_14 x2n x3 x4 x5 M) M) (P8_23 : Rec → Nat → (Option Addr) → (Option Addr) → Int → AMem → Res) (hP8_23 : P8_23 = fun (L : Rec) (x2n : Nat) (x3 : Option Addr) (x4 : Option Addr) (x5 : Int) (M : AMem) => code L c8_23 (retK [.tmp 0]) (s8_23 x2n x3 x4 x5 M) M) (x2n : Nat) (x3 : Option Addr) (x4 : Option Addr) (x5 : Int) (M : AMem) : P8_14 L x2n x3 x4 x5 M =
  (if (decide (x5 < 9)) = true
    then (Option.bind (L.call 13 [.pointer x3, .pointer x4] M) fun r_1 =>
      (Option.bind (boolOf? (some r_1.1)) fun q_2 =>
      (if q_2 = true
      then P8_14 L x2n x3 x4 (IntKind.wrap .i64 (x5 + 1)) r_1.2
      else P8_23 L x2n x3 x4 x5 r_1.2)))
    else P8_23 L x2n x3 x4 x5 M) := by
  subst hP8_14; subst hP8_23; exact (hb (blockK 0 (seqK (code L (.clear zl27 c8_23) (retK [.tmp 0])) (retK [.tmp 0]))) (s8_14 x2n x3 x4 x5 M) M).trans (by kernel_rfl)
theorem P8_14_eq (L : Rec) (hL : ∀ b K t A, L.loop b K t A = code L b (loopK L b K) t A) (x2n : Nat) (x3 : Option Addr) (x4 : Option Addr) (x5 : Int) (M : AMem) : P8_14 L x2n x3 x4 x5 M =
  (if (decide (x5 < 9)) = true
    then (Option.bind (L.call 13 [.pointer x3, .pointer x4] M) fun r_1 =>
      (Option.bind (boolOf? (some r_1.1)) fun q_2 =>
      (if q_2 = true
      then P8_14 L x2n x3 x4 (IntKind.wrap .i64 (x5 + 1)) r_1.2
      else P8_23 L x2n x3 x4 x5 r_1.2)))
    else P8_23 L x2n x3 x4 x5 M) := QP8_14_eq L b8_14 c8_23 (hL b8_14) P8_14 (Classical.choose_spec XP8_14) P8_23 (Classical.choose_spec XP8_23) x2n x3 x4 x5 M
theorem QP8_23_eq (L : Rec) (P8_23 : Rec → Nat → (Option Addr) → (Option Addr) → Int → AMem → Res) (hP8_23 : P8_23 = fun (L : Rec) (x2n : Nat) (x3 : Option Addr) (x4 : Option Addr) (x5 : Int) (M : AMem) => code L (.seq (.ops o8_24) (.seq (.ops o8_26) (.ret))) (retK [.tmp 0]) (s8_23 x2n x3 x4 x5 M) M) (x2n : Nat) (x3 : Option Addr) (x4 : Option Addr) (x5 : Int) (M : AMem) : P8_23 L x2n x3 x4 x5 M =
  (Option.bind (intOf? .i64 (AMem.ld M 0 0)) fun x_1 =>
    (Option.bind (intOf? .i64 (AMem.ld M 0 1)) fun x_2 =>
    (Option.bind (L.call 30 [.agg #[.int .i64 x_1, .int .i64 x_2], .int .i64 1, .int .i64 1] []) fun r_3 =>
    (Option.bind (intOf? .i64 (some r_3.1)) fun x_4 =>
    (Option.bind (L.call 29 [.pointer x4, .int .i64 x_4] M) fun r_5 =>
    (Option.bind (tupOf? 2 r_5.1) fun cs_6 =>
    (Option.bind (cs_6[0]?) fun u_7 =>
    (Option.bind (intOf? .u64 (some u_7)) fun x_8 =>
    (Option.bind (cs_6[1]?) fun u_9 =>
    (Option.bind (boolOf? (some u_9)) fun q_10 =>
    (if (x5 == 6) = true
    then (Option.bind (L.call 24 [.slice (some ⟨1, 0, none⟩) x2n 4] r_5.2) fun r_11 =>
      (Option.bind (intOf? .i64 (some r_11.1)) fun x_12 =>
      (if (x_12 == 6) = true
      then (Option.bind (L.call 15 [.pointer x3] r_11.2) fun r_13 =>
        (Option.bind (boolOf? (some r_13.1)) fun q_14 =>
        (if q_14 = true
        then (Option.bind (L.call 27 [.pointer x3] r_13.2) fun r_15 =>
          (Option.bind (boolOf? (some r_15.1)) fun q_16 =>
          (if q_16 = true
          then (if (x_8 == 5) = true
            then (Option.bind (intOf? .i64 (AMem.ld r_15.2 0 0)) fun x_17 =>
              (Option.bind (intOf? .i64 (AMem.ld r_15.2 0 1)) fun x_18 =>
              (Option.bind (L.call 21 [.agg #[.int .i64 x_17, .int .i64 x_18], .int .i64 1, .slice (some ⟨1, 0, none⟩) x2n 4] r_15.2) fun r_19 =>
              (Option.bind (ptrOf? (some r_19.1)) fun p_20 =>
              some (.bool (Option.isNone p_20), r_19.2)))))
            else some (.bool false, r_15.2))
          else some (.bool false, r_15.2))))
        else some (.bool false, r_13.2))))
      else some (.bool false, r_11.2))))
    else some (.bool false, r_5.2)))))))))))) := by
  subst hP8_23; kernel_rfl
theorem P8_23_eq (L : Rec) (x2n : Nat) (x3 : Option Addr) (x4 : Option Addr) (x5 : Int) (M : AMem) : P8_23 L x2n x3 x4 x5 M =
  (Option.bind (intOf? .i64 (AMem.ld M 0 0)) fun x_1 =>
    (Option.bind (intOf? .i64 (AMem.ld M 0 1)) fun x_2 =>
    (Option.bind (L.call 30 [.agg #[.int .i64 x_1, .int .i64 x_2], .int .i64 1, .int .i64 1] []) fun r_3 =>
    (Option.bind (intOf? .i64 (some r_3.1)) fun x_4 =>
    (Option.bind (L.call 29 [.pointer x4, .int .i64 x_4] M) fun r_5 =>
    (Option.bind (tupOf? 2 r_5.1) fun cs_6 =>
    (Option.bind (cs_6[0]?) fun u_7 =>
    (Option.bind (intOf? .u64 (some u_7)) fun x_8 =>
    (Option.bind (cs_6[1]?) fun u_9 =>
    (Option.bind (boolOf? (some u_9)) fun q_10 =>
    (if (x5 == 6) = true
    then (Option.bind (L.call 24 [.slice (some ⟨1, 0, none⟩) x2n 4] r_5.2) fun r_11 =>
      (Option.bind (intOf? .i64 (some r_11.1)) fun x_12 =>
      (if (x_12 == 6) = true
      then (Option.bind (L.call 15 [.pointer x3] r_11.2) fun r_13 =>
        (Option.bind (boolOf? (some r_13.1)) fun q_14 =>
        (if q_14 = true
        then (Option.bind (L.call 27 [.pointer x3] r_13.2) fun r_15 =>
          (Option.bind (boolOf? (some r_15.1)) fun q_16 =>
          (if q_16 = true
          then (if (x_8 == 5) = true
            then (Option.bind (intOf? .i64 (AMem.ld r_15.2 0 0)) fun x_17 =>
              (Option.bind (intOf? .i64 (AMem.ld r_15.2 0 1)) fun x_18 =>
              (Option.bind (L.call 21 [.agg #[.int .i64 x_17, .int .i64 x_18], .int .i64 1, .slice (some ⟨1, 0, none⟩) x2n 4] r_15.2) fun r_19 =>
              (Option.bind (ptrOf? (some r_19.1)) fun p_20 =>
              some (.bool (Option.isNone p_20), r_19.2)))))
            else some (.bool false, r_15.2))
          else some (.bool false, r_15.2))))
        else some (.bool false, r_13.2))))
      else some (.bool false, r_11.2))))
    else some (.bool false, r_5.2)))))))))))) := QP8_23_eq L P8_23 (Classical.choose_spec XP8_23) x2n x3 x4 x5 M
theorem QE8 (L : Rec) (b8_14 c8_23 : ACode) (P8_14 : Rec → Nat → (Option Addr) → (Option Addr) → Int → AMem → Res) (hP8_14 : P8_14 = fun (L : Rec) (x2n : Nat) (x3 : Option Addr) (x4 : Option Addr) (x5 : Int) (M : AMem) => L.loop b8_14 (blockK 0 (seqK (code L (.clear zl27 c8_23) (retK [.tmp 0])) (retK [.tmp 0]))) (s8_14 x2n x3 x4 x5 M) M) : enterF L ⟨59, [.tmp 0], .seq (.ops o8_1) (.seq (.ops o8_3) (.seq (.ops o8_5) (.seq (.ops o8_7) (.seq (.ops o8_9) (.seq (.ops o8_11) (.seq (.block 0 (.clear zl27 (.loop b8_14))) (.clear zl27 c8_23)))))))⟩ [] [] =
  (Option.bind (L.call 21 [.agg #[.int .i64 2, .int .i64 1], .int .i64 0, .slice (some ⟨1, 0, none⟩) 1 4] ([AObj.cells [.int .i64 2, .int .i64 1] ⟨false, 1⟩, AObj.cells [.int .i64 1, .int .u64 0, .int .u64 5, .int .u64 0] ⟨false, 0⟩] : AMem)) fun r_1 =>
    (Option.bind (ptrOf? (some r_1.1)) fun p_2 =>
    (Option.bind (intOf? .i64 (AMem.ld r_1.2 0 0)) fun x_3 =>
    (Option.bind (intOf? .i64 (AMem.ld r_1.2 0 1)) fun x_4 =>
    (Option.bind (L.call 28 [.agg #[.int .i64 x_3, .int .i64 x_4]] []) fun r_5 =>
    (Option.bind (intOf? .i64 (some r_5.1)) fun x_6 =>
    (Option.bind (L.call 9 [.int .i64 x_6] r_1.2) fun r_7 =>
    (Option.bind (ptrOf? (some r_7.1)) fun p_8 =>
    P8_14 L 1 p_2 p_8 0 r_7.2)))))))) := by
  subst hP8_14; kernel_rfl
theorem E8 (L : Rec) : enterF L a8 [] [] =
  (Option.bind (L.call 21 [.agg #[.int .i64 2, .int .i64 1], .int .i64 0, .slice (some ⟨1, 0, none⟩) 1 4] ([AObj.cells [.int .i64 2, .int .i64 1] ⟨false, 1⟩, AObj.cells [.int .i64 1, .int .u64 0, .int .u64 5, .int .u64 0] ⟨false, 0⟩] : AMem)) fun r_1 =>
    (Option.bind (ptrOf? (some r_1.1)) fun p_2 =>
    (Option.bind (intOf? .i64 (AMem.ld r_1.2 0 0)) fun x_3 =>
    (Option.bind (intOf? .i64 (AMem.ld r_1.2 0 1)) fun x_4 =>
    (Option.bind (L.call 28 [.agg #[.int .i64 x_3, .int .i64 x_4]] []) fun r_5 =>
    (Option.bind (intOf? .i64 (some r_5.1)) fun x_6 =>
    (Option.bind (L.call 9 [.int .i64 x_6] r_1.2) fun r_7 =>
    (Option.bind (ptrOf? (some r_7.1)) fun p_8 =>
    P8_14 L 1 p_2 p_8 0 r_7.2)))))))) := QE8 L b8_14 c8_23 P8_14 (Classical.choose_spec XP8_14)
end Go.Proofs.Ytmpgngilhhmlcaa
