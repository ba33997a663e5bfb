/- What the pieces of some functions come to. -/
import Derived.Test.YtkjgmcjdblhkeaaCode
set_option linter.unusedVariables false
set_option maxRecDepth 100000
namespace Go.Proofs.Ytkjgmcjdblhkeaa
open Go Go.Ax
/-! #### skylightref41.sides -/
theorem E30 (L : Rec) (x0 : Int) (x1 : Int) (x2 : Int) : enterF L a30 [.int .i64 x0, .int .i64 x1, .int .i64 x2] [] =
  (if (decide (x0 ≥ 1)) = true
    then (if (decide (x0 ≤ 256)) = true
      then (if (decide (x1 ≥ 1)) = true
        then (if (decide (x1 ≤ 256)) = true
          then some (.bool (x2 == (IntKind.wrap .i64 (x0 * x1))), ([] : AMem))
          else some (.bool false, ([] : AMem)))
        else some (.bool false, ([] : AMem)))
      else some (.bool false, ([] : AMem)))
    else some (.bool false, ([] : AMem))) := by kernel_rfl
/-! #### skylightref41.Right -/
noncomputable def k26_6 (L : Rec) : KT := blockK 0 (seqK (code L (.clear [0, 2, 3, 4, 5, 6, 7, 8, 9, 10, 11, 12, 13, 14, 15, 16, 17, 18, 19, 20, 21, 22, 23, 24, 25, 26, 27, 28, 29, 30, 31, 32, 33, 34, 35, 36, 37, 38, 39, 40, 41, 42, 43, 44, 45, 46, 47, 48, 49, 50, 51, 52, 53, 54, 55, 56, 57, 58, 59, 60] c26_23) (retK [.tmp 2])) (retK [.tmp 2]))
def s26_6 (x1 : Nat) (x3 : Int) (M : AMem) : List Value := [junk, .pointer (some ⟨x1, 0, none⟩), junk, .int .i64 x3, junk, junk, junk, junk, junk, junk, junk, junk, junk, junk, junk, junk, junk, junk, junk, junk, junk, junk, junk, junk, junk, junk, junk, junk, junk, junk, junk, junk, junk, junk, junk, junk, junk, junk, junk, junk, junk, junk, junk, junk, junk, junk, junk, junk, junk, junk, junk, junk, junk, junk, junk, junk, junk, junk, junk, junk, junk]
theorem XP26_6 : ∃ P : Rec → Nat → Int → AMem → Res, P = fun (L : Rec) (x1 : Nat) (x3 : Int) (M : AMem) => L.loop b26_6 (k26_6 L) (s26_6 x1 x3 M) M := ⟨_, rfl⟩
noncomputable def P26_6 : Rec → Nat → Int → AMem → Res := Classical.choose XP26_6
noncomputable def k26_22 (L : Rec) : KT := postK [0, 2, 4, 5, 6, 7, 8, 9, 10, 11, 12, 13, 14, 15, 16, 17, 18, 19, 20, 21, 22, 23, 24, 25, 26, 27, 28, 29, 30, 31, 32, 33, 34, 35, 36, 37, 38, 39, 40, 41, 42, 43, 44, 45, 46, 47, 48, 49, 50, 51, 52, 53, 54, 55, 56, 57, 58, 59, 60] (loopK L b26_6 (blockK 0 (seqK (code L (.clear [0, 2, 3, 4, 5, 6, 7, 8, 9, 10, 11, 12, 13, 14, 15, 16, 17, 18, 19, 20, 21, 22, 23, 24, 25, 26, 27, 28, 29, 30, 31, 32, 33, 34, 35, 36, 37, 38, 39, 40, 41, 42, 43, 44, 45, 46, 47, 48, 49, 50, 51, 52, 53, 54, 55, 56, 57, 58, 59, 60] c26_23) (retK [.tmp 2])) (retK [.tmp 2]))))
def s26_22 (x1 : Nat) (x3 : Int) (M : AMem) : List Value := [junk, .pointer (some ⟨x1, 0, none⟩), junk, .int .i64 x3, junk, junk, junk, junk, junk, junk, junk, junk, junk, junk, junk, junk, junk, junk, junk, junk, junk, junk, junk, junk, junk, junk, junk, junk, junk, junk, junk, junk, junk, junk, junk, junk, junk, junk, junk, junk, junk, junk, junk, junk, junk, junk, junk, junk, junk, junk, junk, junk, junk, junk, junk, junk, junk, junk, junk, junk, junk]
theorem XP26_22 : ∃ P : Rec → Nat → Int → AMem → Res, P = fun (L : Rec) (x1 : Nat) (x3 : Int) (M : AMem) => code L c26_22 (k26_22 L) (s26_22 x1 x3 M) M := ⟨_, rfl⟩
noncomputable def P26_22 : Rec → Nat → Int → AMem → Res := Classical.choose XP26_22
noncomputable def k26_23 (L : Rec) : KT := retK [.tmp 2]
def s26_23 (x1 : Nat) (M : AMem) : List Value := [junk, .pointer (some ⟨x1, 0, none⟩), junk, junk, junk, junk, junk, junk, junk, junk, junk, junk, junk, junk, junk, junk, junk, junk, junk, junk, junk, junk, junk, junk, junk, junk, junk, junk, junk, junk, junk, junk, junk, junk, junk, junk, junk, junk, junk, junk, junk, junk, junk, junk, junk, junk, junk, junk, junk, junk, junk, junk, junk, junk, junk, junk, junk, junk, junk, junk, junk]
theorem XP26_23 : ∃ P : Rec → Nat → AMem → Res, P = fun (L : Rec) (x1 : Nat) (M : AMem) => code L c26_23 (k26_23 L) (s26_23 x1 M) M := ⟨_, rfl⟩
noncomputable def P26_23 : Rec → Nat → AMem → Res := Classical.choose XP26_23
theorem QP26_6_eq (L : Rec) (b26_6 c26_22 c26_23 : ACode) (hb : ∀ K t A, L.loop b26_6 K t A = code L (.post (.seq (.seq (.ops o26_9) (.cond (.tmp 8) (.skip) (.exit 0))) (.seq (.block 1 (.seq (.draw [] 0 o26_16 []) (.cond (.tmp 52) (.seq (.ops o26_19) (.ret)) (.skip)))) (.clear [0, 2, 4, 5, 6, 7, 8, 9, 10, 11, 12, 13, 14, 15, 16, 17, 18, 19, 20, 21, 22, 23, 24, 25, 26, 27, 28, 29, 30, 31, 32, 33, 34, 35, 36, 37, 38, 39, 40, 41, 42, 43, 44, 45, 46, 47, 48, 49, 50, 51, 52, 53, 54, 55, 56, 57, 58, 59, 60] c26_22))) [0, 2, 4, 5, 6, 7, 8, 9, 10, 11, 12, 13, 14, 15, 16, 17, 18, 19, 20, 21, 22, 23, 24, 25, 26, 27, 28, 29, 30, 31, 32, 33, 34, 35, 36, 37, 38, 39, 40, 41, 42, 43, 44, 45, 46, 47, 48, 49, 50, 51, 52, 53, 54, 55, 56, 57, 58, 59, 60]) (loopK L b26_6 K) t A) (P26_6 : Rec → Nat → Int → AMem → Res) (hP26_6 : P26_6 = fun (L : Rec) (x1 : Nat) (x3 : Int) (M : AMem) => L.loop b26_6 (blockK 0 (seqK (code L (.clear [0, 2, 3, 4, 5, 6, 7, 8, 9, 10, 11, 12, 13, 14, 15, 16, 17, 18, 19, 20, 21, 22, 23, 24, 25, 26, 27, 28, 29, 30, 31, 32, 33, 34, 35, 36, 37, 38, 39, 40, 41, 42, 43, 44, 45, 46, 47, 48, 49, 50, 51, 52, 53, 54, 55, 56, 57, 58, 59, 60] c26_23) (retK [.tmp 2])) (retK [.tmp 2]))) (s26_6 x1 x3 M) M) (P26_22 : Rec → Nat → Int → AMem → Res) (hP26_22 : P26_22 = fun (L : Rec) (x1 : Nat) (x3 : Int) (M : AMem) => code L c26_22 (postK [0, 2, 4, 5, 6, 7, 8, 9, 10, 11, 12, 13, 14, 15, 16, 17, 18, 19, 20, 21, 22, 23, 24, 25, 26, 27, 28, 29, 30, 31, 32, 33, 34, 35, 36, 37, 38, 39, 40, 41, 42, 43, 44, 45, 46, 47, 48, 49, 50, 51, 52, 53, 54, 55, 56, 57, 58, 59, 60] (loopK L b26_6 (blockK 0 (seqK (code L (.clear [0, 2, 3, 4, 5, 6, 7, 8, 9, 10, 11, 12, 13, 14, 15, 16, 17, 18, 19, 20, 21, 22, 23, 24, 25, 26, 27, 28, 29, 30, 31, 32, 33, 34, 35, 36, 37, 38, 39, 40, 41, 42, 43, 44, 45, 46, 47, 48, 49, 50, 51, 52, 53, 54, 55, 56, 57, 58, 59, 60] c26_23) (retK [.tmp 2])) (retK [.tmp 2]))))) (s26_22 x1 x3 M) M) (P26_23 : Rec → Nat → AMem → Res) (hP26_23 : P26_23 = fun (L : Rec) (x1 : Nat) (M : AMem) => code L c26_23 (retK [.tmp 2]) (s26_23 x1 M) M) (x1 : Nat) (x3 : Int) (M : AMem) : P26_6 L x1 x3 M =
  (Option.bind (sliceOf? (AMem.ld M x1 2)) fun s_1 =>
    (if (decide (x3 < (Int.ofNat s_1.2.1))) = true
    then (Option.bind (sliceOf? (AMem.ld M x1 2)) fun s_2 =>
      (match s_2.1 with
      | some a_3 => (if (0 : Int) ≤ x3 ∧ x3 < (Int.ofNat s_2.2.1)
        then (Option.bind (intOf? .i64 (AMem.ld M a_3.block (a_3.off + ((Int.toNat x3) * 3)))) fun x_4 =>
          (Option.bind (sliceOf? (AMem.ld M x1 2)) fun s_5 =>
          (match s_5.1 with
          | some a_6 => (if (0 : Int) ≤ x3 ∧ x3 < (Int.ofNat s_5.2.1)
            then (Option.bind (intOf? .i64 (AMem.ld M a_6.block ((a_6.off + ((Int.toNat x3) * 3)) + 1))) fun x_7 =>
              (Option.bind (sliceOf? (AMem.ld M x1 2)) fun s_8 =>
              (match s_8.1 with
              | some a_9 => (if (0 : Int) ≤ x3 ∧ x3 < (Int.ofNat s_8.2.1)
                then (Option.bind (intOf? .i64 (AMem.ld M a_9.block ((a_9.off + ((Int.toNat x3) * 3)) + 2))) fun x_10 =>
                  (if (decide ((if x_10 < (if x_7 < x_4 then x_7 else x_4) then x_10 else (if x_7 < x_4 then x_7 else x_4)) < 0)) = true
                  then some (.bool false, M)
                  else (Option.bind (sliceOf? (AMem.ld M x1 2)) fun s_11 =>
                    (match s_11.1 with
                    | some a_12 => (if (0 : Int) ≤ x3 ∧ x3 < (Int.ofNat s_11.2.1)
                      then (Option.bind (intOf? .i64 (AMem.ld M a_12.block (a_12.off + ((Int.toNat x3) * 3)))) fun x_13 =>
                        (Option.bind (sliceOf? (AMem.ld M x1 2)) fun s_14 =>
                        (match s_14.1 with
                        | some a_15 => (if (0 : Int) ≤ x3 ∧ x3 < (Int.ofNat s_14.2.1)
                          then (Option.bind (intOf? .i64 (AMem.ld M a_15.block ((a_15.off + ((Int.toNat x3) * 3)) + 1))) fun x_16 =>
                            (Option.bind (sliceOf? (AMem.ld M x1 2)) fun s_17 =>
                            (match s_17.1 with
                            | some a_18 => (if (0 : Int) ≤ x3 ∧ x3 < (Int.ofNat s_17.2.1)
                              then (Option.bind (intOf? .i64 (AMem.ld M a_18.block ((a_18.off + ((Int.toNat x3) * 3)) + 2))) fun x_19 =>
                                (if (decide ((if x_19 > (if x_16 > x_13 then x_16 else x_13) then x_19 else (if x_16 > x_13 then x_16 else x_13)) > 255)) = true
                                then some (.bool false, M)
                                else P26_22 L x1 x3 M))
                              else none)
                            | none => none)))
                          else none)
                        | none => none)))
                      else none)
                    | none => none))))
                else none)
              | none => none)))
            else none)
          | none => none)))
        else none)
      | none => none))
    else P26_23 L x1 M)) := by
  subst hP26_6; subst hP26_22; subst hP26_23; exact (hb (blockK 0 (seqK (code L (.clear [0, 2, 3, 4, 5, 6, 7, 8, 9, 10, 11, 12, 13, 14, 15, 16, 17, 18, 19, 20, 21, 22, 23, 24, 25, 26, 27, 28, 29, 30, 31, 32, 33, 34, 35, 36, 37, 38, 39, 40, 41, 42, 43, 44, 45, 46, 47, 48, 49, 50, 51, 52, 53, 54, 55, 56, 57, 58, 59, 60] c26_23) (retK [.tmp 2])) (retK [.tmp 2]))) (s26_6 x1 x3 M) M).trans (by kernel_rfl)
theorem P26_6_eq (L : Rec) (hL : ∀ b K t A, L.loop b K t A = code L b (loopK L b K) t A) (x1 : Nat) (x3 : Int) (M : AMem) : P26_6 L x1 x3 M =
  (Option.bind (sliceOf? (AMem.ld M x1 2)) fun s_1 =>
    (if (decide (x3 < (Int.ofNat s_1.2.1))) = true
    then (Option.bind (sliceOf? (AMem.ld M x1 2)) fun s_2 =>
      (match s_2.1 with
      | some a_3 => (if (0 : Int) ≤ x3 ∧ x3 < (Int.ofNat s_2.2.1)
        then (Option.bind (intOf? .i64 (AMem.ld M a_3.block (a_3.off + ((Int.toNat x3) * 3)))) fun x_4 =>
          (Option.bind (sliceOf? (AMem.ld M x1 2)) fun s_5 =>
          (match s_5.1 with
          | some a_6 => (if (0 : Int) ≤ x3 ∧ x3 < (Int.ofNat s_5.2.1)
            then (Option.bind (intOf? .i64 (AMem.ld M a_6.block ((a_6.off + ((Int.toNat x3) * 3)) + 1))) fun x_7 =>
              (Option.bind (sliceOf? (AMem.ld M x1 2)) fun s_8 =>
              (match s_8.1 with
              | some a_9 => (if (0 : Int) ≤ x3 ∧ x3 < (Int.ofNat s_8.2.1)
                then (Option.bind (intOf? .i64 (AMem.ld M a_9.block ((a_9.off + ((Int.toNat x3) * 3)) + 2))) fun x_10 =>
                  (if (decide ((if x_10 < (if x_7 < x_4 then x_7 else x_4) then x_10 else (if x_7 < x_4 then x_7 else x_4)) < 0)) = true
                  then some (.bool false, M)
                  else (Option.bind (sliceOf? (AMem.ld M x1 2)) fun s_11 =>
                    (match s_11.1 with
                    | some a_12 => (if (0 : Int) ≤ x3 ∧ x3 < (Int.ofNat s_11.2.1)
                      then (Option.bind (intOf? .i64 (AMem.ld M a_12.block (a_12.off + ((Int.toNat x3) * 3)))) fun x_13 =>
                        (Option.bind (sliceOf? (AMem.ld M x1 2)) fun s_14 =>
                        (match s_14.1 with
                        | some a_15 => (if (0 : Int) ≤ x3 ∧ x3 < (Int.ofNat s_14.2.1)
                          then (Option.bind (intOf? .i64 (AMem.ld M a_15.block ((a_15.off + ((Int.toNat x3) * 3)) + 1))) fun x_16 =>
                            (Option.bind (sliceOf? (AMem.ld M x1 2)) fun s_17 =>
                            (match s_17.1 with
                            | some a_18 => (if (0 : Int) ≤ x3 ∧ x3 < (Int.ofNat s_17.2.1)
                              then (Option.bind (intOf? .i64 (AMem.ld M a_18.block ((a_18.off + ((Int.toNat x3) * 3)) + 2))) fun x_19 =>
                                (if (decide ((if x_19 > (if x_16 > x_13 then x_16 else x_13) then x_19 else (if x_16 > x_13 then x_16 else x_13)) > 255)) = true
                                then some (.bool false, M)
                                else P26_22 L x1 x3 M))
                              else none)
                            | none => none)))
                          else none)
                        | none => none)))
                      else none)
                    | none => none))))
                else none)
              | none => none)))
            else none)
          | none => none)))
        else none)
      | none => none))
    else P26_23 L x1 M)) := QP26_6_eq L b26_6 c26_22 c26_23 (hL b26_6) P26_6 (Classical.choose_spec XP26_6) P26_22 (Classical.choose_spec XP26_22) P26_23 (Classical.choose_spec XP26_23) x1 x3 M
theorem QP26_22_eq (L : Rec) (b26_6 c26_23 : ACode) (P26_6 : Rec → Nat → Int → AMem → Res) (hP26_6 : P26_6 = fun (L : Rec) (x1 : Nat) (x3 : Int) (M : AMem) => L.loop b26_6 (blockK 0 (seqK (code L (.clear [0, 2, 3, 4, 5, 6, 7, 8, 9, 10, 11, 12, 13, 14, 15, 16, 17, 18, 19, 20, 21, 22, 23, 24, 25, 26, 27, 28, 29, 30, 31, 32, 33, 34, 35, 36, 37, 38, 39, 40, 41, 42, 43, 44, 45, 46, 47, 48, 49, 50, 51, 52, 53, 54, 55, 56, 57, 58, 59, 60] c26_23) (retK [.tmp 2])) (retK [.tmp 2]))) (s26_6 x1 x3 M) M) (P26_22 : Rec → Nat → Int → AMem → Res) (hP26_22 : P26_22 = fun (L : Rec) (x1 : Nat) (x3 : Int) (M : AMem) => code L (.ops o26_22) (postK [0, 2, 4, 5, 6, 7, 8, 9, 10, 11, 12, 13, 14, 15, 16, 17, 18, 19, 20, 21, 22, 23, 24, 25, 26, 27, 28, 29, 30, 31, 32, 33, 34, 35, 36, 37, 38, 39, 40, 41, 42, 43, 44, 45, 46, 47, 48, 49, 50, 51, 52, 53, 54, 55, 56, 57, 58, 59, 60] (loopK L b26_6 (blockK 0 (seqK (code L (.clear [0, 2, 3, 4, 5, 6, 7, 8, 9, 10, 11, 12, 13, 14, 15, 16, 17, 18, 19, 20, 21, 22, 23, 24, 25, 26, 27, 28, 29, 30, 31, 32, 33, 34, 35, 36, 37, 38, 39, 40, 41, 42, 43, 44, 45, 46, 47, 48, 49, 50, 51, 52, 53, 54, 55, 56, 57, 58, 59, 60] c26_23) (retK [.tmp 2])) (retK [.tmp 2]))))) (s26_22 x1 x3 M) M) (x1 : Nat) (x3 : Int) (M : AMem) : P26_22 L x1 x3 M =
  P26_6 L x1 (IntKind.wrap .i64 (x3 + 1)) M := by
  subst hP26_6; subst hP26_22; kernel_rfl
theorem P26_22_eq (L : Rec) (x1 : Nat) (x3 : Int) (M : AMem) : P26_22 L x1 x3 M =
  P26_6 L x1 (IntKind.wrap .i64 (x3 + 1)) M := QP26_22_eq L b26_6 c26_23 P26_6 (Classical.choose_spec XP26_6) P26_22 (Classical.choose_spec XP26_22) x1 x3 M
theorem QP26_23_eq (L : Rec) (P26_23 : Rec → Nat → AMem → Res) (hP26_23 : P26_23 = fun (L : Rec) (x1 : Nat) (M : AMem) => code L (.seq (.ops o26_24) (.ret)) (retK [.tmp 2]) (s26_23 x1 M) M) (x1 : Nat) (M : AMem) : P26_23 L x1 M =
  (Option.bind (intOf? .i64 (AMem.ld M x1 0)) fun x_1 =>
    (Option.bind (intOf? .i64 (AMem.ld M x1 1)) fun x_2 =>
    (Option.bind (sliceOf? (AMem.ld M x1 2)) fun s_3 =>
    (Option.bind (L.call 30 [.int .i64 x_1, .int .i64 x_2, .int .i64 (Int.ofNat s_3.2.1)] []) fun r_4 =>
    (Option.bind (boolOf? (some r_4.1)) fun q_5 =>
    some (.bool q_5, M)))))) := by
  subst hP26_23; kernel_rfl
theorem P26_23_eq (L : Rec) (x1 : Nat) (M : AMem) : P26_23 L x1 M =
  (Option.bind (intOf? .i64 (AMem.ld M x1 0)) fun x_1 =>
    (Option.bind (intOf? .i64 (AMem.ld M x1 1)) fun x_2 =>
    (Option.bind (sliceOf? (AMem.ld M x1 2)) fun s_3 =>
    (Option.bind (L.call 30 [.int .i64 x_1, .int .i64 x_2, .int .i64 (Int.ofNat s_3.2.1)] []) fun r_4 =>
    (Option.bind (boolOf? (some r_4.1)) fun q_5 =>
    some (.bool q_5, M)))))) := QP26_23_eq L P26_23 (Classical.choose_spec XP26_23) x1 M
theorem QE26 (L : Rec) (b26_6 c26_23 : ACode) (P26_6 : Rec → Nat → Int → AMem → Res) (hP26_6 : P26_6 = fun (L : Rec) (x1 : Nat) (x3 : Int) (M : AMem) => L.loop b26_6 (blockK 0 (seqK (code L (.clear [0, 2, 3, 4, 5, 6, 7, 8, 9, 10, 11, 12, 13, 14, 15, 16, 17, 18, 19, 20, 21, 22, 23, 24, 25, 26, 27, 28, 29, 30, 31, 32, 33, 34, 35, 36, 37, 38, 39, 40, 41, 42, 43, 44, 45, 46, 47, 48, 49, 50, 51, 52, 53, 54, 55, 56, 57, 58, 59, 60] c26_23) (retK [.tmp 2])) (retK [.tmp 2]))) (s26_6 x1 x3 M) M) (x0_0 : Int) (x0_1 : Int) (x0_2 : Option Addr) (x0_2n : Nat) (x0_2c : Nat) (M : AMem) : enterF L ⟨61, [.tmp 2], .seq (.ops o26_1) (.seq (.seq (.ops o26_4) (.block 0 (.clear [0, 2, 4, 5, 6, 7, 8, 9, 10, 11, 12, 13, 14, 15, 16, 17, 18, 19, 20, 21, 22, 23, 24, 25, 26, 27, 28, 29, 30, 31, 32, 33, 34, 35, 36, 37, 38, 39, 40, 41, 42, 43, 44, 45, 46, 47, 48, 49, 50, 51, 52, 53, 54, 55, 56, 57, 58, 59, 60] (.loop b26_6)))) (.clear [0, 2, 3, 4, 5, 6, 7, 8, 9, 10, 11, 12, 13, 14, 15, 16, 17, 18, 19, 20, 21, 22, 23, 24, 25, 26, 27, 28, 29, 30, 31, 32, 33, 34, 35, 36, 37, 38, 39, 40, 41, 42, 43, 44, 45, 46, 47, 48, 49, 50, 51, 52, 53, 54, 55, 56, 57, 58, 59, 60] c26_23))⟩ [.agg #[.int .i64 x0_0, .int .i64 x0_1, .slice x0_2 x0_2n x0_2c]] M =
  P26_6 L (List.length M) 0 (M ++ [AObj.cells [.int .i64 x0_0, .int .i64 x0_1, .slice x0_2 x0_2n x0_2c] ⟨false, 0⟩]) := by
  subst hP26_6; kernel_rfl
theorem E26 (L : Rec) (x0_0 : Int) (x0_1 : Int) (x0_2 : Option Addr) (x0_2n : Nat) (x0_2c : Nat) (M : AMem) : enterF L a26 [.agg #[.int .i64 x0_0, .int .i64 x0_1, .slice x0_2 x0_2n x0_2c]] M =
  P26_6 L (List.length M) 0 (M ++ [AObj.cells [.int .i64 x0_0, .int .i64 x0_1, .slice x0_2 x0_2n x0_2c] ⟨false, 0⟩]) := QE26 L b26_6 c26_23 P26_6 (Classical.choose_spec XP26_6) x0_0 x0_1 x0_2 x0_2n x0_2c M
/-! #### skylightref41.Same -/
noncomputable def k15_14 (L : Rec) : KT := blockK 0 (seqK (code L (.clear [0, 1, 2, 3, 4, 5, 6, 7, 8, 9, 10, 11, 12, 13, 14, 15, 16, 17, 18, 19, 20, 21, 22, 23, 24, 25, 26, 27, 28, 29, 30, 31, 32, 33, 34, 35, 36, 37, 38, 39, 40, 41, 42, 43, 44] c15_31) (retK [.tmp 4])) (retK [.tmp 4]))
def s15_14 (x2 : Nat) (x3 : Nat) (x5 : Int) (M : AMem) : List Value := [junk, junk, .pointer (some ⟨x2, 0, none⟩), .pointer (some ⟨x3, 0, none⟩), junk, .int .i64 x5, junk, junk, junk, junk, junk, junk, junk, junk, junk, junk, junk, junk, junk, junk, junk, junk, junk, junk, junk, junk, junk, junk, junk, junk, junk, junk, junk, junk, junk, junk, junk, junk, junk, junk, junk, junk, junk, junk, junk]
theorem XP15_14 : ∃ P : Rec → Nat → Nat → Int → AMem → Res, P = fun (L : Rec) (x2 : Nat) (x3 : Nat) (x5 : Int) (M : AMem) => L.loop b15_14 (k15_14 L) (s15_14 x2 x3 x5 M) M := ⟨_, rfl⟩
noncomputable def P15_14 : Rec → Nat → Nat → Int → AMem → Res := Classical.choose XP15_14
noncomputable def k15_30 (L : Rec) : KT := postK [0, 1, 4, 6, 7, 8, 9, 10, 11, 12, 13, 14, 15, 16, 17, 18, 19, 20, 21, 22, 23, 24, 25, 26, 27, 28, 29, 30, 31, 32, 33, 34, 35, 36, 37, 38, 39, 40, 41, 42, 43, 44] (loopK L b15_14 (blockK 0 (seqK (code L (.clear [0, 1, 2, 3, 4, 5, 6, 7, 8, 9, 10, 11, 12, 13, 14, 15, 16, 17, 18, 19, 20, 21, 22, 23, 24, 25, 26, 27, 28, 29, 30, 31, 32, 33, 34, 35, 36, 37, 38, 39, 40, 41, 42, 43, 44] c15_31) (retK [.tmp 4])) (retK [.tmp 4]))))
def s15_30 (x2 : Nat) (x3 : Nat) (x5 : Int) (M : AMem) : List Value := [junk, junk, .pointer (some ⟨x2, 0, none⟩), .pointer (some ⟨x3, 0, none⟩), junk, .int .i64 x5, junk, junk, junk, junk, junk, junk, junk, junk, junk, junk, junk, junk, junk, junk, junk, junk, junk, junk, junk, junk, junk, junk, junk, junk, junk, junk, junk, junk, junk, junk, junk, junk, junk, junk, junk, junk, junk, junk, junk]
theorem XP15_30 : ∃ P : Rec → Nat → Nat → Int → AMem → Res, P = fun (L : Rec) (x2 : Nat) (x3 : Nat) (x5 : Int) (M : AMem) => code L c15_30 (k15_30 L) (s15_30 x2 x3 x5 M) M := ⟨_, rfl⟩
noncomputable def P15_30 : Rec → Nat → Nat → Int → AMem → Res := Classical.choose XP15_30
noncomputable def k15_31 (L : Rec) : KT := retK [.tmp 4]
def s15_31 (M : AMem) : List Value := [junk, junk, junk, junk, junk, junk, junk, junk, junk, junk, junk, junk, junk, junk, junk, junk, junk, junk, junk, junk, junk, junk, junk, junk, junk, junk, junk, junk, junk, junk, junk, junk, junk, junk, junk, junk, junk, junk, junk, junk, junk, junk, junk, junk, junk]
theorem XP15_31 : ∃ P : Rec → AMem → Res, P = fun (L : Rec) (M : AMem) => code L c15_31 (k15_31 L) (s15_31 M) M := ⟨_, rfl⟩
noncomputable def P15_31 : Rec → AMem → Res := Classical.choose XP15_31
theorem QP15_14_eq (L : Rec) (b15_14 c15_30 c15_31 : ACode) (hb : ∀ K t A, L.loop b15_14 K t A = code L (.post (.seq (.seq (.ops o15_17) (.cond (.tmp 31) (.skip) (.exit 0))) (.seq (.block 1 (.seq (.draw [] 0 o15_24 []) (.cond (.tmp 44) (.seq (.ops o15_27) (.ret)) (.skip)))) (.clear [0, 1, 4, 6, 7, 8, 9, 10, 11, 12, 13, 14, 15, 16, 17, 18, 19, 20, 21, 22, 23, 24, 25, 26, 27, 28, 29, 30, 31, 32, 33, 34, 35, 36, 37, 38, 39, 40, 41, 42, 43, 44] c15_30))) [0, 1, 4, 6, 7, 8, 9, 10, 11, 12, 13, 14, 15, 16, 17, 18, 19, 20, 21, 22, 23, 24, 25, 26, 27, 28, 29, 30, 31, 32, 33, 34, 35, 36, 37, 38, 39, 40, 41, 42, 43, 44]) (loopK L b15_14 K) t A) (P15_14 : Rec → Nat → Nat → Int → AMem → Res) (hP15_14 : P15_14 = fun (L : Rec) (x2 : Nat) (x3 : Nat) (x5 : Int) (M : AMem) => L.loop b15_14 (blockK 0 (seqK (code L (.clear [0, 1, 2, 3, 4, 5, 6, 7, 8, 9, 10, 11, 12, 13, 14, 15, 16, 17, 18, 19, 20, 21, 22, 23, 24, 25, 26, 27, 28, 29, 30, 31, 32, 33, 34, 35, 36, 37, 38, 39, 40, 41, 42, 43, 44] c15_31) (retK [.tmp 4])) (retK [.tmp 4]))) (s15_14 x2 x3 x5 M) M) (P15_30 : Rec → Nat → Nat → Int → AMem → Res) (hP15_30 : P15_30 = fun (L : Rec) (x2 : Nat) (x3 : Nat) (x5 : Int) (M : AMem) => code L c15_30 (postK [0, 1, 4, 6, 7, 8, 9, 10, 11, 12, 13, 14, 15, 16, 17, 18, 19, 20, 21, 22, 23, 24, 25, 26, 27, 28, 29, 30, 31, 32, 33, 34, 35, 36, 37, 38, 39, 40, 41, 42, 43, 44] (loopK L b15_14 (blockK 0 (seqK (code L (.clear [0, 1, 2, 3, 4, 5, 6, 7, 8, 9, 10, 11, 12, 13, 14, 15, 16, 17, 18, 19, 20, 21, 22, 23, 24, 25, 26, 27, 28, 29, 30, 31, 32, 33, 34, 35, 36, 37, 38, 39, 40, 41, 42, 43, 44] c15_31) (retK [.tmp 4])) (retK [.tmp 4]))))) (s15_30 x2 x3 x5 M) M) (P15_31 : Rec → AMem → Res) (hP15_31 : P15_31 = fun (L : Rec) (M : AMem) => code L c15_31 (retK [.tmp 4]) (s15_31 M) M) (x2 : Nat) (x3 : Nat) (x5 : Int) (M : AMem) : P15_14 L x2 x3 x5 M =
  (Option.bind (sliceOf? (AMem.ld M x2 2)) fun s_1 =>
    (if (decide (x5 < (Int.ofNat s_1.2.1))) = true
    then (Option.bind (sliceOf? (AMem.ld M x2 2)) fun s_2 =>
      (match s_2.1 with
      | some a_3 => (if (0 : Int) ≤ x5 ∧ x5 < (Int.ofNat s_2.2.1)
        then (Option.bind (intOf? .i64 (AMem.ld M a_3.block (a_3.off + ((Int.toNat x5) * 3)))) fun x_4 =>
          (Option.bind (intOf? .i64 (AMem.ld M a_3.block ((a_3.off + ((Int.toNat x5) * 3)) + 1))) fun x_5 =>
          (Option.bind (intOf? .i64 (AMem.ld M a_3.block ((a_3.off + ((Int.toNat x5) * 3)) + 2))) fun x_6 =>
          (Option.bind (sliceOf? (AMem.ld M x3 2)) fun s_7 =>
          (match s_7.1 with
          | some a_8 => (if (0 : Int) ≤ x5 ∧ x5 < (Int.ofNat s_7.2.1)
            then (Option.bind (intOf? .i64 (AMem.ld M a_8.block (a_8.off + ((Int.toNat x5) * 3)))) fun x_9 =>
              (Option.bind (intOf? .i64 (AMem.ld M a_8.block ((a_8.off + ((Int.toNat x5) * 3)) + 1))) fun x_10 =>
              (Option.bind (intOf? .i64 (AMem.ld M a_8.block ((a_8.off + ((Int.toNat x5) * 3)) + 2))) fun x_11 =>
              (if (!((x_4 == x_9) && ((x_5 == x_10) && (x_6 == x_11)))) = true
              then some (.bool false, M)
              else P15_30 L x2 x3 x5 M))))
            else none)
          | none => none)))))
        else none)
      | none => none))
    else P15_31 L M)) := by
  subst hP15_14; subst hP15_30; subst hP15_31; exact (hb (blockK 0 (seqK (code L (.clear [0, 1, 2, 3, 4, 5, 6, 7, 8, 9, 10, 11, 12, 13, 14, 15, 16, 17, 18, 19, 20, 21, 22, 23, 24, 25, 26, 27, 28, 29, 30, 31, 32, 33, 34, 35, 36, 37, 38, 39, 40, 41, 42, 43, 44] c15_31) (retK [.tmp 4])) (retK [.tmp 4]))) (s15_14 x2 x3 x5 M) M).trans (by kernel_rfl)
theorem P15_14_eq (L : Rec) (hL : ∀ b K t A, L.loop b K t A = code L b (loopK L b K) t A) (x2 : Nat) (x3 : Nat) (x5 : Int) (M : AMem) : P15_14 L x2 x3 x5 M =
  (Option.bind (sliceOf? (AMem.ld M x2 2)) fun s_1 =>
    (if (decide (x5 < (Int.ofNat s_1.2.1))) = true
    then (Option.bind (sliceOf? (AMem.ld M x2 2)) fun s_2 =>
      (match s_2.1 with
      | some a_3 => (if (0 : Int) ≤ x5 ∧ x5 < (Int.ofNat s_2.2.1)
        then (Option.bind (intOf? .i64 (AMem.ld M a_3.block (a_3.off + ((Int.toNat x5) * 3)))) fun x_4 =>
          (Option.bind (intOf? .i64 (AMem.ld M a_3.block ((a_3.off + ((Int.toNat x5) * 3)) + 1))) fun x_5 =>
          (Option.bind (intOf? .i64 (AMem.ld M a_3.block ((a_3.off + ((Int.toNat x5) * 3)) + 2))) fun x_6 =>
          (Option.bind (sliceOf? (AMem.ld M x3 2)) fun s_7 =>
          (match s_7.1 with
          | some a_8 => (if (0 : Int) ≤ x5 ∧ x5 < (Int.ofNat s_7.2.1)
            then (Option.bind (intOf? .i64 (AMem.ld M a_8.block (a_8.off + ((Int.toNat x5) * 3)))) fun x_9 =>
              (Option.bind (intOf? .i64 (AMem.ld M a_8.block ((a_8.off + ((Int.toNat x5) * 3)) + 1))) fun x_10 =>
              (Option.bind (intOf? .i64 (AMem.ld M a_8.block ((a_8.off + ((Int.toNat x5) * 3)) + 2))) fun x_11 =>
              (if (!((x_4 == x_9) && ((x_5 == x_10) && (x_6 == x_11)))) = true
              then some (.bool false, M)
              else P15_30 L x2 x3 x5 M))))
            else none)
          | none => none)))))
        else none)
      | none => none))
    else P15_31 L M)) := QP15_14_eq L b15_14 c15_30 c15_31 (hL b15_14) P15_14 (Classical.choose_spec XP15_14) P15_30 (Classical.choose_spec XP15_30) P15_31 (Classical.choose_spec XP15_31) x2 x3 x5 M
theorem QP15_30_eq (L : Rec) (b15_14 c15_31 : ACode) (P15_14 : Rec → Nat → Nat → Int → AMem → Res) (hP15_14 : P15_14 = fun (L : Rec) (x2 : Nat) (x3 : Nat) (x5 : Int) (M : AMem) => L.loop b15_14 (blockK 0 (seqK (code L (.clear [0, 1, 2, 3, 4, 5, 6, 7, 8, 9, 10, 11, 12, 13, 14, 15, 16, 17, 18, 19, 20, 21, 22, 23, 24, 25, 26, 27, 28, 29, 30, 31, 32, 33, 34, 35, 36, 37, 38, 39, 40, 41, 42, 43, 44] c15_31) (retK [.tmp 4])) (retK [.tmp 4]))) (s15_14 x2 x3 x5 M) M) (P15_30 : Rec → Nat → Nat → Int → AMem → Res) (hP15_30 : P15_30 = fun (L : Rec) (x2 : Nat) (x3 : Nat) (x5 : Int) (M : AMem) => code L (.ops o15_30) (postK [0, 1, 4, 6, 7, 8, 9, 10, 11, 12, 13, 14, 15, 16, 17, 18, 19, 20, 21, 22, 23, 24, 25, 26, 27, 28, 29, 30, 31, 32, 33, 34, 35, 36, 37, 38, 39, 40, 41, 42, 43, 44] (loopK L b15_14 (blockK 0 (seqK (code L (.clear [0, 1, 2, 3, 4, 5, 6, 7, 8, 9, 10, 11, 12, 13, 14, 15, 16, 17, 18, 19, 20, 21, 22, 23, 24, 25, 26, 27, 28, 29, 30, 31, 32, 33, 34, 35, 36, 37, 38, 39, 40, 41, 42, 43, 44] c15_31) (retK [.tmp 4])) (retK [.tmp 4]))))) (s15_30 x2 x3 x5 M) M) (x2 : Nat) (x3 : Nat) (x5 : Int) (M : AMem) : P15_30 L x2 x3 x5 M =
  P15_14 L x2 x3 (IntKind.wrap .i64 (x5 + 1)) M := by
  subst hP15_14; subst hP15_30; kernel_rfl
theorem P15_30_eq (L : Rec) (x2 : Nat) (x3 : Nat) (x5 : Int) (M : AMem) : P15_30 L x2 x3 x5 M =
  P15_14 L x2 x3 (IntKind.wrap .i64 (x5 + 1)) M := QP15_30_eq L b15_14 c15_31 P15_14 (Classical.choose_spec XP15_14) P15_30 (Classical.choose_spec XP15_30) x2 x3 x5 M
theorem QP15_31_eq (L : Rec) (P15_31 : Rec → AMem → Res) (hP15_31 : P15_31 = fun (L : Rec) (M : AMem) => code L (.seq (.ops o15_32) (.ret)) (retK [.tmp 4]) (s15_31 M) M) (M : AMem) : P15_31 L M =
  some (.bool true, M) := by
  subst hP15_31; kernel_rfl
theorem P15_31_eq (L : Rec) (M : AMem) : P15_31 L M =
  some (.bool true, M) := QP15_31_eq L P15_31 (Classical.choose_spec XP15_31) M
theorem QE15 (L : Rec) (b15_14 c15_31 : ACode) (P15_14 : Rec → Nat → Nat → Int → AMem → Res) (hP15_14 : P15_14 = fun (L : Rec) (x2 : Nat) (x3 : Nat) (x5 : Int) (M : AMem) => L.loop b15_14 (blockK 0 (seqK (code L (.clear [0, 1, 2, 3, 4, 5, 6, 7, 8, 9, 10, 11, 12, 13, 14, 15, 16, 17, 18, 19, 20, 21, 22, 23, 24, 25, 26, 27, 28, 29, 30, 31, 32, 33, 34, 35, 36, 37, 38, 39, 40, 41, 42, 43, 44] c15_31) (retK [.tmp 4])) (retK [.tmp 4]))) (s15_14 x2 x3 x5 M) M) (x0_0 : Int) (x0_1 : Int) (x0_2 : Option Addr) (x0_2n : Nat) (x0_2c : Nat) (x1_0 : Int) (x1_1 : Int) (x1_2 : Option Addr) (x1_2n : Nat) (x1_2c : Nat) (M : AMem) : enterF L ⟨45, [.tmp 4], .seq (.ops o15_1) (.seq (.seq (.ops o15_4) (.cond (.tmp 26) (.seq (.ops o15_7) (.ret)) (.skip))) (.seq (.seq (.ops o15_12) (.block 0 (.clear [0, 1, 4, 6, 7, 8, 9, 10, 11, 12, 13, 14, 15, 16, 17, 18, 19, 20, 21, 22, 23, 24, 25, 26, 27, 28, 29, 30, 31, 32, 33, 34, 35, 36, 37, 38, 39, 40, 41, 42, 43, 44] (.loop b15_14)))) (.clear [0, 1, 2, 3, 4, 5, 6, 7, 8, 9, 10, 11, 12, 13, 14, 15, 16, 17, 18, 19, 20, 21, 22, 23, 24, 25, 26, 27, 28, 29, 30, 31, 32, 33, 34, 35, 36, 37, 38, 39, 40, 41, 42, 43, 44] c15_31)))⟩ [.agg #[.int .i64 x0_0, .int .i64 x0_1, .slice x0_2 x0_2n x0_2c], .agg #[.int .i64 x1_0, .int .i64 x1_1, .slice x1_2 x1_2n x1_2c]] M =
  (Option.bind (intOf? .i64 (AMem.ld ((M ++ [AObj.cells [.int .i64 x0_0, .int .i64 x0_1, .slice x0_2 x0_2n x0_2c] ⟨false, 0⟩]) ++ [AObj.cells [.int .i64 x1_0, .int .i64 x1_1, .slice x1_2 x1_2n x1_2c] ⟨false, 0⟩]) (List.length M) 0)) fun x_1 =>
    (Option.bind (intOf? .i64 (AMem.ld ((M ++ [AObj.cells [.int .i64 x0_0, .int .i64 x0_1, .slice x0_2 x0_2n x0_2c] ⟨false, 0⟩]) ++ [AObj.cells [.int .i64 x1_0, .int .i64 x1_1, .slice x1_2 x1_2n x1_2c] ⟨false, 0⟩]) (List.length (M ++ [AObj.cells [.int .i64 x0_0, .int .i64 x0_1, .slice x0_2 x0_2n x0_2c] ⟨false, 0⟩])) 0)) fun x_2 =>
    (if (x_1 != x_2) = true
    then some (.bool false, ((M ++ [AObj.cells [.int .i64 x0_0, .int .i64 x0_1, .slice x0_2 x0_2n x0_2c] ⟨false, 0⟩]) ++ [AObj.cells [.int .i64 x1_0, .int .i64 x1_1, .slice x1_2 x1_2n x1_2c] ⟨false, 0⟩]))
    else (Option.bind (intOf? .i64 (AMem.ld ((M ++ [AObj.cells [.int .i64 x0_0, .int .i64 x0_1, .slice x0_2 x0_2n x0_2c] ⟨false, 0⟩]) ++ [AObj.cells [.int .i64 x1_0, .int .i64 x1_1, .slice x1_2 x1_2n x1_2c] ⟨false, 0⟩]) (List.length M) 1)) fun x_3 =>
      (Option.bind (intOf? .i64 (AMem.ld ((M ++ [AObj.cells [.int .i64 x0_0, .int .i64 x0_1, .slice x0_2 x0_2n x0_2c] ⟨false, 0⟩]) ++ [AObj.cells [.int .i64 x1_0, .int .i64 x1_1, .slice x1_2 x1_2n x1_2c] ⟨false, 0⟩]) (List.length (M ++ [AObj.cells [.int .i64 x0_0, .int .i64 x0_1, .slice x0_2 x0_2n x0_2c] ⟨false, 0⟩])) 1)) fun x_4 =>
      (if (x_3 != x_4) = true
      then some (.bool false, ((M ++ [AObj.cells [.int .i64 x0_0, .int .i64 x0_1, .slice x0_2 x0_2n x0_2c] ⟨false, 0⟩]) ++ [AObj.cells [.int .i64 x1_0, .int .i64 x1_1, .slice x1_2 x1_2n x1_2c] ⟨false, 0⟩]))
      else (Option.bind (sliceOf? (AMem.ld ((M ++ [AObj.cells [.int .i64 x0_0, .int .i64 x0_1, .slice x0_2 x0_2n x0_2c] ⟨false, 0⟩]) ++ [AObj.cells [.int .i64 x1_0, .int .i64 x1_1, .slice x1_2 x1_2n x1_2c] ⟨false, 0⟩]) (List.length M) 2)) fun s_5 =>
        (Option.bind (sliceOf? (AMem.ld ((M ++ [AObj.cells [.int .i64 x0_0, .int .i64 x0_1, .slice x0_2 x0_2n x0_2c] ⟨false, 0⟩]) ++ [AObj.cells [.int .i64 x1_0, .int .i64 x1_1, .slice x1_2 x1_2n x1_2c] ⟨false, 0⟩]) (List.length (M ++ [AObj.cells [.int .i64 x0_0, .int .i64 x0_1, .slice x0_2 x0_2n x0_2c] ⟨false, 0⟩])) 2)) fun s_6 =>
        (if ((Int.ofNat s_5.2.1) != (Int.ofNat s_6.2.1)) = true
        then some (.bool false, ((M ++ [AObj.cells [.int .i64 x0_0, .int .i64 x0_1, .slice x0_2 x0_2n x0_2c] ⟨false, 0⟩]) ++ [AObj.cells [.int .i64 x1_0, .int .i64 x1_1, .slice x1_2 x1_2n x1_2c] ⟨false, 0⟩]))
        else P15_14 L (List.length M) (List.length (M ++ [AObj.cells [.int .i64 x0_0, .int .i64 x0_1, .slice x0_2 x0_2n x0_2c] ⟨false, 0⟩])) 0 ((M ++ [AObj.cells [.int .i64 x0_0, .int .i64 x0_1, .slice x0_2 x0_2n x0_2c] ⟨false, 0⟩]) ++ [AObj.cells [.int .i64 x1_0, .int .i64 x1_1, .slice x1_2 x1_2n x1_2c] ⟨false, 0⟩])))))))))) := by
  subst hP15_14; kernel_rfl
theorem E15 (L : Rec) (x0_0 : Int) (x0_1 : Int) (x0_2 : Option Addr) (x0_2n : Nat) (x0_2c : Nat) (x1_0 : Int) (x1_1 : Int) (x1_2 : Option Addr) (x1_2n : Nat) (x1_2c : Nat) (M : AMem) : enterF L a15 [.agg #[.int .i64 x0_0, .int .i64 x0_1, .slice x0_2 x0_2n x0_2c], .agg #[.int .i64 x1_0, .int .i64 x1_1, .slice x1_2 x1_2n x1_2c]] M =
  (Option.bind (intOf? .i64 (AMem.ld ((M ++ [AObj.cells [.int .i64 x0_0, .int .i64 x0_1, .slice x0_2 x0_2n x0_2c] ⟨false, 0⟩]) ++ [AObj.cells [.int .i64 x1_0, .int .i64 x1_1, .slice x1_2 x1_2n x1_2c] ⟨false, 0⟩]) (List.length M) 0)) fun x_1 =>
    (Option.bind (intOf? .i64 (AMem.ld ((M ++ [AObj.cells [.int .i64 x0_0, .int .i64 x0_1, .slice x0_2 x0_2n x0_2c] ⟨false, 0⟩]) ++ [AObj.cells [.int .i64 x1_0, .int .i64 x1_1, .slice x1_2 x1_2n x1_2c] ⟨false, 0⟩]) (List.length (M ++ [AObj.cells [.int .i64 x0_0, .int .i64 x0_1, .slice x0_2 x0_2n x0_2c] ⟨false, 0⟩])) 0)) fun x_2 =>
    (if (x_1 != x_2) = true
    then some (.bool false, ((M ++ [AObj.cells [.int .i64 x0_0, .int .i64 x0_1, .slice x0_2 x0_2n x0_2c] ⟨false, 0⟩]) ++ [AObj.cells [.int .i64 x1_0, .int .i64 x1_1, .slice x1_2 x1_2n x1_2c] ⟨false, 0⟩]))
    else (Option.bind (intOf? .i64 (AMem.ld ((M ++ [AObj.cells [.int .i64 x0_0, .int .i64 x0_1, .slice x0_2 x0_2n x0_2c] ⟨false, 0⟩]) ++ [AObj.cells [.int .i64 x1_0, .int .i64 x1_1, .slice x1_2 x1_2n x1_2c] ⟨false, 0⟩]) (List.length M) 1)) fun x_3 =>
      (Option.bind (intOf? .i64 (AMem.ld ((M ++ [AObj.cells [.int .i64 x0_0, .int .i64 x0_1, .slice x0_2 x0_2n x0_2c] ⟨false, 0⟩]) ++ [AObj.cells [.int .i64 x1_0, .int .i64 x1_1, .slice x1_2 x1_2n x1_2c] ⟨false, 0⟩]) (List.length (M ++ [AObj.cells [.int .i64 x0_0, .int .i64 x0_1, .slice x0_2 x0_2n x0_2c] ⟨false, 0⟩])) 1)) fun x_4 =>
      (if (x_3 != x_4) = true
      then some (.bool false, ((M ++ [AObj.cells [.int .i64 x0_0, .int .i64 x0_1, .slice x0_2 x0_2n x0_2c] ⟨false, 0⟩]) ++ [AObj.cells [.int .i64 x1_0, .int .i64 x1_1, .slice x1_2 x1_2n x1_2c] ⟨false, 0⟩]))
      else (Option.bind (sliceOf? (AMem.ld ((M ++ [AObj.cells [.int .i64 x0_0, .int .i64 x0_1, .slice x0_2 x0_2n x0_2c] ⟨false, 0⟩]) ++ [AObj.cells [.int .i64 x1_0, .int .i64 x1_1, .slice x1_2 x1_2n x1_2c] ⟨false, 0⟩]) (List.length M) 2)) fun s_5 =>
        (Option.bind (sliceOf? (AMem.ld ((M ++ [AObj.cells [.int .i64 x0_0, .int .i64 x0_1, .slice x0_2 x0_2n x0_2c] ⟨false, 0⟩]) ++ [AObj.cells [.int .i64 x1_0, .int .i64 x1_1, .slice x1_2 x1_2n x1_2c] ⟨false, 0⟩]) (List.length (M ++ [AObj.cells [.int .i64 x0_0, .int .i64 x0_1, .slice x0_2 x0_2n x0_2c] ⟨false, 0⟩])) 2)) fun s_6 =>
        (if ((Int.ofNat s_5.2.1) != (Int.ofNat s_6.2.1)) = true
        then some (.bool false, ((M ++ [AObj.cells [.int .i64 x0_0, .int .i64 x0_1, .slice x0_2 x0_2n x0_2c] ⟨false, 0⟩]) ++ [AObj.cells [.int .i64 x1_0, .int .i64 x1_1, .slice x1_2 x1_2n x1_2c] ⟨false, 0⟩]))
        else P15_14 L (List.length M) (List.length (M ++ [AObj.cells [.int .i64 x0_0, .int .i64 x0_1, .slice x0_2 x0_2n x0_2c] ⟨false, 0⟩])) 0 ((M ++ [AObj.cells [.int .i64 x0_0, .int .i64 x0_1, .slice x0_2 x0_2n x0_2c] ⟨false, 0⟩]) ++ [AObj.cells [.int .i64 x1_0, .int .i64 x1_1, .slice x1_2 x1_2n x1_2c] ⟨false, 0⟩])))))))))) := QE15 L b15_14 c15_31 P15_14 (Classical.choose_spec XP15_14) x0_0 x0_1 x0_2 x0_2n x0_2c x1_0 x1_1 x1_2 x1_2n x1_2c M
/-! #### picture.sides -/
theorem E32 (L : Rec) (x0 : Int) (x1 : Int) (x2 : Int) : enterF L a32 [.int .i64 x0, .int .i64 x1, .int .i64 x2] [] =
  (if (decide (1 ≤ x0)) = true
    then (if (decide (x0 ≤ 256)) = true
      then (if (decide (1 ≤ x1)) = true
        then (if (decide (x1 ≤ 256)) = true
          then some (.bool (x2 == (IntKind.wrap .i64 (x0 * x1))), ([] : AMem))
          else some (.bool false, ([] : AMem)))
        else some (.bool false, ([] : AMem)))
      else some (.bool false, ([] : AMem)))
    else some (.bool false, ([] : AMem))) := by kernel_rfl
/-! #### picture.bright -/
theorem E31 (L : Rec) (x0 : Int) : enterF L a31 [.int .i64 x0] [] =
  (if (decide (0 ≤ x0)) = true
    then some (.bool (decide (x0 ≤ 255)), ([] : AMem))
    else some (.bool false, ([] : AMem))) := by kernel_rfl
/-! #### picture.Right -/
noncomputable def k27_6 (L : Rec) : KT := blockK 0 (seqK (code L (.clear [0, 2, 3, 4, 5, 6, 7, 8, 9, 10, 11, 12, 13, 14, 15, 16, 17, 18, 19, 20, 21, 22, 23, 24, 25, 26, 27, 28, 29, 30, 31, 32, 33, 34, 35, 36] c27_25) (retK [.tmp 2])) (retK [.tmp 2]))
def s27_6 (x1 : Nat) (x6 : Option Addr) (x6n : Nat) (x6c : Nat) (x7 : Int) (x8 : Int) (M : AMem) : List Value := [junk, .pointer (some ⟨x1, 0, none⟩), junk, junk, junk, junk, .slice x6 x6n x6c, .int .i64 x7, .int .i64 x8, junk, junk, junk, junk, junk, junk, junk, junk, junk, junk, junk, junk, junk, junk, junk, junk, junk, junk, junk, junk, junk, junk, junk, junk, junk, junk, junk, junk]
theorem XP27_6 : ∃ P : Rec → Nat → (Option Addr) → Nat → Nat → Int → Int → AMem → Res, P = fun (L : Rec) (x1 : Nat) (x6 : Option Addr) (x6n : Nat) (x6c : Nat) (x7 : Int) (x8 : Int) (M : AMem) => L.loop b27_6 (k27_6 L) (s27_6 x1 x6 x6n x6c x7 x8 M) M := ⟨_, rfl⟩
noncomputable def P27_6 : Rec → Nat → (Option Addr) → Nat → Nat → Int → Int → AMem → Res := Classical.choose XP27_6
noncomputable def k27_24 (L : Rec) : KT := postK [0, 2, 3, 4, 5, 9, 10, 11, 12, 13, 14, 15, 16, 17, 18, 19, 20, 21, 22, 23, 24, 25, 26, 27, 28, 29, 30, 31, 32, 33, 34, 35, 36] (loopK L b27_6 (blockK 0 (seqK (code L (.clear [0, 2, 3, 4, 5, 6, 7, 8, 9, 10, 11, 12, 13, 14, 15, 16, 17, 18, 19, 20, 21, 22, 23, 24, 25, 26, 27, 28, 29, 30, 31, 32, 33, 34, 35, 36] c27_25) (retK [.tmp 2])) (retK [.tmp 2]))))
def s27_24 (x1 : Nat) (x6 : Option Addr) (x6n : Nat) (x6c : Nat) (x7 : Int) (x8 : Int) (M : AMem) : List Value := [junk, .pointer (some ⟨x1, 0, none⟩), junk, junk, junk, junk, .slice x6 x6n x6c, .int .i64 x7, .int .i64 x8, junk, junk, junk, junk, junk, junk, junk, junk, junk, junk, junk, junk, junk, junk, junk, junk, junk, junk, junk, junk, junk, junk, junk, junk, junk, junk, junk, junk]
theorem XP27_24 : ∃ P : Rec → Nat → (Option Addr) → Nat → Nat → Int → Int → AMem → Res, P = fun (L : Rec) (x1 : Nat) (x6 : Option Addr) (x6n : Nat) (x6c : Nat) (x7 : Int) (x8 : Int) (M : AMem) => code L c27_24 (k27_24 L) (s27_24 x1 x6 x6n x6c x7 x8 M) M := ⟨_, rfl⟩
noncomputable def P27_24 : Rec → Nat → (Option Addr) → Nat → Nat → Int → Int → AMem → Res := Classical.choose XP27_24
noncomputable def k27_25 (L : Rec) : KT := retK [.tmp 2]
def s27_25 (x1 : Nat) (M : AMem) : List Value := [junk, .pointer (some ⟨x1, 0, none⟩), junk, junk, junk, junk, junk, junk, junk, junk, junk, junk, junk, junk, junk, junk, junk, junk, junk, junk, junk, junk, junk, junk, junk, junk, junk, junk, junk, junk, junk, junk, junk, junk, junk, junk, junk]
theorem XP27_25 : ∃ P : Rec → Nat → AMem → Res, P = fun (L : Rec) (x1 : Nat) (M : AMem) => code L c27_25 (k27_25 L) (s27_25 x1 M) M := ⟨_, rfl⟩
noncomputable def P27_25 : Rec → Nat → AMem → Res := Classical.choose XP27_25
theorem QP27_6_eq (L : Rec) (b27_6 c27_24 c27_25 : ACode) (hb : ∀ K t A, L.loop b27_6 K t A = code L (.post (.seq (.ops o27_8) (.seq (.cond (.tmp 9) (.skip) (.exit 0)) (.seq (.block 1 (.seq (.ops o27_16) (.seq (.ops o27_18) (.cond (.tmp 27) (.seq (.ops o27_21) (.ret)) (.skip))))) (.clear [0, 2, 3, 4, 5, 9, 10, 11, 12, 13, 14, 15, 16, 17, 18, 19, 20, 21, 22, 23, 24, 25, 26, 27, 28, 29, 30, 31, 32, 33, 34, 35, 36] c27_24)))) [0, 2, 3, 4, 5, 9, 10, 11, 12, 13, 14, 15, 16, 17, 18, 19, 20, 21, 22, 23, 24, 25, 26, 27, 28, 29, 30, 31, 32, 33, 34, 35, 36]) (loopK L b27_6 K) t A) (P27_6 : Rec → Nat → (Option Addr) → Nat → Nat → Int → Int → AMem → Res) (hP27_6 : P27_6 = fun (L : Rec) (x1 : Nat) (x6 : Option Addr) (x6n : Nat) (x6c : Nat) (x7 : Int) (x8 : Int) (M : AMem) => L.loop b27_6 (blockK 0 (seqK (code L (.clear [0, 2, 3, 4, 5, 6, 7, 8, 9, 10, 11, 12, 13, 14, 15, 16, 17, 18, 19, 20, 21, 22, 23, 24, 25, 26, 27, 28, 29, 30, 31, 32, 33, 34, 35, 36] c27_25) (retK [.tmp 2])) (retK [.tmp 2]))) (s27_6 x1 x6 x6n x6c x7 x8 M) M) (P27_24 : Rec → Nat → (Option Addr) → Nat → Nat → Int → Int → AMem → Res) (hP27_24 : P27_24 = fun (L : Rec) (x1 : Nat) (x6 : Option Addr) (x6n : Nat) (x6c : Nat) (x7 : Int) (x8 : Int) (M : AMem) => code L c27_24 (postK [0, 2, 3, 4, 5, 9, 10, 11, 12, 13, 14, 15, 16, 17, 18, 19, 20, 21, 22, 23, 24, 25, 26, 27, 28, 29, 30, 31, 32, 33, 34, 35, 36] (loopK L b27_6 (blockK 0 (seqK (code L (.clear [0, 2, 3, 4, 5, 6, 7, 8, 9, 10, 11, 12, 13, 14, 15, 16, 17, 18, 19, 20, 21, 22, 23, 24, 25, 26, 27, 28, 29, 30, 31, 32, 33, 34, 35, 36] c27_25) (retK [.tmp 2])) (retK [.tmp 2]))))) (s27_24 x1 x6 x6n x6c x7 x8 M) M) (P27_25 : Rec → Nat → AMem → Res) (hP27_25 : P27_25 = fun (L : Rec) (x1 : Nat) (M : AMem) => code L c27_25 (retK [.tmp 2]) (s27_25 x1 M) M) (x1 : Nat) (x6 : Option Addr) (x6n : Nat) (x6c : Nat) (x7 : Int) (x8 : Int) (M : AMem) : P27_6 L x1 x6 x6n x6c x7 x8 M =
  (if (decide (x8 < x7)) = true
    then (match x6 with
      | some a_1 => (if (0 : Int) ≤ x8 ∧ x8 < (Int.ofNat x6n)
        then (Option.bind (intOf? .i64 (AMem.ld M a_1.block (a_1.off + ((Int.toNat x8) * 3)))) fun x_2 =>
          (Option.bind (intOf? .i64 (AMem.ld M a_1.block ((a_1.off + ((Int.toNat x8) * 3)) + 1))) fun x_3 =>
          (Option.bind (intOf? .i64 (AMem.ld M a_1.block ((a_1.off + ((Int.toNat x8) * 3)) + 2))) fun x_4 =>
          (Option.bind (AMem.wr (M ++ [AObj.cells [.int .i64 0, .int .i64 0, .int .i64 0] ⟨false, 0⟩]) (List.length M) 0 [.int .i64 x_2, .int .i64 x_3, .int .i64 x_4]) fun M_5 =>
          (Option.bind (intOf? .i64 (AMem.ld M_5 (List.length M) 0)) fun x_6 =>
          (Option.bind (L.call 31 [.int .i64 x_6] []) fun r_7 =>
          (Option.bind (boolOf? (some r_7.1)) fun q_8 =>
          (if (!q_8) = true
          then some (.bool false, M_5)
          else (Option.bind (intOf? .i64 (AMem.ld M_5 (List.length M) 1)) fun x_9 =>
            (Option.bind (L.call 31 [.int .i64 x_9] []) fun r_10 =>
            (Option.bind (boolOf? (some r_10.1)) fun q_11 =>
            (if (!q_11) = true
            then some (.bool false, M_5)
            else (Option.bind (intOf? .i64 (AMem.ld M_5 (List.length M) 2)) fun x_12 =>
              (Option.bind (L.call 31 [.int .i64 x_12] []) fun r_13 =>
              (Option.bind (boolOf? (some r_13.1)) fun q_14 =>
              (if (!q_14) = true
              then some (.bool false, M_5)
              else P27_24 L x1 x6 x6n x6c x7 x8 M_5))))))))))))))))
        else none)
      | none => none)
    else P27_25 L x1 M) := by
  subst hP27_6; subst hP27_24; subst hP27_25; exact (hb (blockK 0 (seqK (code L (.clear [0, 2, 3, 4, 5, 6, 7, 8, 9, 10, 11, 12, 13, 14, 15, 16, 17, 18, 19, 20, 21, 22, 23, 24, 25, 26, 27, 28, 29, 30, 31, 32, 33, 34, 35, 36] c27_25) (retK [.tmp 2])) (retK [.tmp 2]))) (s27_6 x1 x6 x6n x6c x7 x8 M) M).trans (by kernel_rfl)
theorem P27_6_eq (L : Rec) (hL : ∀ b K t A, L.loop b K t A = code L b (loopK L b K) t A) (x1 : Nat) (x6 : Option Addr) (x6n : Nat) (x6c : Nat) (x7 : Int) (x8 : Int) (M : AMem) : P27_6 L x1 x6 x6n x6c x7 x8 M =
  (if (decide (x8 < x7)) = true
    then (match x6 with
      | some a_1 => (if (0 : Int) ≤ x8 ∧ x8 < (Int.ofNat x6n)
        then (Option.bind (intOf? .i64 (AMem.ld M a_1.block (a_1.off + ((Int.toNat x8) * 3)))) fun x_2 =>
          (Option.bind (intOf? .i64 (AMem.ld M a_1.block ((a_1.off + ((Int.toNat x8) * 3)) + 1))) fun x_3 =>
          (Option.bind (intOf? .i64 (AMem.ld M a_1.block ((a_1.off + ((Int.toNat x8) * 3)) + 2))) fun x_4 =>
          (Option.bind (AMem.wr (M ++ [AObj.cells [.int .i64 0, .int .i64 0, .int .i64 0] ⟨false, 0⟩]) (List.length M) 0 [.int .i64 x_2, .int .i64 x_3, .int .i64 x_4]) fun M_5 =>
          (Option.bind (intOf? .i64 (AMem.ld M_5 (List.length M) 0)) fun x_6 =>
          (Option.bind (L.call 31 [.int .i64 x_6] []) fun r_7 =>
          (Option.bind (boolOf? (some r_7.1)) fun q_8 =>
          (if (!q_8) = true
          then some (.bool false, M_5)
          else (Option.bind (intOf? .i64 (AMem.ld M_5 (List.length M) 1)) fun x_9 =>
            (Option.bind (L.call 31 [.int .i64 x_9] []) fun r_10 =>
            (Option.bind (boolOf? (some r_10.1)) fun q_11 =>
            (if (!q_11) = true
            then some (.bool false, M_5)
            else (Option.bind (intOf? .i64 (AMem.ld M_5 (List.length M) 2)) fun x_12 =>
              (Option.bind (L.call 31 [.int .i64 x_12] []) fun r_13 =>
              (Option.bind (boolOf? (some r_13.1)) fun q_14 =>
              (if (!q_14) = true
              then some (.bool false, M_5)
              else P27_24 L x1 x6 x6n x6c x7 x8 M_5))))))))))))))))
        else none)
      | none => none)
    else P27_25 L x1 M) := QP27_6_eq L b27_6 c27_24 c27_25 (hL b27_6) P27_6 (Classical.choose_spec XP27_6) P27_24 (Classical.choose_spec XP27_24) P27_25 (Classical.choose_spec XP27_25) x1 x6 x6n x6c x7 x8 M
theorem QP27_24_eq (L : Rec) (b27_6 c27_25 : ACode) (P27_6 : Rec → Nat → (Option Addr) → Nat → Nat → Int → Int → AMem → Res) (hP27_6 : P27_6 = fun (L : Rec) (x1 : Nat) (x6 : Option Addr) (x6n : Nat) (x6c : Nat) (x7 : Int) (x8 : Int) (M : AMem) => L.loop b27_6 (blockK 0 (seqK (code L (.clear [0, 2, 3, 4, 5, 6, 7, 8, 9, 10, 11, 12, 13, 14, 15, 16, 17, 18, 19, 20, 21, 22, 23, 24, 25, 26, 27, 28, 29, 30, 31, 32, 33, 34, 35, 36] c27_25) (retK [.tmp 2])) (retK [.tmp 2]))) (s27_6 x1 x6 x6n x6c x7 x8 M) M) (P27_24 : Rec → Nat → (Option Addr) → Nat → Nat → Int → Int → AMem → Res) (hP27_24 : P27_24 = fun (L : Rec) (x1 : Nat) (x6 : Option Addr) (x6n : Nat) (x6c : Nat) (x7 : Int) (x8 : Int) (M : AMem) => code L (.ops o27_24) (postK [0, 2, 3, 4, 5, 9, 10, 11, 12, 13, 14, 15, 16, 17, 18, 19, 20, 21, 22, 23, 24, 25, 26, 27, 28, 29, 30, 31, 32, 33, 34, 35, 36] (loopK L b27_6 (blockK 0 (seqK (code L (.clear [0, 2, 3, 4, 5, 6, 7, 8, 9, 10, 11, 12, 13, 14, 15, 16, 17, 18, 19, 20, 21, 22, 23, 24, 25, 26, 27, 28, 29, 30, 31, 32, 33, 34, 35, 36] c27_25) (retK [.tmp 2])) (retK [.tmp 2]))))) (s27_24 x1 x6 x6n x6c x7 x8 M) M) (x1 : Nat) (x6 : Option Addr) (x6n : Nat) (x6c : Nat) (x7 : Int) (x8 : Int) (M : AMem) : P27_24 L x1 x6 x6n x6c x7 x8 M =
  P27_6 L x1 x6 x6n x6c x7 (IntKind.wrap .i64 (x8 + 1)) M := by
  subst hP27_6; subst hP27_24; kernel_rfl
theorem P27_24_eq (L : Rec) (x1 : Nat) (x6 : Option Addr) (x6n : Nat) (x6c : Nat) (x7 : Int) (x8 : Int) (M : AMem) : P27_24 L x1 x6 x6n x6c x7 x8 M =
  P27_6 L x1 x6 x6n x6c x7 (IntKind.wrap .i64 (x8 + 1)) M := QP27_24_eq L b27_6 c27_25 P27_6 (Classical.choose_spec XP27_6) P27_24 (Classical.choose_spec XP27_24) x1 x6 x6n x6c x7 x8 M
theorem QP27_25_eq (L : Rec) (P27_25 : Rec → Nat → AMem → Res) (hP27_25 : P27_25 = fun (L : Rec) (x1 : Nat) (M : AMem) => code L (.seq (.ops o27_26) (.ret)) (retK [.tmp 2]) (s27_25 x1 M) M) (x1 : Nat) (M : AMem) : P27_25 L x1 M =
  (Option.bind (intOf? .i64 (AMem.ld M x1 0)) fun x_1 =>
    (Option.bind (intOf? .i64 (AMem.ld M x1 1)) fun x_2 =>
    (Option.bind (sliceOf? (AMem.ld M x1 2)) fun s_3 =>
    (Option.bind (L.call 32 [.int .i64 x_1, .int .i64 x_2, .int .i64 (Int.ofNat s_3.2.1)] []) fun r_4 =>
    (Option.bind (boolOf? (some r_4.1)) fun q_5 =>
    some (.bool q_5, M)))))) := by
  subst hP27_25; kernel_rfl
theorem P27_25_eq (L : Rec) (x1 : Nat) (M : AMem) : P27_25 L x1 M =
  (Option.bind (intOf? .i64 (AMem.ld M x1 0)) fun x_1 =>
    (Option.bind (intOf? .i64 (AMem.ld M x1 1)) fun x_2 =>
    (Option.bind (sliceOf? (AMem.ld M x1 2)) fun s_3 =>
    (Option.bind (L.call 32 [.int .i64 x_1, .int .i64 x_2, .int .i64 (Int.ofNat s_3.2.1)] []) fun r_4 =>
    (Option.bind (boolOf? (some r_4.1)) fun q_5 =>
    some (.bool q_5, M)))))) := QP27_25_eq L P27_25 (Classical.choose_spec XP27_25) x1 M
theorem QE27 (L : Rec) (b27_6 c27_25 : ACode) (P27_6 : Rec → Nat → (Option Addr) → Nat → Nat → Int → Int → AMem → Res) (hP27_6 : P27_6 = fun (L : Rec) (x1 : Nat) (x6 : Option Addr) (x6n : Nat) (x6c : Nat) (x7 : Int) (x8 : Int) (M : AMem) => L.loop b27_6 (blockK 0 (seqK (code L (.clear [0, 2, 3, 4, 5, 6, 7, 8, 9, 10, 11, 12, 13, 14, 15, 16, 17, 18, 19, 20, 21, 22, 23, 24, 25, 26, 27, 28, 29, 30, 31, 32, 33, 34, 35, 36] c27_25) (retK [.tmp 2])) (retK [.tmp 2]))) (s27_6 x1 x6 x6n x6c x7 x8 M) M) (x0_0 : Int) (x0_1 : Int) (x0_2 : Option Addr) (x0_2n : Nat) (x0_2c : Nat) (M : AMem) : enterF L ⟨37, [.tmp 2], .seq (.ops o27_1) (.seq (.seq (.ops o27_4) (.block 0 (.clear [0, 2, 3, 4, 5, 9, 10, 11, 12, 13, 14, 15, 16, 17, 18, 19, 20, 21, 22, 23, 24, 25, 26, 27, 28, 29, 30, 31, 32, 33, 34, 35, 36] (.loop b27_6)))) (.clear [0, 2, 3, 4, 5, 6, 7, 8, 9, 10, 11, 12, 13, 14, 15, 16, 17, 18, 19, 20, 21, 22, 23, 24, 25, 26, 27, 28, 29, 30, 31, 32, 33, 34, 35, 36] c27_25))⟩ [.agg #[.int .i64 x0_0, .int .i64 x0_1, .slice x0_2 x0_2n x0_2c]] M =
  (Option.bind (sliceOf? (AMem.ld (M ++ [AObj.cells [.int .i64 x0_0, .int .i64 x0_1, .slice x0_2 x0_2n x0_2c] ⟨false, 0⟩]) (List.length M) 2)) fun s_1 =>
    P27_6 L (List.length M) s_1.1 s_1.2.1 s_1.2.2 (Int.ofNat s_1.2.1) 0 (M ++ [AObj.cells [.int .i64 x0_0, .int .i64 x0_1, .slice x0_2 x0_2n x0_2c] ⟨false, 0⟩])) := by
  subst hP27_6; kernel_rfl
theorem E27 (L : Rec) (x0_0 : Int) (x0_1 : Int) (x0_2 : Option Addr) (x0_2n : Nat) (x0_2c : Nat) (M : AMem) : enterF L a27 [.agg #[.int .i64 x0_0, .int .i64 x0_1, .slice x0_2 x0_2n x0_2c]] M =
  (Option.bind (sliceOf? (AMem.ld (M ++ [AObj.cells [.int .i64 x0_0, .int .i64 x0_1, .slice x0_2 x0_2n x0_2c] ⟨false, 0⟩]) (List.length M) 2)) fun s_1 =>
    P27_6 L (List.length M) s_1.1 s_1.2.1 s_1.2.2 (Int.ofNat s_1.2.1) 0 (M ++ [AObj.cells [.int .i64 x0_0, .int .i64 x0_1, .slice x0_2 x0_2n x0_2c] ⟨false, 0⟩])) := QE27 L b27_6 c27_25 P27_6 (Classical.choose_spec XP27_6) x0_0 x0_1 x0_2 x0_2n x0_2c M
/-! #### skylightref01.Div -/
noncomputable def k23_18 (L : Rec) : KT := retK [.tmp 4]
def s23_18 (x5 : Int) : List Value := [junk, junk, junk, junk, junk, .int .i64 x5, junk, junk, junk, junk, junk, junk, junk, junk, junk, junk, junk, junk, junk, junk, junk, junk]
theorem XP23_18 : ∃ P : Rec → Int → Res, P = fun (L : Rec) (x5 : Int) => code L c23_18 (k23_18 L) (s23_18 x5) ([] : AMem) := ⟨_, rfl⟩
noncomputable def P23_18 : Rec → Int → Res := Classical.choose XP23_18
theorem QP23_18_eq (L : Rec) (P23_18 : Rec → Int → Res) (hP23_18 : P23_18 = fun (L : Rec) (x5 : Int) => code L (.seq (.ops o23_19) (.ret)) (retK [.tmp 4]) (s23_18 x5) ([] : AMem)) (x5 : Int) : P23_18 L x5 =
  some (.int .i64 x5, ([] : AMem)) := by
  subst hP23_18; kernel_rfl
theorem P23_18_eq (L : Rec) (x5 : Int) : P23_18 L x5 =
  some (.int .i64 x5, ([] : AMem)) := QP23_18_eq L P23_18 (Classical.choose_spec XP23_18) x5
theorem QE23 (L : Rec) (c23_18 : ACode) (P23_18 : Rec → Int → Res) (hP23_18 : P23_18 = fun (L : Rec) (x5 : Int) => code L c23_18 (retK [.tmp 4]) (s23_18 x5) ([] : AMem)) (x0 : Int) (x1 : Int) : enterF L ⟨22, [.tmp 4], .seq (.ops o23_1) (.seq (.seq (.ops o23_4) (.cond (.tmp 7) (.seq (.ops o23_7) (.ret)) (.skip))) (.seq (.ops o23_11) (.seq (.seq (.ops o23_14) (.cond (.tmp 18) (.ops o23_16) (.skip))) (.clear [0, 1, 2, 3, 4, 6, 7, 8, 9, 10, 11, 12, 13, 14, 15, 16, 17, 18, 19, 20, 21] c23_18))))⟩ [.int .i64 x0, .int .i64 x1] [] =
  (if (decide (x1 < 1)) = true
    then some (.int .i64 0, ([] : AMem))
    else (if x1 = 0
      then none
      else (if (decide (x0 < 0)) = true
        then (if x1 = 0
          then none
          else (if ((Int.tmod x0 x1) != 0) = true
            then P23_18 L (IntKind.wrap .i64 ((IntKind.wrap .i64 (Int.tdiv x0 x1)) - 1))
            else P23_18 L (IntKind.wrap .i64 (Int.tdiv x0 x1))))
        else P23_18 L (IntKind.wrap .i64 (Int.tdiv x0 x1))))) := by
  subst hP23_18; kernel_rfl
theorem E23 (L : Rec) (x0 : Int) (x1 : Int) : enterF L a23 [.int .i64 x0, .int .i64 x1] [] =
  (if (decide (x1 < 1)) = true
    then some (.int .i64 0, ([] : AMem))
    else (if x1 = 0
      then none
      else (if (decide (x0 < 0)) = true
        then (if x1 = 0
          then none
          else (if ((Int.tmod x0 x1) != 0) = true
            then P23_18 L (IntKind.wrap .i64 ((IntKind.wrap .i64 (Int.tdiv x0 x1)) - 1))
            else P23_18 L (IntKind.wrap .i64 (Int.tdiv x0 x1))))
        else P23_18 L (IntKind.wrap .i64 (Int.tdiv x0 x1))))) := QE23 L c23_18 P23_18 (Classical.choose_spec XP23_18) x0 x1
end Go.Proofs.Ytkjgmcjdblhkeaa
