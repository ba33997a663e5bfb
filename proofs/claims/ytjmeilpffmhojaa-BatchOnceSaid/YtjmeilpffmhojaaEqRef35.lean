/- What the pieces of some functions come to. -/
import Derived.Test.YtjmeilpffmhojaaCode
set_option linter.unusedVariables false
set_option maxRecDepth 100000
namespace Go.Proofs.Ytjmeilpffmhojaa
open Go Go.Ax
/-! #### skylightref35.New -/
theorem GE15 (L : Rec) (x0 : Int) (x1 : Int) : enterF L ⟨24, [.cell true [.int .i64, .int .i64, .int .i64, .bool, .bool, .int .u64, .int .i64, .int .i64] 4, .tmp 5], .seq (.ops o15_1) (.seq (.seq (.ops o15_4) (.cond (.tmp 19) (.seq (.ops o15_7) (.ret)) (.skip))) (.seq (.ops o15_11) (.ret)))⟩ [.int .i64 x0, .int .i64 x1] [] =
  (if (decide (x0 < 0)) = true
    then some (.tuple #[.agg #[.int .i64 0, .int .i64 0, .int .i64 0, .bool false, .bool false, .int .u64 0, .int .i64 0, .int .i64 0], .bool false], ([AObj.cells [.int .i64 0, .int .i64 0, .int .i64 0, .bool false, .bool false, .int .u64 0, .int .i64 0, .int .i64 0] ⟨false, 1⟩] : AMem))
    else (if (decide (x0 > 1048576)) = true
      then some (.tuple #[.agg #[.int .i64 0, .int .i64 0, .int .i64 0, .bool false, .bool false, .int .u64 0, .int .i64 0, .int .i64 0], .bool false], ([AObj.cells [.int .i64 0, .int .i64 0, .int .i64 0, .bool false, .bool false, .int .u64 0, .int .i64 0, .int .i64 0] ⟨false, 1⟩] : AMem))
      else (if (decide (x1 < 1)) = true
        then some (.tuple #[.agg #[.int .i64 0, .int .i64 0, .int .i64 0, .bool false, .bool false, .int .u64 0, .int .i64 0, .int .i64 0], .bool false], ([AObj.cells [.int .i64 0, .int .i64 0, .int .i64 0, .bool false, .bool false, .int .u64 0, .int .i64 0, .int .i64 0] ⟨false, 1⟩] : AMem))
        else (if (decide (x1 > 65536)) = true
          then some (.tuple #[.agg #[.int .i64 0, .int .i64 0, .int .i64 0, .bool false, .bool false, .int .u64 0, .int .i64 0, .int .i64 0], .bool false], ([AObj.cells [.int .i64 0, .int .i64 0, .int .i64 0, .bool false, .bool false, .int .u64 0, .int .i64 0, .int .i64 0] ⟨false, 1⟩] : AMem))
          else some (.tuple #[.agg #[.int .i64 x0, .int .i64 x1, .int .i64 0, .bool false, .bool false, .int .u64 0, .int .i64 0, .int .i64 0], .bool true], ([AObj.cells [.int .i64 x0, .int .i64 x1, .int .i64 0, .bool false, .bool false, .int .u64 0, .int .i64 0, .int .i64 0] ⟨false, 1⟩] : AMem)))))) := by kernel_rfl
theorem E15 (L : Rec) (x0 : Int) (x1 : Int) : enterF L a15 [.int .i64 x0, .int .i64 x1] [] =
  (if (decide (x0 < 0)) = true
    then some (.tuple #[.agg #[.int .i64 0, .int .i64 0, .int .i64 0, .bool false, .bool false, .int .u64 0, .int .i64 0, .int .i64 0], .bool false], ([AObj.cells [.int .i64 0, .int .i64 0, .int .i64 0, .bool false, .bool false, .int .u64 0, .int .i64 0, .int .i64 0] ⟨false, 1⟩] : AMem))
    else (if (decide (x0 > 1048576)) = true
      then some (.tuple #[.agg #[.int .i64 0, .int .i64 0, .int .i64 0, .bool false, .bool false, .int .u64 0, .int .i64 0, .int .i64 0], .bool false], ([AObj.cells [.int .i64 0, .int .i64 0, .int .i64 0, .bool false, .bool false, .int .u64 0, .int .i64 0, .int .i64 0] ⟨false, 1⟩] : AMem))
      else (if (decide (x1 < 1)) = true
        then some (.tuple #[.agg #[.int .i64 0, .int .i64 0, .int .i64 0, .bool false, .bool false, .int .u64 0, .int .i64 0, .int .i64 0], .bool false], ([AObj.cells [.int .i64 0, .int .i64 0, .int .i64 0, .bool false, .bool false, .int .u64 0, .int .i64 0, .int .i64 0] ⟨false, 1⟩] : AMem))
        else (if (decide (x1 > 65536)) = true
          then some (.tuple #[.agg #[.int .i64 0, .int .i64 0, .int .i64 0, .bool false, .bool false, .int .u64 0, .int .i64 0, .int .i64 0], .bool false], ([AObj.cells [.int .i64 0, .int .i64 0, .int .i64 0, .bool false, .bool false, .int .u64 0, .int .i64 0, .int .i64 0] ⟨false, 1⟩] : AMem))
          else some (.tuple #[.agg #[.int .i64 x0, .int .i64 x1, .int .i64 0, .bool false, .bool false, .int .u64 0, .int .i64 0, .int .i64 0], .bool true], ([AObj.cells [.int .i64 x0, .int .i64 x1, .int .i64 0, .bool false, .bool false, .int .u64 0, .int .i64 0, .int .i64 0] ⟨false, 1⟩] : AMem)))))) := Eq.mp (by kernel_rfl) (GE15 L  x0 x1)
/-! #### skylightref35.Claim.Step -/
noncomputable def k18_22 (L : Rec) : KT := seqK (code L (.seq (.ops o18_27) (.seq (.draw [] 0 o18_29 []) (.seq (.seq (.ops o18_32) (.cond (.tmp 87) (.seq (.ops o18_35) (.seq (.ops o18_37) (.ops o18_38))) (.ops o18_39))) (.clear [0, 1, 2, 3, 4, 5, 6, 7, 8, 9, 10, 11, 12, 13, 14, 15, 16, 17, 18, 19, 20, 21, 22, 23, 24, 25, 26, 27, 28, 29, 30, 31, 32, 33, 34, 35, 36, 37, 38, 39, 40, 41, 42, 43, 44, 45, 46, 47, 48, 49, 50, 51, 52, 53, 54, 55, 56, 57, 58, 59, 60, 61, 62, 63, 64, 65, 66, 67, 68, 69, 70, 71, 72, 73, 74, 75, 76, 77, 78, 79, 80, 81, 82, 83, 84, 85, 86, 87, 88, 89, 90, 91, 92, 93, 94, 95, 96, 97, 98, 99, 100, 101, 102, 103, 104, 105, 106, 107, 108, 109] c18_40)))) (retK [.tmp 4])) (retK [.tmp 4])
def s18_22 (M : AMem) : List Value := [junk, junk, junk, junk, junk, junk, junk, junk, junk, junk, junk, junk, junk, junk, junk, junk, junk, junk, junk, junk, junk, junk, junk, junk, junk, junk, junk, junk, junk, junk, junk, junk, junk, junk, junk, junk, junk, junk, junk, junk, junk, junk, junk, junk, junk, junk, junk, junk, junk, junk, junk, junk, junk, junk, junk, junk, junk, junk, junk, junk, junk, junk, junk, junk, junk, junk, junk, junk, junk, junk, junk, junk, junk, junk, junk, junk, junk, junk, junk, junk, junk, junk, junk, junk, junk, junk, junk, junk, junk, junk, junk, junk, junk, junk, junk, junk, junk, junk, junk, junk, junk, junk, junk, junk, junk, junk, junk, junk, junk, junk]
theorem XP18_22 : ∃ P : Rec → AMem → Res, P = fun (L : Rec) (M : AMem) => code L c18_22 (k18_22 L) (s18_22 M) M := ⟨_, rfl⟩
noncomputable def P18_22 : Rec → AMem → Res := Classical.choose XP18_22
noncomputable def k18_40 (L : Rec) : KT := retK [.tmp 4]
def s18_40 (M : AMem) : List Value := [junk, junk, junk, junk, junk, junk, junk, junk, junk, junk, junk, junk, junk, junk, junk, junk, junk, junk, junk, junk, junk, junk, junk, junk, junk, junk, junk, junk, junk, junk, junk, junk, junk, junk, junk, junk, junk, junk, junk, junk, junk, junk, junk, junk, junk, junk, junk, junk, junk, junk, junk, junk, junk, junk, junk, junk, junk, junk, junk, junk, junk, junk, junk, junk, junk, junk, junk, junk, junk, junk, junk, junk, junk, junk, junk, junk, junk, junk, junk, junk, junk, junk, junk, junk, junk, junk, junk, junk, junk, junk, junk, junk, junk, junk, junk, junk, junk, junk, junk, junk, junk, junk, junk, junk, junk, junk, junk, junk, junk, junk]
theorem XP18_40 : ∃ P : Rec → AMem → Res, P = fun (L : Rec) (M : AMem) => code L c18_40 (k18_40 L) (s18_40 M) M := ⟨_, rfl⟩
noncomputable def P18_40 : Rec → AMem → Res := Classical.choose XP18_40
theorem G18_22 (L : Rec) (c18_40 : ACode) (M : AMem) : code L (.seq (.ops o18_23) (.ret)) (seqK (code L (.seq (.ops o18_27) (.seq (.draw [] 0 o18_29 []) (.seq (.seq (.ops o18_32) (.cond (.tmp 87) (.seq (.ops o18_35) (.seq (.ops o18_37) (.ops o18_38))) (.ops o18_39))) (.clear [0, 1, 2, 3, 4, 5, 6, 7, 8, 9, 10, 11, 12, 13, 14, 15, 16, 17, 18, 19, 20, 21, 22, 23, 24, 25, 26, 27, 28, 29, 30, 31, 32, 33, 34, 35, 36, 37, 38, 39, 40, 41, 42, 43, 44, 45, 46, 47, 48, 49, 50, 51, 52, 53, 54, 55, 56, 57, 58, 59, 60, 61, 62, 63, 64, 65, 66, 67, 68, 69, 70, 71, 72, 73, 74, 75, 76, 77, 78, 79, 80, 81, 82, 83, 84, 85, 86, 87, 88, 89, 90, 91, 92, 93, 94, 95, 96, 97, 98, 99, 100, 101, 102, 103, 104, 105, 106, 107, 108, 109] c18_40)))) (retK [.tmp 4])) (retK [.tmp 4])) [junk, junk, junk, junk, junk, junk, junk, junk, junk, junk, junk, junk, junk, junk, junk, junk, junk, junk, junk, junk, junk, junk, junk, junk, junk, junk, junk, junk, junk, junk, junk, junk, junk, junk, junk, junk, junk, junk, junk, junk, junk, junk, junk, junk, junk, junk, junk, junk, junk, junk, junk, junk, junk, junk, junk, junk, junk, junk, junk, junk, junk, junk, junk, junk, junk, junk, junk, junk, junk, junk, junk, junk, junk, junk, junk, junk, junk, junk, junk, junk, junk, junk, junk, junk, junk, junk, junk, junk, junk, junk, junk, junk, junk, junk, junk, junk, junk, junk, junk, junk, junk, junk, junk, junk, junk, junk, junk, junk, junk, junk] M =
  some (.bool true, M) := by kernel_rfl
theorem QP18_22_eq (L : Rec) (P18_22 : Rec → AMem → Res) (hP18_22 : P18_22 = fun (L : Rec) (M : AMem) => code L c18_22 (k18_22 L) (s18_22 M) M) (M : AMem) : P18_22 L M =
  some (.bool true, M) := by
  subst hP18_22; exact Eq.mp (by kernel_rfl) (G18_22 L c18_40 M)
theorem P18_22_eq (L : Rec) (M : AMem) : P18_22 L M =
  some (.bool true, M) := QP18_22_eq L P18_22 (Classical.choose_spec XP18_22) M
theorem G18_40 (L : Rec) (M : AMem) : code L (.seq (.ops o18_41) (.ret)) (retK [.tmp 4]) [junk, junk, junk, junk, junk, junk, junk, junk, junk, junk, junk, junk, junk, junk, junk, junk, junk, junk, junk, junk, junk, junk, junk, junk, junk, junk, junk, junk, junk, junk, junk, junk, junk, junk, junk, junk, junk, junk, junk, junk, junk, junk, junk, junk, junk, junk, junk, junk, junk, junk, junk, junk, junk, junk, junk, junk, junk, junk, junk, junk, junk, junk, junk, junk, junk, junk, junk, junk, junk, junk, junk, junk, junk, junk, junk, junk, junk, junk, junk, junk, junk, junk, junk, junk, junk, junk, junk, junk, junk, junk, junk, junk, junk, junk, junk, junk, junk, junk, junk, junk, junk, junk, junk, junk, junk, junk, junk, junk, junk, junk] M =
  some (.bool true, M) := by kernel_rfl
theorem QP18_40_eq (L : Rec) (P18_40 : Rec → AMem → Res) (hP18_40 : P18_40 = fun (L : Rec) (M : AMem) => code L c18_40 (k18_40 L) (s18_40 M) M) (M : AMem) : P18_40 L M =
  some (.bool true, M) := by
  subst hP18_40; exact Eq.mp (by kernel_rfl) (G18_40 L  M)
theorem P18_40_eq (L : Rec) (M : AMem) : P18_40 L M =
  some (.bool true, M) := QP18_40_eq L P18_40 (Classical.choose_spec XP18_40) M
theorem GE18 (L : Rec) (c18_22 c18_40 : ACode) (x0 : Option Addr) (x1 : Option Addr) (M : AMem) : enterF L ⟨110, [.tmp 4], .seq (.ops o18_1) (.seq (.seq (.ops o18_4) (.cond (.tmp 26) (.seq (.ops o18_7) (.ret)) (.skip))) (.seq (.seq (.ops o18_12) (.cond (.tmp 31) (.seq (.ops o18_15) (.seq (.ops o18_17) (.seq (.draw [] 0 o18_19 []) (.seq (.ops o18_21) (.clear [0, 1, 2, 3, 4, 5, 6, 7, 8, 9, 10, 11, 12, 13, 14, 15, 16, 17, 18, 19, 20, 21, 22, 23, 24, 25, 26, 27, 28, 29, 30, 31, 32, 33, 34, 35, 36, 37, 38, 39, 40, 41, 42, 43, 44, 45, 46, 47, 48, 49, 50, 51, 52, 53, 54, 55, 56, 57, 58, 59, 60, 61, 62, 63, 64, 65, 66, 67, 68, 69, 70, 71, 72, 73, 74, 75, 76, 77, 78, 79, 80, 81, 82, 83, 84, 85, 86, 87, 88, 89, 90, 91, 92, 93, 94, 95, 96, 97, 98, 99, 100, 101, 102, 103, 104, 105, 106, 107, 108, 109] c18_22))))) (.skip))) (.seq (.ops o18_27) (.seq (.draw [] 0 o18_29 []) (.seq (.seq (.ops o18_32) (.cond (.tmp 87) (.seq (.ops o18_35) (.seq (.ops o18_37) (.ops o18_38))) (.ops o18_39))) (.clear [0, 1, 2, 3, 4, 5, 6, 7, 8, 9, 10, 11, 12, 13, 14, 15, 16, 17, 18, 19, 20, 21, 22, 23, 24, 25, 26, 27, 28, 29, 30, 31, 32, 33, 34, 35, 36, 37, 38, 39, 40, 41, 42, 43, 44, 45, 46, 47, 48, 49, 50, 51, 52, 53, 54, 55, 56, 57, 58, 59, 60, 61, 62, 63, 64, 65, 66, 67, 68, 69, 70, 71, 72, 73, 74, 75, 76, 77, 78, 79, 80, 81, 82, 83, 84, 85, 86, 87, 88, 89, 90, 91, 92, 93, 94, 95, 96, 97, 98, 99, 100, 101, 102, 103, 104, 105, 106, 107, 108, 109] c18_40))))))⟩ [.pointer x0, .pointer x1] M =
  (match x0 with
    | some a_1 => (Option.bind (intOf? .i64 (AMem.ld M a_1.block (a_1.off + 1))) fun x_2 =>
      (if (x_2 == 0) = true
      then some (.bool false, M)
      else (match x0 with
        | some a_3 => (Option.bind (boolOf? (AMem.ld M a_3.block (a_3.off + 4))) fun q_4 =>
          (if q_4 = true
          then some (.bool false, M)
          else (match x1 with
            | some a_5 => (Option.bind (sliceOf? (AMem.ld M a_5.block a_5.off)) fun s_6 =>
              (if ((Int.ofNat s_6.2.1) == 0) = true
              then some (.bool false, M)
              else (match x0 with
                | some a_7 => (Option.bind (boolOf? (AMem.ld M a_7.block (a_7.off + 3))) fun q_8 =>
                  (if (!q_8) = true
                  then (Option.bind (L.call 58 [.pointer x1, .int .i64 0] M) fun r_9 =>
                    (Option.bind (tupOf? 2 r_9.1) fun cs_10 =>
                    (Option.bind (cs_10[0]?) fun u_11 =>
                    (Option.bind (intOf? .u64 (some u_11)) fun x_12 =>
                    (Option.bind (cs_10[1]?) fun u_13 =>
                    (Option.bind (boolOf? (some u_13)) fun q_14 =>
                    (match x0 with
                    | some a_15 => (Option.bind (AMem.wr r_9.2 a_15.block (a_15.off + 5) [.int .u64 x_12]) fun M_16 =>
                      (match x0 with
                      | some a_17 => (Option.bind (intOf? .u64 (AMem.ld M_16 a_17.block (a_17.off + 5))) fun x_18 =>
                        (match x0 with
                        | some a_19 => (Option.bind (intOf? .i64 (AMem.ld M_16 a_19.block a_19.off)) fun x_20 =>
                          (match x0 with
                          | some a_21 => (Option.bind (AMem.wr M_16 a_21.block (a_21.off + 3) [.bool (decide (x_18 < (IntKind.wrap .u64 x_20)))]) fun M_22 =>
                            (match x0 with
                            | some a_23 => (Option.bind (boolOf? (AMem.ld M_22 a_23.block (a_23.off + 3))) fun q_24 =>
                              (match x0 with
                              | some a_25 => (Option.bind (AMem.wr M_22 a_25.block (a_25.off + 4) [.bool (!q_24)]) fun M_26 =>
                                code L c18_22 (seqK (code L (.seq (.ops o18_27) (.seq (.draw [] 0 o18_29 []) (.seq (.seq (.ops o18_32) (.cond (.tmp 87) (.seq (.ops o18_35) (.seq (.ops o18_37) (.ops o18_38))) (.ops o18_39))) (.clear [0, 1, 2, 3, 4, 5, 6, 7, 8, 9, 10, 11, 12, 13, 14, 15, 16, 17, 18, 19, 20, 21, 22, 23, 24, 25, 26, 27, 28, 29, 30, 31, 32, 33, 34, 35, 36, 37, 38, 39, 40, 41, 42, 43, 44, 45, 46, 47, 48, 49, 50, 51, 52, 53, 54, 55, 56, 57, 58, 59, 60, 61, 62, 63, 64, 65, 66, 67, 68, 69, 70, 71, 72, 73, 74, 75, 76, 77, 78, 79, 80, 81, 82, 83, 84, 85, 86, 87, 88, 89, 90, 91, 92, 93, 94, 95, 96, 97, 98, 99, 100, 101, 102, 103, 104, 105, 106, 107, 108, 109] c18_40)))) (retK [.tmp 4])) (retK [.tmp 4])) [junk, junk, junk, junk, junk, junk, junk, junk, junk, junk, junk, junk, junk, junk, junk, junk, junk, junk, junk, junk, junk, junk, junk, junk, junk, junk, junk, junk, junk, junk, junk, junk, junk, junk, junk, junk, junk, junk, junk, junk, junk, junk, junk, junk, junk, junk, junk, junk, junk, junk, junk, junk, junk, junk, junk, junk, junk, junk, junk, junk, junk, junk, junk, junk, junk, junk, junk, junk, junk, junk, junk, junk, junk, junk, junk, junk, junk, junk, junk, junk, junk, junk, junk, junk, junk, junk, junk, junk, junk, junk, junk, junk, junk, junk, junk, junk, junk, junk, junk, junk, junk, junk, junk, junk, junk, junk, junk, junk, junk, junk] M_26)
                              | none => none))
                            | none => none))
                          | none => none))
                        | none => none))
                      | none => none))
                    | none => none)))))))
                  else (match x0 with
                    | some a_27 => (Option.bind (AMem.wr M a_27.block (a_27.off + 3) [.bool false]) fun M_28 =>
                      (match x0 with
                      | some a_29 => (Option.bind (intOf? .i64 (AMem.ld M_28 a_29.block a_29.off)) fun x_30 =>
                        (match x0 with
                        | some a_31 => (Option.bind (intOf? .u64 (AMem.ld M_28 a_31.block (a_31.off + 5))) fun x_32 =>
                          (match x0 with
                          | some a_33 => (Option.bind (intOf? .i64 (AMem.ld M_28 a_33.block (a_33.off + 1))) fun x_34 =>
                            (match x0 with
                            | some a_35 => (Option.bind (intOf? .u64 (AMem.ld M_28 a_35.block (a_35.off + 5))) fun x_36 =>
                              (Option.bind (L.call 13 [.pointer x1, .int .i64 0, .int .u64 x_36, .int .u64 (IntKind.wrap .u64 (if (IntKind.wrap .i64 ((IntKind.wrap .i64 x_32) + x_34)) < x_30 then (IntKind.wrap .i64 ((IntKind.wrap .i64 x_32) + x_34)) else x_30))] M_28) fun r_37 =>
                              (Option.bind (boolOf? (some r_37.1)) fun q_38 =>
                              (if q_38 = true
                              then (match x0 with
                                | some a_39 => (Option.bind (intOf? .u64 (AMem.ld r_37.2 a_39.block (a_39.off + 5))) fun x_40 =>
                                  (match x0 with
                                  | some a_41 => (Option.bind (AMem.wr r_37.2 a_41.block (a_41.off + 6) [.int .i64 (IntKind.wrap .i64 x_40)]) fun M_42 =>
                                    (match x0 with
                                    | some a_43 => (Option.bind (AMem.wr M_42 a_43.block (a_43.off + 7) [.int .i64 (if (IntKind.wrap .i64 ((IntKind.wrap .i64 x_32) + x_34)) < x_30 then (IntKind.wrap .i64 ((IntKind.wrap .i64 x_32) + x_34)) else x_30)]) fun M_44 =>
                                      (match x0 with
                                      | some a_45 => (Option.bind (AMem.wr M_44 a_45.block (a_45.off + 4) [.bool true]) fun M_46 =>
                                        code L c18_40 (retK [.tmp 4]) [junk, junk, junk, junk, junk, junk, junk, junk, junk, junk, junk, junk, junk, junk, junk, junk, junk, junk, junk, junk, junk, junk, junk, junk, junk, junk, junk, junk, junk, junk, junk, junk, junk, junk, junk, junk, junk, junk, junk, junk, junk, junk, junk, junk, junk, junk, junk, junk, junk, junk, junk, junk, junk, junk, junk, junk, junk, junk, junk, junk, junk, junk, junk, junk, junk, junk, junk, junk, junk, junk, junk, junk, junk, junk, junk, junk, junk, junk, junk, junk, junk, junk, junk, junk, junk, junk, junk, junk, junk, junk, junk, junk, junk, junk, junk, junk, junk, junk, junk, junk, junk, junk, junk, junk, junk, junk, junk, junk, junk, junk] M_46)
                                      | none => none))
                                    | none => none))
                                  | none => none))
                                | none => none)
                              else (match x0 with
                                | some a_47 => (Option.bind (intOf? .i64 (AMem.ld r_37.2 a_47.block (a_47.off + 2))) fun x_48 =>
                                  (match x0 with
                                  | some a_49 => (Option.bind (AMem.wr r_37.2 a_49.block (a_49.off + 2) [.int .i64 (IntKind.wrap .i64 (x_48 + 1))]) fun M_50 =>
                                    code L c18_40 (retK [.tmp 4]) [junk, junk, junk, junk, junk, junk, junk, junk, junk, junk, junk, junk, junk, junk, junk, junk, junk, junk, junk, junk, junk, junk, junk, junk, junk, junk, junk, junk, junk, junk, junk, junk, junk, junk, junk, junk, junk, junk, junk, junk, junk, junk, junk, junk, junk, junk, junk, junk, junk, junk, junk, junk, junk, junk, junk, junk, junk, junk, junk, junk, junk, junk, junk, junk, junk, junk, junk, junk, junk, junk, junk, junk, junk, junk, junk, junk, junk, junk, junk, junk, junk, junk, junk, junk, junk, junk, junk, junk, junk, junk, junk, junk, junk, junk, junk, junk, junk, junk, junk, junk, junk, junk, junk, junk, junk, junk, junk, junk, junk, junk] M_50)
                                  | none => none))
                                | none => none)))))
                            | none => none))
                          | none => none))
                        | none => none))
                      | none => none))
                    | none => none)))
                | none => none)))
            | none => none)))
        | none => none)))
    | none => none) := by kernel_rfl
theorem QE18 (L : Rec) (P18_22 : Rec → AMem → Res) (hP18_22 : P18_22 = fun (L : Rec) (M : AMem) => code L c18_22 (k18_22 L) (s18_22 M) M) (P18_40 : Rec → AMem → Res) (hP18_40 : P18_40 = fun (L : Rec) (M : AMem) => code L c18_40 (k18_40 L) (s18_40 M) M) (x0 : Option Addr) (x1 : Option Addr) (M : AMem) : enterF L a18 [.pointer x0, .pointer x1] M =
  (match x0 with
    | some a_1 => (Option.bind (intOf? .i64 (AMem.ld M a_1.block (a_1.off + 1))) fun x_2 =>
      (if (x_2 == 0) = true
      then some (.bool false, M)
      else (match x0 with
        | some a_3 => (Option.bind (boolOf? (AMem.ld M a_3.block (a_3.off + 4))) fun q_4 =>
          (if q_4 = true
          then some (.bool false, M)
          else (match x1 with
            | some a_5 => (Option.bind (sliceOf? (AMem.ld M a_5.block a_5.off)) fun s_6 =>
              (if ((Int.ofNat s_6.2.1) == 0) = true
              then some (.bool false, M)
              else (match x0 with
                | some a_7 => (Option.bind (boolOf? (AMem.ld M a_7.block (a_7.off + 3))) fun q_8 =>
                  (if (!q_8) = true
                  then (Option.bind (L.call 58 [.pointer x1, .int .i64 0] M) fun r_9 =>
                    (Option.bind (tupOf? 2 r_9.1) fun cs_10 =>
                    (Option.bind (cs_10[0]?) fun u_11 =>
                    (Option.bind (intOf? .u64 (some u_11)) fun x_12 =>
                    (Option.bind (cs_10[1]?) fun u_13 =>
                    (Option.bind (boolOf? (some u_13)) fun q_14 =>
                    (match x0 with
                    | some a_15 => (Option.bind (AMem.wr r_9.2 a_15.block (a_15.off + 5) [.int .u64 x_12]) fun M_16 =>
                      (match x0 with
                      | some a_17 => (Option.bind (intOf? .u64 (AMem.ld M_16 a_17.block (a_17.off + 5))) fun x_18 =>
                        (match x0 with
                        | some a_19 => (Option.bind (intOf? .i64 (AMem.ld M_16 a_19.block a_19.off)) fun x_20 =>
                          (match x0 with
                          | some a_21 => (Option.bind (AMem.wr M_16 a_21.block (a_21.off + 3) [.bool (decide (x_18 < (IntKind.wrap .u64 x_20)))]) fun M_22 =>
                            (match x0 with
                            | some a_23 => (Option.bind (boolOf? (AMem.ld M_22 a_23.block (a_23.off + 3))) fun q_24 =>
                              (match x0 with
                              | some a_25 => (Option.bind (AMem.wr M_22 a_25.block (a_25.off + 4) [.bool (!q_24)]) fun M_26 =>
                                P18_22 L M_26)
                              | none => none))
                            | none => none))
                          | none => none))
                        | none => none))
                      | none => none))
                    | none => none)))))))
                  else (match x0 with
                    | some a_27 => (Option.bind (AMem.wr M a_27.block (a_27.off + 3) [.bool false]) fun M_28 =>
                      (match x0 with
                      | some a_29 => (Option.bind (intOf? .i64 (AMem.ld M_28 a_29.block a_29.off)) fun x_30 =>
                        (match x0 with
                        | some a_31 => (Option.bind (intOf? .u64 (AMem.ld M_28 a_31.block (a_31.off + 5))) fun x_32 =>
                          (match x0 with
                          | some a_33 => (Option.bind (intOf? .i64 (AMem.ld M_28 a_33.block (a_33.off + 1))) fun x_34 =>
                            (match x0 with
                            | some a_35 => (Option.bind (intOf? .u64 (AMem.ld M_28 a_35.block (a_35.off + 5))) fun x_36 =>
                              (Option.bind (L.call 13 [.pointer x1, .int .i64 0, .int .u64 x_36, .int .u64 (IntKind.wrap .u64 (if (IntKind.wrap .i64 ((IntKind.wrap .i64 x_32) + x_34)) < x_30 then (IntKind.wrap .i64 ((IntKind.wrap .i64 x_32) + x_34)) else x_30))] M_28) fun r_37 =>
                              (Option.bind (boolOf? (some r_37.1)) fun q_38 =>
                              (if q_38 = true
                              then (match x0 with
                                | some a_39 => (Option.bind (intOf? .u64 (AMem.ld r_37.2 a_39.block (a_39.off + 5))) fun x_40 =>
                                  (match x0 with
                                  | some a_41 => (Option.bind (AMem.wr r_37.2 a_41.block (a_41.off + 6) [.int .i64 (IntKind.wrap .i64 x_40)]) fun M_42 =>
                                    (match x0 with
                                    | some a_43 => (Option.bind (AMem.wr M_42 a_43.block (a_43.off + 7) [.int .i64 (if (IntKind.wrap .i64 ((IntKind.wrap .i64 x_32) + x_34)) < x_30 then (IntKind.wrap .i64 ((IntKind.wrap .i64 x_32) + x_34)) else x_30)]) fun M_44 =>
                                      (match x0 with
                                      | some a_45 => (Option.bind (AMem.wr M_44 a_45.block (a_45.off + 4) [.bool true]) fun M_46 =>
                                        P18_40 L M_46)
                                      | none => none))
                                    | none => none))
                                  | none => none))
                                | none => none)
                              else (match x0 with
                                | some a_47 => (Option.bind (intOf? .i64 (AMem.ld r_37.2 a_47.block (a_47.off + 2))) fun x_48 =>
                                  (match x0 with
                                  | some a_49 => (Option.bind (AMem.wr r_37.2 a_49.block (a_49.off + 2) [.int .i64 (IntKind.wrap .i64 (x_48 + 1))]) fun M_50 =>
                                    P18_40 L M_50)
                                  | none => none))
                                | none => none)))))
                            | none => none))
                          | none => none))
                        | none => none))
                      | none => none))
                    | none => none)))
                | none => none)))
            | none => none)))
        | none => none)))
    | none => none) := by
  subst hP18_22; subst hP18_40; exact Eq.mp (by kernel_rfl) (GE18 L c18_22 c18_40 x0 x1 M)
theorem E18 (L : Rec) (x0 : Option Addr) (x1 : Option Addr) (M : AMem) : enterF L a18 [.pointer x0, .pointer x1] M =
  (match x0 with
    | some a_1 => (Option.bind (intOf? .i64 (AMem.ld M a_1.block (a_1.off + 1))) fun x_2 =>
      (if (x_2 == 0) = true
      then some (.bool false, M)
      else (match x0 with
        | some a_3 => (Option.bind (boolOf? (AMem.ld M a_3.block (a_3.off + 4))) fun q_4 =>
          (if q_4 = true
          then some (.bool false, M)
          else (match x1 with
            | some a_5 => (Option.bind (sliceOf? (AMem.ld M a_5.block a_5.off)) fun s_6 =>
              (if ((Int.ofNat s_6.2.1) == 0) = true
              then some (.bool false, M)
              else (match x0 with
                | some a_7 => (Option.bind (boolOf? (AMem.ld M a_7.block (a_7.off + 3))) fun q_8 =>
                  (if (!q_8) = true
                  then (Option.bind (L.call 58 [.pointer x1, .int .i64 0] M) fun r_9 =>
                    (Option.bind (tupOf? 2 r_9.1) fun cs_10 =>
                    (Option.bind (cs_10[0]?) fun u_11 =>
                    (Option.bind (intOf? .u64 (some u_11)) fun x_12 =>
                    (Option.bind (cs_10[1]?) fun u_13 =>
                    (Option.bind (boolOf? (some u_13)) fun q_14 =>
                    (match x0 with
                    | some a_15 => (Option.bind (AMem.wr r_9.2 a_15.block (a_15.off + 5) [.int .u64 x_12]) fun M_16 =>
                      (match x0 with
                      | some a_17 => (Option.bind (intOf? .u64 (AMem.ld M_16 a_17.block (a_17.off + 5))) fun x_18 =>
                        (match x0 with
                        | some a_19 => (Option.bind (intOf? .i64 (AMem.ld M_16 a_19.block a_19.off)) fun x_20 =>
                          (match x0 with
                          | some a_21 => (Option.bind (AMem.wr M_16 a_21.block (a_21.off + 3) [.bool (decide (x_18 < (IntKind.wrap .u64 x_20)))]) fun M_22 =>
                            (match x0 with
                            | some a_23 => (Option.bind (boolOf? (AMem.ld M_22 a_23.block (a_23.off + 3))) fun q_24 =>
                              (match x0 with
                              | some a_25 => (Option.bind (AMem.wr M_22 a_25.block (a_25.off + 4) [.bool (!q_24)]) fun M_26 =>
                                P18_22 L M_26)
                              | none => none))
                            | none => none))
                          | none => none))
                        | none => none))
                      | none => none))
                    | none => none)))))))
                  else (match x0 with
                    | some a_27 => (Option.bind (AMem.wr M a_27.block (a_27.off + 3) [.bool false]) fun M_28 =>
                      (match x0 with
                      | some a_29 => (Option.bind (intOf? .i64 (AMem.ld M_28 a_29.block a_29.off)) fun x_30 =>
                        (match x0 with
                        | some a_31 => (Option.bind (intOf? .u64 (AMem.ld M_28 a_31.block (a_31.off + 5))) fun x_32 =>
                          (match x0 with
                          | some a_33 => (Option.bind (intOf? .i64 (AMem.ld M_28 a_33.block (a_33.off + 1))) fun x_34 =>
                            (match x0 with
                            | some a_35 => (Option.bind (intOf? .u64 (AMem.ld M_28 a_35.block (a_35.off + 5))) fun x_36 =>
                              (Option.bind (L.call 13 [.pointer x1, .int .i64 0, .int .u64 x_36, .int .u64 (IntKind.wrap .u64 (if (IntKind.wrap .i64 ((IntKind.wrap .i64 x_32) + x_34)) < x_30 then (IntKind.wrap .i64 ((IntKind.wrap .i64 x_32) + x_34)) else x_30))] M_28) fun r_37 =>
                              (Option.bind (boolOf? (some r_37.1)) fun q_38 =>
                              (if q_38 = true
                              then (match x0 with
                                | some a_39 => (Option.bind (intOf? .u64 (AMem.ld r_37.2 a_39.block (a_39.off + 5))) fun x_40 =>
                                  (match x0 with
                                  | some a_41 => (Option.bind (AMem.wr r_37.2 a_41.block (a_41.off + 6) [.int .i64 (IntKind.wrap .i64 x_40)]) fun M_42 =>
                                    (match x0 with
                                    | some a_43 => (Option.bind (AMem.wr M_42 a_43.block (a_43.off + 7) [.int .i64 (if (IntKind.wrap .i64 ((IntKind.wrap .i64 x_32) + x_34)) < x_30 then (IntKind.wrap .i64 ((IntKind.wrap .i64 x_32) + x_34)) else x_30)]) fun M_44 =>
                                      (match x0 with
                                      | some a_45 => (Option.bind (AMem.wr M_44 a_45.block (a_45.off + 4) [.bool true]) fun M_46 =>
                                        P18_40 L M_46)
                                      | none => none))
                                    | none => none))
                                  | none => none))
                                | none => none)
                              else (match x0 with
                                | some a_47 => (Option.bind (intOf? .i64 (AMem.ld r_37.2 a_47.block (a_47.off + 2))) fun x_48 =>
                                  (match x0 with
                                  | some a_49 => (Option.bind (AMem.wr r_37.2 a_49.block (a_49.off + 2) [.int .i64 (IntKind.wrap .i64 (x_48 + 1))]) fun M_50 =>
                                    P18_40 L M_50)
                                  | none => none))
                                | none => none)))))
                            | none => none))
                          | none => none))
                        | none => none))
                      | none => none))
                    | none => none)))
                | none => none)))
            | none => none)))
        | none => none)))
    | none => none) := QE18 L P18_22 (Classical.choose_spec XP18_22) P18_40 (Classical.choose_spec XP18_40) x0 x1 M
/-! #### skylightref35.Wins -/
noncomputable def k24_8 (L : Rec) : KT := blockK 0 (seqK (code L (.clear [0, 1, 2, 3, 4, 6, 7, 8, 9, 10, 11, 12, 13, 14, 15, 16, 17, 18, 19, 20, 21, 22, 23, 24, 25, 26, 27] c24_19) (retK [.tmp 4])) (retK [.tmp 4]))
def s24_8 (x0 : Int) (x1 : Int) (x5 : Int) (x6 : Int) : List Value := [.int .i64 x0, .int .i64 x1, junk, junk, junk, .int .i64 x5, .int .i64 x6, junk, junk, junk, junk, junk, junk, junk, junk, junk, junk, junk, junk, junk, junk, junk, junk, junk, junk, junk, junk, junk]
theorem XP24_8 : ∃ P : Rec → Int → Int → Int → Int → Res, P = fun (L : Rec) (x0 : Int) (x1 : Int) (x5 : Int) (x6 : Int) => L.loop b24_8 (k24_8 L) (s24_8 x0 x1 x5 x6) ([] : AMem) := ⟨_, rfl⟩
noncomputable def P24_8 : Rec → Int → Int → Int → Int → Res := Classical.choose XP24_8
noncomputable def k24_18 (L : Rec) : KT := postK [2, 3, 4, 7, 8, 9, 10, 11, 12, 13, 14, 15, 16, 17, 18, 19, 20, 21, 22, 23, 24, 25, 26, 27] (loopK L b24_8 (blockK 0 (seqK (code L (.clear [0, 1, 2, 3, 4, 6, 7, 8, 9, 10, 11, 12, 13, 14, 15, 16, 17, 18, 19, 20, 21, 22, 23, 24, 25, 26, 27] c24_19) (retK [.tmp 4])) (retK [.tmp 4]))))
def s24_18 (x0 : Int) (x1 : Int) (x5 : Int) (x6 : Int) : List Value := [.int .i64 x0, .int .i64 x1, junk, junk, junk, .int .i64 x5, .int .i64 x6, junk, junk, junk, junk, junk, junk, junk, junk, junk, junk, junk, junk, junk, junk, junk, junk, junk, junk, junk, junk, junk]
theorem XP24_18 : ∃ P : Rec → Int → Int → Int → Int → Res, P = fun (L : Rec) (x0 : Int) (x1 : Int) (x5 : Int) (x6 : Int) => code L c24_18 (k24_18 L) (s24_18 x0 x1 x5 x6) ([] : AMem) := ⟨_, rfl⟩
noncomputable def P24_18 : Rec → Int → Int → Int → Int → Res := Classical.choose XP24_18
noncomputable def k24_19 (L : Rec) : KT := retK [.tmp 4]
def s24_19 (x5 : Int) : List Value := [junk, junk, junk, junk, junk, .int .i64 x5, junk, junk, junk, junk, junk, junk, junk, junk, junk, junk, junk, junk, junk, junk, junk, junk, junk, junk, junk, junk, junk, junk]
theorem XP24_19 : ∃ P : Rec → Int → Res, P = fun (L : Rec) (x5 : Int) => code L c24_19 (k24_19 L) (s24_19 x5) ([] : AMem) := ⟨_, rfl⟩
noncomputable def P24_19 : Rec → Int → Res := Classical.choose XP24_19
theorem G24_8 (L : Rec) (b24_8 c24_18 c24_19 : ACode) (x0 : Int) (x1 : Int) (x5 : Int) (x6 : Int) : code L (.post (.seq (.seq (.ops o24_11) (.cond (.tmp 21) (.skip) (.exit 0))) (.seq (.block 1 (.ops o24_17)) (.clear [2, 3, 4, 7, 8, 9, 10, 11, 12, 13, 14, 15, 16, 17, 18, 19, 20, 21, 22, 23, 24, 25, 26, 27] c24_18))) [2, 3, 4, 7, 8, 9, 10, 11, 12, 13, 14, 15, 16, 17, 18, 19, 20, 21, 22, 23, 24, 25, 26, 27]) (loopK L b24_8 (blockK 0 (seqK (code L (.clear [0, 1, 2, 3, 4, 6, 7, 8, 9, 10, 11, 12, 13, 14, 15, 16, 17, 18, 19, 20, 21, 22, 23, 24, 25, 26, 27] c24_19) (retK [.tmp 4])) (retK [.tmp 4])))) [.int .i64 x0, .int .i64 x1, junk, junk, junk, .int .i64 x5, .int .i64 x6, junk, junk, junk, junk, junk, junk, junk, junk, junk, junk, junk, junk, junk, junk, junk, junk, junk, junk, junk, junk, junk] ([] : AMem) =
  (if (decide (x6 < x0)) = true
    then (if (decide (x1 ≥ 1)) = true
      then (if (decide (x1 ≤ 65536)) = true
        then (if (decide (x0 ≤ 1048576)) = true
          then code L c24_18 (postK [2, 3, 4, 7, 8, 9, 10, 11, 12, 13, 14, 15, 16, 17, 18, 19, 20, 21, 22, 23, 24, 25, 26, 27] (loopK L b24_8 (blockK 0 (seqK (code L (.clear [0, 1, 2, 3, 4, 6, 7, 8, 9, 10, 11, 12, 13, 14, 15, 16, 17, 18, 19, 20, 21, 22, 23, 24, 25, 26, 27] c24_19) (retK [.tmp 4])) (retK [.tmp 4]))))) [.int .i64 x0, .int .i64 x1, junk, junk, junk, .int .i64 (IntKind.wrap .i64 (x5 + 1)), .int .i64 x6, junk, junk, junk, junk, junk, junk, junk, junk, junk, junk, junk, junk, junk, junk, junk, junk, junk, junk, junk, junk, junk] ([] : AMem)
          else code L c24_19 (retK [.tmp 4]) [junk, junk, junk, junk, junk, .int .i64 x5, junk, junk, junk, junk, junk, junk, junk, junk, junk, junk, junk, junk, junk, junk, junk, junk, junk, junk, junk, junk, junk, junk] ([] : AMem))
        else code L c24_19 (retK [.tmp 4]) [junk, junk, junk, junk, junk, .int .i64 x5, junk, junk, junk, junk, junk, junk, junk, junk, junk, junk, junk, junk, junk, junk, junk, junk, junk, junk, junk, junk, junk, junk] ([] : AMem))
      else code L c24_19 (retK [.tmp 4]) [junk, junk, junk, junk, junk, .int .i64 x5, junk, junk, junk, junk, junk, junk, junk, junk, junk, junk, junk, junk, junk, junk, junk, junk, junk, junk, junk, junk, junk, junk] ([] : AMem))
    else code L c24_19 (retK [.tmp 4]) [junk, junk, junk, junk, junk, .int .i64 x5, junk, junk, junk, junk, junk, junk, junk, junk, junk, junk, junk, junk, junk, junk, junk, junk, junk, junk, junk, junk, junk, junk] ([] : AMem)) := by kernel_rfl
theorem QP24_8_eq (L : Rec) (hL : ∀ b K t A, L.loop b K t A = code L b (loopK L b K) t A) (P24_8 : Rec → Int → Int → Int → Int → Res) (hP24_8 : P24_8 = fun (L : Rec) (x0 : Int) (x1 : Int) (x5 : Int) (x6 : Int) => L.loop b24_8 (k24_8 L) (s24_8 x0 x1 x5 x6) ([] : AMem)) (P24_18 : Rec → Int → Int → Int → Int → Res) (hP24_18 : P24_18 = fun (L : Rec) (x0 : Int) (x1 : Int) (x5 : Int) (x6 : Int) => code L c24_18 (k24_18 L) (s24_18 x0 x1 x5 x6) ([] : AMem)) (P24_19 : Rec → Int → Res) (hP24_19 : P24_19 = fun (L : Rec) (x5 : Int) => code L c24_19 (k24_19 L) (s24_19 x5) ([] : AMem)) (x0 : Int) (x1 : Int) (x5 : Int) (x6 : Int) : P24_8 L x0 x1 x5 x6 =
  (if (decide (x6 < x0)) = true
    then (if (decide (x1 ≥ 1)) = true
      then (if (decide (x1 ≤ 65536)) = true
        then (if (decide (x0 ≤ 1048576)) = true
          then P24_18 L x0 x1 (IntKind.wrap .i64 (x5 + 1)) x6
          else P24_19 L x5)
        else P24_19 L x5)
      else P24_19 L x5)
    else P24_19 L x5) := by
  subst hP24_8; subst hP24_18; subst hP24_19; exact Eq.trans (b := code L b24_8 (loopK L b24_8 (k24_8 L)) (s24_8 x0 x1 x5 x6) ([] : AMem)) (hL b24_8 (k24_8 L) (s24_8 x0 x1 x5 x6) ([] : AMem)) (Eq.mp (by kernel_rfl) (G24_8 L b24_8 c24_18 c24_19 x0 x1 x5 x6))
theorem P24_8_eq (L : Rec) (hL : ∀ b K t A, L.loop b K t A = code L b (loopK L b K) t A) (x0 : Int) (x1 : Int) (x5 : Int) (x6 : Int) : P24_8 L x0 x1 x5 x6 =
  (if (decide (x6 < x0)) = true
    then (if (decide (x1 ≥ 1)) = true
      then (if (decide (x1 ≤ 65536)) = true
        then (if (decide (x0 ≤ 1048576)) = true
          then P24_18 L x0 x1 (IntKind.wrap .i64 (x5 + 1)) x6
          else P24_19 L x5)
        else P24_19 L x5)
      else P24_19 L x5)
    else P24_19 L x5) := QP24_8_eq L hL P24_8 (Classical.choose_spec XP24_8) P24_18 (Classical.choose_spec XP24_18) P24_19 (Classical.choose_spec XP24_19) x0 x1 x5 x6
theorem G24_18 (L : Rec) (b24_8 c24_19 : ACode) (x0 : Int) (x1 : Int) (x5 : Int) (x6 : Int) : code L (.ops o24_18) (postK [2, 3, 4, 7, 8, 9, 10, 11, 12, 13, 14, 15, 16, 17, 18, 19, 20, 21, 22, 23, 24, 25, 26, 27] (loopK L b24_8 (blockK 0 (seqK (code L (.clear [0, 1, 2, 3, 4, 6, 7, 8, 9, 10, 11, 12, 13, 14, 15, 16, 17, 18, 19, 20, 21, 22, 23, 24, 25, 26, 27] c24_19) (retK [.tmp 4])) (retK [.tmp 4]))))) [.int .i64 x0, .int .i64 x1, junk, junk, junk, .int .i64 x5, .int .i64 x6, junk, junk, junk, junk, junk, junk, junk, junk, junk, junk, junk, junk, junk, junk, junk, junk, junk, junk, junk, junk, junk] ([] : AMem) =
  L.loop b24_8 (blockK 0 (seqK (code L (.clear [0, 1, 2, 3, 4, 6, 7, 8, 9, 10, 11, 12, 13, 14, 15, 16, 17, 18, 19, 20, 21, 22, 23, 24, 25, 26, 27] c24_19) (retK [.tmp 4])) (retK [.tmp 4]))) [.int .i64 x0, .int .i64 x1, junk, junk, junk, .int .i64 x5, .int .i64 (IntKind.wrap .i64 (x6 + x1)), junk, junk, junk, junk, junk, junk, junk, junk, junk, junk, junk, junk, junk, junk, junk, junk, junk, junk, junk, junk, junk] ([] : AMem) := by kernel_rfl
theorem QP24_18_eq (L : Rec) (P24_8 : Rec → Int → Int → Int → Int → Res) (hP24_8 : P24_8 = fun (L : Rec) (x0 : Int) (x1 : Int) (x5 : Int) (x6 : Int) => L.loop b24_8 (k24_8 L) (s24_8 x0 x1 x5 x6) ([] : AMem)) (P24_18 : Rec → Int → Int → Int → Int → Res) (hP24_18 : P24_18 = fun (L : Rec) (x0 : Int) (x1 : Int) (x5 : Int) (x6 : Int) => code L c24_18 (k24_18 L) (s24_18 x0 x1 x5 x6) ([] : AMem)) (x0 : Int) (x1 : Int) (x5 : Int) (x6 : Int) : P24_18 L x0 x1 x5 x6 =
  P24_8 L x0 x1 x5 (IntKind.wrap .i64 (x6 + x1)) := by
  subst hP24_8; subst hP24_18; exact Eq.mp (by kernel_rfl) (G24_18 L b24_8 c24_19 x0 x1 x5 x6)
theorem P24_18_eq (L : Rec) (x0 : Int) (x1 : Int) (x5 : Int) (x6 : Int) : P24_18 L x0 x1 x5 x6 =
  P24_8 L x0 x1 x5 (IntKind.wrap .i64 (x6 + x1)) := QP24_18_eq L P24_8 (Classical.choose_spec XP24_8) P24_18 (Classical.choose_spec XP24_18) x0 x1 x5 x6
theorem G24_19 (L : Rec) (x5 : Int) : code L (.seq (.ops o24_20) (.ret)) (retK [.tmp 4]) [junk, junk, junk, junk, junk, .int .i64 x5, junk, junk, junk, junk, junk, junk, junk, junk, junk, junk, junk, junk, junk, junk, junk, junk, junk, junk, junk, junk, junk, junk] ([] : AMem) =
  some (.int .i64 x5, ([] : AMem)) := by kernel_rfl
theorem QP24_19_eq (L : Rec) (P24_19 : Rec → Int → Res) (hP24_19 : P24_19 = fun (L : Rec) (x5 : Int) => code L c24_19 (k24_19 L) (s24_19 x5) ([] : AMem)) (x5 : Int) : P24_19 L x5 =
  some (.int .i64 x5, ([] : AMem)) := by
  subst hP24_19; exact Eq.mp (by kernel_rfl) (G24_19 L  x5)
theorem P24_19_eq (L : Rec) (x5 : Int) : P24_19 L x5 =
  some (.int .i64 x5, ([] : AMem)) := QP24_19_eq L P24_19 (Classical.choose_spec XP24_19) x5
theorem GE24 (L : Rec) (b24_8 c24_19 : ACode) (x0 : Int) (x1 : Int) : enterF L ⟨28, [.tmp 4], .seq (.ops o24_1) (.seq (.ops o24_3) (.seq (.seq (.ops o24_6) (.block 0 (.clear [2, 3, 4, 7, 8, 9, 10, 11, 12, 13, 14, 15, 16, 17, 18, 19, 20, 21, 22, 23, 24, 25, 26, 27] (.loop b24_8)))) (.clear [0, 1, 2, 3, 4, 6, 7, 8, 9, 10, 11, 12, 13, 14, 15, 16, 17, 18, 19, 20, 21, 22, 23, 24, 25, 26, 27] c24_19)))⟩ [.int .i64 x0, .int .i64 x1] [] =
  L.loop b24_8 (blockK 0 (seqK (code L (.clear [0, 1, 2, 3, 4, 6, 7, 8, 9, 10, 11, 12, 13, 14, 15, 16, 17, 18, 19, 20, 21, 22, 23, 24, 25, 26, 27] c24_19) (retK [.tmp 4])) (retK [.tmp 4]))) [.int .i64 x0, .int .i64 x1, junk, junk, junk, .int .i64 0, .int .i64 0, junk, junk, junk, junk, junk, junk, junk, junk, junk, junk, junk, junk, junk, junk, junk, junk, junk, junk, junk, junk, junk] ([] : AMem) := by kernel_rfl
theorem QE24 (L : Rec) (P24_8 : Rec → Int → Int → Int → Int → Res) (hP24_8 : P24_8 = fun (L : Rec) (x0 : Int) (x1 : Int) (x5 : Int) (x6 : Int) => L.loop b24_8 (k24_8 L) (s24_8 x0 x1 x5 x6) ([] : AMem)) (x0 : Int) (x1 : Int) : enterF L a24 [.int .i64 x0, .int .i64 x1] [] =
  P24_8 L x0 x1 0 0 := by
  subst hP24_8; exact Eq.mp (by kernel_rfl) (GE24 L b24_8 c24_19 x0 x1)
theorem E24 (L : Rec) (x0 : Int) (x1 : Int) : enterF L a24 [.int .i64 x0, .int .i64 x1] [] =
  P24_8 L x0 x1 0 0 := QE24 L P24_8 (Classical.choose_spec XP24_8) x0 x1
end Go.Proofs.Ytjmeilpffmhojaa
