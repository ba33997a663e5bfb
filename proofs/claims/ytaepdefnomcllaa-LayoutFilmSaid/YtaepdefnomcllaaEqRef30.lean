/- What the pieces of some functions come to. -/
import Derived.Test.YtaepdefnomcllaaCode
set_option linter.unusedVariables false
set_option maxRecDepth 100000
namespace Go.Proofs.Ytaepdefnomcllaa
open Go Go.Ax
/-! #### skylightref30.New -/
theorem GE25 (L : Rec) (x0 : Int) (M : AMem) : enterF L ⟨14, [.cell true [.slice, .int .i64, .int .i64] 2, .tmp 3], .seq (.ops o25_1) (.seq (.seq (.ops o25_4) (.cond (.tmp 9) (.seq (.ops o25_7) (.ret)) (.skip))) (.seq (.ops o25_11) (.ret)))⟩ [.int .i64 x0] M =
  (if (decide (x0 < 0)) = true
    then (Option.bind (AMem.wr (M ++ [AObj.cells [.slice none 0 0, .int .i64 0, .int .i64 0] ⟨false, 0⟩]) (List.length M) 0 [.slice none 0 0, .int .i64 0, .int .i64 0]) fun M_1 =>
      (Option.bind (sliceOf? (AMem.ld M_1 (List.length M) 0)) fun s_2 =>
      (Option.bind (intOf? .i64 (AMem.ld M_1 (List.length M) 1)) fun x_3 =>
      (Option.bind (intOf? .i64 (AMem.ld M_1 (List.length M) 2)) fun x_4 =>
      some (.tuple #[.agg #[.slice s_2.1 s_2.2.1 s_2.2.2, .int .i64 x_3, .int .i64 x_4], .bool false], M_1)))))
    else (if (decide (x0 > 262144)) = true
      then (Option.bind (AMem.wr (M ++ [AObj.cells [.slice none 0 0, .int .i64 0, .int .i64 0] ⟨false, 0⟩]) (List.length M) 0 [.slice none 0 0, .int .i64 0, .int .i64 0]) fun M_5 =>
        (Option.bind (sliceOf? (AMem.ld M_5 (List.length M) 0)) fun s_6 =>
        (Option.bind (intOf? .i64 (AMem.ld M_5 (List.length M) 1)) fun x_7 =>
        (Option.bind (intOf? .i64 (AMem.ld M_5 (List.length M) 2)) fun x_8 =>
        some (.tuple #[.agg #[.slice s_6.1 s_6.2.1 s_6.2.2, .int .i64 x_7, .int .i64 x_8], .bool false], M_5)))))
      else (if 0 ≤ x0 ∧ x0 ≤ x0 ∧ x0 ≤ 140737488355328 ∧ x0 * 8 ≤ 140737488355328
        then (Option.bind (AMem.wr ((M ++ [AObj.cells [.slice none 0 0, .int .i64 0, .int .i64 0] ⟨false, 0⟩]) ++ [AObj.cells (List.replicate (Int.toNat x0) (.int .u64 0)) ⟨false, 0⟩]) (List.length M) 0 [.slice (some ⟨(List.length (M ++ [AObj.cells [.slice none 0 0, .int .i64 0, .int .i64 0] ⟨false, 0⟩])), 0, none⟩) (Int.toNat x0) 1, .int .i64 0, .int .i64 0]) fun M_9 =>
          (Option.bind (sliceOf? (AMem.ld M_9 (List.length M) 0)) fun s_10 =>
          (Option.bind (intOf? .i64 (AMem.ld M_9 (List.length M) 1)) fun x_11 =>
          (Option.bind (intOf? .i64 (AMem.ld M_9 (List.length M) 2)) fun x_12 =>
          some (.tuple #[.agg #[.slice s_10.1 s_10.2.1 s_10.2.2, .int .i64 x_11, .int .i64 x_12], .bool true], M_9)))))
        else none))) := by kernel_rfl
theorem E25 (L : Rec) (x0 : Int) (M : AMem) : enterF L a25 [.int .i64 x0] M =
  (if (decide (x0 < 0)) = true
    then (Option.bind (AMem.wr (M ++ [AObj.cells [.slice none 0 0, .int .i64 0, .int .i64 0] ⟨false, 0⟩]) (List.length M) 0 [.slice none 0 0, .int .i64 0, .int .i64 0]) fun M_1 =>
      (Option.bind (sliceOf? (AMem.ld M_1 (List.length M) 0)) fun s_2 =>
      (Option.bind (intOf? .i64 (AMem.ld M_1 (List.length M) 1)) fun x_3 =>
      (Option.bind (intOf? .i64 (AMem.ld M_1 (List.length M) 2)) fun x_4 =>
      some (.tuple #[.agg #[.slice s_2.1 s_2.2.1 s_2.2.2, .int .i64 x_3, .int .i64 x_4], .bool false], M_1)))))
    else (if (decide (x0 > 262144)) = true
      then (Option.bind (AMem.wr (M ++ [AObj.cells [.slice none 0 0, .int .i64 0, .int .i64 0] ⟨false, 0⟩]) (List.length M) 0 [.slice none 0 0, .int .i64 0, .int .i64 0]) fun M_5 =>
        (Option.bind (sliceOf? (AMem.ld M_5 (List.length M) 0)) fun s_6 =>
        (Option.bind (intOf? .i64 (AMem.ld M_5 (List.length M) 1)) fun x_7 =>
        (Option.bind (intOf? .i64 (AMem.ld M_5 (List.length M) 2)) fun x_8 =>
        some (.tuple #[.agg #[.slice s_6.1 s_6.2.1 s_6.2.2, .int .i64 x_7, .int .i64 x_8], .bool false], M_5)))))
      else (if 0 ≤ x0 ∧ x0 ≤ x0 ∧ x0 ≤ 140737488355328 ∧ x0 * 8 ≤ 140737488355328
        then (Option.bind (AMem.wr ((M ++ [AObj.cells [.slice none 0 0, .int .i64 0, .int .i64 0] ⟨false, 0⟩]) ++ [AObj.cells (List.replicate (Int.toNat x0) (.int .u64 0)) ⟨false, 0⟩]) (List.length M) 0 [.slice (some ⟨(List.length (M ++ [AObj.cells [.slice none 0 0, .int .i64 0, .int .i64 0] ⟨false, 0⟩])), 0, none⟩) (Int.toNat x0) 1, .int .i64 0, .int .i64 0]) fun M_9 =>
          (Option.bind (sliceOf? (AMem.ld M_9 (List.length M) 0)) fun s_10 =>
          (Option.bind (intOf? .i64 (AMem.ld M_9 (List.length M) 1)) fun x_11 =>
          (Option.bind (intOf? .i64 (AMem.ld M_9 (List.length M) 2)) fun x_12 =>
          some (.tuple #[.agg #[.slice s_10.1 s_10.2.1 s_10.2.2, .int .i64 x_11, .int .i64 x_12], .bool true], M_9)))))
        else none))) := Eq.mp (by kernel_rfl) (GE25 L  x0 M)
/-! #### skylightref30.Memory.Load -/
theorem GE26 (L : Rec) (x0 : Option Addr) (x1 : Int) (M : AMem) : enterF L ⟨31, [.tmp 4, .tmp 5], .seq (.ops o26_1) (.seq (.ops o26_3) (.seq (.seq (.ops o26_6) (.cond (.tmp 23) (.seq (.ops o26_9) (.ret)) (.skip))) (.seq (.ops o26_13) (.ret))))⟩ [.pointer x0, .int .i64 x1] M =
  (match x0 with
    | some a_1 => (Option.bind (intOf? .i64 (AMem.ld M a_1.block (a_1.off + 1))) fun x_2 =>
      (match x0 with
      | some a_3 => (Option.bind (AMem.wr M a_3.block (a_3.off + 1) [.int .i64 (IntKind.wrap .i64 (x_2 + 1))]) fun M_4 =>
        (if (decide (x1 < 0)) = true
        then some (.tuple #[.int .u64 0, .bool false], M_4)
        else (match x0 with
          | some a_5 => (Option.bind (sliceOf? (AMem.ld M_4 a_5.block a_5.off)) fun s_6 =>
            (if (decide (x1 ≥ (Int.ofNat s_6.2.1))) = true
            then some (.tuple #[.int .u64 0, .bool false], M_4)
            else (match x0 with
              | some a_7 => (Option.bind (sliceOf? (AMem.ld M_4 a_7.block a_7.off)) fun s_8 =>
                (match s_8.1 with
                | some a_9 => (if 0 ≤ x1 ∧ x1 < (Int.ofNat s_8.2.1)
                  then (Option.bind (intOf? .u64 (AMem.ld M_4 a_9.block (a_9.off + ((Int.toNat x1) * 1)))) fun x_10 =>
                    some (.tuple #[.int .u64 x_10, .bool true], M_4))
                  else none)
                | none => none))
              | none => none)))
          | none => none)))
      | none => none))
    | none => none) := by kernel_rfl
theorem E26 (L : Rec) (x0 : Option Addr) (x1 : Int) (M : AMem) : enterF L a26 [.pointer x0, .int .i64 x1] M =
  (match x0 with
    | some a_1 => (Option.bind (intOf? .i64 (AMem.ld M a_1.block (a_1.off + 1))) fun x_2 =>
      (match x0 with
      | some a_3 => (Option.bind (AMem.wr M a_3.block (a_3.off + 1) [.int .i64 (IntKind.wrap .i64 (x_2 + 1))]) fun M_4 =>
        (if (decide (x1 < 0)) = true
        then some (.tuple #[.int .u64 0, .bool false], M_4)
        else (match x0 with
          | some a_5 => (Option.bind (sliceOf? (AMem.ld M_4 a_5.block a_5.off)) fun s_6 =>
            (if (decide (x1 ≥ (Int.ofNat s_6.2.1))) = true
            then some (.tuple #[.int .u64 0, .bool false], M_4)
            else (match x0 with
              | some a_7 => (Option.bind (sliceOf? (AMem.ld M_4 a_7.block a_7.off)) fun s_8 =>
                (match s_8.1 with
                | some a_9 => (if 0 ≤ x1 ∧ x1 < (Int.ofNat s_8.2.1)
                  then (Option.bind (intOf? .u64 (AMem.ld M_4 a_9.block (a_9.off + ((Int.toNat x1) * 1)))) fun x_10 =>
                    some (.tuple #[.int .u64 x_10, .bool true], M_4))
                  else none)
                | none => none))
              | none => none)))
          | none => none)))
      | none => none))
    | none => none) := Eq.mp (by kernel_rfl) (GE26 L  x0 x1 M)
/-! #### skylightref30.Memory.Cas -/
theorem GE29 (L : Rec) (x0 : Option Addr) (x1 : Int) (x2 : Int) (x3 : Int) (M : AMem) : enterF L ⟨52, [.tmp 8], .seq (.ops o29_1) (.seq (.ops o29_3) (.seq (.seq (.ops o29_6) (.cond (.tmp 37) (.seq (.ops o29_9) (.ret)) (.skip))) (.seq (.ops o29_13) (.seq (.ops o29_15) (.seq (.ops o29_17) (.ret))))))⟩ [.pointer x0, .int .i64 x1, .int .u64 x2, .int .u64 x3] M =
  (match x0 with
    | some a_1 => (Option.bind (intOf? .i64 (AMem.ld M a_1.block (a_1.off + 1))) fun x_2 =>
      (match x0 with
      | some a_3 => (Option.bind (AMem.wr M a_3.block (a_3.off + 1) [.int .i64 (IntKind.wrap .i64 (x_2 + 1))]) fun M_4 =>
        (if (decide (x1 < 0)) = true
        then some (.bool false, M_4)
        else (match x0 with
          | some a_5 => (Option.bind (sliceOf? (AMem.ld M_4 a_5.block a_5.off)) fun s_6 =>
            (if (decide (x1 ≥ (Int.ofNat s_6.2.1))) = true
            then some (.bool false, M_4)
            else (match x0 with
              | some a_7 => (Option.bind (sliceOf? (AMem.ld M_4 a_7.block a_7.off)) fun s_8 =>
                (match s_8.1 with
                | some a_9 => (if 0 ≤ x1 ∧ x1 < (Int.ofNat s_8.2.1)
                  then (Option.bind (intOf? .u64 (AMem.ld M_4 a_9.block (a_9.off + ((Int.toNat x1) * 1)))) fun x_10 =>
                    (if (x_10 != x2) = true
                    then some (.bool false, M_4)
                    else (match x0 with
                      | some a_11 => (Option.bind (sliceOf? (AMem.ld M_4 a_11.block a_11.off)) fun s_12 =>
                        (match s_12.1 with
                        | some a_13 => (if 0 ≤ x1 ∧ x1 < (Int.ofNat s_12.2.1)
                          then (Option.bind (AMem.wr M_4 a_13.block (a_13.off + ((Int.toNat x1) * 1)) [.int .u64 x3]) fun M_14 =>
                            (match x0 with
                            | some a_15 => (Option.bind (intOf? .i64 (AMem.ld M_14 a_15.block (a_15.off + 2))) fun x_16 =>
                              (match x0 with
                              | some a_17 => (Option.bind (AMem.wr M_14 a_17.block (a_17.off + 2) [.int .i64 (IntKind.wrap .i64 (x_16 + 1))]) fun M_18 =>
                                some (.bool true, M_18))
                              | none => none))
                            | none => none))
                          else none)
                        | none => none))
                      | none => none)))
                  else none)
                | none => none))
              | none => none)))
          | none => none)))
      | none => none))
    | none => none) := by kernel_rfl
theorem E29 (L : Rec) (x0 : Option Addr) (x1 : Int) (x2 : Int) (x3 : Int) (M : AMem) : enterF L a29 [.pointer x0, .int .i64 x1, .int .u64 x2, .int .u64 x3] M =
  (match x0 with
    | some a_1 => (Option.bind (intOf? .i64 (AMem.ld M a_1.block (a_1.off + 1))) fun x_2 =>
      (match x0 with
      | some a_3 => (Option.bind (AMem.wr M a_3.block (a_3.off + 1) [.int .i64 (IntKind.wrap .i64 (x_2 + 1))]) fun M_4 =>
        (if (decide (x1 < 0)) = true
        then some (.bool false, M_4)
        else (match x0 with
          | some a_5 => (Option.bind (sliceOf? (AMem.ld M_4 a_5.block a_5.off)) fun s_6 =>
            (if (decide (x1 ≥ (Int.ofNat s_6.2.1))) = true
            then some (.bool false, M_4)
            else (match x0 with
              | some a_7 => (Option.bind (sliceOf? (AMem.ld M_4 a_7.block a_7.off)) fun s_8 =>
                (match s_8.1 with
                | some a_9 => (if 0 ≤ x1 ∧ x1 < (Int.ofNat s_8.2.1)
                  then (Option.bind (intOf? .u64 (AMem.ld M_4 a_9.block (a_9.off + ((Int.toNat x1) * 1)))) fun x_10 =>
                    (if (x_10 != x2) = true
                    then some (.bool false, M_4)
                    else (match x0 with
                      | some a_11 => (Option.bind (sliceOf? (AMem.ld M_4 a_11.block a_11.off)) fun s_12 =>
                        (match s_12.1 with
                        | some a_13 => (if 0 ≤ x1 ∧ x1 < (Int.ofNat s_12.2.1)
                          then (Option.bind (AMem.wr M_4 a_13.block (a_13.off + ((Int.toNat x1) * 1)) [.int .u64 x3]) fun M_14 =>
                            (match x0 with
                            | some a_15 => (Option.bind (intOf? .i64 (AMem.ld M_14 a_15.block (a_15.off + 2))) fun x_16 =>
                              (match x0 with
                              | some a_17 => (Option.bind (AMem.wr M_14 a_17.block (a_17.off + 2) [.int .i64 (IntKind.wrap .i64 (x_16 + 1))]) fun M_18 =>
                                some (.bool true, M_18))
                              | none => none))
                            | none => none))
                          else none)
                        | none => none))
                      | none => none)))
                  else none)
                | none => none))
              | none => none)))
          | none => none)))
      | none => none))
    | none => none) := Eq.mp (by kernel_rfl) (GE29 L  x0 x1 x2 x3 M)
/-! #### skylightref30.Memory.Cells -/
noncomputable def k35_8 (L : Rec) : KT := blockK 0 (seqK (code L (.clear [0, 1, 2, 3, 4, 5, 6, 8, 9, 10, 11, 12, 13, 14, 15, 16, 17, 18, 19, 20, 21, 22, 23, 24, 25, 26, 27, 28, 29, 30, 31, 32, 33, 34, 35, 36, 37, 38, 39, 40, 41, 42, 43, 44, 45, 46] c35_23) (retK [.tmp 6])) (retK [.tmp 6]))
def s35_8 (x0 : Option Addr) (x1 : Int) (x2 : Int) (x7 : Option Addr) (x7n : Nat) (x7c : Nat) (x8 : Int) (M : AMem) : List Value := [.pointer x0, .int .i64 x1, .int .i64 x2, junk, junk, junk, junk, .slice x7 x7n x7c, .int .i64 x8, junk, junk, junk, junk, junk, junk, junk, junk, junk, junk, junk, junk, junk, junk, junk, junk, junk, junk, junk, junk, junk, junk, junk, junk, junk, junk, junk, junk, junk, junk, junk, junk, junk, junk, junk, junk, junk, junk]
theorem XP35_8 : ∃ P : Rec → (Option Addr) → Int → Int → (Option Addr) → Nat → Nat → Int → AMem → Res, P = fun (L : Rec) (x0 : Option Addr) (x1 : Int) (x2 : Int) (x7 : Option Addr) (x7n : Nat) (x7c : Nat) (x8 : Int) (M : AMem) => L.loop b35_8 (k35_8 L) (s35_8 x0 x1 x2 x7 x7n x7c x8 M) M := ⟨_, rfl⟩
noncomputable def P35_8 : Rec → (Option Addr) → Int → Int → (Option Addr) → Nat → Nat → Int → AMem → Res := Classical.choose XP35_8
noncomputable def k35_22 (L : Rec) : KT := postK [3, 4, 5, 6, 9, 10, 11, 12, 13, 14, 15, 16, 17, 18, 19, 20, 21, 22, 23, 24, 25, 26, 27, 28, 29, 30, 31, 32, 33, 34, 35, 36, 37, 38, 39, 40, 41, 42, 43, 44, 45, 46] (loopK L b35_8 (blockK 0 (seqK (code L (.clear [0, 1, 2, 3, 4, 5, 6, 8, 9, 10, 11, 12, 13, 14, 15, 16, 17, 18, 19, 20, 21, 22, 23, 24, 25, 26, 27, 28, 29, 30, 31, 32, 33, 34, 35, 36, 37, 38, 39, 40, 41, 42, 43, 44, 45, 46] c35_23) (retK [.tmp 6])) (retK [.tmp 6]))))
def s35_22 (x0 : Option Addr) (x1 : Int) (x2 : Int) (x7 : Option Addr) (x7n : Nat) (x7c : Nat) (x8 : Int) (M : AMem) : List Value := [.pointer x0, .int .i64 x1, .int .i64 x2, junk, junk, junk, junk, .slice x7 x7n x7c, .int .i64 x8, junk, junk, junk, junk, junk, junk, junk, junk, junk, junk, junk, junk, junk, junk, junk, junk, junk, junk, junk, junk, junk, junk, junk, junk, junk, junk, junk, junk, junk, junk, junk, junk, junk, junk, junk, junk, junk, junk]
theorem XP35_22 : ∃ P : Rec → (Option Addr) → Int → Int → (Option Addr) → Nat → Nat → Int → AMem → Res, P = fun (L : Rec) (x0 : Option Addr) (x1 : Int) (x2 : Int) (x7 : Option Addr) (x7n : Nat) (x7c : Nat) (x8 : Int) (M : AMem) => code L c35_22 (k35_22 L) (s35_22 x0 x1 x2 x7 x7n x7c x8 M) M := ⟨_, rfl⟩
noncomputable def P35_22 : Rec → (Option Addr) → Int → Int → (Option Addr) → Nat → Nat → Int → AMem → Res := Classical.choose XP35_22
noncomputable def k35_23 (L : Rec) : KT := retK [.tmp 6]
def s35_23 (x7 : Option Addr) (x7n : Nat) (x7c : Nat) (M : AMem) : List Value := [junk, junk, junk, junk, junk, junk, junk, .slice x7 x7n x7c, junk, junk, junk, junk, junk, junk, junk, junk, junk, junk, junk, junk, junk, junk, junk, junk, junk, junk, junk, junk, junk, junk, junk, junk, junk, junk, junk, junk, junk, junk, junk, junk, junk, junk, junk, junk, junk, junk, junk]
theorem XP35_23 : ∃ P : Rec → (Option Addr) → Nat → Nat → AMem → Res, P = fun (L : Rec) (x7 : Option Addr) (x7n : Nat) (x7c : Nat) (M : AMem) => code L c35_23 (k35_23 L) (s35_23 x7 x7n x7c M) M := ⟨_, rfl⟩
noncomputable def P35_23 : Rec → (Option Addr) → Nat → Nat → AMem → Res := Classical.choose XP35_23
theorem G35_8 (L : Rec) (b35_8 c35_22 c35_23 : ACode) (x0 : Option Addr) (x1 : Int) (x2 : Int) (x7 : Option Addr) (x7n : Nat) (x7c : Nat) (x8 : Int) (M : AMem) : code L (.post (.seq (.seq (.ops o35_11) (.cond (.tmp 15) (.skip) (.exit 0))) (.seq (.block 1 (.seq (.ops o35_18) (.cond (.tmp 35) (.ops o35_20) (.skip)))) (.clear [3, 4, 5, 6, 9, 10, 11, 12, 13, 14, 15, 16, 17, 18, 19, 20, 21, 22, 23, 24, 25, 26, 27, 28, 29, 30, 31, 32, 33, 34, 35, 36, 37, 38, 39, 40, 41, 42, 43, 44, 45, 46] c35_22))) [3, 4, 5, 6, 9, 10, 11, 12, 13, 14, 15, 16, 17, 18, 19, 20, 21, 22, 23, 24, 25, 26, 27, 28, 29, 30, 31, 32, 33, 34, 35, 36, 37, 38, 39, 40, 41, 42, 43, 44, 45, 46]) (loopK L b35_8 (blockK 0 (seqK (code L (.clear [0, 1, 2, 3, 4, 5, 6, 8, 9, 10, 11, 12, 13, 14, 15, 16, 17, 18, 19, 20, 21, 22, 23, 24, 25, 26, 27, 28, 29, 30, 31, 32, 33, 34, 35, 36, 37, 38, 39, 40, 41, 42, 43, 44, 45, 46] c35_23) (retK [.tmp 6])) (retK [.tmp 6])))) [.pointer x0, .int .i64 x1, .int .i64 x2, junk, junk, junk, junk, .slice x7 x7n x7c, .int .i64 x8, junk, junk, junk, junk, junk, junk, junk, junk, junk, junk, junk, junk, junk, junk, junk, junk, junk, junk, junk, junk, junk, junk, junk, junk, junk, junk, junk, junk, junk, junk, junk, junk, junk, junk, junk, junk, junk, junk] M =
  (match x0 with
    | some a_1 => (Option.bind (sliceOf? (AMem.ld M a_1.block a_1.off)) fun s_2 =>
      (if (decide (x8 < (Int.ofNat s_2.2.1))) = true
      then (if (decide (x1 ≥ 0)) = true
        then (if (decide (x2 ≥ 0)) = true
          then (if (decide (x8 ≥ x1)) = true
            then (if (decide ((IntKind.wrap .i64 (x8 - x1)) < x2)) = true
              then (match x0 with
                | some a_3 => (Option.bind (sliceOf? (AMem.ld M a_3.block a_3.off)) fun s_4 =>
                  (match s_4.1 with
                  | some a_5 => (if 0 ≤ x8 ∧ x8 < (Int.ofNat s_4.2.1)
                    then (Option.bind (intOf? .u64 (AMem.ld M a_5.block (a_5.off + ((Int.toNat x8) * 1)))) fun x_6 =>
                      (Option.bind (rowOf (M ++ [AObj.cells [.int .u64 x_6] ⟨false, 0⟩]) 1 (.slice (some ⟨(List.length M), 0, none⟩) 1 1)) fun row_7 =>
                      (appendK 1 8 x7 x7n x7c 1 row_7 (M ++ [AObj.cells [.int .u64 x_6] ⟨false, 0⟩]) fun p_8 n_9 c_10 M_11 =>
                      code L c35_22 (postK [3, 4, 5, 6, 9, 10, 11, 12, 13, 14, 15, 16, 17, 18, 19, 20, 21, 22, 23, 24, 25, 26, 27, 28, 29, 30, 31, 32, 33, 34, 35, 36, 37, 38, 39, 40, 41, 42, 43, 44, 45, 46] (loopK L b35_8 (blockK 0 (seqK (code L (.clear [0, 1, 2, 3, 4, 5, 6, 8, 9, 10, 11, 12, 13, 14, 15, 16, 17, 18, 19, 20, 21, 22, 23, 24, 25, 26, 27, 28, 29, 30, 31, 32, 33, 34, 35, 36, 37, 38, 39, 40, 41, 42, 43, 44, 45, 46] c35_23) (retK [.tmp 6])) (retK [.tmp 6]))))) [.pointer x0, .int .i64 x1, .int .i64 x2, junk, junk, junk, junk, .slice p_8 n_9 c_10, .int .i64 x8, junk, junk, junk, junk, junk, junk, junk, junk, junk, junk, junk, junk, junk, junk, junk, junk, junk, junk, junk, junk, junk, junk, junk, junk, junk, junk, junk, junk, junk, junk, junk, junk, junk, junk, junk, junk, junk, junk] M_11)))
                    else none)
                  | none => none))
                | none => none)
              else code L c35_22 (postK [3, 4, 5, 6, 9, 10, 11, 12, 13, 14, 15, 16, 17, 18, 19, 20, 21, 22, 23, 24, 25, 26, 27, 28, 29, 30, 31, 32, 33, 34, 35, 36, 37, 38, 39, 40, 41, 42, 43, 44, 45, 46] (loopK L b35_8 (blockK 0 (seqK (code L (.clear [0, 1, 2, 3, 4, 5, 6, 8, 9, 10, 11, 12, 13, 14, 15, 16, 17, 18, 19, 20, 21, 22, 23, 24, 25, 26, 27, 28, 29, 30, 31, 32, 33, 34, 35, 36, 37, 38, 39, 40, 41, 42, 43, 44, 45, 46] c35_23) (retK [.tmp 6])) (retK [.tmp 6]))))) [.pointer x0, .int .i64 x1, .int .i64 x2, junk, junk, junk, junk, .slice x7 x7n x7c, .int .i64 x8, junk, junk, junk, junk, junk, junk, junk, junk, junk, junk, junk, junk, junk, junk, junk, junk, junk, junk, junk, junk, junk, junk, junk, junk, junk, junk, junk, junk, junk, junk, junk, junk, junk, junk, junk, junk, junk, junk] M)
            else code L c35_22 (postK [3, 4, 5, 6, 9, 10, 11, 12, 13, 14, 15, 16, 17, 18, 19, 20, 21, 22, 23, 24, 25, 26, 27, 28, 29, 30, 31, 32, 33, 34, 35, 36, 37, 38, 39, 40, 41, 42, 43, 44, 45, 46] (loopK L b35_8 (blockK 0 (seqK (code L (.clear [0, 1, 2, 3, 4, 5, 6, 8, 9, 10, 11, 12, 13, 14, 15, 16, 17, 18, 19, 20, 21, 22, 23, 24, 25, 26, 27, 28, 29, 30, 31, 32, 33, 34, 35, 36, 37, 38, 39, 40, 41, 42, 43, 44, 45, 46] c35_23) (retK [.tmp 6])) (retK [.tmp 6]))))) [.pointer x0, .int .i64 x1, .int .i64 x2, junk, junk, junk, junk, .slice x7 x7n x7c, .int .i64 x8, junk, junk, junk, junk, junk, junk, junk, junk, junk, junk, junk, junk, junk, junk, junk, junk, junk, junk, junk, junk, junk, junk, junk, junk, junk, junk, junk, junk, junk, junk, junk, junk, junk, junk, junk, junk, junk, junk] M)
          else code L c35_22 (postK [3, 4, 5, 6, 9, 10, 11, 12, 13, 14, 15, 16, 17, 18, 19, 20, 21, 22, 23, 24, 25, 26, 27, 28, 29, 30, 31, 32, 33, 34, 35, 36, 37, 38, 39, 40, 41, 42, 43, 44, 45, 46] (loopK L b35_8 (blockK 0 (seqK (code L (.clear [0, 1, 2, 3, 4, 5, 6, 8, 9, 10, 11, 12, 13, 14, 15, 16, 17, 18, 19, 20, 21, 22, 23, 24, 25, 26, 27, 28, 29, 30, 31, 32, 33, 34, 35, 36, 37, 38, 39, 40, 41, 42, 43, 44, 45, 46] c35_23) (retK [.tmp 6])) (retK [.tmp 6]))))) [.pointer x0, .int .i64 x1, .int .i64 x2, junk, junk, junk, junk, .slice x7 x7n x7c, .int .i64 x8, junk, junk, junk, junk, junk, junk, junk, junk, junk, junk, junk, junk, junk, junk, junk, junk, junk, junk, junk, junk, junk, junk, junk, junk, junk, junk, junk, junk, junk, junk, junk, junk, junk, junk, junk, junk, junk, junk] M)
        else code L c35_22 (postK [3, 4, 5, 6, 9, 10, 11, 12, 13, 14, 15, 16, 17, 18, 19, 20, 21, 22, 23, 24, 25, 26, 27, 28, 29, 30, 31, 32, 33, 34, 35, 36, 37, 38, 39, 40, 41, 42, 43, 44, 45, 46] (loopK L b35_8 (blockK 0 (seqK (code L (.clear [0, 1, 2, 3, 4, 5, 6, 8, 9, 10, 11, 12, 13, 14, 15, 16, 17, 18, 19, 20, 21, 22, 23, 24, 25, 26, 27, 28, 29, 30, 31, 32, 33, 34, 35, 36, 37, 38, 39, 40, 41, 42, 43, 44, 45, 46] c35_23) (retK [.tmp 6])) (retK [.tmp 6]))))) [.pointer x0, .int .i64 x1, .int .i64 x2, junk, junk, junk, junk, .slice x7 x7n x7c, .int .i64 x8, junk, junk, junk, junk, junk, junk, junk, junk, junk, junk, junk, junk, junk, junk, junk, junk, junk, junk, junk, junk, junk, junk, junk, junk, junk, junk, junk, junk, junk, junk, junk, junk, junk, junk, junk, junk, junk, junk] M)
      else code L c35_23 (retK [.tmp 6]) [junk, junk, junk, junk, junk, junk, junk, .slice x7 x7n x7c, junk, junk, junk, junk, junk, junk, junk, junk, junk, junk, junk, junk, junk, junk, junk, junk, junk, junk, junk, junk, junk, junk, junk, junk, junk, junk, junk, junk, junk, junk, junk, junk, junk, junk, junk, junk, junk, junk, junk] M))
    | none => none) := by kernel_rfl
theorem QP35_8_eq (L : Rec) (hL : ∀ b K t A, L.loop b K t A = code L b (loopK L b K) t A) (P35_8 : Rec → (Option Addr) → Int → Int → (Option Addr) → Nat → Nat → Int → AMem → Res) (hP35_8 : P35_8 = fun (L : Rec) (x0 : Option Addr) (x1 : Int) (x2 : Int) (x7 : Option Addr) (x7n : Nat) (x7c : Nat) (x8 : Int) (M : AMem) => L.loop b35_8 (k35_8 L) (s35_8 x0 x1 x2 x7 x7n x7c x8 M) M) (P35_22 : Rec → (Option Addr) → Int → Int → (Option Addr) → Nat → Nat → Int → AMem → Res) (hP35_22 : P35_22 = fun (L : Rec) (x0 : Option Addr) (x1 : Int) (x2 : Int) (x7 : Option Addr) (x7n : Nat) (x7c : Nat) (x8 : Int) (M : AMem) => code L c35_22 (k35_22 L) (s35_22 x0 x1 x2 x7 x7n x7c x8 M) M) (P35_23 : Rec → (Option Addr) → Nat → Nat → AMem → Res) (hP35_23 : P35_23 = fun (L : Rec) (x7 : Option Addr) (x7n : Nat) (x7c : Nat) (M : AMem) => code L c35_23 (k35_23 L) (s35_23 x7 x7n x7c M) M) (x0 : Option Addr) (x1 : Int) (x2 : Int) (x7 : Option Addr) (x7n : Nat) (x7c : Nat) (x8 : Int) (M : AMem) : P35_8 L x0 x1 x2 x7 x7n x7c x8 M =
  (match x0 with
    | some a_1 => (Option.bind (sliceOf? (AMem.ld M a_1.block a_1.off)) fun s_2 =>
      (if (decide (x8 < (Int.ofNat s_2.2.1))) = true
      then (if (decide (x1 ≥ 0)) = true
        then (if (decide (x2 ≥ 0)) = true
          then (if (decide (x8 ≥ x1)) = true
            then (if (decide ((IntKind.wrap .i64 (x8 - x1)) < x2)) = true
              then (match x0 with
                | some a_3 => (Option.bind (sliceOf? (AMem.ld M a_3.block a_3.off)) fun s_4 =>
                  (match s_4.1 with
                  | some a_5 => (if 0 ≤ x8 ∧ x8 < (Int.ofNat s_4.2.1)
                    then (Option.bind (intOf? .u64 (AMem.ld M a_5.block (a_5.off + ((Int.toNat x8) * 1)))) fun x_6 =>
                      (Option.bind (rowOf (M ++ [AObj.cells [.int .u64 x_6] ⟨false, 0⟩]) 1 (.slice (some ⟨(List.length M), 0, none⟩) 1 1)) fun row_7 =>
                      (appendK 1 8 x7 x7n x7c 1 row_7 (M ++ [AObj.cells [.int .u64 x_6] ⟨false, 0⟩]) fun p_8 n_9 c_10 M_11 =>
                      P35_22 L x0 x1 x2 p_8 n_9 c_10 x8 M_11)))
                    else none)
                  | none => none))
                | none => none)
              else P35_22 L x0 x1 x2 x7 x7n x7c x8 M)
            else P35_22 L x0 x1 x2 x7 x7n x7c x8 M)
          else P35_22 L x0 x1 x2 x7 x7n x7c x8 M)
        else P35_22 L x0 x1 x2 x7 x7n x7c x8 M)
      else P35_23 L x7 x7n x7c M))
    | none => none) := by
  subst hP35_8; subst hP35_22; subst hP35_23; exact Eq.trans (b := code L b35_8 (loopK L b35_8 (k35_8 L)) (s35_8 x0 x1 x2 x7 x7n x7c x8 M) M) (hL b35_8 (k35_8 L) (s35_8 x0 x1 x2 x7 x7n x7c x8 M) M) (Eq.mp (by kernel_rfl) (G35_8 L b35_8 c35_22 c35_23 x0 x1 x2 x7 x7n x7c x8 M))
theorem P35_8_eq (L : Rec) (hL : ∀ b K t A, L.loop b K t A = code L b (loopK L b K) t A) (x0 : Option Addr) (x1 : Int) (x2 : Int) (x7 : Option Addr) (x7n : Nat) (x7c : Nat) (x8 : Int) (M : AMem) : P35_8 L x0 x1 x2 x7 x7n x7c x8 M =
  (match x0 with
    | some a_1 => (Option.bind (sliceOf? (AMem.ld M a_1.block a_1.off)) fun s_2 =>
      (if (decide (x8 < (Int.ofNat s_2.2.1))) = true
      then (if (decide (x1 ≥ 0)) = true
        then (if (decide (x2 ≥ 0)) = true
          then (if (decide (x8 ≥ x1)) = true
            then (if (decide ((IntKind.wrap .i64 (x8 - x1)) < x2)) = true
              then (match x0 with
                | some a_3 => (Option.bind (sliceOf? (AMem.ld M a_3.block a_3.off)) fun s_4 =>
                  (match s_4.1 with
                  | some a_5 => (if 0 ≤ x8 ∧ x8 < (Int.ofNat s_4.2.1)
                    then (Option.bind (intOf? .u64 (AMem.ld M a_5.block (a_5.off + ((Int.toNat x8) * 1)))) fun x_6 =>
                      (Option.bind (rowOf (M ++ [AObj.cells [.int .u64 x_6] ⟨false, 0⟩]) 1 (.slice (some ⟨(List.length M), 0, none⟩) 1 1)) fun row_7 =>
                      (appendK 1 8 x7 x7n x7c 1 row_7 (M ++ [AObj.cells [.int .u64 x_6] ⟨false, 0⟩]) fun p_8 n_9 c_10 M_11 =>
                      P35_22 L x0 x1 x2 p_8 n_9 c_10 x8 M_11)))
                    else none)
                  | none => none))
                | none => none)
              else P35_22 L x0 x1 x2 x7 x7n x7c x8 M)
            else P35_22 L x0 x1 x2 x7 x7n x7c x8 M)
          else P35_22 L x0 x1 x2 x7 x7n x7c x8 M)
        else P35_22 L x0 x1 x2 x7 x7n x7c x8 M)
      else P35_23 L x7 x7n x7c M))
    | none => none) := QP35_8_eq L hL P35_8 (Classical.choose_spec XP35_8) P35_22 (Classical.choose_spec XP35_22) P35_23 (Classical.choose_spec XP35_23) x0 x1 x2 x7 x7n x7c x8 M
theorem G35_22 (L : Rec) (b35_8 c35_23 : ACode) (x0 : Option Addr) (x1 : Int) (x2 : Int) (x7 : Option Addr) (x7n : Nat) (x7c : Nat) (x8 : Int) (M : AMem) : code L (.ops o35_22) (postK [3, 4, 5, 6, 9, 10, 11, 12, 13, 14, 15, 16, 17, 18, 19, 20, 21, 22, 23, 24, 25, 26, 27, 28, 29, 30, 31, 32, 33, 34, 35, 36, 37, 38, 39, 40, 41, 42, 43, 44, 45, 46] (loopK L b35_8 (blockK 0 (seqK (code L (.clear [0, 1, 2, 3, 4, 5, 6, 8, 9, 10, 11, 12, 13, 14, 15, 16, 17, 18, 19, 20, 21, 22, 23, 24, 25, 26, 27, 28, 29, 30, 31, 32, 33, 34, 35, 36, 37, 38, 39, 40, 41, 42, 43, 44, 45, 46] c35_23) (retK [.tmp 6])) (retK [.tmp 6]))))) [.pointer x0, .int .i64 x1, .int .i64 x2, junk, junk, junk, junk, .slice x7 x7n x7c, .int .i64 x8, junk, junk, junk, junk, junk, junk, junk, junk, junk, junk, junk, junk, junk, junk, junk, junk, junk, junk, junk, junk, junk, junk, junk, junk, junk, junk, junk, junk, junk, junk, junk, junk, junk, junk, junk, junk, junk, junk] M =
  L.loop b35_8 (blockK 0 (seqK (code L (.clear [0, 1, 2, 3, 4, 5, 6, 8, 9, 10, 11, 12, 13, 14, 15, 16, 17, 18, 19, 20, 21, 22, 23, 24, 25, 26, 27, 28, 29, 30, 31, 32, 33, 34, 35, 36, 37, 38, 39, 40, 41, 42, 43, 44, 45, 46] c35_23) (retK [.tmp 6])) (retK [.tmp 6]))) [.pointer x0, .int .i64 x1, .int .i64 x2, junk, junk, junk, junk, .slice x7 x7n x7c, .int .i64 (IntKind.wrap .i64 (x8 + 1)), junk, junk, junk, junk, junk, junk, junk, junk, junk, junk, junk, junk, junk, junk, junk, junk, junk, junk, junk, junk, junk, junk, junk, junk, junk, junk, junk, junk, junk, junk, junk, junk, junk, junk, junk, junk, junk, junk] M := by kernel_rfl
theorem QP35_22_eq (L : Rec) (P35_8 : Rec → (Option Addr) → Int → Int → (Option Addr) → Nat → Nat → Int → AMem → Res) (hP35_8 : P35_8 = fun (L : Rec) (x0 : Option Addr) (x1 : Int) (x2 : Int) (x7 : Option Addr) (x7n : Nat) (x7c : Nat) (x8 : Int) (M : AMem) => L.loop b35_8 (k35_8 L) (s35_8 x0 x1 x2 x7 x7n x7c x8 M) M) (P35_22 : Rec → (Option Addr) → Int → Int → (Option Addr) → Nat → Nat → Int → AMem → Res) (hP35_22 : P35_22 = fun (L : Rec) (x0 : Option Addr) (x1 : Int) (x2 : Int) (x7 : Option Addr) (x7n : Nat) (x7c : Nat) (x8 : Int) (M : AMem) => code L c35_22 (k35_22 L) (s35_22 x0 x1 x2 x7 x7n x7c x8 M) M) (x0 : Option Addr) (x1 : Int) (x2 : Int) (x7 : Option Addr) (x7n : Nat) (x7c : Nat) (x8 : Int) (M : AMem) : P35_22 L x0 x1 x2 x7 x7n x7c x8 M =
  P35_8 L x0 x1 x2 x7 x7n x7c (IntKind.wrap .i64 (x8 + 1)) M := by
  subst hP35_8; subst hP35_22; exact Eq.mp (by kernel_rfl) (G35_22 L b35_8 c35_23 x0 x1 x2 x7 x7n x7c x8 M)
theorem P35_22_eq (L : Rec) (x0 : Option Addr) (x1 : Int) (x2 : Int) (x7 : Option Addr) (x7n : Nat) (x7c : Nat) (x8 : Int) (M : AMem) : P35_22 L x0 x1 x2 x7 x7n x7c x8 M =
  P35_8 L x0 x1 x2 x7 x7n x7c (IntKind.wrap .i64 (x8 + 1)) M := QP35_22_eq L P35_8 (Classical.choose_spec XP35_8) P35_22 (Classical.choose_spec XP35_22) x0 x1 x2 x7 x7n x7c x8 M
theorem G35_23 (L : Rec) (x7 : Option Addr) (x7n : Nat) (x7c : Nat) (M : AMem) : code L (.seq (.ops o35_24) (.ret)) (retK [.tmp 6]) [junk, junk, junk, junk, junk, junk, junk, .slice x7 x7n x7c, junk, junk, junk, junk, junk, junk, junk, junk, junk, junk, junk, junk, junk, junk, junk, junk, junk, junk, junk, junk, junk, junk, junk, junk, junk, junk, junk, junk, junk, junk, junk, junk, junk, junk, junk, junk, junk, junk, junk] M =
  some (.slice x7 x7n x7c, M) := by kernel_rfl
theorem QP35_23_eq (L : Rec) (P35_23 : Rec → (Option Addr) → Nat → Nat → AMem → Res) (hP35_23 : P35_23 = fun (L : Rec) (x7 : Option Addr) (x7n : Nat) (x7c : Nat) (M : AMem) => code L c35_23 (k35_23 L) (s35_23 x7 x7n x7c M) M) (x7 : Option Addr) (x7n : Nat) (x7c : Nat) (M : AMem) : P35_23 L x7 x7n x7c M =
  some (.slice x7 x7n x7c, M) := by
  subst hP35_23; exact Eq.mp (by kernel_rfl) (G35_23 L  x7 x7n x7c M)
theorem P35_23_eq (L : Rec) (x7 : Option Addr) (x7n : Nat) (x7c : Nat) (M : AMem) : P35_23 L x7 x7n x7c M =
  some (.slice x7 x7n x7c, M) := QP35_23_eq L P35_23 (Classical.choose_spec XP35_23) x7 x7n x7c M
theorem GE35 (L : Rec) (b35_8 c35_23 : ACode) (x0 : Option Addr) (x1 : Int) (x2 : Int) (M : AMem) : enterF L ⟨47, [.tmp 6], .seq (.ops o35_1) (.seq (.ops o35_3) (.seq (.seq (.ops o35_6) (.block 0 (.clear [3, 4, 5, 6, 9, 10, 11, 12, 13, 14, 15, 16, 17, 18, 19, 20, 21, 22, 23, 24, 25, 26, 27, 28, 29, 30, 31, 32, 33, 34, 35, 36, 37, 38, 39, 40, 41, 42, 43, 44, 45, 46] (.loop b35_8)))) (.clear [0, 1, 2, 3, 4, 5, 6, 8, 9, 10, 11, 12, 13, 14, 15, 16, 17, 18, 19, 20, 21, 22, 23, 24, 25, 26, 27, 28, 29, 30, 31, 32, 33, 34, 35, 36, 37, 38, 39, 40, 41, 42, 43, 44, 45, 46] c35_23)))⟩ [.pointer x0, .int .i64 x1, .int .i64 x2] M =
  L.loop b35_8 (blockK 0 (seqK (code L (.clear [0, 1, 2, 3, 4, 5, 6, 8, 9, 10, 11, 12, 13, 14, 15, 16, 17, 18, 19, 20, 21, 22, 23, 24, 25, 26, 27, 28, 29, 30, 31, 32, 33, 34, 35, 36, 37, 38, 39, 40, 41, 42, 43, 44, 45, 46] c35_23) (retK [.tmp 6])) (retK [.tmp 6]))) [.pointer x0, .int .i64 x1, .int .i64 x2, junk, junk, junk, junk, .slice none 0 0, .int .i64 0, junk, junk, junk, junk, junk, junk, junk, junk, junk, junk, junk, junk, junk, junk, junk, junk, junk, junk, junk, junk, junk, junk, junk, junk, junk, junk, junk, junk, junk, junk, junk, junk, junk, junk, junk, junk, junk, junk] M := by kernel_rfl
theorem QE35 (L : Rec) (P35_8 : Rec → (Option Addr) → Int → Int → (Option Addr) → Nat → Nat → Int → AMem → Res) (hP35_8 : P35_8 = fun (L : Rec) (x0 : Option Addr) (x1 : Int) (x2 : Int) (x7 : Option Addr) (x7n : Nat) (x7c : Nat) (x8 : Int) (M : AMem) => L.loop b35_8 (k35_8 L) (s35_8 x0 x1 x2 x7 x7n x7c x8 M) M) (x0 : Option Addr) (x1 : Int) (x2 : Int) (M : AMem) : enterF L a35 [.pointer x0, .int .i64 x1, .int .i64 x2] M =
  P35_8 L x0 x1 x2 none 0 0 0 M := by
  subst hP35_8; exact Eq.mp (by kernel_rfl) (GE35 L b35_8 c35_23 x0 x1 x2 M)
theorem E35 (L : Rec) (x0 : Option Addr) (x1 : Int) (x2 : Int) (M : AMem) : enterF L a35 [.pointer x0, .int .i64 x1, .int .i64 x2] M =
  P35_8 L x0 x1 x2 none 0 0 0 M := QE35 L P35_8 (Classical.choose_spec XP35_8) x0 x1 x2 M
end Go.Proofs.Ytaepdefnomcllaa
