/- What the pieces of some functions come to. -/
import Derived.Test.YtjmeilpffmhojaaCode
set_option linter.unusedVariables false
set_option maxRecDepth 100000
namespace Go.Proofs.Ytjmeilpffmhojaa
open Go Go.Ax
/-! #### cell.New -/
theorem GE12 (L : Rec) (x0 : Int) (M : AMem) : enterF L ⟨13, [.tmp 2], .seq (.ops o12_1) (.seq (.seq (.ops o12_4) (.cond (.tmp 8) (.seq (.ops o12_7) (.ret)) (.skip))) (.seq (.ops o12_11) (.ret)))⟩ [.int .i64 x0] M =
  (if (decide (x0 < 0)) = true
    then some (.pointer none, M)
    else (if (decide (x0 > 262144)) = true
      then some (.pointer none, M)
      else (if (0 : Int) ≤ x0 ∧ x0 ≤ x0 ∧ x0 ≤ 140737488355328 ∧ x0 * 8 ≤ 140737488355328
        then some (.pointer (some ⟨(List.length (M ++ [AObj.cells (List.replicate (Int.toNat x0) (.int .u64 0)) ⟨false, 0⟩])), 0, none⟩), ((M ++ [AObj.cells (List.replicate (Int.toNat x0) (.int .u64 0)) ⟨false, 0⟩]) ++ [AObj.cells [.bool true, .slice (some ⟨(List.length M), 0, none⟩) (Int.toNat x0) 1, .int .i64 0, .int .i64 0] ⟨false, 0⟩]))
        else none))) := by kernel_rfl
theorem E12 (L : Rec) (x0 : Int) (M : AMem) : enterF L a12 [.int .i64 x0] M =
  (if (decide (x0 < 0)) = true
    then some (.pointer none, M)
    else (if (decide (x0 > 262144)) = true
      then some (.pointer none, M)
      else (if (0 : Int) ≤ x0 ∧ x0 ≤ x0 ∧ x0 ≤ 140737488355328 ∧ x0 * 8 ≤ 140737488355328
        then some (.pointer (some ⟨(List.length (M ++ [AObj.cells (List.replicate (Int.toNat x0) (.int .u64 0)) ⟨false, 0⟩])), 0, none⟩), ((M ++ [AObj.cells (List.replicate (Int.toNat x0) (.int .u64 0)) ⟨false, 0⟩]) ++ [AObj.cells [.bool true, .slice (some ⟨(List.length M), 0, none⟩) (Int.toNat x0) 1, .int .i64 0, .int .i64 0] ⟨false, 0⟩]))
        else none))) := Eq.mp (by kernel_rfl) (GE12 L  x0 M)
/-! #### cell.Memory.at -/
theorem GE54 (L : Rec) (x0 : Option Addr) (x1 : Int) (M : AMem) : enterF L ⟨38, [.tmp 4], .seq (.ops o54_1) (.seq (.seq (.ops o54_4) (.cond (.tmp 13) (.seq (.ops o54_7) (.ret)) (.skip))) (.seq (.ops o54_11) (.seq (.seq (.ops o54_14) (.cond (.tmp 31) (.seq (.ops o54_17) (.ret)) (.skip))) (.seq (.ops o54_21) (.ret)))))⟩ [.pointer x0, .int .i64 x1] M =
  (if (Option.isNone x0) = true
    then some (.pointer none, M)
    else (match x0 with
      | some a_1 => (Option.bind (boolOf? (AMem.ld M a_1.block a_1.off)) fun q_2 =>
        (if (!q_2) = true
        then some (.pointer none, M)
        else (match x0 with
          | some a_3 => (Option.bind (intOf? .i64 (AMem.ld M a_3.block (a_3.off + 2))) fun x_4 =>
            (match x0 with
            | some a_5 => (Option.bind (AMem.wr M a_5.block (a_5.off + 2) [.int .i64 (IntKind.wrap .i64 (x_4 + 1))]) fun M_6 =>
              (if (decide (x1 < 0)) = true
              then some (.pointer none, M_6)
              else (match x0 with
                | some a_7 => (Option.bind (sliceOf? (AMem.ld M_6 a_7.block (a_7.off + 1))) fun s_8 =>
                  (if (decide (x1 ≥ (Int.ofNat s_8.2.1))) = true
                  then some (.pointer none, M_6)
                  else (match x0 with
                    | some a_9 => (Option.bind (sliceOf? (AMem.ld M_6 a_9.block (a_9.off + 1))) fun s_10 =>
                      (match s_10.1 with
                      | some a_11 => (if (0 : Int) ≤ x1 ∧ x1 < (Int.ofNat s_10.2.1)
                        then some (.pointer (some ⟨a_11.block, (a_11.off + ((Int.toNat x1) * 1)), none⟩), M_6)
                        else none)
                      | none => none))
                    | none => none)))
                | none => none)))
            | none => none))
          | none => none)))
      | none => none)) := by kernel_rfl
theorem E54 (L : Rec) (x0 : Option Addr) (x1 : Int) (M : AMem) : enterF L a54 [.pointer x0, .int .i64 x1] M =
  (if (Option.isNone x0) = true
    then some (.pointer none, M)
    else (match x0 with
      | some a_1 => (Option.bind (boolOf? (AMem.ld M a_1.block a_1.off)) fun q_2 =>
        (if (!q_2) = true
        then some (.pointer none, M)
        else (match x0 with
          | some a_3 => (Option.bind (intOf? .i64 (AMem.ld M a_3.block (a_3.off + 2))) fun x_4 =>
            (match x0 with
            | some a_5 => (Option.bind (AMem.wr M a_5.block (a_5.off + 2) [.int .i64 (IntKind.wrap .i64 (x_4 + 1))]) fun M_6 =>
              (if (decide (x1 < 0)) = true
              then some (.pointer none, M_6)
              else (match x0 with
                | some a_7 => (Option.bind (sliceOf? (AMem.ld M_6 a_7.block (a_7.off + 1))) fun s_8 =>
                  (if (decide (x1 ≥ (Int.ofNat s_8.2.1))) = true
                  then some (.pointer none, M_6)
                  else (match x0 with
                    | some a_9 => (Option.bind (sliceOf? (AMem.ld M_6 a_9.block (a_9.off + 1))) fun s_10 =>
                      (match s_10.1 with
                      | some a_11 => (if (0 : Int) ≤ x1 ∧ x1 < (Int.ofNat s_10.2.1)
                        then some (.pointer (some ⟨a_11.block, (a_11.off + ((Int.toNat x1) * 1)), none⟩), M_6)
                        else none)
                      | none => none))
                    | none => none)))
                | none => none)))
            | none => none))
          | none => none)))
      | none => none)) := Eq.mp (by kernel_rfl) (GE54 L  x0 x1 M)
/-! #### cell.Memory.Load -/
theorem GE22 (L : Rec) (x0 : Option Addr) (x1 : Int) (M : AMem) : enterF L ⟨15, [.tmp 4, .tmp 5], .seq (.ops o22_1) (.seq (.ops o22_3) (.seq (.seq (.ops o22_6) (.cond (.tmp 11) (.seq (.ops o22_9) (.ret)) (.skip))) (.seq (.ops o22_13) (.ret))))⟩ [.pointer x0, .int .i64 x1] M =
  (Option.bind (L.call 54 [.pointer x0, .int .i64 x1] M) fun r_1 =>
    (Option.bind (ptrOf? (some r_1.1)) fun p_2 =>
    (if (Option.isNone p_2) = true
    then some (.tuple #[.int .u64 0, .bool false], r_1.2)
    else (match p_2 with
      | some a_3 => (Option.bind (intOf? .u64 (AMem.ld r_1.2 a_3.block a_3.off)) fun x_4 =>
        some (.tuple #[.int .u64 x_4, .bool true], r_1.2))
      | none => none)))) := by kernel_rfl
theorem E22 (L : Rec) (x0 : Option Addr) (x1 : Int) (M : AMem) : enterF L a22 [.pointer x0, .int .i64 x1] M =
  (Option.bind (L.call 54 [.pointer x0, .int .i64 x1] M) fun r_1 =>
    (Option.bind (ptrOf? (some r_1.1)) fun p_2 =>
    (if (Option.isNone p_2) = true
    then some (.tuple #[.int .u64 0, .bool false], r_1.2)
    else (match p_2 with
      | some a_3 => (Option.bind (intOf? .u64 (AMem.ld r_1.2 a_3.block a_3.off)) fun x_4 =>
        some (.tuple #[.int .u64 x_4, .bool true], r_1.2))
      | none => none)))) := Eq.mp (by kernel_rfl) (GE22 L  x0 x1 M)
/-! #### cell.Memory.Cas -/
theorem GE14 (L : Rec) (x0 : Option Addr) (x1 : Int) (x2 : Int) (x3 : Int) (M : AMem) : enterF L ⟨32, [.tmp 8], .seq (.ops o14_1) (.seq (.ops o14_3) (.seq (.seq (.ops o14_6) (.cond (.tmp 21) (.seq (.ops o14_9) (.ret)) (.skip))) (.seq (.ops o14_13) (.seq (.ops o14_15) (.seq (.ops o14_17) (.ret))))))⟩ [.pointer x0, .int .i64 x1, .int .u64 x2, .int .u64 x3] M =
  (Option.bind (L.call 54 [.pointer x0, .int .i64 x1] M) fun r_1 =>
    (Option.bind (ptrOf? (some r_1.1)) fun p_2 =>
    (if (Option.isNone p_2) = true
    then some (.bool false, r_1.2)
    else (match p_2 with
      | some a_3 => (Option.bind (intOf? .u64 (AMem.ld r_1.2 a_3.block a_3.off)) fun x_4 =>
        (if (x_4 != x2) = true
        then some (.bool false, r_1.2)
        else (match p_2 with
          | some a_5 => (Option.bind (AMem.wr r_1.2 a_5.block a_5.off [.int .u64 x3]) fun M_6 =>
            (match x0 with
            | some a_7 => (Option.bind (intOf? .i64 (AMem.ld M_6 a_7.block (a_7.off + 3))) fun x_8 =>
              (match x0 with
              | some a_9 => (Option.bind (AMem.wr M_6 a_9.block (a_9.off + 3) [.int .i64 (IntKind.wrap .i64 (x_8 + 1))]) fun M_10 =>
                some (.bool true, M_10))
              | none => none))
            | none => none))
          | none => none)))
      | none => none)))) := by kernel_rfl
theorem E14 (L : Rec) (x0 : Option Addr) (x1 : Int) (x2 : Int) (x3 : Int) (M : AMem) : enterF L a14 [.pointer x0, .int .i64 x1, .int .u64 x2, .int .u64 x3] M =
  (Option.bind (L.call 54 [.pointer x0, .int .i64 x1] M) fun r_1 =>
    (Option.bind (ptrOf? (some r_1.1)) fun p_2 =>
    (if (Option.isNone p_2) = true
    then some (.bool false, r_1.2)
    else (match p_2 with
      | some a_3 => (Option.bind (intOf? .u64 (AMem.ld r_1.2 a_3.block a_3.off)) fun x_4 =>
        (if (x_4 != x2) = true
        then some (.bool false, r_1.2)
        else (match p_2 with
          | some a_5 => (Option.bind (AMem.wr r_1.2 a_5.block a_5.off [.int .u64 x3]) fun M_6 =>
            (match x0 with
            | some a_7 => (Option.bind (intOf? .i64 (AMem.ld M_6 a_7.block (a_7.off + 3))) fun x_8 =>
              (match x0 with
              | some a_9 => (Option.bind (AMem.wr M_6 a_9.block (a_9.off + 3) [.int .i64 (IntKind.wrap .i64 (x_8 + 1))]) fun M_10 =>
                some (.bool true, M_10))
              | none => none))
            | none => none))
          | none => none)))
      | none => none)))) := Eq.mp (by kernel_rfl) (GE14 L  x0 x1 x2 x3 M)
/-! #### cell.Memory.Len -/
theorem GE57 (L : Rec) (x0 : Option Addr) (M : AMem) : enterF L ⟨10, [.tmp 2], .seq (.ops o57_1) (.seq (.seq (.ops o57_4) (.cond (.tmp 4) (.seq (.ops o57_7) (.ret)) (.skip))) (.seq (.ops o57_11) (.ret)))⟩ [.pointer x0] M =
  (if (Option.isNone x0) = true
    then some (.int .i64 0, M)
    else (match x0 with
      | some a_1 => (Option.bind (sliceOf? (AMem.ld M a_1.block (a_1.off + 1))) fun s_2 =>
        some (.int .i64 (Int.ofNat s_2.2.1), M))
      | none => none)) := by kernel_rfl
theorem E57 (L : Rec) (x0 : Option Addr) (M : AMem) : enterF L a57 [.pointer x0] M =
  (if (Option.isNone x0) = true
    then some (.int .i64 0, M)
    else (match x0 with
      | some a_1 => (Option.bind (sliceOf? (AMem.ld M a_1.block (a_1.off + 1))) fun s_2 =>
        some (.int .i64 (Int.ofNat s_2.2.1), M))
      | none => none)) := Eq.mp (by kernel_rfl) (GE57 L  x0 M)
end Go.Proofs.Ytjmeilpffmhojaa
