/- What the pieces of some functions come to. -/
import Derived.Test.YtpnknolehckfhaaCode
set_option linter.unusedVariables false
set_option maxRecDepth 100000
namespace Go.Proofs.Ytpnknolehckfhaa
open Go Go.Ax
/-! #### skylightref30.New -/
theorem E23 (L : Rec) (x0 : Int) (M : AMem) : enterF L a23 [.int .i64 x0] M =
  (if (decide (x0 < 0)) = true
    then (Option.bind (AMem.wr (M ++ [AObj.cells [.slice none 0 0, .int .i64 0, .int .i64 0] ⟨false, 0⟩]) (List.length M) 0 [.slice none 0 0, .int .i64 0, .int .i64 0]) fun M_1 =>
      (Option.bind (sliceOf? (AMem.ld M_1 (List.length M) 0)) fun s_2 =>
      (Option.bind (intOf? .i64 (AMem.ld M_1 (List.length M) 1)) fun x_3 =>
      (Option.bind (intOf? .i64 (AMem.ld M_1 (List.length M) 2)) fun x_4 =>
      some (.tuple #[.agg #[.slice s_2.1 s_2.2.1 s_2.2.2, .int .i64 x_3, .int .i64 x_4], .bool false], M_1)))))
    else (if (decide (x0 > 262144)) = true
      then (Option.bind (AMem.wr (M ++ [AObj.cells [.slice none 0 0, .int .i64 0, .int .i64 0] ⟨false, 0⟩]) (List.length M) 0 [.slice none 0 0, .int .i64 0, .int .i64 0]) fun M_5 =>
        (Option.bind (sliceOf? (AMem.ld M_5 (List.length M) 0)) fun s_6 =>
        (Option.bind (intOf? .i64 (AMem.ld M_5 (List.length M) 1)) fun x_7 =>
        (Option.bind (intOf? .i64 (AMem.ld M_5 (List.length M) 2)) fun x_8 =>
        some (.tuple #[.agg #[.slice s_6.1 s_6.2.1 s_6.2.2, .int .i64 x_7, .int .i64 x_8], .bool false], M_5)))))
      else (if (0 : Int) ≤ x0 ∧ x0 ≤ x0 ∧ x0 ≤ 140737488355328 ∧ x0 * 8 ≤ 140737488355328
        then (Option.bind (AMem.wr ((M ++ [AObj.cells [.slice none 0 0, .int .i64 0, .int .i64 0] ⟨false, 0⟩]) ++ [AObj.cells (List.replicate (Int.toNat x0) (.int .u64 0)) ⟨false, 0⟩]) (List.length M) 0 [.slice (some ⟨(List.length (M ++ [AObj.cells [.slice none 0 0, .int .i64 0, .int .i64 0] ⟨false, 0⟩])), 0, none⟩) (Int.toNat x0) 1, .int .i64 0, .int .i64 0]) fun M_9 =>
          (Option.bind (sliceOf? (AMem.ld M_9 (List.length M) 0)) fun s_10 =>
          (Option.bind (intOf? .i64 (AMem.ld M_9 (List.length M) 1)) fun x_11 =>
          (Option.bind (intOf? .i64 (AMem.ld M_9 (List.length M) 2)) fun x_12 =>
          some (.tuple #[.agg #[.slice s_10.1 s_10.2.1 s_10.2.2, .int .i64 x_11, .int .i64 x_12], .bool true], M_9)))))
        else none))) := by kernel_rfl
/-! #### skylightref30.Memory.Load -/
theorem E49 (L : Rec) (x0 : Option Addr) (x1 : Int) (M : AMem) : enterF L a49 [.pointer x0, .int .i64 x1] M =
  (match x0 with
    | some a_1 => (Option.bind (intOf? .i64 (AMem.ld M a_1.block (a_1.off + 1))) fun x_2 =>
      (match x0 with
      | some a_3 => (Option.bind (AMem.wr M a_3.block (a_3.off + 1) [.int .i64 (IntKind.wrap .i64 (x_2 + 1))]) fun M_4 =>
        (if (decide (x1 < 0)) = true
        then some (.tuple #[.int .u64 0, .bool false], M_4)
        else (match x0 with
          | some a_5 => (Option.bind (sliceOf? (AMem.ld M_4 a_5.block a_5.off)) fun s_6 =>
            (if (decide (x1 ≥ (Int.ofNat s_6.2.1))) = true
            then some (.tuple #[.int .u64 0, .bool false], M_4)
            else (match x0 with
              | some a_7 => (Option.bind (sliceOf? (AMem.ld M_4 a_7.block a_7.off)) fun s_8 =>
                (match s_8.1 with
                | some a_9 => (if (0 : Int) ≤ x1 ∧ x1 < (Int.ofNat s_8.2.1)
                  then (Option.bind (intOf? .u64 (AMem.ld M_4 a_9.block (a_9.off + ((Int.toNat x1) * 1)))) fun x_10 =>
                    some (.tuple #[.int .u64 x_10, .bool true], M_4))
                  else none)
                | none => none))
              | none => none)))
          | none => none)))
      | none => none))
    | none => none) := by kernel_rfl
/-! #### skylightref30.Memory.Cas -/
theorem E50 (L : Rec) (x0 : Option Addr) (x1 : Int) (x2 : Int) (x3 : Int) (M : AMem) : enterF L a50 [.pointer x0, .int .i64 x1, .int .u64 x2, .int .u64 x3] M =
  (match x0 with
    | some a_1 => (Option.bind (intOf? .i64 (AMem.ld M a_1.block (a_1.off + 1))) fun x_2 =>
      (match x0 with
      | some a_3 => (Option.bind (AMem.wr M a_3.block (a_3.off + 1) [.int .i64 (IntKind.wrap .i64 (x_2 + 1))]) fun M_4 =>
        (if (decide (x1 < 0)) = true
        then some (.bool false, M_4)
        else (match x0 with
          | some a_5 => (Option.bind (sliceOf? (AMem.ld M_4 a_5.block a_5.off)) fun s_6 =>
            (if (decide (x1 ≥ (Int.ofNat s_6.2.1))) = true
            then some (.bool false, M_4)
            else (match x0 with
              | some a_7 => (Option.bind (sliceOf? (AMem.ld M_4 a_7.block a_7.off)) fun s_8 =>
                (match s_8.1 with
                | some a_9 => (if (0 : Int) ≤ x1 ∧ x1 < (Int.ofNat s_8.2.1)
                  then (Option.bind (intOf? .u64 (AMem.ld M_4 a_9.block (a_9.off + ((Int.toNat x1) * 1)))) fun x_10 =>
                    (if (x_10 != x2) = true
                    then some (.bool false, M_4)
                    else (match x0 with
                      | some a_11 => (Option.bind (sliceOf? (AMem.ld M_4 a_11.block a_11.off)) fun s_12 =>
                        (match s_12.1 with
                        | some a_13 => (if (0 : Int) ≤ x1 ∧ x1 < (Int.ofNat s_12.2.1)
                          then (Option.bind (AMem.wr M_4 a_13.block (a_13.off + ((Int.toNat x1) * 1)) [.int .u64 x3]) fun M_14 =>
                            (match x0 with
                            | some a_15 => (Option.bind (intOf? .i64 (AMem.ld M_14 a_15.block (a_15.off + 2))) fun x_16 =>
                              (match x0 with
                              | some a_17 => (Option.bind (AMem.wr M_14 a_17.block (a_17.off + 2) [.int .i64 (IntKind.wrap .i64 (x_16 + 1))]) fun M_18 =>
                                some (.bool true, M_18))
                              | none => none))
                            | none => none))
                          else none)
                        | none => none))
                      | none => none)))
                  else none)
                | none => none))
              | none => none)))
          | none => none)))
      | none => none))
    | none => none) := by kernel_rfl
end Go.Proofs.Ytpnknolehckfhaa
