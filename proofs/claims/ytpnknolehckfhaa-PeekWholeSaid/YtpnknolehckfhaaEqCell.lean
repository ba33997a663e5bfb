/- What the pieces of some functions come to. -/
import Derived.Test.YtpnknolehckfhaaCode
set_option linter.unusedVariables false
set_option maxRecDepth 100000
namespace Go.Proofs.Ytpnknolehckfhaa
open Go Go.Ax
/-! #### cell.New -/
theorem E9 (L : Rec) (x0 : Int) (M : AMem) : enterF L a9 [.int .i64 x0] M =
  (if (decide (x0 < 0)) = true
    then some (.pointer none, M)
    else (if (decide (x0 > 262144)) = true
      then some (.pointer none, M)
      else (if (0 : Int) ≤ x0 ∧ x0 ≤ x0 ∧ x0 ≤ 140737488355328 ∧ x0 * 8 ≤ 140737488355328
        then some (.pointer (some ⟨(List.length (M ++ [AObj.cells (List.replicate (Int.toNat x0) (.int .u64 0)) ⟨false, 0⟩])), 0, none⟩), ((M ++ [AObj.cells (List.replicate (Int.toNat x0) (.int .u64 0)) ⟨false, 0⟩]) ++ [AObj.cells [.bool true, .slice (some ⟨(List.length M), 0, none⟩) (Int.toNat x0) 1, .int .i64 0, .int .i64 0] ⟨false, 0⟩]))
        else none))) := by kernel_rfl
/-! #### cell.Memory.at -/
theorem E58 (L : Rec) (x0 : Option Addr) (x1 : Int) (M : AMem) : enterF L a58 [.pointer x0, .int .i64 x1] M =
  (if (Option.isNone x0) = true
    then some (.pointer none, M)
    else (match x0 with
      | some a_1 => (Option.bind (boolOf? (AMem.ld M a_1.block a_1.off)) fun q_2 =>
        (if (!q_2) = true
        then some (.pointer none, M)
        else (match x0 with
          | some a_3 => (Option.bind (intOf? .i64 (AMem.ld M a_3.block (a_3.off + 2))) fun x_4 =>
            (match x0 with
            | some a_5 => (Option.bind (AMem.wr M a_5.block (a_5.off + 2) [.int .i64 (IntKind.wrap .i64 (x_4 + 1))]) fun M_6 =>
              (if (decide (x1 < 0)) = true
              then some (.pointer none, M_6)
              else (match x0 with
                | some a_7 => (Option.bind (sliceOf? (AMem.ld M_6 a_7.block (a_7.off + 1))) fun s_8 =>
                  (if (decide (x1 ≥ (Int.ofNat s_8.2.1))) = true
                  then some (.pointer none, M_6)
                  else (match x0 with
                    | some a_9 => (Option.bind (sliceOf? (AMem.ld M_6 a_9.block (a_9.off + 1))) fun s_10 =>
                      (match s_10.1 with
                      | some a_11 => (if (0 : Int) ≤ x1 ∧ x1 < (Int.ofNat s_10.2.1)
                        then some (.pointer (some ⟨a_11.block, (a_11.off + ((Int.toNat x1) * 1)), none⟩), M_6)
                        else none)
                      | none => none))
                    | none => none)))
                | none => none)))
            | none => none))
          | none => none)))
      | none => none)) := by kernel_rfl
/-! #### cell.Memory.Load -/
theorem E43 (L : Rec) (x0 : Option Addr) (x1 : Int) (M : AMem) : enterF L a43 [.pointer x0, .int .i64 x1] M =
  (Option.bind (L.call 58 [.pointer x0, .int .i64 x1] M) fun r_1 =>
    (Option.bind (ptrOf? (some r_1.1)) fun p_2 =>
    (if (Option.isNone p_2) = true
    then some (.tuple #[.int .u64 0, .bool false], r_1.2)
    else (match p_2 with
      | some a_3 => (Option.bind (intOf? .u64 (AMem.ld r_1.2 a_3.block a_3.off)) fun x_4 =>
        some (.tuple #[.int .u64 x_4, .bool true], r_1.2))
      | none => none)))) := by kernel_rfl
/-! #### cell.Memory.Cas -/
theorem E46 (L : Rec) (x0 : Option Addr) (x1 : Int) (x2 : Int) (x3 : Int) (M : AMem) : enterF L a46 [.pointer x0, .int .i64 x1, .int .u64 x2, .int .u64 x3] M =
  (Option.bind (L.call 58 [.pointer x0, .int .i64 x1] M) fun r_1 =>
    (Option.bind (ptrOf? (some r_1.1)) fun p_2 =>
    (if (Option.isNone p_2) = true
    then some (.bool false, r_1.2)
    else (match p_2 with
      | some a_3 => (Option.bind (intOf? .u64 (AMem.ld r_1.2 a_3.block a_3.off)) fun x_4 =>
        (if (x_4 != x2) = true
        then some (.bool false, r_1.2)
        else (match p_2 with
          | some a_5 => (Option.bind (AMem.wr r_1.2 a_5.block a_5.off [.int .u64 x3]) fun M_6 =>
            (match x0 with
            | some a_7 => (Option.bind (intOf? .i64 (AMem.ld M_6 a_7.block (a_7.off + 3))) fun x_8 =>
              (match x0 with
              | some a_9 => (Option.bind (AMem.wr M_6 a_9.block (a_9.off + 3) [.int .i64 (IntKind.wrap .i64 (x_8 + 1))]) fun M_10 =>
                some (.bool true, M_10))
              | none => none))
            | none => none))
          | none => none)))
      | none => none)))) := by kernel_rfl
/-! #### cell.Memory.Len -/
theorem E41 (L : Rec) (x0 : Option Addr) (M : AMem) : enterF L a41 [.pointer x0] M =
  (if (Option.isNone x0) = true
    then some (.int .i64 0, M)
    else (match x0 with
      | some a_1 => (Option.bind (sliceOf? (AMem.ld M a_1.block (a_1.off + 1))) fun s_2 =>
        some (.int .i64 (Int.ofNat s_2.2.1), M))
      | none => none)) := by kernel_rfl
/-! #### cell.Memory.Steps -/
theorem E31 (L : Rec) (x0 : Option Addr) (M : AMem) : enterF L a31 [.pointer x0] M =
  (if (Option.isNone x0) = true
    then some (.int .i64 0, M)
    else (match x0 with
      | some a_1 => (Option.bind (intOf? .i64 (AMem.ld M a_1.block (a_1.off + 2))) fun x_2 =>
        some (.int .i64 x_2, M))
      | none => none)) := by kernel_rfl
/-! #### cell.Memory.Cells -/
theorem E52 (L : Rec) (x0 : Option Addr) (x1 : Int) (x2 : Int) (M : AMem) : enterF L a52 [.pointer x0, .int .i64 x1, .int .i64 x2] M =
  (Option.bind (L.call 41 [.pointer x0] M) fun r_1 =>
    (Option.bind (intOf? .i64 (some r_1.1)) fun x_2 =>
    (if (decide (x1 < 0)) = true
    then some (.slice none 0 0, r_1.2)
    else (if (decide (x2 < 0)) = true
      then some (.slice none 0 0, r_1.2)
      else (if (decide (x1 ≥ x_2)) = true
        then some (.slice none 0 0, r_1.2)
        else (if (0 : Int) ≤ (if (IntKind.wrap .i64 (x_2 - x1)) < x2 then (IntKind.wrap .i64 (x_2 - x1)) else x2) ∧ (if (IntKind.wrap .i64 (x_2 - x1)) < x2 then (IntKind.wrap .i64 (x_2 - x1)) else x2) ≤ (if (IntKind.wrap .i64 (x_2 - x1)) < x2 then (IntKind.wrap .i64 (x_2 - x1)) else x2) ∧ (if (IntKind.wrap .i64 (x_2 - x1)) < x2 then (IntKind.wrap .i64 (x_2 - x1)) else x2) ≤ 140737488355328 ∧ (if (IntKind.wrap .i64 (x_2 - x1)) < x2 then (IntKind.wrap .i64 (x_2 - x1)) else x2) * 8 ≤ 140737488355328
          then (match x0 with
            | some a_3 => (Option.bind (sliceOf? (AMem.ld (r_1.2 ++ [AObj.cells (List.replicate (Int.toNat (if (IntKind.wrap .i64 (x_2 - x1)) < x2 then (IntKind.wrap .i64 (x_2 - x1)) else x2)) (.int .u64 0)) ⟨false, 0⟩]) a_3.block (a_3.off + 1))) fun s_4 =>
              (if (0 : Int) ≤ x1 ∧ x1 ≤ (Int.ofNat s_4.2.1) ∧ (Int.ofNat s_4.2.1) ≤ (Int.ofNat s_4.2.1)
              then (Option.bind (rowOf (r_1.2 ++ [AObj.cells (List.replicate (Int.toNat (if (IntKind.wrap .i64 (x_2 - x1)) < x2 then (IntKind.wrap .i64 (x_2 - x1)) else x2)) (.int .u64 0)) ⟨false, 0⟩]) 1 (.slice (Option.map (fun p => (⟨p.block, p.off + ((Int.toNat x1) * 1), p.spot⟩ : Addr)) s_4.1) (Int.toNat ((Int.ofNat s_4.2.1) - x1)) (if s_4.2.2 = 1 then 1 else 0))) fun row_5 =>
                (copyK 1 (some ⟨(List.length r_1.2), 0, none⟩) (Int.toNat (if (IntKind.wrap .i64 (x_2 - x1)) < x2 then (IntKind.wrap .i64 (x_2 - x1)) else x2)) (Int.toNat ((Int.ofNat s_4.2.1) - x1)) row_5 (r_1.2 ++ [AObj.cells (List.replicate (Int.toNat (if (IntKind.wrap .i64 (x_2 - x1)) < x2 then (IntKind.wrap .i64 (x_2 - x1)) else x2)) (.int .u64 0)) ⟨false, 0⟩]) fun n_6 M_7 =>
                some (.slice (some ⟨(List.length r_1.2), 0, none⟩) (Int.toNat (if (IntKind.wrap .i64 (x_2 - x1)) < x2 then (IntKind.wrap .i64 (x_2 - x1)) else x2)) 1, M_7)))
              else none))
            | none => none)
          else none)))))) := by kernel_rfl
end Go.Proofs.Ytpnknolehckfhaa
