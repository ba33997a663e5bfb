/- What the pieces of some functions come to. -/
import Derived.Test.YtpnknolehckfhaaCode
set_option linter.unusedVariables false
set_option maxRecDepth 100000
namespace Go.Proofs.Ytpnknolehckfhaa
open Go Go.Ax
/-! #### peek.New -/
theorem E11 (L : Rec) (x0_0 : Int) (x0_1 : Int) (x1 : Int) (M : AMem) : enterF L a11 [.agg #[.int .i64 x0_0, .int .i64 x0_1], .int .i64 x1] M =
  (Option.bind (intOf? .i64 (AMem.ld (M ++ [AObj.cells [.int .i64 x0_0, .int .i64 x0_1] ⟨false, 0⟩]) (List.length M) 0)) fun x_1 =>
    (Option.bind (intOf? .i64 (AMem.ld (M ++ [AObj.cells [.int .i64 x0_0, .int .i64 x0_1] ⟨false, 0⟩]) (List.length M) 1)) fun x_2 =>
    (Option.bind (L.call 36 [.agg #[.int .i64 x_1, .int .i64 x_2]] []) fun r_3 =>
    (Option.bind (boolOf? (some r_3.1)) fun q_4 =>
    (if (!q_4) = true
    then some (.pointer none, (M ++ [AObj.cells [.int .i64 x0_0, .int .i64 x0_1] ⟨false, 0⟩]))
    else (if (decide (x1 < 1)) = true
      then some (.pointer none, (M ++ [AObj.cells [.int .i64 x0_0, .int .i64 x0_1] ⟨false, 0⟩]))
      else (if (decide (x1 > 1000)) = true
        then some (.pointer none, (M ++ [AObj.cells [.int .i64 x0_0, .int .i64 x0_1] ⟨false, 0⟩]))
        else (Option.bind (intOf? .i64 (AMem.ld (M ++ [AObj.cells [.int .i64 x0_0, .int .i64 x0_1] ⟨false, 0⟩]) (List.length M) 1)) fun x_5 =>
          (if (0 : Int) ≤ x_5 ∧ x_5 ≤ x_5 ∧ x_5 ≤ 140737488355328 ∧ x_5 * 8 ≤ 140737488355328
          then (Option.bind (intOf? .i64 (AMem.ld ((M ++ [AObj.cells [.int .i64 x0_0, .int .i64 x0_1] ⟨false, 0⟩]) ++ [AObj.cells (List.replicate (Int.toNat x_5) (.int .u64 0)) ⟨false, 0⟩]) (List.length M) 1)) fun x_6 =>
            (if (0 : Int) ≤ x_6 ∧ x_6 ≤ x_6 ∧ x_6 ≤ 140737488355328 ∧ x_6 * 8 ≤ 140737488355328
            then (Option.bind (intOf? .i64 (AMem.ld (((M ++ [AObj.cells [.int .i64 x0_0, .int .i64 x0_1] ⟨false, 0⟩]) ++ [AObj.cells (List.replicate (Int.toNat x_5) (.int .u64 0)) ⟨false, 0⟩]) ++ [AObj.cells (List.replicate (Int.toNat x_6) (.int .u64 0)) ⟨false, 0⟩]) (List.length M) 0)) fun x_7 =>
              (if (0 : Int) ≤ x_7 ∧ x_7 ≤ x_7 ∧ x_7 ≤ 140737488355328 ∧ x_7 * 24 ≤ 140737488355328
              then (Option.bind (intOf? .i64 (AMem.ld ((((M ++ [AObj.cells [.int .i64 x0_0, .int .i64 x0_1] ⟨false, 0⟩]) ++ [AObj.cells (List.replicate (Int.toNat x_5) (.int .u64 0)) ⟨false, 0⟩]) ++ [AObj.cells (List.replicate (Int.toNat x_6) (.int .u64 0)) ⟨false, 0⟩]) ++ [AObj.cells ((List.replicate (Int.toNat x_7) [.int .u64 0, .int .u64 0, .int .u64 0]).flatten) ⟨false, 0⟩]) (List.length M) 0)) fun x_8 =>
                (Option.bind (intOf? .i64 (AMem.ld ((((M ++ [AObj.cells [.int .i64 x0_0, .int .i64 x0_1] ⟨false, 0⟩]) ++ [AObj.cells (List.replicate (Int.toNat x_5) (.int .u64 0)) ⟨false, 0⟩]) ++ [AObj.cells (List.replicate (Int.toNat x_6) (.int .u64 0)) ⟨false, 0⟩]) ++ [AObj.cells ((List.replicate (Int.toNat x_7) [.int .u64 0, .int .u64 0, .int .u64 0]).flatten) ⟨false, 0⟩]) (List.length M) 1)) fun x_9 =>
                (Option.bind (intOf? .i64 (AMem.ld ((((M ++ [AObj.cells [.int .i64 x0_0, .int .i64 x0_1] ⟨false, 0⟩]) ++ [AObj.cells (List.replicate (Int.toNat x_5) (.int .u64 0)) ⟨false, 0⟩]) ++ [AObj.cells (List.replicate (Int.toNat x_6) (.int .u64 0)) ⟨false, 0⟩]) ++ [AObj.cells ((List.replicate (Int.toNat x_7) [.int .u64 0, .int .u64 0, .int .u64 0]).flatten) ⟨false, 0⟩]) (List.length M) 1)) fun x_10 =>
                (if ((0 : Int) ≤ x_10 ∧ x_10 ≤ x_10 ∧ x_10 ≤ 140737488355328 ∧ x_10 * 8 ≤ 140737488355328) ∧ Int.toNat x_10 = (Int.toNat x_5) ∧ 1 = 1
                then (Option.bind (intOf? .i64 (AMem.ld ((((M ++ [AObj.cells [.int .i64 x0_0, .int .i64 x0_1] ⟨false, 0⟩]) ++ [AObj.cells (List.replicate (Int.toNat x_5) (.int .u64 0)) ⟨false, 0⟩]) ++ [AObj.cells (List.replicate (Int.toNat x_6) (.int .u64 0)) ⟨false, 0⟩]) ++ [AObj.cells ((List.replicate (Int.toNat x_7) [.int .u64 0, .int .u64 0, .int .u64 0]).flatten) ⟨false, 0⟩]) (List.length M) 1)) fun x_11 =>
                  (if ((0 : Int) ≤ x_11 ∧ x_11 ≤ x_11 ∧ x_11 ≤ 140737488355328 ∧ x_11 * 8 ≤ 140737488355328) ∧ Int.toNat x_11 = (Int.toNat x_6) ∧ 1 = 1
                  then (Option.bind (intOf? .i64 (AMem.ld ((((M ++ [AObj.cells [.int .i64 x0_0, .int .i64 x0_1] ⟨false, 0⟩]) ++ [AObj.cells (List.replicate (Int.toNat x_5) (.int .u64 0)) ⟨false, 0⟩]) ++ [AObj.cells (List.replicate (Int.toNat x_6) (.int .u64 0)) ⟨false, 0⟩]) ++ [AObj.cells ((List.replicate (Int.toNat x_7) [.int .u64 0, .int .u64 0, .int .u64 0]).flatten) ⟨false, 0⟩]) (List.length M) 0)) fun x_12 =>
                    (if ((0 : Int) ≤ x_12 ∧ x_12 ≤ x_12 ∧ x_12 ≤ 140737488355328 ∧ x_12 * 24 ≤ 140737488355328) ∧ Int.toNat x_12 = (Int.toNat x_7) ∧ 3 = 3
                    then some (.pointer (some ⟨(List.length ((((M ++ [AObj.cells [.int .i64 x0_0, .int .i64 x0_1] ⟨false, 0⟩]) ++ [AObj.cells (List.replicate (Int.toNat x_5) (.int .u64 0)) ⟨false, 0⟩]) ++ [AObj.cells (List.replicate (Int.toNat x_6) (.int .u64 0)) ⟨false, 0⟩]) ++ [AObj.cells ((List.replicate (Int.toNat x_7) [.int .u64 0, .int .u64 0, .int .u64 0]).flatten) ⟨false, 0⟩])), 0, none⟩), (((((M ++ [AObj.cells [.int .i64 x0_0, .int .i64 x0_1] ⟨false, 0⟩]) ++ [AObj.cells (List.replicate (Int.toNat x_5) (.int .u64 0)) ⟨false, 0⟩]) ++ [AObj.cells (List.replicate (Int.toNat x_6) (.int .u64 0)) ⟨false, 0⟩]) ++ [AObj.cells ((List.replicate (Int.toNat x_7) [.int .u64 0, .int .u64 0, .int .u64 0]).flatten) ⟨false, 0⟩]) ++ [AObj.cells [.int .i64 x_8, .int .i64 x_9, .int .i64 x1, .int .i64 0, .int .i64 0, .slice (some ⟨(List.length (M ++ [AObj.cells [.int .i64 x0_0, .int .i64 x0_1] ⟨false, 0⟩])), 0, none⟩) (Int.toNat x_5) 1, .slice (some ⟨(List.length ((M ++ [AObj.cells [.int .i64 x0_0, .int .i64 x0_1] ⟨false, 0⟩]) ++ [AObj.cells (List.replicate (Int.toNat x_5) (.int .u64 0)) ⟨false, 0⟩])), 0, none⟩) (Int.toNat x_6) 1, .slice (some ⟨(List.length (((M ++ [AObj.cells [.int .i64 x0_0, .int .i64 x0_1] ⟨false, 0⟩]) ++ [AObj.cells (List.replicate (Int.toNat x_5) (.int .u64 0)) ⟨false, 0⟩]) ++ [AObj.cells (List.replicate (Int.toNat x_6) (.int .u64 0)) ⟨false, 0⟩])), 0, none⟩) (Int.toNat x_7) 3, .int .i64 0, .bool false] ⟨false, 0⟩]))
                    else none))
                  else none))
                else none))))
              else none))
            else none))
          else none))))))))) := by kernel_rfl
/-! #### peek.Steps -/
theorem E30 (L : Rec) (x0_0 : Int) (x0_1 : Int) : enterF L a30 [.agg #[.int .i64 x0_0, .int .i64 x0_1]] [] =
  (Option.bind (L.call 36 [.agg #[.int .i64 x0_0, .int .i64 x0_1]] []) fun r_1 =>
    (Option.bind (boolOf? (some r_1.1)) fun q_2 =>
    (if (!q_2) = true
    then some (.int .i64 0, ([AObj.cells [.int .i64 x0_0, .int .i64 x0_1] ⟨false, 0⟩] : AMem))
    else some (.int .i64 (IntKind.wrap .i64 ((IntKind.wrap .i64 (2 * x0_1)) + (IntKind.wrap .i64 (3 * x0_0)))), ([AObj.cells [.int .i64 x0_0, .int .i64 x0_1] ⟨false, 0⟩] : AMem))))) := by kernel_rfl
/-! #### peek.Peek.given -/
theorem E40 (L : Rec) (x0 : Option Addr) (M : AMem) : enterF L a40 [.pointer x0] M =
  (if (!(Option.isNone x0)) = true
    then (match x0 with
      | some a_1 => (Option.bind (intOf? .i64 (AMem.ld M a_1.block (a_1.off + 2))) fun x_2 =>
        some (.bool (decide (x_2 > 0)), M))
      | none => none)
    else some (.bool false, M)) := by kernel_rfl
/-! #### peek.Peek.place -/
noncomputable def k42_24 (L : Rec) : KT := retK [.tmp 2, .tmp 3]
def s42_24 (x0 : Option Addr) (x4 : Int) (M : AMem) : List Value := [.pointer x0, junk, junk, junk, .int .i64 x4, junk, junk, junk, junk, junk, junk, junk, junk, junk, junk, junk, junk, junk, junk, junk, junk, junk, junk, junk, junk, junk, junk, junk, junk, junk, junk, junk, junk, junk, junk, junk, junk, junk, junk, junk, junk, junk, junk, junk, junk, junk, junk, junk, junk, junk, junk, junk, junk, junk, junk, junk, junk, junk, junk, junk, junk, junk, junk, junk, junk, junk, junk, junk, junk, junk, junk, junk, junk, junk, junk, junk, junk, junk, junk, junk, junk, junk]
theorem XP42_24 : ∃ P : Rec → (Option Addr) → Int → AMem → Res, P = fun (L : Rec) (x0 : Option Addr) (x4 : Int) (M : AMem) => code L c42_24 (k42_24 L) (s42_24 x0 x4 M) M := ⟨_, rfl⟩
noncomputable def P42_24 : Rec → (Option Addr) → Int → AMem → Res := Classical.choose XP42_24
theorem QP42_24_eq (L : Rec) (P42_24 : Rec → (Option Addr) → Int → AMem → Res) (hP42_24 : Eq P42_24 fun L x0 x4 M => code L (.seq (.draw [] 0 o42_25 []) (.ret)) (retK [.tmp 2, .tmp 3]) (s42_24 x0 x4 M) M) (x0 : Option Addr) (x4 : Int) (M : AMem) : P42_24 L x0 x4 M =
  (match x0 with
    | some a_1 => (Option.bind (intOf? .i64 (AMem.ld M a_1.block a_1.off)) fun x_2 =>
      (Option.bind (intOf? .i64 (AMem.ld M a_1.block (a_1.off + 1))) fun x_3 =>
      (Option.bind (L.call 37 [.agg #[.int .i64 x_2, .int .i64 x_3], .int .i64 x4] []) fun r_4 =>
      (Option.bind (intOf? .i64 (some r_4.1)) fun x_5 =>
      (match x0 with
      | some a_6 => (Option.bind (sliceOf? (AMem.ld M a_6.block (a_6.off + 6))) fun s_7 =>
        (match s_7.1 with
        | some a_8 => (if (0 : Int) ≤ x4 ∧ x4 < (Int.ofNat s_7.2.1)
          then some (.tuple #[.int .i64 x_5, .pointer (some ⟨a_8.block, (a_8.off + ((Int.toNat x4) * 1)), none⟩)], M)
          else none)
        | none => none))
      | none => none)))))
    | none => none) := by
  subst hP42_24; kernel_rfl
theorem P42_24_eq (L : Rec) (x0 : Option Addr) (x4 : Int) (M : AMem) : P42_24 L x0 x4 M =
  (match x0 with
    | some a_1 => (Option.bind (intOf? .i64 (AMem.ld M a_1.block a_1.off)) fun x_2 =>
      (Option.bind (intOf? .i64 (AMem.ld M a_1.block (a_1.off + 1))) fun x_3 =>
      (Option.bind (L.call 37 [.agg #[.int .i64 x_2, .int .i64 x_3], .int .i64 x4] []) fun r_4 =>
      (Option.bind (intOf? .i64 (some r_4.1)) fun x_5 =>
      (match x0 with
      | some a_6 => (Option.bind (sliceOf? (AMem.ld M a_6.block (a_6.off + 6))) fun s_7 =>
        (match s_7.1 with
        | some a_8 => (if (0 : Int) ≤ x4 ∧ x4 < (Int.ofNat s_7.2.1)
          then some (.tuple #[.int .i64 x_5, .pointer (some ⟨a_8.block, (a_8.off + ((Int.toNat x4) * 1)), none⟩)], M)
          else none)
        | none => none))
      | none => none)))))
    | none => none) := QP42_24_eq L P42_24 (Classical.choose_spec XP42_24) x0 x4 M
theorem QE42 (L : Rec) (c42_24 : ACode) (P42_24 : Rec → (Option Addr) → Int → AMem → Res) (hP42_24 : Eq P42_24 fun L x0 x4 M => code L c42_24 (retK [.tmp 2, .tmp 3]) (s42_24 x0 x4 M) M) (x0 : Option Addr) (M : AMem) : enterF L ⟨82, [.tmp 2, .tmp 3], .seq (.ops o42_1) (.seq (.ops o42_3) (.seq (.seq (.ops o42_6) (.cond (.tmp 15) (.seq (.draw [] 0 o42_9 []) (.ret)) (.skip))) (.seq (.ops o42_13) (.seq (.seq (.ops o42_16) (.cond (.tmp 42) (.seq (.draw [] 0 o42_19 []) (.ret)) (.skip))) (.seq (.ops o42_23) (.clear zl62 c42_24))))))⟩ [.pointer x0] M =
  (match x0 with
    | some a_1 => (Option.bind (intOf? .i64 (AMem.ld M a_1.block (a_1.off + 4))) fun x_2 =>
      (match x0 with
      | some a_3 => (Option.bind (intOf? .i64 (AMem.ld M a_3.block (a_3.off + 1))) fun x_4 =>
        (if (decide (x_2 < x_4)) = true
        then (match x0 with
          | some a_5 => (Option.bind (intOf? .i64 (AMem.ld M a_5.block a_5.off)) fun x_6 =>
            (Option.bind (intOf? .i64 (AMem.ld M a_5.block (a_5.off + 1))) fun x_7 =>
            (Option.bind (L.call 57 [.agg #[.int .i64 x_6, .int .i64 x_7], .int .i64 x_2] []) fun r_8 =>
            (Option.bind (intOf? .i64 (some r_8.1)) fun x_9 =>
            (match x0 with
            | some a_10 => (Option.bind (sliceOf? (AMem.ld M a_10.block (a_10.off + 5))) fun s_11 =>
              (match s_11.1 with
              | some a_12 => (if (0 : Int) ≤ x_2 ∧ x_2 < (Int.ofNat s_11.2.1)
                then some (.tuple #[.int .i64 x_9, .pointer (some ⟨a_12.block, (a_12.off + ((Int.toNat x_2) * 1)), none⟩)], M)
                else none)
              | none => none))
            | none => none)))))
          | none => none)
        else (match x0 with
          | some a_13 => (Option.bind (intOf? .i64 (AMem.ld M a_13.block (a_13.off + 1))) fun x_14 =>
            (match x0 with
            | some a_15 => (Option.bind (intOf? .i64 (AMem.ld M a_15.block a_15.off)) fun x_16 =>
              (if (decide ((IntKind.wrap .i64 (x_2 - x_14)) < (IntKind.wrap .i64 (3 * x_16)))) = true
              then (match x0 with
                | some a_17 => (Option.bind (intOf? .i64 (AMem.ld M a_17.block a_17.off)) fun x_18 =>
                  (Option.bind (intOf? .i64 (AMem.ld M a_17.block (a_17.off + 1))) fun x_19 =>
                  (Option.bind (L.call 56 [.agg #[.int .i64 x_18, .int .i64 x_19], .int .i64 (IntKind.wrap .i64 (Int.tdiv (IntKind.wrap .i64 (x_2 - x_14)) 3)), .int .i64 (Int.tmod (IntKind.wrap .i64 (x_2 - x_14)) 3)] []) fun r_20 =>
                  (Option.bind (intOf? .i64 (some r_20.1)) fun x_21 =>
                  (match x0 with
                  | some a_22 => (Option.bind (sliceOf? (AMem.ld M a_22.block (a_22.off + 7))) fun s_23 =>
                    (match s_23.1 with
                    | some a_24 => (if (0 : Int) ≤ (IntKind.wrap .i64 (Int.tdiv (IntKind.wrap .i64 (x_2 - x_14)) 3)) ∧ (IntKind.wrap .i64 (Int.tdiv (IntKind.wrap .i64 (x_2 - x_14)) 3)) < (Int.ofNat s_23.2.1)
                      then (if (0 : Int) ≤ (Int.tmod (IntKind.wrap .i64 (x_2 - x_14)) 3) ∧ (Int.tmod (IntKind.wrap .i64 (x_2 - x_14)) 3) < 3
                        then some (.tuple #[.int .i64 x_21, .pointer (some ⟨a_24.block, ((a_24.off + ((Int.toNat (IntKind.wrap .i64 (Int.tdiv (IntKind.wrap .i64 (x_2 - x_14)) 3))) * 3)) + ((Int.toNat (Int.tmod (IntKind.wrap .i64 (x_2 - x_14)) 3)) * 1)), none⟩)], M)
                        else none)
                      else none)
                    | none => none))
                  | none => none)))))
                | none => none)
              else (match x0 with
                | some a_25 => (Option.bind (intOf? .i64 (AMem.ld M a_25.block a_25.off)) fun x_26 =>
                  P42_24 L x0 (IntKind.wrap .i64 ((IntKind.wrap .i64 (x_2 - x_14)) - (IntKind.wrap .i64 (3 * x_26)))) M)
                | none => none)))
            | none => none))
          | none => none)))
      | none => none))
    | none => none) := by
  subst hP42_24; kernel_rfl
theorem E42 (L : Rec) (x0 : Option Addr) (M : AMem) : enterF L a42 [.pointer x0] M =
  (match x0 with
    | some a_1 => (Option.bind (intOf? .i64 (AMem.ld M a_1.block (a_1.off + 4))) fun x_2 =>
      (match x0 with
      | some a_3 => (Option.bind (intOf? .i64 (AMem.ld M a_3.block (a_3.off + 1))) fun x_4 =>
        (if (decide (x_2 < x_4)) = true
        then (match x0 with
          | some a_5 => (Option.bind (intOf? .i64 (AMem.ld M a_5.block a_5.off)) fun x_6 =>
            (Option.bind (intOf? .i64 (AMem.ld M a_5.block (a_5.off + 1))) fun x_7 =>
            (Option.bind (L.call 57 [.agg #[.int .i64 x_6, .int .i64 x_7], .int .i64 x_2] []) fun r_8 =>
            (Option.bind (intOf? .i64 (some r_8.1)) fun x_9 =>
            (match x0 with
            | some a_10 => (Option.bind (sliceOf? (AMem.ld M a_10.block (a_10.off + 5))) fun s_11 =>
              (match s_11.1 with
              | some a_12 => (if (0 : Int) ≤ x_2 ∧ x_2 < (Int.ofNat s_11.2.1)
                then some (.tuple #[.int .i64 x_9, .pointer (some ⟨a_12.block, (a_12.off + ((Int.toNat x_2) * 1)), none⟩)], M)
                else none)
              | none => none))
            | none => none)))))
          | none => none)
        else (match x0 with
          | some a_13 => (Option.bind (intOf? .i64 (AMem.ld M a_13.block (a_13.off + 1))) fun x_14 =>
            (match x0 with
            | some a_15 => (Option.bind (intOf? .i64 (AMem.ld M a_15.block a_15.off)) fun x_16 =>
              (if (decide ((IntKind.wrap .i64 (x_2 - x_14)) < (IntKind.wrap .i64 (3 * x_16)))) = true
              then (match x0 with
                | some a_17 => (Option.bind (intOf? .i64 (AMem.ld M a_17.block a_17.off)) fun x_18 =>
                  (Option.bind (intOf? .i64 (AMem.ld M a_17.block (a_17.off + 1))) fun x_19 =>
                  (Option.bind (L.call 56 [.agg #[.int .i64 x_18, .int .i64 x_19], .int .i64 (IntKind.wrap .i64 (Int.tdiv (IntKind.wrap .i64 (x_2 - x_14)) 3)), .int .i64 (Int.tmod (IntKind.wrap .i64 (x_2 - x_14)) 3)] []) fun r_20 =>
                  (Option.bind (intOf? .i64 (some r_20.1)) fun x_21 =>
                  (match x0 with
                  | some a_22 => (Option.bind (sliceOf? (AMem.ld M a_22.block (a_22.off + 7))) fun s_23 =>
                    (match s_23.1 with
                    | some a_24 => (if (0 : Int) ≤ (IntKind.wrap .i64 (Int.tdiv (IntKind.wrap .i64 (x_2 - x_14)) 3)) ∧ (IntKind.wrap .i64 (Int.tdiv (IntKind.wrap .i64 (x_2 - x_14)) 3)) < (Int.ofNat s_23.2.1)
                      then (if (0 : Int) ≤ (Int.tmod (IntKind.wrap .i64 (x_2 - x_14)) 3) ∧ (Int.tmod (IntKind.wrap .i64 (x_2 - x_14)) 3) < 3
                        then some (.tuple #[.int .i64 x_21, .pointer (some ⟨a_24.block, ((a_24.off + ((Int.toNat (IntKind.wrap .i64 (Int.tdiv (IntKind.wrap .i64 (x_2 - x_14)) 3))) * 3)) + ((Int.toNat (Int.tmod (IntKind.wrap .i64 (x_2 - x_14)) 3)) * 1)), none⟩)], M)
                        else none)
                      else none)
                    | none => none))
                  | none => none)))))
                | none => none)
              else (match x0 with
                | some a_25 => (Option.bind (intOf? .i64 (AMem.ld M a_25.block a_25.off)) fun x_26 =>
                  P42_24 L x0 (IntKind.wrap .i64 ((IntKind.wrap .i64 (x_2 - x_14)) - (IntKind.wrap .i64 (3 * x_26)))) M)
                | none => none)))
            | none => none))
          | none => none)))
      | none => none))
    | none => none) := QE42 L c42_24 P42_24 (Classical.choose_spec XP42_24) x0 M
/-! #### peek.Peek.Step -/
noncomputable def k17_30 (L : Rec) : KT := seqK (code L (.seq (.seq (.draw [] 0 o17_35 []) (.cond (.tmp 80) (.seq (.ops o17_38) (.seq (.ops o17_40) (.ret))) (.skip))) (.seq (.ops o17_44) (.seq (.block 1000000000 (.skip)) (.clear zl37 c17_48)))) (scopeK 0 (code L (.clear zl37 c17_53) (noK 0 (retK [.tmp 4]))) (retK [.tmp 4]))) (scopeK 0 (code L (.clear zl37 c17_53) (noK 0 (retK [.tmp 4]))) (retK [.tmp 4]))
def s17_30 (x0 : Option Addr) (x71 : Bool) (M : AMem) : List Value := [.pointer x0, junk, junk, junk, junk, junk, junk, junk, junk, junk, junk, junk, junk, junk, junk, junk, junk, junk, junk, junk, junk, junk, junk, junk, junk, junk, junk, junk, junk, junk, junk, junk, junk, junk, junk, junk, junk, junk, junk, junk, junk, junk, junk, junk, junk, junk, junk, junk, junk, junk, junk, junk, junk, junk, junk, junk, junk, junk, junk, junk, junk, junk, junk, junk, junk, junk, junk, junk, junk, junk, junk, .bool x71, junk, junk, junk, junk, junk, junk, junk, junk, junk, junk, junk, junk, junk, junk, junk, junk, junk, junk]
theorem XP17_30 : ∃ P : Rec → (Option Addr) → Bool → AMem → Res, P = fun (L : Rec) (x0 : Option Addr) (x71 : Bool) (M : AMem) => code L c17_30 (k17_30 L) (s17_30 x0 x71 M) M := ⟨_, rfl⟩
noncomputable def P17_30 : Rec → (Option Addr) → Bool → AMem → Res := Classical.choose XP17_30
noncomputable def k17_53 (L : Rec) : KT := noK 0 (retK [.tmp 4])
def s17_53 (x0 : Option Addr) (M : AMem) : List Value := [.pointer x0, junk, junk, junk, junk, junk, junk, junk, junk, junk, junk, junk, junk, junk, junk, junk, junk, junk, junk, junk, junk, junk, junk, junk, junk, junk, junk, junk, junk, junk, junk, junk, junk, junk, junk, junk, junk, junk, junk, junk, junk, junk, junk, junk, junk, junk, junk, junk, junk, junk, junk, junk, junk, junk, junk, junk, junk, junk, junk, junk, junk, junk, junk, junk, junk, junk, junk, junk, junk, junk, junk, junk, junk, junk, junk, junk, junk, junk, junk, junk, junk, junk, junk, junk, junk, junk, junk, junk, junk, junk]
theorem XP17_53 : ∃ P : Rec → (Option Addr) → AMem → Res, P = fun (L : Rec) (x0 : Option Addr) (M : AMem) => code L c17_53 (k17_53 L) (s17_53 x0 M) M := ⟨_, rfl⟩
noncomputable def P17_53 : Rec → (Option Addr) → AMem → Res := Classical.choose XP17_53
noncomputable def k17_48 (L : Rec) : KT := scopeK 0 (code L (.clear zl37 c17_53) (noK 0 (retK [.tmp 4]))) (retK [.tmp 4])
def s17_48 (x0 : Option Addr) (M : AMem) : List Value := [.pointer x0, junk, junk, junk, junk, junk, junk, junk, junk, junk, junk, junk, junk, junk, junk, junk, junk, junk, junk, junk, junk, junk, junk, junk, junk, junk, junk, junk, junk, junk, junk, junk, junk, junk, junk, junk, junk, junk, junk, junk, junk, junk, junk, junk, junk, junk, junk, junk, junk, junk, junk, junk, junk, junk, junk, junk, junk, junk, junk, junk, junk, junk, junk, junk, junk, junk, junk, junk, junk, junk, junk, junk, junk, junk, junk, junk, junk, junk, junk, junk, junk, junk, junk, junk, junk, junk, junk, junk, junk, junk]
theorem XP17_48 : ∃ P : Rec → (Option Addr) → AMem → Res, P = fun (L : Rec) (x0 : Option Addr) (M : AMem) => code L c17_48 (k17_48 L) (s17_48 x0 M) M := ⟨_, rfl⟩
noncomputable def P17_48 : Rec → (Option Addr) → AMem → Res := Classical.choose XP17_48
theorem QP17_30_eq (L : Rec) (c17_48 c17_53 : ACode) (P17_30 : Rec → (Option Addr) → Bool → AMem → Res) (hP17_30 : Eq P17_30 fun L x0 x71 M => code L (.cond (.tmp 71) (.exit 1000000000) (.skip)) (seqK (code L (.seq (.seq (.draw [] 0 o17_35 []) (.cond (.tmp 80) (.seq (.ops o17_38) (.seq (.ops o17_40) (.ret))) (.skip))) (.seq (.ops o17_44) (.seq (.block 1000000000 (.skip)) (.clear zl37 c17_48)))) (scopeK 0 (code L (.clear zl37 c17_53) (noK 0 (retK [.tmp 4]))) (retK [.tmp 4]))) (scopeK 0 (code L (.clear zl37 c17_53) (noK 0 (retK [.tmp 4]))) (retK [.tmp 4]))) (s17_30 x0 x71 M) M) (P17_53 : Rec → (Option Addr) → AMem → Res) (hP17_53 : Eq P17_53 fun L x0 M => code L c17_53 (noK 0 (retK [.tmp 4])) (s17_53 x0 M) M) (P17_48 : Rec → (Option Addr) → AMem → Res) (hP17_48 : Eq P17_48 fun L x0 M => code L c17_48 (scopeK 0 (code L (.clear zl37 c17_53) (noK 0 (retK [.tmp 4]))) (retK [.tmp 4])) (s17_48 x0 M) M) (x0 : Option Addr) (x71 : Bool) (M : AMem) : P17_30 L x0 x71 M =
  (if x71 = true
    then P17_53 L x0 M
    else (match x0 with
      | some a_1 => (Option.bind (intOf? .i64 (AMem.ld M a_1.block (a_1.off + 3))) fun x_2 =>
        (match x0 with
        | some a_3 => (Option.bind (intOf? .i64 (AMem.ld M a_3.block (a_3.off + 2))) fun x_4 =>
          (if (decide (x_2 < x_4)) = true
          then (match x0 with
            | some a_5 => (Option.bind (AMem.wr M a_5.block (a_5.off + 4) [.int .i64 0]) fun M_6 =>
              some (.bool true, M_6))
            | none => none)
          else (match x0 with
            | some a_7 => (Option.bind (AMem.wr M a_7.block (a_7.off + 8) [.int .i64 12]) fun M_8 =>
              P17_48 L x0 M_8)
            | none => none)))
        | none => none))
      | none => none)) := by
  subst hP17_30; subst hP17_53; subst hP17_48; kernel_rfl
theorem P17_30_eq (L : Rec) (x0 : Option Addr) (x71 : Bool) (M : AMem) : P17_30 L x0 x71 M =
  (if x71 = true
    then P17_53 L x0 M
    else (match x0 with
      | some a_1 => (Option.bind (intOf? .i64 (AMem.ld M a_1.block (a_1.off + 3))) fun x_2 =>
        (match x0 with
        | some a_3 => (Option.bind (intOf? .i64 (AMem.ld M a_3.block (a_3.off + 2))) fun x_4 =>
          (if (decide (x_2 < x_4)) = true
          then (match x0 with
            | some a_5 => (Option.bind (AMem.wr M a_5.block (a_5.off + 4) [.int .i64 0]) fun M_6 =>
              some (.bool true, M_6))
            | none => none)
          else (match x0 with
            | some a_7 => (Option.bind (AMem.wr M a_7.block (a_7.off + 8) [.int .i64 12]) fun M_8 =>
              P17_48 L x0 M_8)
            | none => none)))
        | none => none))
      | none => none)) := QP17_30_eq L c17_48 c17_53 P17_30 (Classical.choose_spec XP17_30) P17_53 (Classical.choose_spec XP17_53) P17_48 (Classical.choose_spec XP17_48) x0 x71 M
theorem QP17_53_eq (L : Rec) (P17_53 : Rec → (Option Addr) → AMem → Res) (hP17_53 : Eq P17_53 fun L x0 M => code L (.seq (.skip) (.seq (.ops o17_56) (.seq (.ops o17_58) (.ret)))) (noK 0 (retK [.tmp 4])) (s17_53 x0 M) M) (x0 : Option Addr) (M : AMem) : P17_53 L x0 M =
  (match x0 with
    | some a_1 => (Option.bind (AMem.wr M a_1.block (a_1.off + 9) [.bool true]) fun M_2 =>
      some (.bool true, M_2))
    | none => none) := by
  subst hP17_53; kernel_rfl
theorem P17_53_eq (L : Rec) (x0 : Option Addr) (M : AMem) : P17_53 L x0 M =
  (match x0 with
    | some a_1 => (Option.bind (AMem.wr M a_1.block (a_1.off + 9) [.bool true]) fun M_2 =>
      some (.bool true, M_2))
    | none => none) := QP17_53_eq L P17_53 (Classical.choose_spec XP17_53) x0 M
theorem QP17_48_eq (L : Rec) (c17_53 : ACode) (P17_48 : Rec → (Option Addr) → AMem → Res) (hP17_48 : Eq P17_48 fun L x0 M => code L (.seq (.ops o17_49) (.seq (.ops o17_51) (.ret))) (scopeK 0 (code L (.clear zl37 c17_53) (noK 0 (retK [.tmp 4]))) (retK [.tmp 4])) (s17_48 x0 M) M) (x0 : Option Addr) (M : AMem) : P17_48 L x0 M =
  (match x0 with
    | some a_1 => (Option.bind (AMem.wr M a_1.block (a_1.off + 9) [.bool true]) fun M_2 =>
      some (.bool true, M_2))
    | none => none) := by
  subst hP17_48; kernel_rfl
theorem P17_48_eq (L : Rec) (x0 : Option Addr) (M : AMem) : P17_48 L x0 M =
  (match x0 with
    | some a_1 => (Option.bind (AMem.wr M a_1.block (a_1.off + 9) [.bool true]) fun M_2 =>
      some (.bool true, M_2))
    | none => none) := QP17_48_eq L c17_53 P17_48 (Classical.choose_spec XP17_48) x0 M
theorem QE17 (L : Rec) (c17_30 c17_48 c17_53 : ACode) (P17_30 : Rec → (Option Addr) → Bool → AMem → Res) (hP17_30 : Eq P17_30 fun L x0 x71 M => code L c17_30 (seqK (code L (.seq (.seq (.draw [] 0 o17_35 []) (.cond (.tmp 80) (.seq (.ops o17_38) (.seq (.ops o17_40) (.ret))) (.skip))) (.seq (.ops o17_44) (.seq (.block 1000000000 (.skip)) (.clear zl37 c17_48)))) (scopeK 0 (code L (.clear zl37 c17_53) (noK 0 (retK [.tmp 4]))) (retK [.tmp 4]))) (scopeK 0 (code L (.clear zl37 c17_53) (noK 0 (retK [.tmp 4]))) (retK [.tmp 4]))) (s17_30 x0 x71 M) M) (x0 : Option Addr) (x1 : Option Addr) (M : AMem) : enterF L ⟨90, [.tmp 4], .seq (.ops o17_1) (.scope 0 (.seq (.seq (.draw [] 0 o17_5 [(15, 11)]) (.cond (.tmp 25) (.seq (.ops o17_8) (.ret)) (.skip))) (.seq (.ops o17_12) (.seq (.ops o17_14) (.seq (.seq (.ops o17_17) (.seq (.draw [] 0 o17_19 []) (.cond (.tmp 55) (.seq (.ops o17_22) (.ret)) (.skip)))) (.seq (.ops o17_26) (.seq (.seq (.draw [] 0 o17_29 []) (.clear zl36 c17_30)) (.seq (.seq (.draw [] 0 o17_35 []) (.cond (.tmp 80) (.seq (.ops o17_38) (.seq (.ops o17_40) (.ret))) (.skip))) (.seq (.ops o17_44) (.seq (.block 1000000000 (.skip)) (.clear zl37 c17_48)))))))))) (.clear zl37 c17_53))⟩ [.pointer x0, .pointer x1] M =
  (Option.bind (L.call 40 [.pointer x0] M) fun r_1 =>
    (Option.bind (boolOf? (some r_1.1)) fun q_2 =>
    (if (!q_2) = true
    then some (.bool false, r_1.2)
    else (match x0 with
      | some a_3 => (Option.bind (boolOf? (AMem.ld r_1.2 a_3.block (a_3.off + 9))) fun q_4 =>
        (if q_4 = true
        then some (.bool false, r_1.2)
        else (Option.bind (L.call 41 [.pointer x1] r_1.2) fun r_5 =>
          (Option.bind (intOf? .i64 (some r_5.1)) fun x_6 =>
          (match x0 with
          | some a_7 => (Option.bind (intOf? .i64 (AMem.ld r_5.2 a_7.block a_7.off)) fun x_8 =>
            (Option.bind (intOf? .i64 (AMem.ld r_5.2 a_7.block (a_7.off + 1))) fun x_9 =>
            (Option.bind (L.call 35 [.agg #[.int .i64 x_8, .int .i64 x_9]] []) fun r_10 =>
            (Option.bind (intOf? .i64 (some r_10.1)) fun x_11 =>
            (if chkOk [(15, 11)] [(15, a_7.block)] [(11, (r_1.2, r_5.2))] = true
            then (if (x_6 != x_11) = true
              then some (.bool false, r_5.2)
              else (Option.bind (L.call 42 [.pointer x0] r_5.2) fun r_12 =>
                (Option.bind (tupOf? 2 r_12.1) fun cs_13 =>
                (Option.bind (cs_13[0]?) fun u_14 =>
                (Option.bind (intOf? .i64 (some u_14)) fun x_15 =>
                (Option.bind (cs_13[1]?) fun u_16 =>
                (Option.bind (ptrOf? (some u_16)) fun p_17 =>
                (Option.bind (L.call 43 [.pointer x1, .int .i64 x_15] r_12.2) fun r_18 =>
                (Option.bind (tupOf? 2 r_18.1) fun cs_19 =>
                (Option.bind (cs_19[0]?) fun u_20 =>
                (Option.bind (intOf? .u64 (some u_20)) fun x_21 =>
                (Option.bind (cs_19[1]?) fun u_22 =>
                (Option.bind (boolOf? (some u_22)) fun q_23 =>
                (match p_17 with
                | some a_24 => (Option.bind (AMem.wr r_18.2 a_24.block a_24.off [.int .u64 x_21]) fun M_25 =>
                  (match x0 with
                  | some a_26 => (Option.bind (intOf? .i64 (AMem.ld M_25 a_26.block (a_26.off + 4))) fun x_27 =>
                    (match x0 with
                    | some a_28 => (Option.bind (AMem.wr M_25 a_28.block (a_28.off + 4) [.int .i64 (IntKind.wrap .i64 (x_27 + 1))]) fun M_29 =>
                      (match x0 with
                      | some a_30 => (Option.bind (intOf? .i64 (AMem.ld M_29 a_30.block (a_30.off + 4))) fun x_31 =>
                        (match x0 with
                        | some a_32 => (Option.bind (intOf? .i64 (AMem.ld M_29 a_32.block a_32.off)) fun x_33 =>
                          (Option.bind (intOf? .i64 (AMem.ld M_29 a_32.block (a_32.off + 1))) fun x_34 =>
                          (Option.bind (L.call 30 [.agg #[.int .i64 x_33, .int .i64 x_34]] []) fun r_35 =>
                          (Option.bind (intOf? .i64 (some r_35.1)) fun x_36 =>
                          (if (decide (x_31 < x_36)) = true
                          then some (.bool true, M_29)
                          else (match x0 with
                            | some a_37 => (Option.bind (intOf? .i64 (AMem.ld M_29 a_37.block (a_37.off + 3))) fun x_38 =>
                              (match x0 with
                              | some a_39 => (Option.bind (AMem.wr M_29 a_39.block (a_39.off + 3) [.int .i64 (IntKind.wrap .i64 (x_38 + 1))]) fun M_40 =>
                                (match x0 with
                                | some a_41 => (Option.bind (sliceOf? (AMem.ld M_40 a_41.block (a_41.off + 5))) fun s_42 =>
                                  (match x0 with
                                  | some a_43 => (Option.bind (sliceOf? (AMem.ld M_40 a_43.block (a_43.off + 6))) fun s_44 =>
                                    (Option.bind (L.call 44 [.slice s_42.1 s_42.2.1 s_42.2.2, .slice s_44.1 s_44.2.1 s_44.2.2] M_40) fun r_45 =>
                                    (Option.bind (boolOf? (some r_45.1)) fun q_46 =>
                                    P17_30 L x0 q_46 r_45.2)))
                                  | none => none))
                                | none => none))
                              | none => none))
                            | none => none))))))
                        | none => none))
                      | none => none))
                    | none => none))
                  | none => none))
                | none => none))))))))))))))
            else none)))))
          | none => none)))))
      | none => none)))) := by
  subst hP17_30; kernel_rfl
theorem E17 (L : Rec) (x0 : Option Addr) (x1 : Option Addr) (M : AMem) : enterF L a17 [.pointer x0, .pointer x1] M =
  (Option.bind (L.call 40 [.pointer x0] M) fun r_1 =>
    (Option.bind (boolOf? (some r_1.1)) fun q_2 =>
    (if (!q_2) = true
    then some (.bool false, r_1.2)
    else (match x0 with
      | some a_3 => (Option.bind (boolOf? (AMem.ld r_1.2 a_3.block (a_3.off + 9))) fun q_4 =>
        (if q_4 = true
        then some (.bool false, r_1.2)
        else (Option.bind (L.call 41 [.pointer x1] r_1.2) fun r_5 =>
          (Option.bind (intOf? .i64 (some r_5.1)) fun x_6 =>
          (match x0 with
          | some a_7 => (Option.bind (intOf? .i64 (AMem.ld r_5.2 a_7.block a_7.off)) fun x_8 =>
            (Option.bind (intOf? .i64 (AMem.ld r_5.2 a_7.block (a_7.off + 1))) fun x_9 =>
            (Option.bind (L.call 35 [.agg #[.int .i64 x_8, .int .i64 x_9]] []) fun r_10 =>
            (Option.bind (intOf? .i64 (some r_10.1)) fun x_11 =>
            (if chkOk [(15, 11)] [(15, a_7.block)] [(11, (r_1.2, r_5.2))] = true
            then (if (x_6 != x_11) = true
              then some (.bool false, r_5.2)
              else (Option.bind (L.call 42 [.pointer x0] r_5.2) fun r_12 =>
                (Option.bind (tupOf? 2 r_12.1) fun cs_13 =>
                (Option.bind (cs_13[0]?) fun u_14 =>
                (Option.bind (intOf? .i64 (some u_14)) fun x_15 =>
                (Option.bind (cs_13[1]?) fun u_16 =>
                (Option.bind (ptrOf? (some u_16)) fun p_17 =>
                (Option.bind (L.call 43 [.pointer x1, .int .i64 x_15] r_12.2) fun r_18 =>
                (Option.bind (tupOf? 2 r_18.1) fun cs_19 =>
                (Option.bind (cs_19[0]?) fun u_20 =>
                (Option.bind (intOf? .u64 (some u_20)) fun x_21 =>
                (Option.bind (cs_19[1]?) fun u_22 =>
                (Option.bind (boolOf? (some u_22)) fun q_23 =>
                (match p_17 with
                | some a_24 => (Option.bind (AMem.wr r_18.2 a_24.block a_24.off [.int .u64 x_21]) fun M_25 =>
                  (match x0 with
                  | some a_26 => (Option.bind (intOf? .i64 (AMem.ld M_25 a_26.block (a_26.off + 4))) fun x_27 =>
                    (match x0 with
                    | some a_28 => (Option.bind (AMem.wr M_25 a_28.block (a_28.off + 4) [.int .i64 (IntKind.wrap .i64 (x_27 + 1))]) fun M_29 =>
                      (match x0 with
                      | some a_30 => (Option.bind (intOf? .i64 (AMem.ld M_29 a_30.block (a_30.off + 4))) fun x_31 =>
                        (match x0 with
                        | some a_32 => (Option.bind (intOf? .i64 (AMem.ld M_29 a_32.block a_32.off)) fun x_33 =>
                          (Option.bind (intOf? .i64 (AMem.ld M_29 a_32.block (a_32.off + 1))) fun x_34 =>
                          (Option.bind (L.call 30 [.agg #[.int .i64 x_33, .int .i64 x_34]] []) fun r_35 =>
                          (Option.bind (intOf? .i64 (some r_35.1)) fun x_36 =>
                          (if (decide (x_31 < x_36)) = true
                          then some (.bool true, M_29)
                          else (match x0 with
                            | some a_37 => (Option.bind (intOf? .i64 (AMem.ld M_29 a_37.block (a_37.off + 3))) fun x_38 =>
                              (match x0 with
                              | some a_39 => (Option.bind (AMem.wr M_29 a_39.block (a_39.off + 3) [.int .i64 (IntKind.wrap .i64 (x_38 + 1))]) fun M_40 =>
                                (match x0 with
                                | some a_41 => (Option.bind (sliceOf? (AMem.ld M_40 a_41.block (a_41.off + 5))) fun s_42 =>
                                  (match x0 with
                                  | some a_43 => (Option.bind (sliceOf? (AMem.ld M_40 a_43.block (a_43.off + 6))) fun s_44 =>
                                    (Option.bind (L.call 44 [.slice s_42.1 s_42.2.1 s_42.2.2, .slice s_44.1 s_44.2.1 s_44.2.2] M_40) fun r_45 =>
                                    (Option.bind (boolOf? (some r_45.1)) fun q_46 =>
                                    P17_30 L x0 q_46 r_45.2)))
                                  | none => none))
                                | none => none))
                              | none => none))
                            | none => none))))))
                        | none => none))
                      | none => none))
                    | none => none))
                  | none => none))
                | none => none))))))))))))))
            else none)))))
          | none => none)))))
      | none => none)))) := QE17 L c17_30 c17_48 c17_53 P17_30 (Classical.choose_spec XP17_30) x0 x1 M
/-! #### peek.Peek.Done -/
theorem E15 (L : Rec) (x0 : Option Addr) (M : AMem) : enterF L a15 [.pointer x0] M =
  (Option.bind (L.call 40 [.pointer x0] M) fun r_1 =>
    (Option.bind (boolOf? (some r_1.1)) fun q_2 =>
    (if q_2 = true
    then (match x0 with
      | some a_3 => (Option.bind (boolOf? (AMem.ld r_1.2 a_3.block (a_3.off + 9))) fun q_4 =>
        some (.bool q_4, r_1.2))
      | none => none)
    else some (.bool false, r_1.2)))) := by kernel_rfl
/-! #### peek.Peek.Tries -/
theorem E21 (L : Rec) (x0 : Option Addr) (M : AMem) : enterF L a21 [.pointer x0] M =
  (if (Option.isNone x0) = true
    then some (.int .i64 0, M)
    else (match x0 with
      | some a_1 => (Option.bind (intOf? .i64 (AMem.ld M a_1.block (a_1.off + 3))) fun x_2 =>
        some (.int .i64 x_2, M))
      | none => none)) := by kernel_rfl
/-! #### peek.Peek.Film -/
noncomputable def k20_17 (L : Rec) : KT := retK [.tmp 2, .tmp 3]
def s20_17 (x0 : Option Addr) (M : AMem) : List Value := [.pointer x0, junk, junk, junk, junk, junk, junk, junk, junk, junk, junk, junk, junk, junk, junk, junk, junk, junk, junk, junk, junk, junk, junk]
theorem XP20_17 : ∃ P : Rec → (Option Addr) → AMem → Res, P = fun (L : Rec) (x0 : Option Addr) (M : AMem) => code L c20_17 (k20_17 L) (s20_17 x0 M) M := ⟨_, rfl⟩
noncomputable def P20_17 : Rec → (Option Addr) → AMem → Res := Classical.choose XP20_17
theorem QP20_17_eq (L : Rec) (P20_17 : Rec → (Option Addr) → AMem → Res) (hP20_17 : Eq P20_17 fun L x0 M => code L (.seq (.ops o20_18) (.ret)) (retK [.tmp 2, .tmp 3]) (s20_17 x0 M) M) (x0 : Option Addr) (M : AMem) : P20_17 L x0 M =
  (match x0 with
    | some a_1 => (Option.bind (sliceOf? (AMem.ld M a_1.block (a_1.off + 7))) fun s_2 =>
      (Option.bind (L.call 47 [.slice s_2.1 s_2.2.1 s_2.2.2] M) fun r_3 =>
      (Option.bind (sliceOf? (some r_3.1)) fun s_4 =>
      some (.tuple #[.slice s_4.1 s_4.2.1 s_4.2.2, .int .i64 0], r_3.2))))
    | none => none) := by
  subst hP20_17; kernel_rfl
theorem P20_17_eq (L : Rec) (x0 : Option Addr) (M : AMem) : P20_17 L x0 M =
  (match x0 with
    | some a_1 => (Option.bind (sliceOf? (AMem.ld M a_1.block (a_1.off + 7))) fun s_2 =>
      (Option.bind (L.call 47 [.slice s_2.1 s_2.2.1 s_2.2.2] M) fun r_3 =>
      (Option.bind (sliceOf? (some r_3.1)) fun s_4 =>
      some (.tuple #[.slice s_4.1 s_4.2.1 s_4.2.2, .int .i64 0], r_3.2))))
    | none => none) := QP20_17_eq L P20_17 (Classical.choose_spec XP20_17) x0 M
theorem QE20 (L : Rec) (c20_17 : ACode) (P20_17 : Rec → (Option Addr) → AMem → Res) (hP20_17 : Eq P20_17 fun L x0 M => code L c20_17 (retK [.tmp 2, .tmp 3]) (s20_17 x0 M) M) (x0 : Option Addr) (M : AMem) : enterF L ⟨23, [.tmp 2, .tmp 3], .seq (.ops o20_1) (.seq (.block 0 (.seq (.ops o20_5) (.cond (.tmp 4) (.seq (.ops o20_8) (.ret)) (.seq (.ops o20_11) (.cond (.tmp 8) (.seq (.draw [] 0 o20_14 []) (.ret)) (.skip)))))) (.clear zl41 c20_17))⟩ [.pointer x0] M =
  (Option.bind (L.call 15 [.pointer x0] M) fun r_1 =>
    (Option.bind (boolOf? (some r_1.1)) fun q_2 =>
    (if (!q_2) = true
    then some (.tuple #[.slice none 0 0, .int .i64 13], r_1.2)
    else (match x0 with
      | some a_3 => (Option.bind (intOf? .i64 (AMem.ld r_1.2 a_3.block (a_3.off + 8))) fun x_4 =>
        (if (x_4 != 0) = true
        then (match x0 with
          | some a_5 => (Option.bind (intOf? .i64 (AMem.ld r_1.2 a_5.block (a_5.off + 8))) fun x_6 =>
            some (.tuple #[.slice none 0 0, .int .i64 x_6], r_1.2))
          | none => none)
        else P20_17 L x0 r_1.2))
      | none => none)))) := by
  subst hP20_17; kernel_rfl
theorem E20 (L : Rec) (x0 : Option Addr) (M : AMem) : enterF L a20 [.pointer x0] M =
  (Option.bind (L.call 15 [.pointer x0] M) fun r_1 =>
    (Option.bind (boolOf? (some r_1.1)) fun q_2 =>
    (if (!q_2) = true
    then some (.tuple #[.slice none 0 0, .int .i64 13], r_1.2)
    else (match x0 with
      | some a_3 => (Option.bind (intOf? .i64 (AMem.ld r_1.2 a_3.block (a_3.off + 8))) fun x_4 =>
        (if (x_4 != 0) = true
        then (match x0 with
          | some a_5 => (Option.bind (intOf? .i64 (AMem.ld r_1.2 a_5.block (a_5.off + 8))) fun x_6 =>
            some (.tuple #[.slice none 0 0, .int .i64 x_6], r_1.2))
          | none => none)
        else P20_17 L x0 r_1.2))
      | none => none)))) := QE20 L c20_17 P20_17 (Classical.choose_spec XP20_17) x0 M
/-! #### slices.Equal[[]uint64,uint64] -/
noncomputable def k44_14 (L : Rec) : KT := blockK 0 (seqK (code L (.clear zl59 c44_33) (retK [.tmp 4])) (retK [.tmp 4]))
def s44_14 (x0 : Option Addr) (x0n : Nat) (x0c : Nat) (x1 : Option Addr) (x1n : Nat) (x1c : Nat) (x12 : Int) (x13 : Int) (M : AMem) : List Value := [.slice x0 x0n x0c, .slice x1 x1n x1c, junk, junk, junk, junk, junk, junk, junk, junk, junk, junk, .int .i64 x12, .int .i64 x13, junk, junk, junk, junk, junk, junk, junk, junk, junk, junk, junk, junk]
theorem XP44_14 : ∃ P : Rec → (Option Addr) → Nat → Nat → (Option Addr) → Nat → Nat → Int → Int → AMem → Res, P = fun (L : Rec) (x0 : Option Addr) (x0n : Nat) (x0c : Nat) (x1 : Option Addr) (x1n : Nat) (x1c : Nat) (x12 : Int) (x13 : Int) (M : AMem) => L.loop b44_14 (k44_14 L) (s44_14 x0 x0n x0c x1 x1n x1c x12 x13 M) M := ⟨_, rfl⟩
noncomputable def P44_14 : Rec → (Option Addr) → Nat → Nat → (Option Addr) → Nat → Nat → Int → Int → AMem → Res := Classical.choose XP44_14
noncomputable def k44_32 (L : Rec) : KT := postK zl63 (loopK L b44_14 (blockK 0 (seqK (code L (.clear zl59 c44_33) (retK [.tmp 4])) (retK [.tmp 4]))))
def s44_32 (x0 : Option Addr) (x0n : Nat) (x0c : Nat) (x1 : Option Addr) (x1n : Nat) (x1c : Nat) (x12 : Int) (x13 : Int) (M : AMem) : List Value := [.slice x0 x0n x0c, .slice x1 x1n x1c, junk, junk, junk, junk, junk, junk, junk, junk, junk, junk, .int .i64 x12, .int .i64 x13, junk, junk, junk, junk, junk, junk, junk, junk, junk, junk, junk, junk]
theorem XP44_32 : ∃ P : Rec → (Option Addr) → Nat → Nat → (Option Addr) → Nat → Nat → Int → Int → AMem → Res, P = fun (L : Rec) (x0 : Option Addr) (x0n : Nat) (x0c : Nat) (x1 : Option Addr) (x1n : Nat) (x1c : Nat) (x12 : Int) (x13 : Int) (M : AMem) => code L c44_32 (k44_32 L) (s44_32 x0 x0n x0c x1 x1n x1c x12 x13 M) M := ⟨_, rfl⟩
noncomputable def P44_32 : Rec → (Option Addr) → Nat → Nat → (Option Addr) → Nat → Nat → Int → Int → AMem → Res := Classical.choose XP44_32
noncomputable def k44_33 (L : Rec) : KT := retK [.tmp 4]
def s44_33 (M : AMem) : List Value := [junk, junk, junk, junk, junk, junk, junk, junk, junk, junk, junk, junk, junk, junk, junk, junk, junk, junk, junk, junk, junk, junk, junk, junk, junk, junk]
theorem XP44_33 : ∃ P : Rec → AMem → Res, P = fun (L : Rec) (M : AMem) => code L c44_33 (k44_33 L) (s44_33 M) M := ⟨_, rfl⟩
noncomputable def P44_33 : Rec → AMem → Res := Classical.choose XP44_33
theorem QP44_14_eq (L : Rec) (b44_14 c44_32 c44_33 : ACode) (hb : ∀ K t A, L.loop b44_14 K t A = code L (.post (.seq (.ops o44_16) (.seq (.cond (.tmp 14) (.skip) (.exit 0)) (.seq (.block 1 (.seq (.ops o44_24) (.seq (.draw [] 0 o44_26 []) (.cond (.tmp 24) (.seq (.ops o44_29) (.ret)) (.skip))))) (.clear zl63 c44_32)))) zl63) (loopK L b44_14 K) t A) (P44_14 : Rec → (Option Addr) → Nat → Nat → (Option Addr) → Nat → Nat → Int → Int → AMem → Res) (hP44_14 : Eq P44_14 fun L x0 x0n x0c x1 x1n x1c x12 x13 M => L.loop b44_14 (blockK 0 (seqK (code L (.clear zl59 c44_33) (retK [.tmp 4])) (retK [.tmp 4]))) (s44_14 x0 x0n x0c x1 x1n x1c x12 x13 M) M) (P44_32 : Rec → (Option Addr) → Nat → Nat → (Option Addr) → Nat → Nat → Int → Int → AMem → Res) (hP44_32 : Eq P44_32 fun L x0 x0n x0c x1 x1n x1c x12 x13 M => code L c44_32 (postK zl63 (loopK L b44_14 (blockK 0 (seqK (code L (.clear zl59 c44_33) (retK [.tmp 4])) (retK [.tmp 4]))))) (s44_32 x0 x0n x0c x1 x1n x1c x12 x13 M) M) (P44_33 : Rec → AMem → Res) (hP44_33 : Eq P44_33 fun L M => code L c44_33 (retK [.tmp 4]) (s44_33 M) M) (x0 : Option Addr) (x0n : Nat) (x0c : Nat) (x1 : Option Addr) (x1n : Nat) (x1c : Nat) (x12 : Int) (x13 : Int) (M : AMem) : P44_14 L x0 x0n x0c x1 x1n x1c x12 x13 M =
  (if (decide (x13 < x12)) = true
    then (match x0 with
      | some a_1 => (if (0 : Int) ≤ x13 ∧ x13 < (Int.ofNat x0n)
        then (Option.bind (intOf? .u64 (AMem.ld M a_1.block (a_1.off + ((Int.toNat x13) * 1)))) fun x_2 =>
          (match x1 with
          | some a_3 => (if (0 : Int) ≤ x13 ∧ x13 < (Int.ofNat x1n)
            then (Option.bind (intOf? .u64 (AMem.ld M a_3.block (a_3.off + ((Int.toNat x13) * 1)))) fun x_4 =>
              (if (x_2 != x_4) = true
              then some (.bool false, M)
              else P44_32 L x0 x0n x0c x1 x1n x1c x12 x13 M))
            else none)
          | none => none))
        else none)
      | none => none)
    else P44_33 L M) := by
  subst hP44_14; subst hP44_32; subst hP44_33; exact (hb (blockK 0 (seqK (code L (.clear zl59 c44_33) (retK [.tmp 4])) (retK [.tmp 4]))) (s44_14 x0 x0n x0c x1 x1n x1c x12 x13 M) M).trans (by kernel_rfl)
theorem P44_14_eq (L : Rec) (hL : ∀ b K t A, L.loop b K t A = code L b (loopK L b K) t A) (x0 : Option Addr) (x0n : Nat) (x0c : Nat) (x1 : Option Addr) (x1n : Nat) (x1c : Nat) (x12 : Int) (x13 : Int) (M : AMem) : P44_14 L x0 x0n x0c x1 x1n x1c x12 x13 M =
  (if (decide (x13 < x12)) = true
    then (match x0 with
      | some a_1 => (if (0 : Int) ≤ x13 ∧ x13 < (Int.ofNat x0n)
        then (Option.bind (intOf? .u64 (AMem.ld M a_1.block (a_1.off + ((Int.toNat x13) * 1)))) fun x_2 =>
          (match x1 with
          | some a_3 => (if (0 : Int) ≤ x13 ∧ x13 < (Int.ofNat x1n)
            then (Option.bind (intOf? .u64 (AMem.ld M a_3.block (a_3.off + ((Int.toNat x13) * 1)))) fun x_4 =>
              (if (x_2 != x_4) = true
              then some (.bool false, M)
              else P44_32 L x0 x0n x0c x1 x1n x1c x12 x13 M))
            else none)
          | none => none))
        else none)
      | none => none)
    else P44_33 L M) := QP44_14_eq L b44_14 c44_32 c44_33 (hL b44_14) P44_14 (Classical.choose_spec XP44_14) P44_32 (Classical.choose_spec XP44_32) P44_33 (Classical.choose_spec XP44_33) x0 x0n x0c x1 x1n x1c x12 x13 M
theorem QP44_32_eq (L : Rec) (b44_14 c44_33 : ACode) (P44_14 : Rec → (Option Addr) → Nat → Nat → (Option Addr) → Nat → Nat → Int → Int → AMem → Res) (hP44_14 : Eq P44_14 fun L x0 x0n x0c x1 x1n x1c x12 x13 M => L.loop b44_14 (blockK 0 (seqK (code L (.clear zl59 c44_33) (retK [.tmp 4])) (retK [.tmp 4]))) (s44_14 x0 x0n x0c x1 x1n x1c x12 x13 M) M) (P44_32 : Rec → (Option Addr) → Nat → Nat → (Option Addr) → Nat → Nat → Int → Int → AMem → Res) (hP44_32 : Eq P44_32 fun L x0 x0n x0c x1 x1n x1c x12 x13 M => code L (.ops o44_32) (postK zl63 (loopK L b44_14 (blockK 0 (seqK (code L (.clear zl59 c44_33) (retK [.tmp 4])) (retK [.tmp 4]))))) (s44_32 x0 x0n x0c x1 x1n x1c x12 x13 M) M) (x0 : Option Addr) (x0n : Nat) (x0c : Nat) (x1 : Option Addr) (x1n : Nat) (x1c : Nat) (x12 : Int) (x13 : Int) (M : AMem) : P44_32 L x0 x0n x0c x1 x1n x1c x12 x13 M =
  P44_14 L x0 x0n x0c x1 x1n x1c x12 (IntKind.wrap .i64 (x13 + 1)) M := by
  subst hP44_14; subst hP44_32; kernel_rfl
theorem P44_32_eq (L : Rec) (x0 : Option Addr) (x0n : Nat) (x0c : Nat) (x1 : Option Addr) (x1n : Nat) (x1c : Nat) (x12 : Int) (x13 : Int) (M : AMem) : P44_32 L x0 x0n x0c x1 x1n x1c x12 x13 M =
  P44_14 L x0 x0n x0c x1 x1n x1c x12 (IntKind.wrap .i64 (x13 + 1)) M := QP44_32_eq L b44_14 c44_33 P44_14 (Classical.choose_spec XP44_14) P44_32 (Classical.choose_spec XP44_32) x0 x0n x0c x1 x1n x1c x12 x13 M
theorem QP44_33_eq (L : Rec) (P44_33 : Rec → AMem → Res) (hP44_33 : Eq P44_33 fun L M => code L (.seq (.ops o44_34) (.ret)) (retK [.tmp 4]) (s44_33 M) M) (M : AMem) : P44_33 L M =
  some (.bool true, M) := by
  subst hP44_33; kernel_rfl
theorem P44_33_eq (L : Rec) (M : AMem) : P44_33 L M =
  some (.bool true, M) := QP44_33_eq L P44_33 (Classical.choose_spec XP44_33) M
theorem QE44 (L : Rec) (b44_14 c44_33 : ACode) (P44_14 : Rec → (Option Addr) → Nat → Nat → (Option Addr) → Nat → Nat → Int → Int → AMem → Res) (hP44_14 : Eq P44_14 fun L x0 x0n x0c x1 x1n x1c x12 x13 M => L.loop b44_14 (blockK 0 (seqK (code L (.clear zl59 c44_33) (retK [.tmp 4])) (retK [.tmp 4]))) (s44_14 x0 x0n x0c x1 x1n x1c x12 x13 M) M) (x0 : Option Addr) (x0n : Nat) (x0c : Nat) (x1 : Option Addr) (x1n : Nat) (x1c : Nat) (M : AMem) : enterF L ⟨26, [.tmp 4], .seq (.ops o44_1) (.seq (.seq (.ops o44_4) (.cond (.tmp 10) (.seq (.ops o44_7) (.ret)) (.skip))) (.seq (.seq (.ops o44_12) (.block 0 (.clear zl63 (.loop b44_14)))) (.clear zl59 c44_33)))⟩ [.slice x0 x0n x0c, .slice x1 x1n x1c] M =
  (if ((Int.ofNat x0n) != (Int.ofNat x1n)) = true
    then some (.bool false, M)
    else P44_14 L x0 x0n x0c x1 x1n x1c (Int.ofNat x0n) 0 M) := by
  subst hP44_14; kernel_rfl
theorem E44 (L : Rec) (x0 : Option Addr) (x0n : Nat) (x0c : Nat) (x1 : Option Addr) (x1n : Nat) (x1c : Nat) (M : AMem) : enterF L a44 [.slice x0 x0n x0c, .slice x1 x1n x1c] M =
  (if ((Int.ofNat x0n) != (Int.ofNat x1n)) = true
    then some (.bool false, M)
    else P44_14 L x0 x0n x0c x1 x1n x1c (Int.ofNat x0n) 0 M) := QE44 L b44_14 c44_33 P44_14 (Classical.choose_spec XP44_14) x0 x0n x0c x1 x1n x1c M
/-! #### slices.Clone[[][3]uint64,[3]uint64] -/
theorem E47 (L : Rec) (x0 : Option Addr) (x0n : Nat) (x0c : Nat) (M : AMem) : enterF L a47 [.slice x0 x0n x0c] M =
  (if (Option.isNone x0) = true
    then some (.slice none 0 0, M)
    else (Option.bind (rowOf (M ++ [AObj.cells [] ⟨false, 0⟩]) 3 (.slice x0 x0n x0c)) fun row_1 =>
      (appendK 3 24 (some ⟨(List.length M), 0, none⟩) 0 3 x0n row_1 (M ++ [AObj.cells [] ⟨false, 0⟩]) fun p_2 n_3 c_4 M_5 =>
      some (.slice p_2 n_3 c_4, M_5)))) := by kernel_rfl
end Go.Proofs.Ytpnknolehckfhaa
