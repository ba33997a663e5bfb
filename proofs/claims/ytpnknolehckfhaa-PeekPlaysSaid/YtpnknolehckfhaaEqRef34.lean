/- What the pieces of some functions come to. -/
import Derived.Test.YtpnknolehckfhaaCode
set_option linter.unusedVariables false
set_option maxRecDepth 100000
namespace Go.Proofs.Ytpnknolehckfhaa
open Go Go.Ax
/-! #### skylightref34.New -/
theorem E24 (L : Rec) (x0_0 : Int) (x0_1 : Int) (x1 : Int) (M : AMem) : enterF L a24 [.agg #[.int .i64 x0_0, .int .i64 x0_1], .int .i64 x1] M =
  (Option.bind (intOf? .i64 (AMem.ld ((M ++ [AObj.cells [.int .i64 x0_0, .int .i64 x0_1] ⟨false, 0⟩]) ++ [AObj.cells [.int .i64 0, .int .i64 0, .int .i64 0, .int .i64 0, .slice none 0 0, .int .i64 0] ⟨false, 0⟩]) (List.length M) 0)) fun x_1 =>
    (Option.bind (intOf? .i64 (AMem.ld ((M ++ [AObj.cells [.int .i64 x0_0, .int .i64 x0_1] ⟨false, 0⟩]) ++ [AObj.cells [.int .i64 0, .int .i64 0, .int .i64 0, .int .i64 0, .slice none 0 0, .int .i64 0] ⟨false, 0⟩]) (List.length M) 1)) fun x_2 =>
    (Option.bind (L.call 6 [.agg #[.int .i64 x_1, .int .i64 x_2]] []) fun r_3 =>
    (Option.bind (boolOf? (some r_3.1)) fun q_4 =>
    (if (!q_4) = true
    then (Option.bind (AMem.wr ((M ++ [AObj.cells [.int .i64 x0_0, .int .i64 x0_1] ⟨false, 0⟩]) ++ [AObj.cells [.int .i64 0, .int .i64 0, .int .i64 0, .int .i64 0, .slice none 0 0, .int .i64 0] ⟨false, 0⟩]) (List.length (M ++ [AObj.cells [.int .i64 x0_0, .int .i64 x0_1] ⟨false, 0⟩])) 0 [.int .i64 0, .int .i64 0, .int .i64 0, .int .i64 0, .slice none 0 0, .int .i64 13]) fun M_5 =>
      (Option.bind (intOf? .i64 (AMem.ld M_5 (List.length (M ++ [AObj.cells [.int .i64 x0_0, .int .i64 x0_1] ⟨false, 0⟩])) 0)) fun x_6 =>
      (Option.bind (intOf? .i64 (AMem.ld M_5 (List.length (M ++ [AObj.cells [.int .i64 x0_0, .int .i64 x0_1] ⟨false, 0⟩])) 1)) fun x_7 =>
      (Option.bind (intOf? .i64 (AMem.ld M_5 (List.length (M ++ [AObj.cells [.int .i64 x0_0, .int .i64 x0_1] ⟨false, 0⟩])) 2)) fun x_8 =>
      (Option.bind (intOf? .i64 (AMem.ld M_5 (List.length (M ++ [AObj.cells [.int .i64 x0_0, .int .i64 x0_1] ⟨false, 0⟩])) 3)) fun x_9 =>
      (Option.bind (sliceOf? (AMem.ld M_5 (List.length (M ++ [AObj.cells [.int .i64 x0_0, .int .i64 x0_1] ⟨false, 0⟩])) 4)) fun s_10 =>
      (Option.bind (intOf? .i64 (AMem.ld M_5 (List.length (M ++ [AObj.cells [.int .i64 x0_0, .int .i64 x0_1] ⟨false, 0⟩])) 5)) fun x_11 =>
      some (.tuple #[.agg #[.int .i64 x_6, .int .i64 x_7, .int .i64 x_8, .int .i64 x_9, .slice s_10.1 s_10.2.1 s_10.2.2, .int .i64 x_11], .bool false], M_5))))))))
    else (if (decide (x1 < 1)) = true
      then (Option.bind (AMem.wr ((M ++ [AObj.cells [.int .i64 x0_0, .int .i64 x0_1] ⟨false, 0⟩]) ++ [AObj.cells [.int .i64 0, .int .i64 0, .int .i64 0, .int .i64 0, .slice none 0 0, .int .i64 0] ⟨false, 0⟩]) (List.length (M ++ [AObj.cells [.int .i64 x0_0, .int .i64 x0_1] ⟨false, 0⟩])) 0 [.int .i64 0, .int .i64 0, .int .i64 0, .int .i64 0, .slice none 0 0, .int .i64 13]) fun M_12 =>
        (Option.bind (intOf? .i64 (AMem.ld M_12 (List.length (M ++ [AObj.cells [.int .i64 x0_0, .int .i64 x0_1] ⟨false, 0⟩])) 0)) fun x_13 =>
        (Option.bind (intOf? .i64 (AMem.ld M_12 (List.length (M ++ [AObj.cells [.int .i64 x0_0, .int .i64 x0_1] ⟨false, 0⟩])) 1)) fun x_14 =>
        (Option.bind (intOf? .i64 (AMem.ld M_12 (List.length (M ++ [AObj.cells [.int .i64 x0_0, .int .i64 x0_1] ⟨false, 0⟩])) 2)) fun x_15 =>
        (Option.bind (intOf? .i64 (AMem.ld M_12 (List.length (M ++ [AObj.cells [.int .i64 x0_0, .int .i64 x0_1] ⟨false, 0⟩])) 3)) fun x_16 =>
        (Option.bind (sliceOf? (AMem.ld M_12 (List.length (M ++ [AObj.cells [.int .i64 x0_0, .int .i64 x0_1] ⟨false, 0⟩])) 4)) fun s_17 =>
        (Option.bind (intOf? .i64 (AMem.ld M_12 (List.length (M ++ [AObj.cells [.int .i64 x0_0, .int .i64 x0_1] ⟨false, 0⟩])) 5)) fun x_18 =>
        some (.tuple #[.agg #[.int .i64 x_13, .int .i64 x_14, .int .i64 x_15, .int .i64 x_16, .slice s_17.1 s_17.2.1 s_17.2.2, .int .i64 x_18], .bool false], M_12))))))))
      else (if (decide (x1 > 1000)) = true
        then (Option.bind (AMem.wr ((M ++ [AObj.cells [.int .i64 x0_0, .int .i64 x0_1] ⟨false, 0⟩]) ++ [AObj.cells [.int .i64 0, .int .i64 0, .int .i64 0, .int .i64 0, .slice none 0 0, .int .i64 0] ⟨false, 0⟩]) (List.length (M ++ [AObj.cells [.int .i64 x0_0, .int .i64 x0_1] ⟨false, 0⟩])) 0 [.int .i64 0, .int .i64 0, .int .i64 0, .int .i64 0, .slice none 0 0, .int .i64 13]) fun M_19 =>
          (Option.bind (intOf? .i64 (AMem.ld M_19 (List.length (M ++ [AObj.cells [.int .i64 x0_0, .int .i64 x0_1] ⟨false, 0⟩])) 0)) fun x_20 =>
          (Option.bind (intOf? .i64 (AMem.ld M_19 (List.length (M ++ [AObj.cells [.int .i64 x0_0, .int .i64 x0_1] ⟨false, 0⟩])) 1)) fun x_21 =>
          (Option.bind (intOf? .i64 (AMem.ld M_19 (List.length (M ++ [AObj.cells [.int .i64 x0_0, .int .i64 x0_1] ⟨false, 0⟩])) 2)) fun x_22 =>
          (Option.bind (intOf? .i64 (AMem.ld M_19 (List.length (M ++ [AObj.cells [.int .i64 x0_0, .int .i64 x0_1] ⟨false, 0⟩])) 3)) fun x_23 =>
          (Option.bind (sliceOf? (AMem.ld M_19 (List.length (M ++ [AObj.cells [.int .i64 x0_0, .int .i64 x0_1] ⟨false, 0⟩])) 4)) fun s_24 =>
          (Option.bind (intOf? .i64 (AMem.ld M_19 (List.length (M ++ [AObj.cells [.int .i64 x0_0, .int .i64 x0_1] ⟨false, 0⟩])) 5)) fun x_25 =>
          some (.tuple #[.agg #[.int .i64 x_20, .int .i64 x_21, .int .i64 x_22, .int .i64 x_23, .slice s_24.1 s_24.2.1 s_24.2.2, .int .i64 x_25], .bool false], M_19))))))))
        else (Option.bind (intOf? .i64 (AMem.ld ((M ++ [AObj.cells [.int .i64 x0_0, .int .i64 x0_1] ⟨false, 0⟩]) ++ [AObj.cells [.int .i64 0, .int .i64 0, .int .i64 0, .int .i64 0, .slice none 0 0, .int .i64 0] ⟨false, 0⟩]) (List.length M) 0)) fun x_26 =>
          (Option.bind (intOf? .i64 (AMem.ld ((M ++ [AObj.cells [.int .i64 x0_0, .int .i64 x0_1] ⟨false, 0⟩]) ++ [AObj.cells [.int .i64 0, .int .i64 0, .int .i64 0, .int .i64 0, .slice none 0 0, .int .i64 0] ⟨false, 0⟩]) (List.length M) 1)) fun x_27 =>
          (Option.bind (AMem.wr ((M ++ [AObj.cells [.int .i64 x0_0, .int .i64 x0_1] ⟨false, 0⟩]) ++ [AObj.cells [.int .i64 0, .int .i64 0, .int .i64 0, .int .i64 0, .slice none 0 0, .int .i64 0] ⟨false, 0⟩]) (List.length (M ++ [AObj.cells [.int .i64 x0_0, .int .i64 x0_1] ⟨false, 0⟩])) 0 [.int .i64 x_26, .int .i64 x_27, .int .i64 x1, .int .i64 0, .slice none 0 0, .int .i64 13]) fun M_28 =>
          (Option.bind (intOf? .i64 (AMem.ld M_28 (List.length (M ++ [AObj.cells [.int .i64 x0_0, .int .i64 x0_1] ⟨false, 0⟩])) 0)) fun x_29 =>
          (Option.bind (intOf? .i64 (AMem.ld M_28 (List.length (M ++ [AObj.cells [.int .i64 x0_0, .int .i64 x0_1] ⟨false, 0⟩])) 1)) fun x_30 =>
          (Option.bind (intOf? .i64 (AMem.ld M_28 (List.length (M ++ [AObj.cells [.int .i64 x0_0, .int .i64 x0_1] ⟨false, 0⟩])) 2)) fun x_31 =>
          (Option.bind (intOf? .i64 (AMem.ld M_28 (List.length (M ++ [AObj.cells [.int .i64 x0_0, .int .i64 x0_1] ⟨false, 0⟩])) 3)) fun x_32 =>
          (Option.bind (sliceOf? (AMem.ld M_28 (List.length (M ++ [AObj.cells [.int .i64 x0_0, .int .i64 x0_1] ⟨false, 0⟩])) 4)) fun s_33 =>
          (Option.bind (intOf? .i64 (AMem.ld M_28 (List.length (M ++ [AObj.cells [.int .i64 x0_0, .int .i64 x0_1] ⟨false, 0⟩])) 5)) fun x_34 =>
          some (.tuple #[.agg #[.int .i64 x_29, .int .i64 x_30, .int .i64 x_31, .int .i64 x_32, .slice s_33.1 s_33.2.1 s_33.2.2, .int .i64 x_34], .bool true], M_28))))))))))))))))) := by kernel_rfl
/-! #### skylightref34.Peek.cell -/
theorem E51 (L : Rec) (x0 : Option Addr) (x1 : Int) (M : AMem) : enterF L a51 [.pointer x0, .int .i64 x1] M =
  (match x0 with
    | some a_1 => (Option.bind (intOf? .i64 (AMem.ld M a_1.block (a_1.off + 1))) fun x_2 =>
      (if (decide (x1 < x_2)) = true
      then (match x0 with
        | some a_3 => (Option.bind (intOf? .i64 (AMem.ld M a_3.block a_3.off)) fun x_4 =>
          (Option.bind (intOf? .i64 (AMem.ld M a_3.block (a_3.off + 1))) fun x_5 =>
          (Option.bind (L.call 59 [.agg #[.int .i64 x_4, .int .i64 x_5], .agg #[.int .i64 3, .int .i64 x1, .int .i64 0]] []) fun r_6 =>
          (Option.bind (intOf? .i64 (some r_6.1)) fun x_7 =>
          some (.int .i64 x_7, M)))))
        | none => none)
      else (match x0 with
        | some a_8 => (Option.bind (intOf? .i64 (AMem.ld M a_8.block a_8.off)) fun x_9 =>
          (if (decide (x1 < (IntKind.wrap .i64 (x_2 + (IntKind.wrap .i64 (3 * x_9)))))) = true
          then (match x0 with
            | some a_10 => (Option.bind (intOf? .i64 (AMem.ld M a_10.block a_10.off)) fun x_11 =>
              (Option.bind (intOf? .i64 (AMem.ld M a_10.block (a_10.off + 1))) fun x_12 =>
              (Option.bind (L.call 59 [.agg #[.int .i64 x_11, .int .i64 x_12], .agg #[.int .i64 4, .int .i64 0, .int .i64 0]] []) fun r_13 =>
              (Option.bind (intOf? .i64 (some r_13.1)) fun x_14 =>
              some (.int .i64 (IntKind.wrap .i64 ((IntKind.wrap .i64 (x_14 + x1)) - x_2)), M)))))
            | none => none)
          else (match x0 with
            | some a_15 => (Option.bind (intOf? .i64 (AMem.ld M a_15.block a_15.off)) fun x_16 =>
              (Option.bind (intOf? .i64 (AMem.ld M a_15.block (a_15.off + 1))) fun x_17 =>
              (match x0 with
              | some a_18 => (Option.bind (intOf? .i64 (AMem.ld M a_18.block a_18.off)) fun x_19 =>
                (Option.bind (L.call 59 [.agg #[.int .i64 x_16, .int .i64 x_17], .agg #[.int .i64 2, .int .i64 (IntKind.wrap .i64 ((IntKind.wrap .i64 (x1 - x_2)) - (IntKind.wrap .i64 (3 * x_19)))), .int .i64 0]] []) fun r_20 =>
                (Option.bind (intOf? .i64 (some r_20.1)) fun x_21 =>
                some (.int .i64 x_21, M))))
              | none => none)))
            | none => none)))
        | none => none)))
    | none => none) := by kernel_rfl
/-! #### skylightref34.Peek.Step -/
noncomputable def k27_14 (L : Rec) : KT := retK [.tmp 4]
def s27_14 (x0 : Option Addr) (M : AMem) : List Value := [.pointer x0, junk, junk, junk, junk, junk, junk, junk, junk, junk, junk, junk, junk, junk, junk, junk, junk, junk, junk, junk, junk, junk, junk, junk, junk, junk, junk, junk, junk, junk, junk, junk, junk, junk, junk, junk, junk, junk, junk, junk, junk, junk, junk, junk, junk, junk, junk, junk, junk, junk, junk, junk, junk, junk, junk, junk, junk, junk, junk, junk, junk, junk, junk, junk, junk, junk, junk, junk, junk, junk, junk, junk, junk, junk, junk, junk, junk, junk, junk, junk, junk, junk, junk, junk, junk, junk, junk, junk, junk, junk, junk, junk, junk, junk, junk, junk, junk, junk, junk, junk, junk, junk, junk, junk, junk, junk, junk, junk, junk, junk, junk, junk, junk, junk, junk, junk, junk, junk, junk, junk, junk, junk, junk, junk, junk, junk, junk, junk, junk, junk, junk, junk, junk, junk, junk, junk]
theorem XP27_14 : ∃ P : Rec → (Option Addr) → AMem → Res, P = fun (L : Rec) (x0 : Option Addr) (M : AMem) => code L c27_14 (k27_14 L) (s27_14 x0 M) M := ⟨_, rfl⟩
noncomputable def P27_14 : Rec → (Option Addr) → AMem → Res := Classical.choose XP27_14
noncomputable def k27_32 (L : Rec) : KT := blockK 0 (seqK (code L (.clear zl54 c27_43) (retK [.tmp 4])) (retK [.tmp 4]))
def s27_32 (x0 : Option Addr) (x7 : Int) (x8 : Int) (x9 : Bool) (x10 : Int) (M : AMem) : List Value := [.pointer x0, junk, junk, junk, junk, junk, junk, .int .i64 x7, .int .i64 x8, .bool x9, .int .i64 x10, junk, junk, junk, junk, junk, junk, junk, junk, junk, junk, junk, junk, junk, junk, junk, junk, junk, junk, junk, junk, junk, junk, junk, junk, junk, junk, junk, junk, junk, junk, junk, junk, junk, junk, junk, junk, junk, junk, junk, junk, junk, junk, junk, junk, junk, junk, junk, junk, junk, junk, junk, junk, junk, junk, junk, junk, junk, junk, junk, junk, junk, junk, junk, junk, junk, junk, junk, junk, junk, junk, junk, junk, junk, junk, junk, junk, junk, junk, junk, junk, junk, junk, junk, junk, junk, junk, junk, junk, junk, junk, junk, junk, junk, junk, junk, junk, junk, junk, junk, junk, junk, junk, junk, junk, junk, junk, junk, junk, junk, junk, junk, junk, junk, junk, junk, junk, junk, junk, junk, junk, junk, junk, junk, junk, junk]
theorem XP27_32 : ∃ P : Rec → (Option Addr) → Int → Int → Bool → Int → AMem → Res, P = fun (L : Rec) (x0 : Option Addr) (x7 : Int) (x8 : Int) (x9 : Bool) (x10 : Int) (M : AMem) => L.loop b27_32 (k27_32 L) (s27_32 x0 x7 x8 x9 x10 M) M := ⟨_, rfl⟩
noncomputable def P27_32 : Rec → (Option Addr) → Int → Int → Bool → Int → AMem → Res := Classical.choose XP27_32
noncomputable def k27_42 (L : Rec) : KT := postK zl52 (loopK L b27_32 (blockK 0 (seqK (code L (.clear zl54 c27_43) (retK [.tmp 4])) (retK [.tmp 4]))))
def s27_42 (x0 : Option Addr) (x7 : Int) (x8 : Int) (x9 : Bool) (x10 : Int) (M : AMem) : List Value := [.pointer x0, junk, junk, junk, junk, junk, junk, .int .i64 x7, .int .i64 x8, .bool x9, .int .i64 x10, junk, junk, junk, junk, junk, junk, junk, junk, junk, junk, junk, junk, junk, junk, junk, junk, junk, junk, junk, junk, junk, junk, junk, junk, junk, junk, junk, junk, junk, junk, junk, junk, junk, junk, junk, junk, junk, junk, junk, junk, junk, junk, junk, junk, junk, junk, junk, junk, junk, junk, junk, junk, junk, junk, junk, junk, junk, junk, junk, junk, junk, junk, junk, junk, junk, junk, junk, junk, junk, junk, junk, junk, junk, junk, junk, junk, junk, junk, junk, junk, junk, junk, junk, junk, junk, junk, junk, junk, junk, junk, junk, junk, junk, junk, junk, junk, junk, junk, junk, junk, junk, junk, junk, junk, junk, junk, junk, junk, junk, junk, junk, junk, junk, junk, junk, junk, junk, junk, junk, junk, junk, junk, junk, junk, junk]
theorem XP27_42 : ∃ P : Rec → (Option Addr) → Int → Int → Bool → Int → AMem → Res, P = fun (L : Rec) (x0 : Option Addr) (x7 : Int) (x8 : Int) (x9 : Bool) (x10 : Int) (M : AMem) => code L c27_42 (k27_42 L) (s27_42 x0 x7 x8 x9 x10 M) M := ⟨_, rfl⟩
noncomputable def P27_42 : Rec → (Option Addr) → Int → Int → Bool → Int → AMem → Res := Classical.choose XP27_42
noncomputable def k27_43 (L : Rec) : KT := retK [.tmp 4]
def s27_43 (x0 : Option Addr) (x9 : Bool) (M : AMem) : List Value := [.pointer x0, junk, junk, junk, junk, junk, junk, junk, junk, .bool x9, junk, junk, junk, junk, junk, junk, junk, junk, junk, junk, junk, junk, junk, junk, junk, junk, junk, junk, junk, junk, junk, junk, junk, junk, junk, junk, junk, junk, junk, junk, junk, junk, junk, junk, junk, junk, junk, junk, junk, junk, junk, junk, junk, junk, junk, junk, junk, junk, junk, junk, junk, junk, junk, junk, junk, junk, junk, junk, junk, junk, junk, junk, junk, junk, junk, junk, junk, junk, junk, junk, junk, junk, junk, junk, junk, junk, junk, junk, junk, junk, junk, junk, junk, junk, junk, junk, junk, junk, junk, junk, junk, junk, junk, junk, junk, junk, junk, junk, junk, junk, junk, junk, junk, junk, junk, junk, junk, junk, junk, junk, junk, junk, junk, junk, junk, junk, junk, junk, junk, junk, junk, junk, junk, junk, junk, junk]
theorem XP27_43 : ∃ P : Rec → (Option Addr) → Bool → AMem → Res, P = fun (L : Rec) (x0 : Option Addr) (x9 : Bool) (M : AMem) => code L c27_43 (k27_43 L) (s27_43 x0 x9 M) M := ⟨_, rfl⟩
noncomputable def P27_43 : Rec → (Option Addr) → Bool → AMem → Res := Classical.choose XP27_43
noncomputable def k27_53 (L : Rec) : KT := retK [.tmp 4]
def s27_53 (M : AMem) : List Value := [junk, junk, junk, junk, junk, junk, junk, junk, junk, junk, junk, junk, junk, junk, junk, junk, junk, junk, junk, junk, junk, junk, junk, junk, junk, junk, junk, junk, junk, junk, junk, junk, junk, junk, junk, junk, junk, junk, junk, junk, junk, junk, junk, junk, junk, junk, junk, junk, junk, junk, junk, junk, junk, junk, junk, junk, junk, junk, junk, junk, junk, junk, junk, junk, junk, junk, junk, junk, junk, junk, junk, junk, junk, junk, junk, junk, junk, junk, junk, junk, junk, junk, junk, junk, junk, junk, junk, junk, junk, junk, junk, junk, junk, junk, junk, junk, junk, junk, junk, junk, junk, junk, junk, junk, junk, junk, junk, junk, junk, junk, junk, junk, junk, junk, junk, junk, junk, junk, junk, junk, junk, junk, junk, junk, junk, junk, junk, junk, junk, junk, junk, junk, junk, junk, junk, junk]
theorem XP27_53 : ∃ P : Rec → AMem → Res, P = fun (L : Rec) (M : AMem) => code L c27_53 (k27_53 L) (s27_53 M) M := ⟨_, rfl⟩
noncomputable def P27_53 : Rec → AMem → Res := Classical.choose XP27_53
theorem QP27_14_eq (L : Rec) (b27_32 c27_43 : ACode) (P27_14 : Rec → (Option Addr) → AMem → Res) (hP27_14 : Eq P27_14 fun L x0 M => code L (.seq (.draw [] 0 o27_15 []) (.seq (.seq (.ops o27_18) (.cond (.tmp 82) (.seq (.ops o27_21) (.ret)) (.skip))) (.seq (.ops o27_25) (.seq (.ops o27_27) (.seq (.seq (.ops o27_30) (.block 0 (.clear zl52 (.loop b27_32)))) (.clear zl54 c27_43)))))) (retK [.tmp 4]) (s27_14 x0 M) M) (P27_32 : Rec → (Option Addr) → Int → Int → Bool → Int → AMem → Res) (hP27_32 : Eq P27_32 fun L x0 x7 x8 x9 x10 M => L.loop b27_32 (blockK 0 (seqK (code L (.clear zl54 c27_43) (retK [.tmp 4])) (retK [.tmp 4]))) (s27_32 x0 x7 x8 x9 x10 M) M) (x0 : Option Addr) (M : AMem) : P27_14 L x0 M =
  (match x0 with
    | some a_1 => (Option.bind (intOf? .i64 (AMem.ld M a_1.block (a_1.off + 1))) fun x_2 =>
      (match x0 with
      | some a_3 => (Option.bind (intOf? .i64 (AMem.ld M a_3.block (a_3.off + 1))) fun x_4 =>
        (match x0 with
        | some a_5 => (Option.bind (intOf? .i64 (AMem.ld M a_5.block a_5.off)) fun x_6 =>
          (match x0 with
          | some a_7 => (Option.bind (sliceOf? (AMem.ld M a_7.block (a_7.off + 4))) fun s_8 =>
            (if (decide ((Int.ofNat s_8.2.1) < (IntKind.wrap .i64 ((IntKind.wrap .i64 (2 * x_4)) + (IntKind.wrap .i64 (3 * x_6)))))) = true
            then some (.bool true, M)
            else (match x0 with
              | some a_9 => (Option.bind (intOf? .i64 (AMem.ld M a_9.block (a_9.off + 3))) fun x_10 =>
                (match x0 with
                | some a_11 => (Option.bind (AMem.wr M a_11.block (a_11.off + 3) [.int .i64 (IntKind.wrap .i64 (x_10 + 1))]) fun M_12 =>
                  P27_32 L x0 x_2 (IntKind.wrap .i64 ((IntKind.wrap .i64 (2 * x_4)) + (IntKind.wrap .i64 (3 * x_6)))) true 0 M_12)
                | none => none))
              | none => none)))
          | none => none))
        | none => none))
      | none => none))
    | none => none) := by
  subst hP27_14; subst hP27_32; kernel_rfl
theorem P27_14_eq (L : Rec) (x0 : Option Addr) (M : AMem) : P27_14 L x0 M =
  (match x0 with
    | some a_1 => (Option.bind (intOf? .i64 (AMem.ld M a_1.block (a_1.off + 1))) fun x_2 =>
      (match x0 with
      | some a_3 => (Option.bind (intOf? .i64 (AMem.ld M a_3.block (a_3.off + 1))) fun x_4 =>
        (match x0 with
        | some a_5 => (Option.bind (intOf? .i64 (AMem.ld M a_5.block a_5.off)) fun x_6 =>
          (match x0 with
          | some a_7 => (Option.bind (sliceOf? (AMem.ld M a_7.block (a_7.off + 4))) fun s_8 =>
            (if (decide ((Int.ofNat s_8.2.1) < (IntKind.wrap .i64 ((IntKind.wrap .i64 (2 * x_4)) + (IntKind.wrap .i64 (3 * x_6)))))) = true
            then some (.bool true, M)
            else (match x0 with
              | some a_9 => (Option.bind (intOf? .i64 (AMem.ld M a_9.block (a_9.off + 3))) fun x_10 =>
                (match x0 with
                | some a_11 => (Option.bind (AMem.wr M a_11.block (a_11.off + 3) [.int .i64 (IntKind.wrap .i64 (x_10 + 1))]) fun M_12 =>
                  P27_32 L x0 x_2 (IntKind.wrap .i64 ((IntKind.wrap .i64 (2 * x_4)) + (IntKind.wrap .i64 (3 * x_6)))) true 0 M_12)
                | none => none))
              | none => none)))
          | none => none))
        | none => none))
      | none => none))
    | none => none) := QP27_14_eq L b27_32 c27_43 P27_14 (Classical.choose_spec XP27_14) P27_32 (Classical.choose_spec XP27_32) x0 M
theorem QP27_32_eq (L : Rec) (b27_32 c27_42 c27_43 : ACode) (hb : ∀ K t A, L.loop b27_32 K t A = code L (.post (.seq (.seq (.ops o27_35) (.cond (.tmp 92) (.skip) (.exit 0))) (.seq (.block 1 (.draw [] 0 o27_41 [])) (.clear zl52 c27_42))) zl52) (loopK L b27_32 K) t A) (P27_32 : Rec → (Option Addr) → Int → Int → Bool → Int → AMem → Res) (hP27_32 : Eq P27_32 fun L x0 x7 x8 x9 x10 M => L.loop b27_32 (blockK 0 (seqK (code L (.clear zl54 c27_43) (retK [.tmp 4])) (retK [.tmp 4]))) (s27_32 x0 x7 x8 x9 x10 M) M) (P27_42 : Rec → (Option Addr) → Int → Int → Bool → Int → AMem → Res) (hP27_42 : Eq P27_42 fun L x0 x7 x8 x9 x10 M => code L c27_42 (postK zl52 (loopK L b27_32 (blockK 0 (seqK (code L (.clear zl54 c27_43) (retK [.tmp 4])) (retK [.tmp 4]))))) (s27_42 x0 x7 x8 x9 x10 M) M) (P27_43 : Rec → (Option Addr) → Bool → AMem → Res) (hP27_43 : Eq P27_43 fun L x0 x9 M => code L c27_43 (retK [.tmp 4]) (s27_43 x0 x9 M) M) (x0 : Option Addr) (x7 : Int) (x8 : Int) (x9 : Bool) (x10 : Int) (M : AMem) : P27_32 L x0 x7 x8 x9 x10 M =
  (if (decide (x10 < x7)) = true
    then (if x9 = true
      then (match x0 with
        | some a_1 => (Option.bind (sliceOf? (AMem.ld M a_1.block (a_1.off + 4))) fun s_2 =>
          (match s_2.1 with
          | some a_3 => (if (0 : Int) ≤ x10 ∧ x10 < (Int.ofNat s_2.2.1)
            then (Option.bind (intOf? .u64 (AMem.ld M a_3.block (a_3.off + ((Int.toNat x10) * 1)))) fun x_4 =>
              (match x0 with
              | some a_5 => (Option.bind (sliceOf? (AMem.ld M a_5.block (a_5.off + 4))) fun s_6 =>
                (match s_6.1 with
                | some a_7 => (if (0 : Int) ≤ (IntKind.wrap .i64 ((IntKind.wrap .i64 (x8 - x7)) + x10)) ∧ (IntKind.wrap .i64 ((IntKind.wrap .i64 (x8 - x7)) + x10)) < (Int.ofNat s_6.2.1)
                  then (Option.bind (intOf? .u64 (AMem.ld M a_7.block (a_7.off + ((Int.toNat (IntKind.wrap .i64 ((IntKind.wrap .i64 (x8 - x7)) + x10))) * 1)))) fun x_8 =>
                    P27_42 L x0 x7 x8 (x_4 == x_8) x10 M)
                  else none)
                | none => none))
              | none => none))
            else none)
          | none => none))
        | none => none)
      else P27_42 L x0 x7 x8 false x10 M)
    else P27_43 L x0 x9 M) := by
  subst hP27_32; subst hP27_42; subst hP27_43; exact (hb (blockK 0 (seqK (code L (.clear zl54 c27_43) (retK [.tmp 4])) (retK [.tmp 4]))) (s27_32 x0 x7 x8 x9 x10 M) M).trans (by kernel_rfl)
theorem P27_32_eq (L : Rec) (hL : ∀ b K t A, L.loop b K t A = code L b (loopK L b K) t A) (x0 : Option Addr) (x7 : Int) (x8 : Int) (x9 : Bool) (x10 : Int) (M : AMem) : P27_32 L x0 x7 x8 x9 x10 M =
  (if (decide (x10 < x7)) = true
    then (if x9 = true
      then (match x0 with
        | some a_1 => (Option.bind (sliceOf? (AMem.ld M a_1.block (a_1.off + 4))) fun s_2 =>
          (match s_2.1 with
          | some a_3 => (if (0 : Int) ≤ x10 ∧ x10 < (Int.ofNat s_2.2.1)
            then (Option.bind (intOf? .u64 (AMem.ld M a_3.block (a_3.off + ((Int.toNat x10) * 1)))) fun x_4 =>
              (match x0 with
              | some a_5 => (Option.bind (sliceOf? (AMem.ld M a_5.block (a_5.off + 4))) fun s_6 =>
                (match s_6.1 with
                | some a_7 => (if (0 : Int) ≤ (IntKind.wrap .i64 ((IntKind.wrap .i64 (x8 - x7)) + x10)) ∧ (IntKind.wrap .i64 ((IntKind.wrap .i64 (x8 - x7)) + x10)) < (Int.ofNat s_6.2.1)
                  then (Option.bind (intOf? .u64 (AMem.ld M a_7.block (a_7.off + ((Int.toNat (IntKind.wrap .i64 ((IntKind.wrap .i64 (x8 - x7)) + x10))) * 1)))) fun x_8 =>
                    P27_42 L x0 x7 x8 (x_4 == x_8) x10 M)
                  else none)
                | none => none))
              | none => none))
            else none)
          | none => none))
        | none => none)
      else P27_42 L x0 x7 x8 false x10 M)
    else P27_43 L x0 x9 M) := QP27_32_eq L b27_32 c27_42 c27_43 (hL b27_32) P27_32 (Classical.choose_spec XP27_32) P27_42 (Classical.choose_spec XP27_42) P27_43 (Classical.choose_spec XP27_43) x0 x7 x8 x9 x10 M
theorem QP27_42_eq (L : Rec) (b27_32 c27_43 : ACode) (P27_32 : Rec → (Option Addr) → Int → Int → Bool → Int → AMem → Res) (hP27_32 : Eq P27_32 fun L x0 x7 x8 x9 x10 M => L.loop b27_32 (blockK 0 (seqK (code L (.clear zl54 c27_43) (retK [.tmp 4])) (retK [.tmp 4]))) (s27_32 x0 x7 x8 x9 x10 M) M) (P27_42 : Rec → (Option Addr) → Int → Int → Bool → Int → AMem → Res) (hP27_42 : Eq P27_42 fun L x0 x7 x8 x9 x10 M => code L (.ops o27_42) (postK zl52 (loopK L b27_32 (blockK 0 (seqK (code L (.clear zl54 c27_43) (retK [.tmp 4])) (retK [.tmp 4]))))) (s27_42 x0 x7 x8 x9 x10 M) M) (x0 : Option Addr) (x7 : Int) (x8 : Int) (x9 : Bool) (x10 : Int) (M : AMem) : P27_42 L x0 x7 x8 x9 x10 M =
  P27_32 L x0 x7 x8 x9 (IntKind.wrap .i64 (x10 + 1)) M := by
  subst hP27_32; subst hP27_42; kernel_rfl
theorem P27_42_eq (L : Rec) (x0 : Option Addr) (x7 : Int) (x8 : Int) (x9 : Bool) (x10 : Int) (M : AMem) : P27_42 L x0 x7 x8 x9 x10 M =
  P27_32 L x0 x7 x8 x9 (IntKind.wrap .i64 (x10 + 1)) M := QP27_42_eq L b27_32 c27_43 P27_32 (Classical.choose_spec XP27_32) P27_42 (Classical.choose_spec XP27_42) x0 x7 x8 x9 x10 M
theorem QP27_43_eq (L : Rec) (c27_53 : ACode) (P27_43 : Rec → (Option Addr) → Bool → AMem → Res) (hP27_43 : Eq P27_43 fun L x0 x9 M => code L (.seq (.seq (.ops o27_45) (.cond (.tmp 117) (.ops o27_47) (.seq (.draw [] 0 o27_49 []) (.cond (.tmp 129) (.ops o27_51) (.ops o27_52))))) (.clear zl53 c27_53)) (retK [.tmp 4]) (s27_43 x0 x9 M) M) (P27_53 : Rec → AMem → Res) (hP27_53 : Eq P27_53 fun L M => code L c27_53 (retK [.tmp 4]) (s27_53 M) M) (x0 : Option Addr) (x9 : Bool) (M : AMem) : P27_43 L x0 x9 M =
  (if x9 = true
    then (match x0 with
      | some a_1 => (Option.bind (AMem.wr M a_1.block (a_1.off + 5) [.int .i64 0]) fun M_2 =>
        P27_53 L M_2)
      | none => none)
    else (match x0 with
      | some a_3 => (Option.bind (intOf? .i64 (AMem.ld M a_3.block (a_3.off + 3))) fun x_4 =>
        (match x0 with
        | some a_5 => (Option.bind (intOf? .i64 (AMem.ld M a_5.block (a_5.off + 2))) fun x_6 =>
          (if (x_4 == x_6) = true
          then (match x0 with
            | some a_7 => (Option.bind (AMem.wr M a_7.block (a_7.off + 5) [.int .i64 12]) fun M_8 =>
              P27_53 L M_8)
            | none => none)
          else (match x0 with
            | some a_9 => (Option.bind (AMem.wr M a_9.block (a_9.off + 4) [.slice none 0 0]) fun M_10 =>
              P27_53 L M_10)
            | none => none)))
        | none => none))
      | none => none)) := by
  subst hP27_43; subst hP27_53; kernel_rfl
theorem P27_43_eq (L : Rec) (x0 : Option Addr) (x9 : Bool) (M : AMem) : P27_43 L x0 x9 M =
  (if x9 = true
    then (match x0 with
      | some a_1 => (Option.bind (AMem.wr M a_1.block (a_1.off + 5) [.int .i64 0]) fun M_2 =>
        P27_53 L M_2)
      | none => none)
    else (match x0 with
      | some a_3 => (Option.bind (intOf? .i64 (AMem.ld M a_3.block (a_3.off + 3))) fun x_4 =>
        (match x0 with
        | some a_5 => (Option.bind (intOf? .i64 (AMem.ld M a_5.block (a_5.off + 2))) fun x_6 =>
          (if (x_4 == x_6) = true
          then (match x0 with
            | some a_7 => (Option.bind (AMem.wr M a_7.block (a_7.off + 5) [.int .i64 12]) fun M_8 =>
              P27_53 L M_8)
            | none => none)
          else (match x0 with
            | some a_9 => (Option.bind (AMem.wr M a_9.block (a_9.off + 4) [.slice none 0 0]) fun M_10 =>
              P27_53 L M_10)
            | none => none)))
        | none => none))
      | none => none)) := QP27_43_eq L c27_53 P27_43 (Classical.choose_spec XP27_43) P27_53 (Classical.choose_spec XP27_53) x0 x9 M
theorem QP27_53_eq (L : Rec) (P27_53 : Rec → AMem → Res) (hP27_53 : Eq P27_53 fun L M => code L (.seq (.ops o27_54) (.ret)) (retK [.tmp 4]) (s27_53 M) M) (M : AMem) : P27_53 L M =
  some (.bool true, M) := by
  subst hP27_53; kernel_rfl
theorem P27_53_eq (L : Rec) (M : AMem) : P27_53 L M =
  some (.bool true, M) := QP27_53_eq L P27_53 (Classical.choose_spec XP27_53) M
theorem QE27 (L : Rec) (c27_14 : ACode) (P27_14 : Rec → (Option Addr) → AMem → Res) (hP27_14 : Eq P27_14 fun L x0 M => code L c27_14 (retK [.tmp 4]) (s27_14 x0 M) M) (x0 : Option Addr) (x1 : Option Addr) (M : AMem) : enterF L ⟨136, [.tmp 4], .seq (.ops o27_1) (.seq (.seq (.draw [] 0 o27_4 []) (.cond (.tmp 35) (.seq (.ops o27_7) (.ret)) (.skip))) (.seq (.ops o27_11) (.seq (.ops o27_13) (.clear zl55 c27_14))))⟩ [.pointer x0, .pointer x1] M =
  (match x0 with
    | some a_1 => (Option.bind (intOf? .i64 (AMem.ld M a_1.block (a_1.off + 2))) fun x_2 =>
      (if (x_2 == 0) = true
      then some (.bool false, M)
      else (match x0 with
        | some a_3 => (Option.bind (intOf? .i64 (AMem.ld M a_3.block (a_3.off + 5))) fun x_4 =>
          (if (x_4 != 13) = true
          then some (.bool false, M)
          else (match x1 with
            | some a_5 => (Option.bind (sliceOf? (AMem.ld M a_5.block a_5.off)) fun s_6 =>
              (match x0 with
              | some a_7 => (Option.bind (intOf? .i64 (AMem.ld M a_7.block a_7.off)) fun x_8 =>
                (Option.bind (intOf? .i64 (AMem.ld M a_7.block (a_7.off + 1))) fun x_9 =>
                (Option.bind (L.call 10 [.agg #[.int .i64 x_8, .int .i64 x_9]] []) fun r_10 =>
                (Option.bind (intOf? .i64 (some r_10.1)) fun x_11 =>
                (if ((Int.ofNat s_6.2.1) != x_11) = true
                then some (.bool false, M)
                else (match x0 with
                  | some a_12 => (Option.bind (sliceOf? (AMem.ld M a_12.block (a_12.off + 4))) fun s_13 =>
                    (Option.bind (L.call 51 [.pointer x0, .int .i64 (Int.ofNat s_13.2.1)] M) fun r_14 =>
                    (Option.bind (intOf? .i64 (some r_14.1)) fun x_15 =>
                    (Option.bind (L.call 49 [.pointer x1, .int .i64 x_15] r_14.2) fun r_16 =>
                    (Option.bind (tupOf? 2 r_16.1) fun cs_17 =>
                    (Option.bind (cs_17[0]?) fun u_18 =>
                    (Option.bind (intOf? .u64 (some u_18)) fun x_19 =>
                    (Option.bind (cs_17[1]?) fun u_20 =>
                    (Option.bind (boolOf? (some u_20)) fun q_21 =>
                    (match x0 with
                    | some a_22 => (Option.bind (sliceOf? (AMem.ld r_16.2 a_22.block (a_22.off + 4))) fun s_23 =>
                      (Option.bind (rowOf (r_16.2 ++ [AObj.cells [.int .u64 x_19] ⟨false, 0⟩]) 1 (.slice (some ⟨(List.length r_16.2), 0, none⟩) 1 1)) fun row_24 =>
                      (appendK 1 8 s_23.1 s_23.2.1 s_23.2.2 1 row_24 (r_16.2 ++ [AObj.cells [.int .u64 x_19] ⟨false, 0⟩]) fun p_25 n_26 c_27 M_28 =>
                      (match x0 with
                      | some a_29 => (Option.bind (AMem.wr M_28 a_29.block (a_29.off + 4) [.slice p_25 n_26 c_27]) fun M_30 =>
                        P27_14 L x0 M_30)
                      | none => none))))
                    | none => none))))))))))
                  | none => none))))))
              | none => none))
            | none => none)))
        | none => none)))
    | none => none) := by
  subst hP27_14; kernel_rfl
theorem E27 (L : Rec) (x0 : Option Addr) (x1 : Option Addr) (M : AMem) : enterF L a27 [.pointer x0, .pointer x1] M =
  (match x0 with
    | some a_1 => (Option.bind (intOf? .i64 (AMem.ld M a_1.block (a_1.off + 2))) fun x_2 =>
      (if (x_2 == 0) = true
      then some (.bool false, M)
      else (match x0 with
        | some a_3 => (Option.bind (intOf? .i64 (AMem.ld M a_3.block (a_3.off + 5))) fun x_4 =>
          (if (x_4 != 13) = true
          then some (.bool false, M)
          else (match x1 with
            | some a_5 => (Option.bind (sliceOf? (AMem.ld M a_5.block a_5.off)) fun s_6 =>
              (match x0 with
              | some a_7 => (Option.bind (intOf? .i64 (AMem.ld M a_7.block a_7.off)) fun x_8 =>
                (Option.bind (intOf? .i64 (AMem.ld M a_7.block (a_7.off + 1))) fun x_9 =>
                (Option.bind (L.call 10 [.agg #[.int .i64 x_8, .int .i64 x_9]] []) fun r_10 =>
                (Option.bind (intOf? .i64 (some r_10.1)) fun x_11 =>
                (if ((Int.ofNat s_6.2.1) != x_11) = true
                then some (.bool false, M)
                else (match x0 with
                  | some a_12 => (Option.bind (sliceOf? (AMem.ld M a_12.block (a_12.off + 4))) fun s_13 =>
                    (Option.bind (L.call 51 [.pointer x0, .int .i64 (Int.ofNat s_13.2.1)] M) fun r_14 =>
                    (Option.bind (intOf? .i64 (some r_14.1)) fun x_15 =>
                    (Option.bind (L.call 49 [.pointer x1, .int .i64 x_15] r_14.2) fun r_16 =>
                    (Option.bind (tupOf? 2 r_16.1) fun cs_17 =>
                    (Option.bind (cs_17[0]?) fun u_18 =>
                    (Option.bind (intOf? .u64 (some u_18)) fun x_19 =>
                    (Option.bind (cs_17[1]?) fun u_20 =>
                    (Option.bind (boolOf? (some u_20)) fun q_21 =>
                    (match x0 with
                    | some a_22 => (Option.bind (sliceOf? (AMem.ld r_16.2 a_22.block (a_22.off + 4))) fun s_23 =>
                      (Option.bind (rowOf (r_16.2 ++ [AObj.cells [.int .u64 x_19] ⟨false, 0⟩]) 1 (.slice (some ⟨(List.length r_16.2), 0, none⟩) 1 1)) fun row_24 =>
                      (appendK 1 8 s_23.1 s_23.2.1 s_23.2.2 1 row_24 (r_16.2 ++ [AObj.cells [.int .u64 x_19] ⟨false, 0⟩]) fun p_25 n_26 c_27 M_28 =>
                      (match x0 with
                      | some a_29 => (Option.bind (AMem.wr M_28 a_29.block (a_29.off + 4) [.slice p_25 n_26 c_27]) fun M_30 =>
                        P27_14 L x0 M_30)
                      | none => none))))
                    | none => none))))))))))
                  | none => none))))))
              | none => none))
            | none => none)))
        | none => none)))
    | none => none) := QE27 L c27_14 P27_14 (Classical.choose_spec XP27_14) x0 x1 M
/-! #### skylightref34.Peek.Film -/
noncomputable def k28_8 (L : Rec) : KT := blockK 0 (seqK (code L (.clear zl57 c28_21) (retK [.tmp 2, .tmp 3])) (retK [.tmp 2, .tmp 3]))
def s28_8 (x0 : Option Addr) (x4 : Option Addr) (x4n : Nat) (x4c : Nat) (x5 : Int) (M : AMem) : List Value := [.pointer x0, junk, junk, junk, .slice x4 x4n x4c, .int .i64 x5, junk, junk, junk, junk, junk, junk, junk, junk, junk, junk, junk, junk, junk, junk, junk, junk, junk, junk, junk, junk, junk, junk, junk, junk, junk, junk, junk, junk, junk, junk, junk, junk, junk, junk, junk, junk, junk, junk, junk, junk, junk, junk, junk, junk, junk, junk, junk, junk, junk, junk, junk, junk, junk, junk, junk, junk, junk]
theorem XP28_8 : ∃ P : Rec → (Option Addr) → (Option Addr) → Nat → Nat → Int → AMem → Res, P = fun (L : Rec) (x0 : Option Addr) (x4 : Option Addr) (x4n : Nat) (x4c : Nat) (x5 : Int) (M : AMem) => L.loop b28_8 (k28_8 L) (s28_8 x0 x4 x4n x4c x5 M) M := ⟨_, rfl⟩
noncomputable def P28_8 : Rec → (Option Addr) → (Option Addr) → Nat → Nat → Int → AMem → Res := Classical.choose XP28_8
noncomputable def k28_20 (L : Rec) : KT := postK zl56 (loopK L b28_8 (blockK 0 (seqK (code L (.clear zl57 c28_21) (retK [.tmp 2, .tmp 3])) (retK [.tmp 2, .tmp 3]))))
def s28_20 (x0 : Option Addr) (x4 : Option Addr) (x4n : Nat) (x4c : Nat) (x5 : Int) (M : AMem) : List Value := [.pointer x0, junk, junk, junk, .slice x4 x4n x4c, .int .i64 x5, junk, junk, junk, junk, junk, junk, junk, junk, junk, junk, junk, junk, junk, junk, junk, junk, junk, junk, junk, junk, junk, junk, junk, junk, junk, junk, junk, junk, junk, junk, junk, junk, junk, junk, junk, junk, junk, junk, junk, junk, junk, junk, junk, junk, junk, junk, junk, junk, junk, junk, junk, junk, junk, junk, junk, junk, junk]
theorem XP28_20 : ∃ P : Rec → (Option Addr) → (Option Addr) → Nat → Nat → Int → AMem → Res, P = fun (L : Rec) (x0 : Option Addr) (x4 : Option Addr) (x4n : Nat) (x4c : Nat) (x5 : Int) (M : AMem) => code L c28_20 (k28_20 L) (s28_20 x0 x4 x4n x4c x5 M) M := ⟨_, rfl⟩
noncomputable def P28_20 : Rec → (Option Addr) → (Option Addr) → Nat → Nat → Int → AMem → Res := Classical.choose XP28_20
noncomputable def k28_21 (L : Rec) : KT := retK [.tmp 2, .tmp 3]
def s28_21 (x0 : Option Addr) (x4 : Option Addr) (x4n : Nat) (x4c : Nat) (M : AMem) : List Value := [.pointer x0, junk, junk, junk, .slice x4 x4n x4c, junk, junk, junk, junk, junk, junk, junk, junk, junk, junk, junk, junk, junk, junk, junk, junk, junk, junk, junk, junk, junk, junk, junk, junk, junk, junk, junk, junk, junk, junk, junk, junk, junk, junk, junk, junk, junk, junk, junk, junk, junk, junk, junk, junk, junk, junk, junk, junk, junk, junk, junk, junk, junk, junk, junk, junk, junk, junk]
theorem XP28_21 : ∃ P : Rec → (Option Addr) → (Option Addr) → Nat → Nat → AMem → Res, P = fun (L : Rec) (x0 : Option Addr) (x4 : Option Addr) (x4n : Nat) (x4c : Nat) (M : AMem) => code L c28_21 (k28_21 L) (s28_21 x0 x4 x4n x4c M) M := ⟨_, rfl⟩
noncomputable def P28_21 : Rec → (Option Addr) → (Option Addr) → Nat → Nat → AMem → Res := Classical.choose XP28_21
theorem QP28_8_eq (L : Rec) (b28_8 c28_20 c28_21 : ACode) (hb : ∀ K t A, L.loop b28_8 K t A = code L (.post (.seq (.seq (.ops o28_11) (.cond (.tmp 20) (.skip) (.exit 0))) (.seq (.block 1 (.seq (.ops o28_18) (.draw [] 0 o28_19 []))) (.clear zl56 c28_20))) zl56) (loopK L b28_8 K) t A) (P28_8 : Rec → (Option Addr) → (Option Addr) → Nat → Nat → Int → AMem → Res) (hP28_8 : Eq P28_8 fun L x0 x4 x4n x4c x5 M => L.loop b28_8 (blockK 0 (seqK (code L (.clear zl57 c28_21) (retK [.tmp 2, .tmp 3])) (retK [.tmp 2, .tmp 3]))) (s28_8 x0 x4 x4n x4c x5 M) M) (P28_20 : Rec → (Option Addr) → (Option Addr) → Nat → Nat → Int → AMem → Res) (hP28_20 : Eq P28_20 fun L x0 x4 x4n x4c x5 M => code L c28_20 (postK zl56 (loopK L b28_8 (blockK 0 (seqK (code L (.clear zl57 c28_21) (retK [.tmp 2, .tmp 3])) (retK [.tmp 2, .tmp 3]))))) (s28_20 x0 x4 x4n x4c x5 M) M) (P28_21 : Rec → (Option Addr) → (Option Addr) → Nat → Nat → AMem → Res) (hP28_21 : Eq P28_21 fun L x0 x4 x4n x4c M => code L c28_21 (retK [.tmp 2, .tmp 3]) (s28_21 x0 x4 x4n x4c M) M) (x0 : Option Addr) (x4 : Option Addr) (x4n : Nat) (x4c : Nat) (x5 : Int) (M : AMem) : P28_8 L x0 x4 x4n x4c x5 M =
  (match x0 with
    | some a_1 => (Option.bind (intOf? .i64 (AMem.ld M a_1.block a_1.off)) fun x_2 =>
      (if (decide (x5 < x_2)) = true
      then (match x0 with
        | some a_3 => (Option.bind (intOf? .i64 (AMem.ld M a_3.block (a_3.off + 5))) fun x_4 =>
          (if (x_4 == 0) = true
          then (match x0 with
            | some a_5 => (Option.bind (intOf? .i64 (AMem.ld M a_5.block (a_5.off + 1))) fun x_6 =>
              (match x0 with
              | some a_7 => (Option.bind (sliceOf? (AMem.ld M a_7.block (a_7.off + 4))) fun s_8 =>
                (match s_8.1 with
                | some a_9 => (if (0 : Int) ≤ (IntKind.wrap .i64 (x_6 + (IntKind.wrap .i64 (3 * x5)))) ∧ (IntKind.wrap .i64 (x_6 + (IntKind.wrap .i64 (3 * x5)))) < (Int.ofNat s_8.2.1)
                  then (Option.bind (intOf? .u64 (AMem.ld M a_9.block (a_9.off + ((Int.toNat (IntKind.wrap .i64 (x_6 + (IntKind.wrap .i64 (3 * x5))))) * 1)))) fun x_10 =>
                    (match x0 with
                    | some a_11 => (Option.bind (sliceOf? (AMem.ld M a_11.block (a_11.off + 4))) fun s_12 =>
                      (match s_12.1 with
                      | some a_13 => (if (0 : Int) ≤ (IntKind.wrap .i64 ((IntKind.wrap .i64 (x_6 + (IntKind.wrap .i64 (3 * x5)))) + 1)) ∧ (IntKind.wrap .i64 ((IntKind.wrap .i64 (x_6 + (IntKind.wrap .i64 (3 * x5)))) + 1)) < (Int.ofNat s_12.2.1)
                        then (Option.bind (intOf? .u64 (AMem.ld M a_13.block (a_13.off + ((Int.toNat (IntKind.wrap .i64 ((IntKind.wrap .i64 (x_6 + (IntKind.wrap .i64 (3 * x5)))) + 1))) * 1)))) fun x_14 =>
                          (match x0 with
                          | some a_15 => (Option.bind (sliceOf? (AMem.ld M a_15.block (a_15.off + 4))) fun s_16 =>
                            (match s_16.1 with
                            | some a_17 => (if (0 : Int) ≤ (IntKind.wrap .i64 ((IntKind.wrap .i64 (x_6 + (IntKind.wrap .i64 (3 * x5)))) + 2)) ∧ (IntKind.wrap .i64 ((IntKind.wrap .i64 (x_6 + (IntKind.wrap .i64 (3 * x5)))) + 2)) < (Int.ofNat s_16.2.1)
                              then (Option.bind (intOf? .u64 (AMem.ld M a_17.block (a_17.off + ((Int.toNat (IntKind.wrap .i64 ((IntKind.wrap .i64 (x_6 + (IntKind.wrap .i64 (3 * x5)))) + 2))) * 1)))) fun x_18 =>
                                (Option.bind (rowOf (M ++ [AObj.cells [.int .u64 x_10, .int .u64 x_14, .int .u64 x_18] ⟨false, 0⟩]) 3 (.slice (some ⟨(List.length M), 0, none⟩) 1 3)) fun row_19 =>
                                (appendK 3 24 x4 x4n x4c 1 row_19 (M ++ [AObj.cells [.int .u64 x_10, .int .u64 x_14, .int .u64 x_18] ⟨false, 0⟩]) fun p_20 n_21 c_22 M_23 =>
                                P28_20 L x0 p_20 n_21 c_22 x5 M_23)))
                              else none)
                            | none => none))
                          | none => none))
                        else none)
                      | none => none))
                    | none => none))
                  else none)
                | none => none))
              | none => none))
            | none => none)
          else P28_21 L x0 x4 x4n x4c M))
        | none => none)
      else P28_21 L x0 x4 x4n x4c M))
    | none => none) := by
  subst hP28_8; subst hP28_20; subst hP28_21; exact (hb (blockK 0 (seqK (code L (.clear zl57 c28_21) (retK [.tmp 2, .tmp 3])) (retK [.tmp 2, .tmp 3]))) (s28_8 x0 x4 x4n x4c x5 M) M).trans (by kernel_rfl)
theorem P28_8_eq (L : Rec) (hL : ∀ b K t A, L.loop b K t A = code L b (loopK L b K) t A) (x0 : Option Addr) (x4 : Option Addr) (x4n : Nat) (x4c : Nat) (x5 : Int) (M : AMem) : P28_8 L x0 x4 x4n x4c x5 M =
  (match x0 with
    | some a_1 => (Option.bind (intOf? .i64 (AMem.ld M a_1.block a_1.off)) fun x_2 =>
      (if (decide (x5 < x_2)) = true
      then (match x0 with
        | some a_3 => (Option.bind (intOf? .i64 (AMem.ld M a_3.block (a_3.off + 5))) fun x_4 =>
          (if (x_4 == 0) = true
          then (match x0 with
            | some a_5 => (Option.bind (intOf? .i64 (AMem.ld M a_5.block (a_5.off + 1))) fun x_6 =>
              (match x0 with
              | some a_7 => (Option.bind (sliceOf? (AMem.ld M a_7.block (a_7.off + 4))) fun s_8 =>
                (match s_8.1 with
                | some a_9 => (if (0 : Int) ≤ (IntKind.wrap .i64 (x_6 + (IntKind.wrap .i64 (3 * x5)))) ∧ (IntKind.wrap .i64 (x_6 + (IntKind.wrap .i64 (3 * x5)))) < (Int.ofNat s_8.2.1)
                  then (Option.bind (intOf? .u64 (AMem.ld M a_9.block (a_9.off + ((Int.toNat (IntKind.wrap .i64 (x_6 + (IntKind.wrap .i64 (3 * x5))))) * 1)))) fun x_10 =>
                    (match x0 with
                    | some a_11 => (Option.bind (sliceOf? (AMem.ld M a_11.block (a_11.off + 4))) fun s_12 =>
                      (match s_12.1 with
                      | some a_13 => (if (0 : Int) ≤ (IntKind.wrap .i64 ((IntKind.wrap .i64 (x_6 + (IntKind.wrap .i64 (3 * x5)))) + 1)) ∧ (IntKind.wrap .i64 ((IntKind.wrap .i64 (x_6 + (IntKind.wrap .i64 (3 * x5)))) + 1)) < (Int.ofNat s_12.2.1)
                        then (Option.bind (intOf? .u64 (AMem.ld M a_13.block (a_13.off + ((Int.toNat (IntKind.wrap .i64 ((IntKind.wrap .i64 (x_6 + (IntKind.wrap .i64 (3 * x5)))) + 1))) * 1)))) fun x_14 =>
                          (match x0 with
                          | some a_15 => (Option.bind (sliceOf? (AMem.ld M a_15.block (a_15.off + 4))) fun s_16 =>
                            (match s_16.1 with
                            | some a_17 => (if (0 : Int) ≤ (IntKind.wrap .i64 ((IntKind.wrap .i64 (x_6 + (IntKind.wrap .i64 (3 * x5)))) + 2)) ∧ (IntKind.wrap .i64 ((IntKind.wrap .i64 (x_6 + (IntKind.wrap .i64 (3 * x5)))) + 2)) < (Int.ofNat s_16.2.1)
                              then (Option.bind (intOf? .u64 (AMem.ld M a_17.block (a_17.off + ((Int.toNat (IntKind.wrap .i64 ((IntKind.wrap .i64 (x_6 + (IntKind.wrap .i64 (3 * x5)))) + 2))) * 1)))) fun x_18 =>
                                (Option.bind (rowOf (M ++ [AObj.cells [.int .u64 x_10, .int .u64 x_14, .int .u64 x_18] ⟨false, 0⟩]) 3 (.slice (some ⟨(List.length M), 0, none⟩) 1 3)) fun row_19 =>
                                (appendK 3 24 x4 x4n x4c 1 row_19 (M ++ [AObj.cells [.int .u64 x_10, .int .u64 x_14, .int .u64 x_18] ⟨false, 0⟩]) fun p_20 n_21 c_22 M_23 =>
                                P28_20 L x0 p_20 n_21 c_22 x5 M_23)))
                              else none)
                            | none => none))
                          | none => none))
                        else none)
                      | none => none))
                    | none => none))
                  else none)
                | none => none))
              | none => none))
            | none => none)
          else P28_21 L x0 x4 x4n x4c M))
        | none => none)
      else P28_21 L x0 x4 x4n x4c M))
    | none => none) := QP28_8_eq L b28_8 c28_20 c28_21 (hL b28_8) P28_8 (Classical.choose_spec XP28_8) P28_20 (Classical.choose_spec XP28_20) P28_21 (Classical.choose_spec XP28_21) x0 x4 x4n x4c x5 M
theorem QP28_20_eq (L : Rec) (b28_8 c28_21 : ACode) (P28_8 : Rec → (Option Addr) → (Option Addr) → Nat → Nat → Int → AMem → Res) (hP28_8 : Eq P28_8 fun L x0 x4 x4n x4c x5 M => L.loop b28_8 (blockK 0 (seqK (code L (.clear zl57 c28_21) (retK [.tmp 2, .tmp 3])) (retK [.tmp 2, .tmp 3]))) (s28_8 x0 x4 x4n x4c x5 M) M) (P28_20 : Rec → (Option Addr) → (Option Addr) → Nat → Nat → Int → AMem → Res) (hP28_20 : Eq P28_20 fun L x0 x4 x4n x4c x5 M => code L (.ops o28_20) (postK zl56 (loopK L b28_8 (blockK 0 (seqK (code L (.clear zl57 c28_21) (retK [.tmp 2, .tmp 3])) (retK [.tmp 2, .tmp 3]))))) (s28_20 x0 x4 x4n x4c x5 M) M) (x0 : Option Addr) (x4 : Option Addr) (x4n : Nat) (x4c : Nat) (x5 : Int) (M : AMem) : P28_20 L x0 x4 x4n x4c x5 M =
  P28_8 L x0 x4 x4n x4c (IntKind.wrap .i64 (x5 + 1)) M := by
  subst hP28_8; subst hP28_20; kernel_rfl
theorem P28_20_eq (L : Rec) (x0 : Option Addr) (x4 : Option Addr) (x4n : Nat) (x4c : Nat) (x5 : Int) (M : AMem) : P28_20 L x0 x4 x4n x4c x5 M =
  P28_8 L x0 x4 x4n x4c (IntKind.wrap .i64 (x5 + 1)) M := QP28_20_eq L b28_8 c28_21 P28_8 (Classical.choose_spec XP28_8) P28_20 (Classical.choose_spec XP28_20) x0 x4 x4n x4c x5 M
theorem QP28_21_eq (L : Rec) (P28_21 : Rec → (Option Addr) → (Option Addr) → Nat → Nat → AMem → Res) (hP28_21 : Eq P28_21 fun L x0 x4 x4n x4c M => code L (.seq (.draw [] 0 o28_22 []) (.ret)) (retK [.tmp 2, .tmp 3]) (s28_21 x0 x4 x4n x4c M) M) (x0 : Option Addr) (x4 : Option Addr) (x4n : Nat) (x4c : Nat) (M : AMem) : P28_21 L x0 x4 x4n x4c M =
  (match x0 with
    | some a_1 => (Option.bind (intOf? .i64 (AMem.ld M a_1.block (a_1.off + 5))) fun x_2 =>
      some (.tuple #[.slice x4 x4n x4c, .int .i64 x_2], M))
    | none => none) := by
  subst hP28_21; kernel_rfl
theorem P28_21_eq (L : Rec) (x0 : Option Addr) (x4 : Option Addr) (x4n : Nat) (x4c : Nat) (M : AMem) : P28_21 L x0 x4 x4n x4c M =
  (match x0 with
    | some a_1 => (Option.bind (intOf? .i64 (AMem.ld M a_1.block (a_1.off + 5))) fun x_2 =>
      some (.tuple #[.slice x4 x4n x4c, .int .i64 x_2], M))
    | none => none) := QP28_21_eq L P28_21 (Classical.choose_spec XP28_21) x0 x4 x4n x4c M
theorem QE28 (L : Rec) (b28_8 c28_21 : ACode) (P28_8 : Rec → (Option Addr) → (Option Addr) → Nat → Nat → Int → AMem → Res) (hP28_8 : Eq P28_8 fun L x0 x4 x4n x4c x5 M => L.loop b28_8 (blockK 0 (seqK (code L (.clear zl57 c28_21) (retK [.tmp 2, .tmp 3])) (retK [.tmp 2, .tmp 3]))) (s28_8 x0 x4 x4n x4c x5 M) M) (x0 : Option Addr) (M : AMem) : enterF L ⟨63, [.tmp 2, .tmp 3], .seq (.ops o28_1) (.seq (.ops o28_3) (.seq (.seq (.ops o28_6) (.block 0 (.clear zl56 (.loop b28_8)))) (.clear zl57 c28_21)))⟩ [.pointer x0] M =
  P28_8 L x0 none 0 0 0 M := by
  subst hP28_8; kernel_rfl
theorem E28 (L : Rec) (x0 : Option Addr) (M : AMem) : enterF L a28 [.pointer x0] M =
  P28_8 L x0 none 0 0 0 M := QE28 L b28_8 c28_21 P28_8 (Classical.choose_spec XP28_8) x0 M
end Go.Proofs.Ytpnknolehckfhaa
