/- What the pieces of some functions come to. -/
import Derived.Test.YtncfdkmhpnopiaaCode
set_option linter.unusedVariables false
set_option maxRecDepth 100000
namespace Go.Proofs.Ytncfdkmhpnopiaa
open Go Go.Ax
/-! #### skylightref51.half -/
theorem E28 (L : Rec) (x0 : Int) : enterF L a28 [.int .i64 x0] [] =
  some (.int .i64 (IntKind.wrap .i64 (Int.tdiv (IntKind.wrap .i64 (x0 + 1)) 2)), ([] : AMem)) := by kernel_rfl
/-! #### skylightref51.at -/
theorem E29 (L : Rec) (x0_0 : Int) (x0_1 : Int) (x0_2 : Option Addr) (x0_2n : Nat) (x0_2c : Nat) (x1 : Int) (x2 : Int) (M : AMem) : enterF L a29 [.agg #[.int .i64 x0_0, .int .i64 x0_1, .slice x0_2 x0_2n x0_2c], .int .i64 x1, .int .i64 x2] M =
  (Option.bind (sliceOf? (AMem.ld ((M ++ [AObj.cells [.int .i64 x0_0, .int .i64 x0_1, .slice x0_2 x0_2n x0_2c] ⟨false, 0⟩]) ++ [AObj.cells [.int .i64 0, .int .i64 0, .int .i64 0] ⟨false, 0⟩]) (List.length M) 2)) fun s_1 =>
    (Option.bind (intOf? .i64 (AMem.ld ((M ++ [AObj.cells [.int .i64 x0_0, .int .i64 x0_1, .slice x0_2 x0_2n x0_2c] ⟨false, 0⟩]) ++ [AObj.cells [.int .i64 0, .int .i64 0, .int .i64 0] ⟨false, 0⟩]) (List.length M) 1)) fun x_2 =>
    (Option.bind (intOf? .i64 (AMem.ld ((M ++ [AObj.cells [.int .i64 x0_0, .int .i64 x0_1, .slice x0_2 x0_2n x0_2c] ⟨false, 0⟩]) ++ [AObj.cells [.int .i64 0, .int .i64 0, .int .i64 0] ⟨false, 0⟩]) (List.length M) 0)) fun x_3 =>
    (Option.bind (intOf? .i64 (AMem.ld ((M ++ [AObj.cells [.int .i64 x0_0, .int .i64 x0_1, .slice x0_2 x0_2n x0_2c] ⟨false, 0⟩]) ++ [AObj.cells [.int .i64 0, .int .i64 0, .int .i64 0] ⟨false, 0⟩]) (List.length M) 0)) fun x_4 =>
    (match s_1.1 with
    | some a_5 => (if (0 : Int) ≤ (IntKind.wrap .i64 ((IntKind.wrap .i64 ((if (IntKind.wrap .i64 (x_2 - 1)) < x2 then (IntKind.wrap .i64 (x_2 - 1)) else x2) * x_3)) + (if (IntKind.wrap .i64 (x_4 - 1)) < x1 then (IntKind.wrap .i64 (x_4 - 1)) else x1))) ∧ (IntKind.wrap .i64 ((IntKind.wrap .i64 ((if (IntKind.wrap .i64 (x_2 - 1)) < x2 then (IntKind.wrap .i64 (x_2 - 1)) else x2) * x_3)) + (if (IntKind.wrap .i64 (x_4 - 1)) < x1 then (IntKind.wrap .i64 (x_4 - 1)) else x1))) < (Int.ofNat s_1.2.1)
      then (Option.bind (intOf? .i64 (AMem.ld ((M ++ [AObj.cells [.int .i64 x0_0, .int .i64 x0_1, .slice x0_2 x0_2n x0_2c] ⟨false, 0⟩]) ++ [AObj.cells [.int .i64 0, .int .i64 0, .int .i64 0] ⟨false, 0⟩]) a_5.block (a_5.off + ((Int.toNat (IntKind.wrap .i64 ((IntKind.wrap .i64 ((if (IntKind.wrap .i64 (x_2 - 1)) < x2 then (IntKind.wrap .i64 (x_2 - 1)) else x2) * x_3)) + (if (IntKind.wrap .i64 (x_4 - 1)) < x1 then (IntKind.wrap .i64 (x_4 - 1)) else x1)))) * 3)))) fun x_6 =>
        (Option.bind (intOf? .i64 (AMem.ld ((M ++ [AObj.cells [.int .i64 x0_0, .int .i64 x0_1, .slice x0_2 x0_2n x0_2c] ⟨false, 0⟩]) ++ [AObj.cells [.int .i64 0, .int .i64 0, .int .i64 0] ⟨false, 0⟩]) a_5.block ((a_5.off + ((Int.toNat (IntKind.wrap .i64 ((IntKind.wrap .i64 ((if (IntKind.wrap .i64 (x_2 - 1)) < x2 then (IntKind.wrap .i64 (x_2 - 1)) else x2) * x_3)) + (if (IntKind.wrap .i64 (x_4 - 1)) < x1 then (IntKind.wrap .i64 (x_4 - 1)) else x1)))) * 3)) + 1))) fun x_7 =>
        (Option.bind (intOf? .i64 (AMem.ld ((M ++ [AObj.cells [.int .i64 x0_0, .int .i64 x0_1, .slice x0_2 x0_2n x0_2c] ⟨false, 0⟩]) ++ [AObj.cells [.int .i64 0, .int .i64 0, .int .i64 0] ⟨false, 0⟩]) a_5.block ((a_5.off + ((Int.toNat (IntKind.wrap .i64 ((IntKind.wrap .i64 ((if (IntKind.wrap .i64 (x_2 - 1)) < x2 then (IntKind.wrap .i64 (x_2 - 1)) else x2) * x_3)) + (if (IntKind.wrap .i64 (x_4 - 1)) < x1 then (IntKind.wrap .i64 (x_4 - 1)) else x1)))) * 3)) + 2))) fun x_8 =>
        (Option.bind (AMem.wr ((M ++ [AObj.cells [.int .i64 x0_0, .int .i64 x0_1, .slice x0_2 x0_2n x0_2c] ⟨false, 0⟩]) ++ [AObj.cells [.int .i64 0, .int .i64 0, .int .i64 0] ⟨false, 0⟩]) (List.length (M ++ [AObj.cells [.int .i64 x0_0, .int .i64 x0_1, .slice x0_2 x0_2n x0_2c] ⟨false, 0⟩])) 0 [.int .i64 x_6, .int .i64 x_7, .int .i64 x_8]) fun M_9 =>
        (Option.bind (intOf? .i64 (AMem.ld M_9 (List.length (M ++ [AObj.cells [.int .i64 x0_0, .int .i64 x0_1, .slice x0_2 x0_2n x0_2c] ⟨false, 0⟩])) 0)) fun x_10 =>
        (Option.bind (intOf? .i64 (AMem.ld M_9 (List.length (M ++ [AObj.cells [.int .i64 x0_0, .int .i64 x0_1, .slice x0_2 x0_2n x0_2c] ⟨false, 0⟩])) 1)) fun x_11 =>
        (Option.bind (intOf? .i64 (AMem.ld M_9 (List.length (M ++ [AObj.cells [.int .i64 x0_0, .int .i64 x0_1, .slice x0_2 x0_2n x0_2c] ⟨false, 0⟩])) 2)) fun x_12 =>
        some (.agg #[.int .i64 x_10, .int .i64 x_11, .int .i64 x_12], M_9))))))))
      else none)
    | none => none))))) := by kernel_rfl
/-! #### skylightref51.Half -/
noncomputable def k19_16 (L : Rec) : KT := blockK 0 (seqK (code L (.clear zl38 c19_59) (retK [.cell true [.int .i64, .int .i64, .slice] 2])) (retK [.cell true [.int .i64, .int .i64, .slice] 2]))
def s19_16 (x1 : Nat) (x2 : Nat) (x3 : Nat) (x4 : Int) (M : AMem) : List Value := [junk, .pointer (some ⟨x1, 0, none⟩), .pointer (some ⟨x2, 0, none⟩), .pointer (some ⟨x3, 0, none⟩), .int .i64 x4, junk, junk, junk, junk, junk, junk, junk, junk, junk, junk, junk, junk, junk, junk, junk, junk, junk, junk, junk, junk, junk, junk, junk, junk, junk, junk, junk, junk, junk, junk, junk, junk, junk, junk, junk, junk, junk, junk, junk, junk, junk, junk, junk, junk, junk, junk, junk, junk, junk, junk, junk, junk, junk, junk, junk, junk, junk, junk, junk, junk, junk, junk, junk, junk, junk, junk, junk, junk, junk, junk, junk, junk, junk, junk, junk, junk, junk, junk, junk, junk, junk, junk, junk, junk, junk, junk, junk]
theorem XP19_16 : ∃ P : Rec → Nat → Nat → Nat → Int → AMem → Res, P = fun (L : Rec) (x1 : Nat) (x2 : Nat) (x3 : Nat) (x4 : Int) (M : AMem) => L.loop b19_16 (k19_16 L) (s19_16 x1 x2 x3 x4 M) M := ⟨_, rfl⟩
noncomputable def P19_16 : Rec → Nat → Nat → Nat → Int → AMem → Res := Classical.choose XP19_16
noncomputable def k19_28 (L : Rec) : KT := blockK 2 (blockK 1 (seqK (code L (.clear zl37 c19_58) (postK zl37 (loopK L b19_16 (blockK 0 (seqK (code L (.clear zl38 c19_59) (retK [.cell true [.int .i64, .int .i64, .slice] 2])) (retK [.cell true [.int .i64, .int .i64, .slice] 2])))))) (postK zl37 (loopK L b19_16 (blockK 0 (seqK (code L (.clear zl38 c19_59) (retK [.cell true [.int .i64, .int .i64, .slice] 2])) (retK [.cell true [.int .i64, .int .i64, .slice] 2])))))))
def s19_28 (x1 : Nat) (x2 : Nat) (x3 : Nat) (x4 : Int) (x5 : Int) (M : AMem) : List Value := [junk, .pointer (some ⟨x1, 0, none⟩), .pointer (some ⟨x2, 0, none⟩), .pointer (some ⟨x3, 0, none⟩), .int .i64 x4, .int .i64 x5, junk, junk, junk, junk, junk, junk, junk, junk, junk, junk, junk, junk, junk, junk, junk, junk, junk, junk, junk, junk, junk, junk, junk, junk, junk, junk, junk, junk, junk, junk, junk, junk, junk, junk, junk, junk, junk, junk, junk, junk, junk, junk, junk, junk, junk, junk, junk, junk, junk, junk, junk, junk, junk, junk, junk, junk, junk, junk, junk, junk, junk, junk, junk, junk, junk, junk, junk, junk, junk, junk, junk, junk, junk, junk, junk, junk, junk, junk, junk, junk, junk, junk, junk, junk, junk, junk]
theorem XP19_28 : ∃ P : Rec → Nat → Nat → Nat → Int → Int → AMem → Res, P = fun (L : Rec) (x1 : Nat) (x2 : Nat) (x3 : Nat) (x4 : Int) (x5 : Int) (M : AMem) => L.loop b19_28 (k19_28 L) (s19_28 x1 x2 x3 x4 x5 M) M := ⟨_, rfl⟩
noncomputable def P19_28 : Rec → Nat → Nat → Nat → Int → Int → AMem → Res := Classical.choose XP19_28
noncomputable def k19_59 (L : Rec) : KT := retK [.cell true [.int .i64, .int .i64, .slice] 2]
def s19_59 (x2 : Nat) (x3 : Nat) (M : AMem) : List Value := [junk, junk, .pointer (some ⟨x2, 0, none⟩), .pointer (some ⟨x3, 0, none⟩), junk, junk, junk, junk, junk, junk, junk, junk, junk, junk, junk, junk, junk, junk, junk, junk, junk, junk, junk, junk, junk, junk, junk, junk, junk, junk, junk, junk, junk, junk, junk, junk, junk, junk, junk, junk, junk, junk, junk, junk, junk, junk, junk, junk, junk, junk, junk, junk, junk, junk, junk, junk, junk, junk, junk, junk, junk, junk, junk, junk, junk, junk, junk, junk, junk, junk, junk, junk, junk, junk, junk, junk, junk, junk, junk, junk, junk, junk, junk, junk, junk, junk, junk, junk, junk, junk, junk, junk]
theorem XP19_59 : ∃ P : Rec → Nat → Nat → AMem → Res, P = fun (L : Rec) (x2 : Nat) (x3 : Nat) (M : AMem) => code L c19_59 (k19_59 L) (s19_59 x2 x3 M) M := ⟨_, rfl⟩
noncomputable def P19_59 : Rec → Nat → Nat → AMem → Res := Classical.choose XP19_59
noncomputable def k19_39 (L : Rec) : KT := blockK 3 (seqK (code L (.clear zl36 c19_57) (postK zl36 (loopK L b19_28 (blockK 2 (blockK 1 (seqK (code L (.clear zl37 c19_58) (postK zl37 (loopK L b19_16 (blockK 0 (seqK (code L (.clear zl38 c19_59) (retK [.cell true [.int .i64, .int .i64, .slice] 2])) (retK [.cell true [.int .i64, .int .i64, .slice] 2])))))) (postK zl37 (loopK L b19_16 (blockK 0 (seqK (code L (.clear zl38 c19_59) (retK [.cell true [.int .i64, .int .i64, .slice] 2])) (retK [.cell true [.int .i64, .int .i64, .slice] 2]))))))))))) (postK zl36 (loopK L b19_28 (blockK 2 (blockK 1 (seqK (code L (.clear zl37 c19_58) (postK zl37 (loopK L b19_16 (blockK 0 (seqK (code L (.clear zl38 c19_59) (retK [.cell true [.int .i64, .int .i64, .slice] 2])) (retK [.cell true [.int .i64, .int .i64, .slice] 2])))))) (postK zl37 (loopK L b19_16 (blockK 0 (seqK (code L (.clear zl38 c19_59) (retK [.cell true [.int .i64, .int .i64, .slice] 2])) (retK [.cell true [.int .i64, .int .i64, .slice] 2])))))))))))
def s19_39 (x1 : Nat) (x2 : Nat) (x3 : Nat) (x4 : Int) (x5 : Int) (x6 : Nat) (x7 : Nat) (x8 : Nat) (x9 : Nat) (M : AMem) : List Value := [junk, .pointer (some ⟨x1, 0, none⟩), .pointer (some ⟨x2, 0, none⟩), .pointer (some ⟨x3, 0, none⟩), .int .i64 x4, .int .i64 x5, .pointer (some ⟨x6, 0, none⟩), .pointer (some ⟨x7, 0, none⟩), .pointer (some ⟨x8, 0, none⟩), .pointer (some ⟨x9, 0, none⟩), junk, junk, junk, junk, junk, junk, junk, junk, junk, junk, junk, junk, junk, junk, junk, junk, junk, junk, junk, junk, junk, junk, junk, junk, junk, junk, junk, junk, junk, junk, junk, junk, junk, junk, junk, junk, junk, junk, junk, junk, junk, junk, junk, junk, junk, junk, junk, junk, junk, junk, junk, junk, junk, junk, junk, junk, junk, junk, junk, junk, junk, junk, junk, junk, junk, junk, junk, junk, junk, junk, junk, junk, junk, junk, junk, junk, junk, junk, junk, junk, junk, junk]
theorem XP19_39 : ∃ P : Rec → Nat → Nat → Nat → Int → Int → Nat → Nat → Nat → Nat → AMem → Res, P = fun (L : Rec) (x1 : Nat) (x2 : Nat) (x3 : Nat) (x4 : Int) (x5 : Int) (x6 : Nat) (x7 : Nat) (x8 : Nat) (x9 : Nat) (M : AMem) => code L c19_39 (k19_39 L) (s19_39 x1 x2 x3 x4 x5 x6 x7 x8 x9 M) M := ⟨_, rfl⟩
noncomputable def P19_39 : Rec → Nat → Nat → Nat → Int → Int → Nat → Nat → Nat → Nat → AMem → Res := Classical.choose XP19_39
noncomputable def k19_58 (L : Rec) : KT := postK zl37 (loopK L b19_16 (blockK 0 (seqK (code L (.clear zl38 c19_59) (retK [.cell true [.int .i64, .int .i64, .slice] 2])) (retK [.cell true [.int .i64, .int .i64, .slice] 2]))))
def s19_58 (x1 : Nat) (x2 : Nat) (x3 : Nat) (x4 : Int) (M : AMem) : List Value := [junk, .pointer (some ⟨x1, 0, none⟩), .pointer (some ⟨x2, 0, none⟩), .pointer (some ⟨x3, 0, none⟩), .int .i64 x4, junk, junk, junk, junk, junk, junk, junk, junk, junk, junk, junk, junk, junk, junk, junk, junk, junk, junk, junk, junk, junk, junk, junk, junk, junk, junk, junk, junk, junk, junk, junk, junk, junk, junk, junk, junk, junk, junk, junk, junk, junk, junk, junk, junk, junk, junk, junk, junk, junk, junk, junk, junk, junk, junk, junk, junk, junk, junk, junk, junk, junk, junk, junk, junk, junk, junk, junk, junk, junk, junk, junk, junk, junk, junk, junk, junk, junk, junk, junk, junk, junk, junk, junk, junk, junk, junk, junk]
theorem XP19_58 : ∃ P : Rec → Nat → Nat → Nat → Int → AMem → Res, P = fun (L : Rec) (x1 : Nat) (x2 : Nat) (x3 : Nat) (x4 : Int) (M : AMem) => code L c19_58 (k19_58 L) (s19_58 x1 x2 x3 x4 M) M := ⟨_, rfl⟩
noncomputable def P19_58 : Rec → Nat → Nat → Nat → Int → AMem → Res := Classical.choose XP19_58
noncomputable def k19_45 (L : Rec) : KT := blockK 4 (seqK (code L (.clear zl34 c19_56) (blockK 3 (seqK (code L (.clear zl36 c19_57) (postK zl36 (loopK L b19_28 (blockK 2 (blockK 1 (seqK (code L (.clear zl37 c19_58) (postK zl37 (loopK L b19_16 (blockK 0 (seqK (code L (.clear zl38 c19_59) (retK [.cell true [.int .i64, .int .i64, .slice] 2])) (retK [.cell true [.int .i64, .int .i64, .slice] 2])))))) (postK zl37 (loopK L b19_16 (blockK 0 (seqK (code L (.clear zl38 c19_59) (retK [.cell true [.int .i64, .int .i64, .slice] 2])) (retK [.cell true [.int .i64, .int .i64, .slice] 2]))))))))))) (postK zl36 (loopK L b19_28 (blockK 2 (blockK 1 (seqK (code L (.clear zl37 c19_58) (postK zl37 (loopK L b19_16 (blockK 0 (seqK (code L (.clear zl38 c19_59) (retK [.cell true [.int .i64, .int .i64, .slice] 2])) (retK [.cell true [.int .i64, .int .i64, .slice] 2])))))) (postK zl37 (loopK L b19_16 (blockK 0 (seqK (code L (.clear zl38 c19_59) (retK [.cell true [.int .i64, .int .i64, .slice] 2])) (retK [.cell true [.int .i64, .int .i64, .slice] 2]))))))))))))) (blockK 3 (seqK (code L (.clear zl36 c19_57) (postK zl36 (loopK L b19_28 (blockK 2 (blockK 1 (seqK (code L (.clear zl37 c19_58) (postK zl37 (loopK L b19_16 (blockK 0 (seqK (code L (.clear zl38 c19_59) (retK [.cell true [.int .i64, .int .i64, .slice] 2])) (retK [.cell true [.int .i64, .int .i64, .slice] 2])))))) (postK zl37 (loopK L b19_16 (blockK 0 (seqK (code L (.clear zl38 c19_59) (retK [.cell true [.int .i64, .int .i64, .slice] 2])) (retK [.cell true [.int .i64, .int .i64, .slice] 2]))))))))))) (postK zl36 (loopK L b19_28 (blockK 2 (blockK 1 (seqK (code L (.clear zl37 c19_58) (postK zl37 (loopK L b19_16 (blockK 0 (seqK (code L (.clear zl38 c19_59) (retK [.cell true [.int .i64, .int .i64, .slice] 2])) (retK [.cell true [.int .i64, .int .i64, .slice] 2])))))) (postK zl37 (loopK L b19_16 (blockK 0 (seqK (code L (.clear zl38 c19_59) (retK [.cell true [.int .i64, .int .i64, .slice] 2])) (retK [.cell true [.int .i64, .int .i64, .slice] 2])))))))))))))
def s19_45 (x1 : Nat) (x2 : Nat) (x3 : Nat) (x4 : Int) (x5 : Int) (x6 : Nat) (x7 : Nat) (x8 : Nat) (x9 : Nat) (x10 : Nat) (x11 : Int) (M : AMem) : List Value := [junk, .pointer (some ⟨x1, 0, none⟩), .pointer (some ⟨x2, 0, none⟩), .pointer (some ⟨x3, 0, none⟩), .int .i64 x4, .int .i64 x5, .pointer (some ⟨x6, 0, none⟩), .pointer (some ⟨x7, 0, none⟩), .pointer (some ⟨x8, 0, none⟩), .pointer (some ⟨x9, 0, none⟩), .pointer (some ⟨x10, 0, none⟩), .int .i64 x11, junk, junk, junk, junk, junk, junk, junk, junk, junk, junk, junk, junk, junk, junk, junk, junk, junk, junk, junk, junk, junk, junk, junk, junk, junk, junk, junk, junk, junk, junk, junk, junk, junk, junk, junk, junk, junk, junk, junk, junk, junk, junk, junk, junk, junk, junk, junk, junk, junk, junk, junk, junk, junk, junk, junk, junk, junk, junk, junk, junk, junk, junk, junk, junk, junk, junk, junk, junk, junk, junk, junk, junk, junk, junk, junk, junk, junk, junk, junk, junk]
theorem XP19_45 : ∃ P : Rec → Nat → Nat → Nat → Int → Int → Nat → Nat → Nat → Nat → Nat → Int → AMem → Res, P = fun (L : Rec) (x1 : Nat) (x2 : Nat) (x3 : Nat) (x4 : Int) (x5 : Int) (x6 : Nat) (x7 : Nat) (x8 : Nat) (x9 : Nat) (x10 : Nat) (x11 : Int) (M : AMem) => L.loop b19_45 (k19_45 L) (s19_45 x1 x2 x3 x4 x5 x6 x7 x8 x9 x10 x11 M) M := ⟨_, rfl⟩
noncomputable def P19_45 : Rec → Nat → Nat → Nat → Int → Int → Nat → Nat → Nat → Nat → Nat → Int → AMem → Res := Classical.choose XP19_45
noncomputable def k19_55 (L : Rec) : KT := postK zl33 (loopK L b19_45 (blockK 4 (seqK (code L (.clear zl34 c19_56) (blockK 3 (seqK (code L (.clear zl36 c19_57) (postK zl36 (loopK L b19_28 (blockK 2 (blockK 1 (seqK (code L (.clear zl37 c19_58) (postK zl37 (loopK L b19_16 (blockK 0 (seqK (code L (.clear zl38 c19_59) (retK [.cell true [.int .i64, .int .i64, .slice] 2])) (retK [.cell true [.int .i64, .int .i64, .slice] 2])))))) (postK zl37 (loopK L b19_16 (blockK 0 (seqK (code L (.clear zl38 c19_59) (retK [.cell true [.int .i64, .int .i64, .slice] 2])) (retK [.cell true [.int .i64, .int .i64, .slice] 2]))))))))))) (postK zl36 (loopK L b19_28 (blockK 2 (blockK 1 (seqK (code L (.clear zl37 c19_58) (postK zl37 (loopK L b19_16 (blockK 0 (seqK (code L (.clear zl38 c19_59) (retK [.cell true [.int .i64, .int .i64, .slice] 2])) (retK [.cell true [.int .i64, .int .i64, .slice] 2])))))) (postK zl37 (loopK L b19_16 (blockK 0 (seqK (code L (.clear zl38 c19_59) (retK [.cell true [.int .i64, .int .i64, .slice] 2])) (retK [.cell true [.int .i64, .int .i64, .slice] 2]))))))))))))) (blockK 3 (seqK (code L (.clear zl36 c19_57) (postK zl36 (loopK L b19_28 (blockK 2 (blockK 1 (seqK (code L (.clear zl37 c19_58) (postK zl37 (loopK L b19_16 (blockK 0 (seqK (code L (.clear zl38 c19_59) (retK [.cell true [.int .i64, .int .i64, .slice] 2])) (retK [.cell true [.int .i64, .int .i64, .slice] 2])))))) (postK zl37 (loopK L b19_16 (blockK 0 (seqK (code L (.clear zl38 c19_59) (retK [.cell true [.int .i64, .int .i64, .slice] 2])) (retK [.cell true [.int .i64, .int .i64, .slice] 2]))))))))))) (postK zl36 (loopK L b19_28 (blockK 2 (blockK 1 (seqK (code L (.clear zl37 c19_58) (postK zl37 (loopK L b19_16 (blockK 0 (seqK (code L (.clear zl38 c19_59) (retK [.cell true [.int .i64, .int .i64, .slice] 2])) (retK [.cell true [.int .i64, .int .i64, .slice] 2])))))) (postK zl37 (loopK L b19_16 (blockK 0 (seqK (code L (.clear zl38 c19_59) (retK [.cell true [.int .i64, .int .i64, .slice] 2])) (retK [.cell true [.int .i64, .int .i64, .slice] 2])))))))))))))))
def s19_55 (x1 : Nat) (x2 : Nat) (x3 : Nat) (x4 : Int) (x5 : Int) (x6 : Nat) (x7 : Nat) (x8 : Nat) (x9 : Nat) (x10 : Nat) (x11 : Int) (M : AMem) : List Value := [junk, .pointer (some ⟨x1, 0, none⟩), .pointer (some ⟨x2, 0, none⟩), .pointer (some ⟨x3, 0, none⟩), .int .i64 x4, .int .i64 x5, .pointer (some ⟨x6, 0, none⟩), .pointer (some ⟨x7, 0, none⟩), .pointer (some ⟨x8, 0, none⟩), .pointer (some ⟨x9, 0, none⟩), .pointer (some ⟨x10, 0, none⟩), .int .i64 x11, junk, junk, junk, junk, junk, junk, junk, junk, junk, junk, junk, junk, junk, junk, junk, junk, junk, junk, junk, junk, junk, junk, junk, junk, junk, junk, junk, junk, junk, junk, junk, junk, junk, junk, junk, junk, junk, junk, junk, junk, junk, junk, junk, junk, junk, junk, junk, junk, junk, junk, junk, junk, junk, junk, junk, junk, junk, junk, junk, junk, junk, junk, junk, junk, junk, junk, junk, junk, junk, junk, junk, junk, junk, junk, junk, junk, junk, junk, junk, junk]
theorem XP19_55 : ∃ P : Rec → Nat → Nat → Nat → Int → Int → Nat → Nat → Nat → Nat → Nat → Int → AMem → Res, P = fun (L : Rec) (x1 : Nat) (x2 : Nat) (x3 : Nat) (x4 : Int) (x5 : Int) (x6 : Nat) (x7 : Nat) (x8 : Nat) (x9 : Nat) (x10 : Nat) (x11 : Int) (M : AMem) => code L c19_55 (k19_55 L) (s19_55 x1 x2 x3 x4 x5 x6 x7 x8 x9 x10 x11 M) M := ⟨_, rfl⟩
noncomputable def P19_55 : Rec → Nat → Nat → Nat → Int → Int → Nat → Nat → Nat → Nat → Nat → Int → AMem → Res := Classical.choose XP19_55
noncomputable def k19_56 (L : Rec) : KT := blockK 3 (seqK (code L (.clear zl36 c19_57) (postK zl36 (loopK L b19_28 (blockK 2 (blockK 1 (seqK (code L (.clear zl37 c19_58) (postK zl37 (loopK L b19_16 (blockK 0 (seqK (code L (.clear zl38 c19_59) (retK [.cell true [.int .i64, .int .i64, .slice] 2])) (retK [.cell true [.int .i64, .int .i64, .slice] 2])))))) (postK zl37 (loopK L b19_16 (blockK 0 (seqK (code L (.clear zl38 c19_59) (retK [.cell true [.int .i64, .int .i64, .slice] 2])) (retK [.cell true [.int .i64, .int .i64, .slice] 2]))))))))))) (postK zl36 (loopK L b19_28 (blockK 2 (blockK 1 (seqK (code L (.clear zl37 c19_58) (postK zl37 (loopK L b19_16 (blockK 0 (seqK (code L (.clear zl38 c19_59) (retK [.cell true [.int .i64, .int .i64, .slice] 2])) (retK [.cell true [.int .i64, .int .i64, .slice] 2])))))) (postK zl37 (loopK L b19_16 (blockK 0 (seqK (code L (.clear zl38 c19_59) (retK [.cell true [.int .i64, .int .i64, .slice] 2])) (retK [.cell true [.int .i64, .int .i64, .slice] 2])))))))))))
def s19_56 (x1 : Nat) (x2 : Nat) (x3 : Nat) (x4 : Int) (x5 : Int) (x10 : Nat) (M : AMem) : List Value := [junk, .pointer (some ⟨x1, 0, none⟩), .pointer (some ⟨x2, 0, none⟩), .pointer (some ⟨x3, 0, none⟩), .int .i64 x4, .int .i64 x5, junk, junk, junk, junk, .pointer (some ⟨x10, 0, none⟩), junk, junk, junk, junk, junk, junk, junk, junk, junk, junk, junk, junk, junk, junk, junk, junk, junk, junk, junk, junk, junk, junk, junk, junk, junk, junk, junk, junk, junk, junk, junk, junk, junk, junk, junk, junk, junk, junk, junk, junk, junk, junk, junk, junk, junk, junk, junk, junk, junk, junk, junk, junk, junk, junk, junk, junk, junk, junk, junk, junk, junk, junk, junk, junk, junk, junk, junk, junk, junk, junk, junk, junk, junk, junk, junk, junk, junk, junk, junk, junk, junk]
theorem XP19_56 : ∃ P : Rec → Nat → Nat → Nat → Int → Int → Nat → AMem → Res, P = fun (L : Rec) (x1 : Nat) (x2 : Nat) (x3 : Nat) (x4 : Int) (x5 : Int) (x10 : Nat) (M : AMem) => code L c19_56 (k19_56 L) (s19_56 x1 x2 x3 x4 x5 x10 M) M := ⟨_, rfl⟩
noncomputable def P19_56 : Rec → Nat → Nat → Nat → Int → Int → Nat → AMem → Res := Classical.choose XP19_56
noncomputable def k19_57 (L : Rec) : KT := postK zl36 (loopK L b19_28 (blockK 2 (blockK 1 (seqK (code L (.clear zl37 c19_58) (postK zl37 (loopK L b19_16 (blockK 0 (seqK (code L (.clear zl38 c19_59) (retK [.cell true [.int .i64, .int .i64, .slice] 2])) (retK [.cell true [.int .i64, .int .i64, .slice] 2])))))) (postK zl37 (loopK L b19_16 (blockK 0 (seqK (code L (.clear zl38 c19_59) (retK [.cell true [.int .i64, .int .i64, .slice] 2])) (retK [.cell true [.int .i64, .int .i64, .slice] 2])))))))))
def s19_57 (x1 : Nat) (x2 : Nat) (x3 : Nat) (x4 : Int) (x5 : Int) (M : AMem) : List Value := [junk, .pointer (some ⟨x1, 0, none⟩), .pointer (some ⟨x2, 0, none⟩), .pointer (some ⟨x3, 0, none⟩), .int .i64 x4, .int .i64 x5, junk, junk, junk, junk, junk, junk, junk, junk, junk, junk, junk, junk, junk, junk, junk, junk, junk, junk, junk, junk, junk, junk, junk, junk, junk, junk, junk, junk, junk, junk, junk, junk, junk, junk, junk, junk, junk, junk, junk, junk, junk, junk, junk, junk, junk, junk, junk, junk, junk, junk, junk, junk, junk, junk, junk, junk, junk, junk, junk, junk, junk, junk, junk, junk, junk, junk, junk, junk, junk, junk, junk, junk, junk, junk, junk, junk, junk, junk, junk, junk, junk, junk, junk, junk, junk, junk]
theorem XP19_57 : ∃ P : Rec → Nat → Nat → Nat → Int → Int → AMem → Res, P = fun (L : Rec) (x1 : Nat) (x2 : Nat) (x3 : Nat) (x4 : Int) (x5 : Int) (M : AMem) => code L c19_57 (k19_57 L) (s19_57 x1 x2 x3 x4 x5 M) M := ⟨_, rfl⟩
noncomputable def P19_57 : Rec → Nat → Nat → Nat → Int → Int → AMem → Res := Classical.choose XP19_57
theorem QP19_16_eq (L : Rec) (b19_16 b19_28 c19_58 c19_59 : ACode) (hb : ∀ K t A, L.loop b19_16 K t A = code L (.post (.seq (.seq (.ops o19_19) (.cond (.tmp 26) (.skip) (.exit 0))) (.seq (.block 1 (.seq (.ops o19_26) (.block 2 (.clear zl36 (.loop b19_28))))) (.clear zl37 c19_58))) zl37) (loopK L b19_16 K) t A) (P19_16 : Rec → Nat → Nat → Nat → Int → AMem → Res) (hP19_16 : P19_16 = fun (L : Rec) (x1 : Nat) (x2 : Nat) (x3 : Nat) (x4 : Int) (M : AMem) => L.loop b19_16 (blockK 0 (seqK (code L (.clear zl38 c19_59) (retK [.cell true [.int .i64, .int .i64, .slice] 2])) (retK [.cell true [.int .i64, .int .i64, .slice] 2]))) (s19_16 x1 x2 x3 x4 M) M) (P19_28 : Rec → Nat → Nat → Nat → Int → Int → AMem → Res) (hP19_28 : P19_28 = fun (L : Rec) (x1 : Nat) (x2 : Nat) (x3 : Nat) (x4 : Int) (x5 : Int) (M : AMem) => L.loop b19_28 (blockK 2 (blockK 1 (seqK (code L (.clear zl37 c19_58) (postK zl37 (loopK L b19_16 (blockK 0 (seqK (code L (.clear zl38 c19_59) (retK [.cell true [.int .i64, .int .i64, .slice] 2])) (retK [.cell true [.int .i64, .int .i64, .slice] 2])))))) (postK zl37 (loopK L b19_16 (blockK 0 (seqK (code L (.clear zl38 c19_59) (retK [.cell true [.int .i64, .int .i64, .slice] 2])) (retK [.cell true [.int .i64, .int .i64, .slice] 2])))))))) (s19_28 x1 x2 x3 x4 x5 M) M) (P19_59 : Rec → Nat → Nat → AMem → Res) (hP19_59 : P19_59 = fun (L : Rec) (x2 : Nat) (x3 : Nat) (M : AMem) => code L c19_59 (retK [.cell true [.int .i64, .int .i64, .slice] 2]) (s19_59 x2 x3 M) M) (x1 : Nat) (x2 : Nat) (x3 : Nat) (x4 : Int) (M : AMem) : P19_16 L x1 x2 x3 x4 M =
  (Option.bind (intOf? .i64 (AMem.ld M x3 1)) fun x_1 =>
    (if (decide (x4 < x_1)) = true
    then P19_28 L x1 x2 x3 x4 0 M
    else P19_59 L x2 x3 M)) := by
  subst hP19_16; subst hP19_28; subst hP19_59; exact (hb (blockK 0 (seqK (code L (.clear zl38 c19_59) (retK [.cell true [.int .i64, .int .i64, .slice] 2])) (retK [.cell true [.int .i64, .int .i64, .slice] 2]))) (s19_16 x1 x2 x3 x4 M) M).trans (by kernel_rfl)
theorem P19_16_eq (L : Rec) (hL : ∀ b K t A, L.loop b K t A = code L b (loopK L b K) t A) (x1 : Nat) (x2 : Nat) (x3 : Nat) (x4 : Int) (M : AMem) : P19_16 L x1 x2 x3 x4 M =
  (Option.bind (intOf? .i64 (AMem.ld M x3 1)) fun x_1 =>
    (if (decide (x4 < x_1)) = true
    then P19_28 L x1 x2 x3 x4 0 M
    else P19_59 L x2 x3 M)) := QP19_16_eq L b19_16 b19_28 c19_58 c19_59 (hL b19_16) P19_16 (Classical.choose_spec XP19_16) P19_28 (Classical.choose_spec XP19_28) P19_59 (Classical.choose_spec XP19_59) x1 x2 x3 x4 M
theorem QP19_28_eq (L : Rec) (b19_16 b19_28 c19_39 c19_57 c19_58 c19_59 : ACode) (hb : ∀ K t A, L.loop b19_28 K t A = code L (.post (.seq (.seq (.ops o19_31) (.cond (.tmp 32) (.skip) (.exit 2))) (.seq (.block 3 (.seq (.draw f19_38 0 o19_38 [(6, 5), (13, 5), (13, 12), (20, 5), (20, 12), (20, 19), (28, 5), (28, 12), (28, 19), (28, 27), (29, 5), (29, 12), (29, 19), (29, 27), (30, 5), (30, 12), (30, 19), (30, 27), (31, 5), (31, 12), (31, 19), (31, 27)]) (.clear zl35 c19_39))) (.clear zl36 c19_57))) zl36) (loopK L b19_28 K) t A) (P19_28 : Rec → Nat → Nat → Nat → Int → Int → AMem → Res) (hP19_28 : P19_28 = fun (L : Rec) (x1 : Nat) (x2 : Nat) (x3 : Nat) (x4 : Int) (x5 : Int) (M : AMem) => L.loop b19_28 (blockK 2 (blockK 1 (seqK (code L (.clear zl37 c19_58) (postK zl37 (loopK L b19_16 (blockK 0 (seqK (code L (.clear zl38 c19_59) (retK [.cell true [.int .i64, .int .i64, .slice] 2])) (retK [.cell true [.int .i64, .int .i64, .slice] 2])))))) (postK zl37 (loopK L b19_16 (blockK 0 (seqK (code L (.clear zl38 c19_59) (retK [.cell true [.int .i64, .int .i64, .slice] 2])) (retK [.cell true [.int .i64, .int .i64, .slice] 2])))))))) (s19_28 x1 x2 x3 x4 x5 M) M) (P19_39 : Rec → Nat → Nat → Nat → Int → Int → Nat → Nat → Nat → Nat → AMem → Res) (hP19_39 : P19_39 = fun (L : Rec) (x1 : Nat) (x2 : Nat) (x3 : Nat) (x4 : Int) (x5 : Int) (x6 : Nat) (x7 : Nat) (x8 : Nat) (x9 : Nat) (M : AMem) => code L c19_39 (blockK 3 (seqK (code L (.clear zl36 c19_57) (postK zl36 (loopK L b19_28 (blockK 2 (blockK 1 (seqK (code L (.clear zl37 c19_58) (postK zl37 (loopK L b19_16 (blockK 0 (seqK (code L (.clear zl38 c19_59) (retK [.cell true [.int .i64, .int .i64, .slice] 2])) (retK [.cell true [.int .i64, .int .i64, .slice] 2])))))) (postK zl37 (loopK L b19_16 (blockK 0 (seqK (code L (.clear zl38 c19_59) (retK [.cell true [.int .i64, .int .i64, .slice] 2])) (retK [.cell true [.int .i64, .int .i64, .slice] 2]))))))))))) (postK zl36 (loopK L b19_28 (blockK 2 (blockK 1 (seqK (code L (.clear zl37 c19_58) (postK zl37 (loopK L b19_16 (blockK 0 (seqK (code L (.clear zl38 c19_59) (retK [.cell true [.int .i64, .int .i64, .slice] 2])) (retK [.cell true [.int .i64, .int .i64, .slice] 2])))))) (postK zl37 (loopK L b19_16 (blockK 0 (seqK (code L (.clear zl38 c19_59) (retK [.cell true [.int .i64, .int .i64, .slice] 2])) (retK [.cell true [.int .i64, .int .i64, .slice] 2])))))))))))) (s19_39 x1 x2 x3 x4 x5 x6 x7 x8 x9 M) M) (P19_58 : Rec → Nat → Nat → Nat → Int → AMem → Res) (hP19_58 : P19_58 = fun (L : Rec) (x1 : Nat) (x2 : Nat) (x3 : Nat) (x4 : Int) (M : AMem) => code L c19_58 (postK zl37 (loopK L b19_16 (blockK 0 (seqK (code L (.clear zl38 c19_59) (retK [.cell true [.int .i64, .int .i64, .slice] 2])) (retK [.cell true [.int .i64, .int .i64, .slice] 2]))))) (s19_58 x1 x2 x3 x4 M) M) (x1 : Nat) (x2 : Nat) (x3 : Nat) (x4 : Int) (x5 : Int) (M : AMem) : P19_28 L x1 x2 x3 x4 x5 M =
  (Option.bind (intOf? .i64 (AMem.ld M x3 0)) fun x_1 =>
    (if (decide (x5 < x_1)) = true
    then (Option.bind (intOf? .i64 (AMem.ld ((((M ++ [AObj.cells [.int .i64 0, .int .i64 0, .int .i64 0] ⟨false, 0⟩]) ++ [AObj.cells [.int .i64 0, .int .i64 0, .int .i64 0] ⟨false, 0⟩]) ++ [AObj.cells [.int .i64 0, .int .i64 0, .int .i64 0] ⟨false, 0⟩]) ++ [AObj.cells [.int .i64 0, .int .i64 0, .int .i64 0] ⟨false, 0⟩]) x1 0)) fun x_2 =>
      (Option.bind (intOf? .i64 (AMem.ld ((((M ++ [AObj.cells [.int .i64 0, .int .i64 0, .int .i64 0] ⟨false, 0⟩]) ++ [AObj.cells [.int .i64 0, .int .i64 0, .int .i64 0] ⟨false, 0⟩]) ++ [AObj.cells [.int .i64 0, .int .i64 0, .int .i64 0] ⟨false, 0⟩]) ++ [AObj.cells [.int .i64 0, .int .i64 0, .int .i64 0] ⟨false, 0⟩]) x1 1)) fun x_3 =>
      (Option.bind (sliceOf? (AMem.ld ((((M ++ [AObj.cells [.int .i64 0, .int .i64 0, .int .i64 0] ⟨false, 0⟩]) ++ [AObj.cells [.int .i64 0, .int .i64 0, .int .i64 0] ⟨false, 0⟩]) ++ [AObj.cells [.int .i64 0, .int .i64 0, .int .i64 0] ⟨false, 0⟩]) ++ [AObj.cells [.int .i64 0, .int .i64 0, .int .i64 0] ⟨false, 0⟩]) x1 2)) fun s_4 =>
      (Option.bind (L.call 29 [.agg #[.int .i64 x_2, .int .i64 x_3, .slice s_4.1 s_4.2.1 s_4.2.2], .int .i64 (IntKind.wrap .i64 (2 * x5)), .int .i64 (IntKind.wrap .i64 (2 * x4))] ((((M ++ [AObj.cells [.int .i64 0, .int .i64 0, .int .i64 0] ⟨false, 0⟩]) ++ [AObj.cells [.int .i64 0, .int .i64 0, .int .i64 0] ⟨false, 0⟩]) ++ [AObj.cells [.int .i64 0, .int .i64 0, .int .i64 0] ⟨false, 0⟩]) ++ [AObj.cells [.int .i64 0, .int .i64 0, .int .i64 0] ⟨false, 0⟩])) fun r_5 =>
      (Option.bind (aggOf? 3 r_5.1) fun cs_6 =>
      (Option.bind (intOf? .i64 (cs_6[0]?)) fun x_7 =>
      (Option.bind (intOf? .i64 (cs_6[1]?)) fun x_8 =>
      (Option.bind (intOf? .i64 (cs_6[2]?)) fun x_9 =>
      (Option.bind (intOf? .i64 (AMem.ld r_5.2 x1 0)) fun x_10 =>
      (Option.bind (intOf? .i64 (AMem.ld r_5.2 x1 1)) fun x_11 =>
      (Option.bind (sliceOf? (AMem.ld r_5.2 x1 2)) fun s_12 =>
      (Option.bind (L.call 29 [.agg #[.int .i64 x_10, .int .i64 x_11, .slice s_12.1 s_12.2.1 s_12.2.2], .int .i64 (IntKind.wrap .i64 ((IntKind.wrap .i64 (2 * x5)) + 1)), .int .i64 (IntKind.wrap .i64 (2 * x4))] r_5.2) fun r_13 =>
      (Option.bind (aggOf? 3 r_13.1) fun cs_14 =>
      (Option.bind (intOf? .i64 (cs_14[0]?)) fun x_15 =>
      (Option.bind (intOf? .i64 (cs_14[1]?)) fun x_16 =>
      (Option.bind (intOf? .i64 (cs_14[2]?)) fun x_17 =>
      (Option.bind (intOf? .i64 (AMem.ld r_13.2 x1 0)) fun x_18 =>
      (Option.bind (intOf? .i64 (AMem.ld r_13.2 x1 1)) fun x_19 =>
      (Option.bind (sliceOf? (AMem.ld r_13.2 x1 2)) fun s_20 =>
      (Option.bind (L.call 29 [.agg #[.int .i64 x_18, .int .i64 x_19, .slice s_20.1 s_20.2.1 s_20.2.2], .int .i64 (IntKind.wrap .i64 (2 * x5)), .int .i64 (IntKind.wrap .i64 ((IntKind.wrap .i64 (2 * x4)) + 1))] r_13.2) fun r_21 =>
      (Option.bind (aggOf? 3 r_21.1) fun cs_22 =>
      (Option.bind (intOf? .i64 (cs_22[0]?)) fun x_23 =>
      (Option.bind (intOf? .i64 (cs_22[1]?)) fun x_24 =>
      (Option.bind (intOf? .i64 (cs_22[2]?)) fun x_25 =>
      (Option.bind (intOf? .i64 (AMem.ld r_21.2 x1 0)) fun x_26 =>
      (Option.bind (intOf? .i64 (AMem.ld r_21.2 x1 1)) fun x_27 =>
      (Option.bind (sliceOf? (AMem.ld r_21.2 x1 2)) fun s_28 =>
      (Option.bind (L.call 29 [.agg #[.int .i64 x_26, .int .i64 x_27, .slice s_28.1 s_28.2.1 s_28.2.2], .int .i64 (IntKind.wrap .i64 ((IntKind.wrap .i64 (2 * x5)) + 1)), .int .i64 (IntKind.wrap .i64 ((IntKind.wrap .i64 (2 * x4)) + 1))] r_21.2) fun r_29 =>
      (Option.bind (aggOf? 3 r_29.1) fun cs_30 =>
      (Option.bind (intOf? .i64 (cs_30[0]?)) fun x_31 =>
      (Option.bind (intOf? .i64 (cs_30[1]?)) fun x_32 =>
      (Option.bind (intOf? .i64 (cs_30[2]?)) fun x_33 =>
      (Option.bind (AMem.wr r_29.2 (List.length M) 0 [.int .i64 x_7, .int .i64 x_8, .int .i64 x_9]) fun M_34 =>
      (Option.bind (AMem.wr M_34 (List.length (M ++ [AObj.cells [.int .i64 0, .int .i64 0, .int .i64 0] ⟨false, 0⟩])) 0 [.int .i64 x_15, .int .i64 x_16, .int .i64 x_17]) fun M_35 =>
      (Option.bind (AMem.wr M_35 (List.length ((M ++ [AObj.cells [.int .i64 0, .int .i64 0, .int .i64 0] ⟨false, 0⟩]) ++ [AObj.cells [.int .i64 0, .int .i64 0, .int .i64 0] ⟨false, 0⟩])) 0 [.int .i64 x_23, .int .i64 x_24, .int .i64 x_25]) fun M_36 =>
      (Option.bind (AMem.wr M_36 (List.length (((M ++ [AObj.cells [.int .i64 0, .int .i64 0, .int .i64 0] ⟨false, 0⟩]) ++ [AObj.cells [.int .i64 0, .int .i64 0, .int .i64 0] ⟨false, 0⟩]) ++ [AObj.cells [.int .i64 0, .int .i64 0, .int .i64 0] ⟨false, 0⟩])) 0 [.int .i64 x_31, .int .i64 x_32, .int .i64 x_33]) fun M_37 =>
      (if chkOk [(6, 5), (13, 5), (13, 12), (20, 5), (20, 12), (20, 19), (28, 5), (28, 12), (28, 19), (28, 27), (29, 5), (29, 12), (29, 19), (29, 27), (30, 5), (30, 12), (30, 19), (30, 27), (31, 5), (31, 12), (31, 19), (31, 27)] [(31, (List.length (((M ++ [AObj.cells [.int .i64 0, .int .i64 0, .int .i64 0] ⟨false, 0⟩]) ++ [AObj.cells [.int .i64 0, .int .i64 0, .int .i64 0] ⟨false, 0⟩]) ++ [AObj.cells [.int .i64 0, .int .i64 0, .int .i64 0] ⟨false, 0⟩]))), (30, (List.length ((M ++ [AObj.cells [.int .i64 0, .int .i64 0, .int .i64 0] ⟨false, 0⟩]) ++ [AObj.cells [.int .i64 0, .int .i64 0, .int .i64 0] ⟨false, 0⟩]))), (29, (List.length (M ++ [AObj.cells [.int .i64 0, .int .i64 0, .int .i64 0] ⟨false, 0⟩]))), (28, (List.length M)), (20, x1), (13, x1), (6, x1)] [(27, (r_21.2, r_29.2)), (19, (r_13.2, r_21.2)), (12, (r_5.2, r_13.2)), (5, (((((M ++ [AObj.cells [.int .i64 0, .int .i64 0, .int .i64 0] ⟨false, 0⟩]) ++ [AObj.cells [.int .i64 0, .int .i64 0, .int .i64 0] ⟨false, 0⟩]) ++ [AObj.cells [.int .i64 0, .int .i64 0, .int .i64 0] ⟨false, 0⟩]) ++ [AObj.cells [.int .i64 0, .int .i64 0, .int .i64 0] ⟨false, 0⟩]), r_5.2))] = true
      then P19_39 L x1 x2 x3 x4 x5 (List.length M) (List.length (M ++ [AObj.cells [.int .i64 0, .int .i64 0, .int .i64 0] ⟨false, 0⟩])) (List.length ((M ++ [AObj.cells [.int .i64 0, .int .i64 0, .int .i64 0] ⟨false, 0⟩]) ++ [AObj.cells [.int .i64 0, .int .i64 0, .int .i64 0] ⟨false, 0⟩])) (List.length (((M ++ [AObj.cells [.int .i64 0, .int .i64 0, .int .i64 0] ⟨false, 0⟩]) ++ [AObj.cells [.int .i64 0, .int .i64 0, .int .i64 0] ⟨false, 0⟩]) ++ [AObj.cells [.int .i64 0, .int .i64 0, .int .i64 0] ⟨false, 0⟩])) M_37
      else none)))))))))))))))))))))))))))))))))))))
    else P19_58 L x1 x2 x3 x4 M)) := by
  subst hP19_28; subst hP19_39; subst hP19_58; exact (hb (blockK 2 (blockK 1 (seqK (code L (.clear zl37 c19_58) (postK zl37 (loopK L b19_16 (blockK 0 (seqK (code L (.clear zl38 c19_59) (retK [.cell true [.int .i64, .int .i64, .slice] 2])) (retK [.cell true [.int .i64, .int .i64, .slice] 2])))))) (postK zl37 (loopK L b19_16 (blockK 0 (seqK (code L (.clear zl38 c19_59) (retK [.cell true [.int .i64, .int .i64, .slice] 2])) (retK [.cell true [.int .i64, .int .i64, .slice] 2])))))))) (s19_28 x1 x2 x3 x4 x5 M) M).trans (by kernel_rfl)
theorem P19_28_eq (L : Rec) (hL : ∀ b K t A, L.loop b K t A = code L b (loopK L b K) t A) (x1 : Nat) (x2 : Nat) (x3 : Nat) (x4 : Int) (x5 : Int) (M : AMem) : P19_28 L x1 x2 x3 x4 x5 M =
  (Option.bind (intOf? .i64 (AMem.ld M x3 0)) fun x_1 =>
    (if (decide (x5 < x_1)) = true
    then (Option.bind (intOf? .i64 (AMem.ld ((((M ++ [AObj.cells [.int .i64 0, .int .i64 0, .int .i64 0] ⟨false, 0⟩]) ++ [AObj.cells [.int .i64 0, .int .i64 0, .int .i64 0] ⟨false, 0⟩]) ++ [AObj.cells [.int .i64 0, .int .i64 0, .int .i64 0] ⟨false, 0⟩]) ++ [AObj.cells [.int .i64 0, .int .i64 0, .int .i64 0] ⟨false, 0⟩]) x1 0)) fun x_2 =>
      (Option.bind (intOf? .i64 (AMem.ld ((((M ++ [AObj.cells [.int .i64 0, .int .i64 0, .int .i64 0] ⟨false, 0⟩]) ++ [AObj.cells [.int .i64 0, .int .i64 0, .int .i64 0] ⟨false, 0⟩]) ++ [AObj.cells [.int .i64 0, .int .i64 0, .int .i64 0] ⟨false, 0⟩]) ++ [AObj.cells [.int .i64 0, .int .i64 0, .int .i64 0] ⟨false, 0⟩]) x1 1)) fun x_3 =>
      (Option.bind (sliceOf? (AMem.ld ((((M ++ [AObj.cells [.int .i64 0, .int .i64 0, .int .i64 0] ⟨false, 0⟩]) ++ [AObj.cells [.int .i64 0, .int .i64 0, .int .i64 0] ⟨false, 0⟩]) ++ [AObj.cells [.int .i64 0, .int .i64 0, .int .i64 0] ⟨false, 0⟩]) ++ [AObj.cells [.int .i64 0, .int .i64 0, .int .i64 0] ⟨false, 0⟩]) x1 2)) fun s_4 =>
      (Option.bind (L.call 29 [.agg #[.int .i64 x_2, .int .i64 x_3, .slice s_4.1 s_4.2.1 s_4.2.2], .int .i64 (IntKind.wrap .i64 (2 * x5)), .int .i64 (IntKind.wrap .i64 (2 * x4))] ((((M ++ [AObj.cells [.int .i64 0, .int .i64 0, .int .i64 0] ⟨false, 0⟩]) ++ [AObj.cells [.int .i64 0, .int .i64 0, .int .i64 0] ⟨false, 0⟩]) ++ [AObj.cells [.int .i64 0, .int .i64 0, .int .i64 0] ⟨false, 0⟩]) ++ [AObj.cells [.int .i64 0, .int .i64 0, .int .i64 0] ⟨false, 0⟩])) fun r_5 =>
      (Option.bind (aggOf? 3 r_5.1) fun cs_6 =>
      (Option.bind (intOf? .i64 (cs_6[0]?)) fun x_7 =>
      (Option.bind (intOf? .i64 (cs_6[1]?)) fun x_8 =>
      (Option.bind (intOf? .i64 (cs_6[2]?)) fun x_9 =>
      (Option.bind (intOf? .i64 (AMem.ld r_5.2 x1 0)) fun x_10 =>
      (Option.bind (intOf? .i64 (AMem.ld r_5.2 x1 1)) fun x_11 =>
      (Option.bind (sliceOf? (AMem.ld r_5.2 x1 2)) fun s_12 =>
      (Option.bind (L.call 29 [.agg #[.int .i64 x_10, .int .i64 x_11, .slice s_12.1 s_12.2.1 s_12.2.2], .int .i64 (IntKind.wrap .i64 ((IntKind.wrap .i64 (2 * x5)) + 1)), .int .i64 (IntKind.wrap .i64 (2 * x4))] r_5.2) fun r_13 =>
      (Option.bind (aggOf? 3 r_13.1) fun cs_14 =>
      (Option.bind (intOf? .i64 (cs_14[0]?)) fun x_15 =>
      (Option.bind (intOf? .i64 (cs_14[1]?)) fun x_16 =>
      (Option.bind (intOf? .i64 (cs_14[2]?)) fun x_17 =>
      (Option.bind (intOf? .i64 (AMem.ld r_13.2 x1 0)) fun x_18 =>
      (Option.bind (intOf? .i64 (AMem.ld r_13.2 x1 1)) fun x_19 =>
      (Option.bind (sliceOf? (AMem.ld r_13.2 x1 2)) fun s_20 =>
      (Option.bind (L.call 29 [.agg #[.int .i64 x_18, .int .i64 x_19, .slice s_20.1 s_20.2.1 s_20.2.2], .int .i64 (IntKind.wrap .i64 (2 * x5)), .int .i64 (IntKind.wrap .i64 ((IntKind.wrap .i64 (2 * x4)) + 1))] r_13.2) fun r_21 =>
      (Option.bind (aggOf? 3 r_21.1) fun cs_22 =>
      (Option.bind (intOf? .i64 (cs_22[0]?)) fun x_23 =>
      (Option.bind (intOf? .i64 (cs_22[1]?)) fun x_24 =>
      (Option.bind (intOf? .i64 (cs_22[2]?)) fun x_25 =>
      (Option.bind (intOf? .i64 (AMem.ld r_21.2 x1 0)) fun x_26 =>
      (Option.bind (intOf? .i64 (AMem.ld r_21.2 x1 1)) fun x_27 =>
      (Option.bind (sliceOf? (AMem.ld r_21.2 x1 2)) fun s_28 =>
      (Option.bind (L.call 29 [.agg #[.int .i64 x_26, .int .i64 x_27, .slice s_28.1 s_28.2.1 s_28.2.2], .int .i64 (IntKind.wrap .i64 ((IntKind.wrap .i64 (2 * x5)) + 1)), .int .i64 (IntKind.wrap .i64 ((IntKind.wrap .i64 (2 * x4)) + 1))] r_21.2) fun r_29 =>
      (Option.bind (aggOf? 3 r_29.1) fun cs_30 =>
      (Option.bind (intOf? .i64 (cs_30[0]?)) fun x_31 =>
      (Option.bind (intOf? .i64 (cs_30[1]?)) fun x_32 =>
      (Option.bind (intOf? .i64 (cs_30[2]?)) fun x_33 =>
      (Option.bind (AMem.wr r_29.2 (List.length M) 0 [.int .i64 x_7, .int .i64 x_8, .int .i64 x_9]) fun M_34 =>
      (Option.bind (AMem.wr M_34 (List.length (M ++ [AObj.cells [.int .i64 0, .int .i64 0, .int .i64 0] ⟨false, 0⟩])) 0 [.int .i64 x_15, .int .i64 x_16, .int .i64 x_17]) fun M_35 =>
      (Option.bind (AMem.wr M_35 (List.length ((M ++ [AObj.cells [.int .i64 0, .int .i64 0, .int .i64 0] ⟨false, 0⟩]) ++ [AObj.cells [.int .i64 0, .int .i64 0, .int .i64 0] ⟨false, 0⟩])) 0 [.int .i64 x_23, .int .i64 x_24, .int .i64 x_25]) fun M_36 =>
      (Option.bind (AMem.wr M_36 (List.length (((M ++ [AObj.cells [.int .i64 0, .int .i64 0, .int .i64 0] ⟨false, 0⟩]) ++ [AObj.cells [.int .i64 0, .int .i64 0, .int .i64 0] ⟨false, 0⟩]) ++ [AObj.cells [.int .i64 0, .int .i64 0, .int .i64 0] ⟨false, 0⟩])) 0 [.int .i64 x_31, .int .i64 x_32, .int .i64 x_33]) fun M_37 =>
      (if chkOk [(6, 5), (13, 5), (13, 12), (20, 5), (20, 12), (20, 19), (28, 5), (28, 12), (28, 19), (28, 27), (29, 5), (29, 12), (29, 19), (29, 27), (30, 5), (30, 12), (30, 19), (30, 27), (31, 5), (31, 12), (31, 19), (31, 27)] [(31, (List.length (((M ++ [AObj.cells [.int .i64 0, .int .i64 0, .int .i64 0] ⟨false, 0⟩]) ++ [AObj.cells [.int .i64 0, .int .i64 0, .int .i64 0] ⟨false, 0⟩]) ++ [AObj.cells [.int .i64 0, .int .i64 0, .int .i64 0] ⟨false, 0⟩]))), (30, (List.length ((M ++ [AObj.cells [.int .i64 0, .int .i64 0, .int .i64 0] ⟨false, 0⟩]) ++ [AObj.cells [.int .i64 0, .int .i64 0, .int .i64 0] ⟨false, 0⟩]))), (29, (List.length (M ++ [AObj.cells [.int .i64 0, .int .i64 0, .int .i64 0] ⟨false, 0⟩]))), (28, (List.length M)), (20, x1), (13, x1), (6, x1)] [(27, (r_21.2, r_29.2)), (19, (r_13.2, r_21.2)), (12, (r_5.2, r_13.2)), (5, (((((M ++ [AObj.cells [.int .i64 0, .int .i64 0, .int .i64 0] ⟨false, 0⟩]) ++ [AObj.cells [.int .i64 0, .int .i64 0, .int .i64 0] ⟨false, 0⟩]) ++ [AObj.cells [.int .i64 0, .int .i64 0, .int .i64 0] ⟨false, 0⟩]) ++ [AObj.cells [.int .i64 0, .int .i64 0, .int .i64 0] ⟨false, 0⟩]), r_5.2))] = true
      then P19_39 L x1 x2 x3 x4 x5 (List.length M) (List.length (M ++ [AObj.cells [.int .i64 0, .int .i64 0, .int .i64 0] ⟨false, 0⟩])) (List.length ((M ++ [AObj.cells [.int .i64 0, .int .i64 0, .int .i64 0] ⟨false, 0⟩]) ++ [AObj.cells [.int .i64 0, .int .i64 0, .int .i64 0] ⟨false, 0⟩])) (List.length (((M ++ [AObj.cells [.int .i64 0, .int .i64 0, .int .i64 0] ⟨false, 0⟩]) ++ [AObj.cells [.int .i64 0, .int .i64 0, .int .i64 0] ⟨false, 0⟩]) ++ [AObj.cells [.int .i64 0, .int .i64 0, .int .i64 0] ⟨false, 0⟩])) M_37
      else none)))))))))))))))))))))))))))))))))))))
    else P19_58 L x1 x2 x3 x4 M)) := QP19_28_eq L b19_16 b19_28 c19_39 c19_57 c19_58 c19_59 (hL b19_28) P19_28 (Classical.choose_spec XP19_28) P19_39 (Classical.choose_spec XP19_39) P19_58 (Classical.choose_spec XP19_58) x1 x2 x3 x4 x5 M
theorem QP19_59_eq (L : Rec) (P19_59 : Rec → Nat → Nat → AMem → Res) (hP19_59 : P19_59 = fun (L : Rec) (x2 : Nat) (x3 : Nat) (M : AMem) => code L (.seq (.ops o19_60) (.ret)) (retK [.cell true [.int .i64, .int .i64, .slice] 2]) (s19_59 x2 x3 M) M) (x2 : Nat) (x3 : Nat) (M : AMem) : P19_59 L x2 x3 M =
  (Option.bind (intOf? .i64 (AMem.ld M x3 0)) fun x_1 =>
    (Option.bind (intOf? .i64 (AMem.ld M x3 1)) fun x_2 =>
    (Option.bind (sliceOf? (AMem.ld M x3 2)) fun s_3 =>
    (Option.bind (AMem.wr M x2 0 [.int .i64 x_1, .int .i64 x_2, .slice s_3.1 s_3.2.1 s_3.2.2]) fun M_4 =>
    (Option.bind (intOf? .i64 (AMem.ld M_4 x2 0)) fun x_5 =>
    (Option.bind (intOf? .i64 (AMem.ld M_4 x2 1)) fun x_6 =>
    (Option.bind (sliceOf? (AMem.ld M_4 x2 2)) fun s_7 =>
    some (.agg #[.int .i64 x_5, .int .i64 x_6, .slice s_7.1 s_7.2.1 s_7.2.2], M_4)))))))) := by
  subst hP19_59; kernel_rfl
theorem P19_59_eq (L : Rec) (x2 : Nat) (x3 : Nat) (M : AMem) : P19_59 L x2 x3 M =
  (Option.bind (intOf? .i64 (AMem.ld M x3 0)) fun x_1 =>
    (Option.bind (intOf? .i64 (AMem.ld M x3 1)) fun x_2 =>
    (Option.bind (sliceOf? (AMem.ld M x3 2)) fun s_3 =>
    (Option.bind (AMem.wr M x2 0 [.int .i64 x_1, .int .i64 x_2, .slice s_3.1 s_3.2.1 s_3.2.2]) fun M_4 =>
    (Option.bind (intOf? .i64 (AMem.ld M_4 x2 0)) fun x_5 =>
    (Option.bind (intOf? .i64 (AMem.ld M_4 x2 1)) fun x_6 =>
    (Option.bind (sliceOf? (AMem.ld M_4 x2 2)) fun s_7 =>
    some (.agg #[.int .i64 x_5, .int .i64 x_6, .slice s_7.1 s_7.2.1 s_7.2.2], M_4)))))))) := QP19_59_eq L P19_59 (Classical.choose_spec XP19_59) x2 x3 M
theorem QP19_39_eq (L : Rec) (b19_16 b19_28 b19_45 c19_56 c19_57 c19_58 c19_59 : ACode) (P19_39 : Rec → Nat → Nat → Nat → Int → Int → Nat → Nat → Nat → Nat → AMem → Res) (hP19_39 : P19_39 = fun (L : Rec) (x1 : Nat) (x2 : Nat) (x3 : Nat) (x4 : Int) (x5 : Int) (x6 : Nat) (x7 : Nat) (x8 : Nat) (x9 : Nat) (M : AMem) => code L (.seq (.ops o19_40) (.seq (.seq (.ops o19_43) (.block 4 (.clear zl33 (.loop b19_45)))) (.clear zl34 c19_56))) (blockK 3 (seqK (code L (.clear zl36 c19_57) (postK zl36 (loopK L b19_28 (blockK 2 (blockK 1 (seqK (code L (.clear zl37 c19_58) (postK zl37 (loopK L b19_16 (blockK 0 (seqK (code L (.clear zl38 c19_59) (retK [.cell true [.int .i64, .int .i64, .slice] 2])) (retK [.cell true [.int .i64, .int .i64, .slice] 2])))))) (postK zl37 (loopK L b19_16 (blockK 0 (seqK (code L (.clear zl38 c19_59) (retK [.cell true [.int .i64, .int .i64, .slice] 2])) (retK [.cell true [.int .i64, .int .i64, .slice] 2]))))))))))) (postK zl36 (loopK L b19_28 (blockK 2 (blockK 1 (seqK (code L (.clear zl37 c19_58) (postK zl37 (loopK L b19_16 (blockK 0 (seqK (code L (.clear zl38 c19_59) (retK [.cell true [.int .i64, .int .i64, .slice] 2])) (retK [.cell true [.int .i64, .int .i64, .slice] 2])))))) (postK zl37 (loopK L b19_16 (blockK 0 (seqK (code L (.clear zl38 c19_59) (retK [.cell true [.int .i64, .int .i64, .slice] 2])) (retK [.cell true [.int .i64, .int .i64, .slice] 2])))))))))))) (s19_39 x1 x2 x3 x4 x5 x6 x7 x8 x9 M) M) (P19_45 : Rec → Nat → Nat → Nat → Int → Int → Nat → Nat → Nat → Nat → Nat → Int → AMem → Res) (hP19_45 : P19_45 = fun (L : Rec) (x1 : Nat) (x2 : Nat) (x3 : Nat) (x4 : Int) (x5 : Int) (x6 : Nat) (x7 : Nat) (x8 : Nat) (x9 : Nat) (x10 : Nat) (x11 : Int) (M : AMem) => L.loop b19_45 (blockK 4 (seqK (code L (.clear zl34 c19_56) (blockK 3 (seqK (code L (.clear zl36 c19_57) (postK zl36 (loopK L b19_28 (blockK 2 (blockK 1 (seqK (code L (.clear zl37 c19_58) (postK zl37 (loopK L b19_16 (blockK 0 (seqK (code L (.clear zl38 c19_59) (retK [.cell true [.int .i64, .int .i64, .slice] 2])) (retK [.cell true [.int .i64, .int .i64, .slice] 2])))))) (postK zl37 (loopK L b19_16 (blockK 0 (seqK (code L (.clear zl38 c19_59) (retK [.cell true [.int .i64, .int .i64, .slice] 2])) (retK [.cell true [.int .i64, .int .i64, .slice] 2]))))))))))) (postK zl36 (loopK L b19_28 (blockK 2 (blockK 1 (seqK (code L (.clear zl37 c19_58) (postK zl37 (loopK L b19_16 (blockK 0 (seqK (code L (.clear zl38 c19_59) (retK [.cell true [.int .i64, .int .i64, .slice] 2])) (retK [.cell true [.int .i64, .int .i64, .slice] 2])))))) (postK zl37 (loopK L b19_16 (blockK 0 (seqK (code L (.clear zl38 c19_59) (retK [.cell true [.int .i64, .int .i64, .slice] 2])) (retK [.cell true [.int .i64, .int .i64, .slice] 2]))))))))))))) (blockK 3 (seqK (code L (.clear zl36 c19_57) (postK zl36 (loopK L b19_28 (blockK 2 (blockK 1 (seqK (code L (.clear zl37 c19_58) (postK zl37 (loopK L b19_16 (blockK 0 (seqK (code L (.clear zl38 c19_59) (retK [.cell true [.int .i64, .int .i64, .slice] 2])) (retK [.cell true [.int .i64, .int .i64, .slice] 2])))))) (postK zl37 (loopK L b19_16 (blockK 0 (seqK (code L (.clear zl38 c19_59) (retK [.cell true [.int .i64, .int .i64, .slice] 2])) (retK [.cell true [.int .i64, .int .i64, .slice] 2]))))))))))) (postK zl36 (loopK L b19_28 (blockK 2 (blockK 1 (seqK (code L (.clear zl37 c19_58) (postK zl37 (loopK L b19_16 (blockK 0 (seqK (code L (.clear zl38 c19_59) (retK [.cell true [.int .i64, .int .i64, .slice] 2])) (retK [.cell true [.int .i64, .int .i64, .slice] 2])))))) (postK zl37 (loopK L b19_16 (blockK 0 (seqK (code L (.clear zl38 c19_59) (retK [.cell true [.int .i64, .int .i64, .slice] 2])) (retK [.cell true [.int .i64, .int .i64, .slice] 2])))))))))))))) (s19_45 x1 x2 x3 x4 x5 x6 x7 x8 x9 x10 x11 M) M) (x1 : Nat) (x2 : Nat) (x3 : Nat) (x4 : Int) (x5 : Int) (x6 : Nat) (x7 : Nat) (x8 : Nat) (x9 : Nat) (M : AMem) : P19_39 L x1 x2 x3 x4 x5 x6 x7 x8 x9 M =
  P19_45 L x1 x2 x3 x4 x5 x6 x7 x8 x9 (List.length M) 0 (M ++ [AObj.cells [.int .i64 0, .int .i64 0, .int .i64 0] ⟨false, 0⟩]) := by
  subst hP19_39; subst hP19_45; kernel_rfl
theorem P19_39_eq (L : Rec) (x1 : Nat) (x2 : Nat) (x3 : Nat) (x4 : Int) (x5 : Int) (x6 : Nat) (x7 : Nat) (x8 : Nat) (x9 : Nat) (M : AMem) : P19_39 L x1 x2 x3 x4 x5 x6 x7 x8 x9 M =
  P19_45 L x1 x2 x3 x4 x5 x6 x7 x8 x9 (List.length M) 0 (M ++ [AObj.cells [.int .i64 0, .int .i64 0, .int .i64 0] ⟨false, 0⟩]) := QP19_39_eq L b19_16 b19_28 b19_45 c19_56 c19_57 c19_58 c19_59 P19_39 (Classical.choose_spec XP19_39) P19_45 (Classical.choose_spec XP19_45) x1 x2 x3 x4 x5 x6 x7 x8 x9 M
theorem QP19_58_eq (L : Rec) (b19_16 c19_59 : ACode) (P19_16 : Rec → Nat → Nat → Nat → Int → AMem → Res) (hP19_16 : P19_16 = fun (L : Rec) (x1 : Nat) (x2 : Nat) (x3 : Nat) (x4 : Int) (M : AMem) => L.loop b19_16 (blockK 0 (seqK (code L (.clear zl38 c19_59) (retK [.cell true [.int .i64, .int .i64, .slice] 2])) (retK [.cell true [.int .i64, .int .i64, .slice] 2]))) (s19_16 x1 x2 x3 x4 M) M) (P19_58 : Rec → Nat → Nat → Nat → Int → AMem → Res) (hP19_58 : P19_58 = fun (L : Rec) (x1 : Nat) (x2 : Nat) (x3 : Nat) (x4 : Int) (M : AMem) => code L (.ops o19_58) (postK zl37 (loopK L b19_16 (blockK 0 (seqK (code L (.clear zl38 c19_59) (retK [.cell true [.int .i64, .int .i64, .slice] 2])) (retK [.cell true [.int .i64, .int .i64, .slice] 2]))))) (s19_58 x1 x2 x3 x4 M) M) (x1 : Nat) (x2 : Nat) (x3 : Nat) (x4 : Int) (M : AMem) : P19_58 L x1 x2 x3 x4 M =
  P19_16 L x1 x2 x3 (IntKind.wrap .i64 (x4 + 1)) M := by
  subst hP19_16; subst hP19_58; kernel_rfl
theorem P19_58_eq (L : Rec) (x1 : Nat) (x2 : Nat) (x3 : Nat) (x4 : Int) (M : AMem) : P19_58 L x1 x2 x3 x4 M =
  P19_16 L x1 x2 x3 (IntKind.wrap .i64 (x4 + 1)) M := QP19_58_eq L b19_16 c19_59 P19_16 (Classical.choose_spec XP19_16) P19_58 (Classical.choose_spec XP19_58) x1 x2 x3 x4 M
theorem QP19_45_eq (L : Rec) (b19_16 b19_28 b19_45 c19_55 c19_56 c19_57 c19_58 c19_59 : ACode) (hb : ∀ K t A, L.loop b19_45 K t A = code L (.post (.seq (.seq (.ops o19_48) (.cond (.tmp 64) (.skip) (.exit 4))) (.seq (.block 5 (.draw [] 0 o19_54 [])) (.clear zl33 c19_55))) zl33) (loopK L b19_45 K) t A) (P19_45 : Rec → Nat → Nat → Nat → Int → Int → Nat → Nat → Nat → Nat → Nat → Int → AMem → Res) (hP19_45 : P19_45 = fun (L : Rec) (x1 : Nat) (x2 : Nat) (x3 : Nat) (x4 : Int) (x5 : Int) (x6 : Nat) (x7 : Nat) (x8 : Nat) (x9 : Nat) (x10 : Nat) (x11 : Int) (M : AMem) => L.loop b19_45 (blockK 4 (seqK (code L (.clear zl34 c19_56) (blockK 3 (seqK (code L (.clear zl36 c19_57) (postK zl36 (loopK L b19_28 (blockK 2 (blockK 1 (seqK (code L (.clear zl37 c19_58) (postK zl37 (loopK L b19_16 (blockK 0 (seqK (code L (.clear zl38 c19_59) (retK [.cell true [.int .i64, .int .i64, .slice] 2])) (retK [.cell true [.int .i64, .int .i64, .slice] 2])))))) (postK zl37 (loopK L b19_16 (blockK 0 (seqK (code L (.clear zl38 c19_59) (retK [.cell true [.int .i64, .int .i64, .slice] 2])) (retK [.cell true [.int .i64, .int .i64, .slice] 2]))))))))))) (postK zl36 (loopK L b19_28 (blockK 2 (blockK 1 (seqK (code L (.clear zl37 c19_58) (postK zl37 (loopK L b19_16 (blockK 0 (seqK (code L (.clear zl38 c19_59) (retK [.cell true [.int .i64, .int .i64, .slice] 2])) (retK [.cell true [.int .i64, .int .i64, .slice] 2])))))) (postK zl37 (loopK L b19_16 (blockK 0 (seqK (code L (.clear zl38 c19_59) (retK [.cell true [.int .i64, .int .i64, .slice] 2])) (retK [.cell true [.int .i64, .int .i64, .slice] 2]))))))))))))) (blockK 3 (seqK (code L (.clear zl36 c19_57) (postK zl36 (loopK L b19_28 (blockK 2 (blockK 1 (seqK (code L (.clear zl37 c19_58) (postK zl37 (loopK L b19_16 (blockK 0 (seqK (code L (.clear zl38 c19_59) (retK [.cell true [.int .i64, .int .i64, .slice] 2])) (retK [.cell true [.int .i64, .int .i64, .slice] 2])))))) (postK zl37 (loopK L b19_16 (blockK 0 (seqK (code L (.clear zl38 c19_59) (retK [.cell true [.int .i64, .int .i64, .slice] 2])) (retK [.cell true [.int .i64, .int .i64, .slice] 2]))))))))))) (postK zl36 (loopK L b19_28 (blockK 2 (blockK 1 (seqK (code L (.clear zl37 c19_58) (postK zl37 (loopK L b19_16 (blockK 0 (seqK (code L (.clear zl38 c19_59) (retK [.cell true [.int .i64, .int .i64, .slice] 2])) (retK [.cell true [.int .i64, .int .i64, .slice] 2])))))) (postK zl37 (loopK L b19_16 (blockK 0 (seqK (code L (.clear zl38 c19_59) (retK [.cell true [.int .i64, .int .i64, .slice] 2])) (retK [.cell true [.int .i64, .int .i64, .slice] 2])))))))))))))) (s19_45 x1 x2 x3 x4 x5 x6 x7 x8 x9 x10 x11 M) M) (P19_55 : Rec → Nat → Nat → Nat → Int → Int → Nat → Nat → Nat → Nat → Nat → Int → AMem → Res) (hP19_55 : P19_55 = fun (L : Rec) (x1 : Nat) (x2 : Nat) (x3 : Nat) (x4 : Int) (x5 : Int) (x6 : Nat) (x7 : Nat) (x8 : Nat) (x9 : Nat) (x10 : Nat) (x11 : Int) (M : AMem) => code L c19_55 (postK zl33 (loopK L b19_45 (blockK 4 (seqK (code L (.clear zl34 c19_56) (blockK 3 (seqK (code L (.clear zl36 c19_57) (postK zl36 (loopK L b19_28 (blockK 2 (blockK 1 (seqK (code L (.clear zl37 c19_58) (postK zl37 (loopK L b19_16 (blockK 0 (seqK (code L (.clear zl38 c19_59) (retK [.cell true [.int .i64, .int .i64, .slice] 2])) (retK [.cell true [.int .i64, .int .i64, .slice] 2])))))) (postK zl37 (loopK L b19_16 (blockK 0 (seqK (code L (.clear zl38 c19_59) (retK [.cell true [.int .i64, .int .i64, .slice] 2])) (retK [.cell true [.int .i64, .int .i64, .slice] 2]))))))))))) (postK zl36 (loopK L b19_28 (blockK 2 (blockK 1 (seqK (code L (.clear zl37 c19_58) (postK zl37 (loopK L b19_16 (blockK 0 (seqK (code L (.clear zl38 c19_59) (retK [.cell true [.int .i64, .int .i64, .slice] 2])) (retK [.cell true [.int .i64, .int .i64, .slice] 2])))))) (postK zl37 (loopK L b19_16 (blockK 0 (seqK (code L (.clear zl38 c19_59) (retK [.cell true [.int .i64, .int .i64, .slice] 2])) (retK [.cell true [.int .i64, .int .i64, .slice] 2]))))))))))))) (blockK 3 (seqK (code L (.clear zl36 c19_57) (postK zl36 (loopK L b19_28 (blockK 2 (blockK 1 (seqK (code L (.clear zl37 c19_58) (postK zl37 (loopK L b19_16 (blockK 0 (seqK (code L (.clear zl38 c19_59) (retK [.cell true [.int .i64, .int .i64, .slice] 2])) (retK [.cell true [.int .i64, .int .i64, .slice] 2])))))) (postK zl37 (loopK L b19_16 (blockK 0 (seqK (code L (.clear zl38 c19_59) (retK [.cell true [.int .i64, .int .i64, .slice] 2])) (retK [.cell true [.int .i64, .int .i64, .slice] 2]))))))))))) (postK zl36 (loopK L b19_28 (blockK 2 (blockK 1 (seqK (code L (.clear zl37 c19_58) (postK zl37 (loopK L b19_16 (blockK 0 (seqK (code L (.clear zl38 c19_59) (retK [.cell true [.int .i64, .int .i64, .slice] 2])) (retK [.cell true [.int .i64, .int .i64, .slice] 2])))))) (postK zl37 (loopK L b19_16 (blockK 0 (seqK (code L (.clear zl38 c19_59) (retK [.cell true [.int .i64, .int .i64, .slice] 2])) (retK [.cell true [.int .i64, .int .i64, .slice] 2])))))))))))))))) (s19_55 x1 x2 x3 x4 x5 x6 x7 x8 x9 x10 x11 M) M) (P19_56 : Rec → Nat → Nat → Nat → Int → Int → Nat → AMem → Res) (hP19_56 : P19_56 = fun (L : Rec) (x1 : Nat) (x2 : Nat) (x3 : Nat) (x4 : Int) (x5 : Int) (x10 : Nat) (M : AMem) => code L c19_56 (blockK 3 (seqK (code L (.clear zl36 c19_57) (postK zl36 (loopK L b19_28 (blockK 2 (blockK 1 (seqK (code L (.clear zl37 c19_58) (postK zl37 (loopK L b19_16 (blockK 0 (seqK (code L (.clear zl38 c19_59) (retK [.cell true [.int .i64, .int .i64, .slice] 2])) (retK [.cell true [.int .i64, .int .i64, .slice] 2])))))) (postK zl37 (loopK L b19_16 (blockK 0 (seqK (code L (.clear zl38 c19_59) (retK [.cell true [.int .i64, .int .i64, .slice] 2])) (retK [.cell true [.int .i64, .int .i64, .slice] 2]))))))))))) (postK zl36 (loopK L b19_28 (blockK 2 (blockK 1 (seqK (code L (.clear zl37 c19_58) (postK zl37 (loopK L b19_16 (blockK 0 (seqK (code L (.clear zl38 c19_59) (retK [.cell true [.int .i64, .int .i64, .slice] 2])) (retK [.cell true [.int .i64, .int .i64, .slice] 2])))))) (postK zl37 (loopK L b19_16 (blockK 0 (seqK (code L (.clear zl38 c19_59) (retK [.cell true [.int .i64, .int .i64, .slice] 2])) (retK [.cell true [.int .i64, .int .i64, .slice] 2])))))))))))) (s19_56 x1 x2 x3 x4 x5 x10 M) M) (x1 : Nat) (x2 : Nat) (x3 : Nat) (x4 : Int) (x5 : Int) (x6 : Nat) (x7 : Nat) (x8 : Nat) (x9 : Nat) (x10 : Nat) (x11 : Int) (M : AMem) : P19_45 L x1 x2 x3 x4 x5 x6 x7 x8 x9 x10 x11 M =
  (if (decide (x11 < 3)) = true
    then (if (0 : Int) ≤ x11 ∧ x11 < 3
      then (Option.bind (intOf? .i64 (AMem.ld M x6 (0 + ((Int.toNat x11) * 1)))) fun x_1 =>
        (if (0 : Int) ≤ x11 ∧ x11 < 3
        then (Option.bind (intOf? .i64 (AMem.ld M x7 (0 + ((Int.toNat x11) * 1)))) fun x_2 =>
          (if (0 : Int) ≤ x11 ∧ x11 < 3
          then (Option.bind (intOf? .i64 (AMem.ld M x8 (0 + ((Int.toNat x11) * 1)))) fun x_3 =>
            (if (0 : Int) ≤ x11 ∧ x11 < 3
            then (Option.bind (intOf? .i64 (AMem.ld M x9 (0 + ((Int.toNat x11) * 1)))) fun x_4 =>
              (Option.bind (L.call 30 [.int .i64 (IntKind.wrap .i64 ((IntKind.wrap .i64 ((IntKind.wrap .i64 (x_1 + x_2)) + x_3)) + x_4)), .int .i64 4] []) fun r_5 =>
              (Option.bind (intOf? .i64 (some r_5.1)) fun x_6 =>
              (if (0 : Int) ≤ x11 ∧ x11 < 3
              then (Option.bind (AMem.wr M x10 (0 + ((Int.toNat x11) * 1)) [.int .i64 x_6]) fun M_7 =>
                P19_55 L x1 x2 x3 x4 x5 x6 x7 x8 x9 x10 x11 M_7)
              else none))))
            else none))
          else none))
        else none))
      else none)
    else P19_56 L x1 x2 x3 x4 x5 x10 M) := by
  subst hP19_45; subst hP19_55; subst hP19_56; exact (hb (blockK 4 (seqK (code L (.clear zl34 c19_56) (blockK 3 (seqK (code L (.clear zl36 c19_57) (postK zl36 (loopK L b19_28 (blockK 2 (blockK 1 (seqK (code L (.clear zl37 c19_58) (postK zl37 (loopK L b19_16 (blockK 0 (seqK (code L (.clear zl38 c19_59) (retK [.cell true [.int .i64, .int .i64, .slice] 2])) (retK [.cell true [.int .i64, .int .i64, .slice] 2])))))) (postK zl37 (loopK L b19_16 (blockK 0 (seqK (code L (.clear zl38 c19_59) (retK [.cell true [.int .i64, .int .i64, .slice] 2])) (retK [.cell true [.int .i64, .int .i64, .slice] 2]))))))))))) (postK zl36 (loopK L b19_28 (blockK 2 (blockK 1 (seqK (code L (.clear zl37 c19_58) (postK zl37 (loopK L b19_16 (blockK 0 (seqK (code L (.clear zl38 c19_59) (retK [.cell true [.int .i64, .int .i64, .slice] 2])) (retK [.cell true [.int .i64, .int .i64, .slice] 2])))))) (postK zl37 (loopK L b19_16 (blockK 0 (seqK (code L (.clear zl38 c19_59) (retK [.cell true [.int .i64, .int .i64, .slice] 2])) (retK [.cell true [.int .i64, .int .i64, .slice] 2]))))))))))))) (blockK 3 (seqK (code L (.clear zl36 c19_57) (postK zl36 (loopK L b19_28 (blockK 2 (blockK 1 (seqK (code L (.clear zl37 c19_58) (postK zl37 (loopK L b19_16 (blockK 0 (seqK (code L (.clear zl38 c19_59) (retK [.cell true [.int .i64, .int .i64, .slice] 2])) (retK [.cell true [.int .i64, .int .i64, .slice] 2])))))) (postK zl37 (loopK L b19_16 (blockK 0 (seqK (code L (.clear zl38 c19_59) (retK [.cell true [.int .i64, .int .i64, .slice] 2])) (retK [.cell true [.int .i64, .int .i64, .slice] 2]))))))))))) (postK zl36 (loopK L b19_28 (blockK 2 (blockK 1 (seqK (code L (.clear zl37 c19_58) (postK zl37 (loopK L b19_16 (blockK 0 (seqK (code L (.clear zl38 c19_59) (retK [.cell true [.int .i64, .int .i64, .slice] 2])) (retK [.cell true [.int .i64, .int .i64, .slice] 2])))))) (postK zl37 (loopK L b19_16 (blockK 0 (seqK (code L (.clear zl38 c19_59) (retK [.cell true [.int .i64, .int .i64, .slice] 2])) (retK [.cell true [.int .i64, .int .i64, .slice] 2])))))))))))))) (s19_45 x1 x2 x3 x4 x5 x6 x7 x8 x9 x10 x11 M) M).trans (by kernel_rfl)
theorem P19_45_eq (L : Rec) (hL : ∀ b K t A, L.loop b K t A = code L b (loopK L b K) t A) (x1 : Nat) (x2 : Nat) (x3 : Nat) (x4 : Int) (x5 : Int) (x6 : Nat) (x7 : Nat) (x8 : Nat) (x9 : Nat) (x10 : Nat) (x11 : Int) (M : AMem) : P19_45 L x1 x2 x3 x4 x5 x6 x7 x8 x9 x10 x11 M =
  (if (decide (x11 < 3)) = true
    then (if (0 : Int) ≤ x11 ∧ x11 < 3
      then (Option.bind (intOf? .i64 (AMem.ld M x6 (0 + ((Int.toNat x11) * 1)))) fun x_1 =>
        (if (0 : Int) ≤ x11 ∧ x11 < 3
        then (Option.bind (intOf? .i64 (AMem.ld M x7 (0 + ((Int.toNat x11) * 1)))) fun x_2 =>
          (if (0 : Int) ≤ x11 ∧ x11 < 3
          then (Option.bind (intOf? .i64 (AMem.ld M x8 (0 + ((Int.toNat x11) * 1)))) fun x_3 =>
            (if (0 : Int) ≤ x11 ∧ x11 < 3
            then (Option.bind (intOf? .i64 (AMem.ld M x9 (0 + ((Int.toNat x11) * 1)))) fun x_4 =>
              (Option.bind (L.call 30 [.int .i64 (IntKind.wrap .i64 ((IntKind.wrap .i64 ((IntKind.wrap .i64 (x_1 + x_2)) + x_3)) + x_4)), .int .i64 4] []) fun r_5 =>
              (Option.bind (intOf? .i64 (some r_5.1)) fun x_6 =>
              (if (0 : Int) ≤ x11 ∧ x11 < 3
              then (Option.bind (AMem.wr M x10 (0 + ((Int.toNat x11) * 1)) [.int .i64 x_6]) fun M_7 =>
                P19_55 L x1 x2 x3 x4 x5 x6 x7 x8 x9 x10 x11 M_7)
              else none))))
            else none))
          else none))
        else none))
      else none)
    else P19_56 L x1 x2 x3 x4 x5 x10 M) := QP19_45_eq L b19_16 b19_28 b19_45 c19_55 c19_56 c19_57 c19_58 c19_59 (hL b19_45) P19_45 (Classical.choose_spec XP19_45) P19_55 (Classical.choose_spec XP19_55) P19_56 (Classical.choose_spec XP19_56) x1 x2 x3 x4 x5 x6 x7 x8 x9 x10 x11 M
theorem QP19_55_eq (L : Rec) (b19_16 b19_28 b19_45 c19_56 c19_57 c19_58 c19_59 : ACode) (P19_45 : Rec → Nat → Nat → Nat → Int → Int → Nat → Nat → Nat → Nat → Nat → Int → AMem → Res) (hP19_45 : P19_45 = fun (L : Rec) (x1 : Nat) (x2 : Nat) (x3 : Nat) (x4 : Int) (x5 : Int) (x6 : Nat) (x7 : Nat) (x8 : Nat) (x9 : Nat) (x10 : Nat) (x11 : Int) (M : AMem) => L.loop b19_45 (blockK 4 (seqK (code L (.clear zl34 c19_56) (blockK 3 (seqK (code L (.clear zl36 c19_57) (postK zl36 (loopK L b19_28 (blockK 2 (blockK 1 (seqK (code L (.clear zl37 c19_58) (postK zl37 (loopK L b19_16 (blockK 0 (seqK (code L (.clear zl38 c19_59) (retK [.cell true [.int .i64, .int .i64, .slice] 2])) (retK [.cell true [.int .i64, .int .i64, .slice] 2])))))) (postK zl37 (loopK L b19_16 (blockK 0 (seqK (code L (.clear zl38 c19_59) (retK [.cell true [.int .i64, .int .i64, .slice] 2])) (retK [.cell true [.int .i64, .int .i64, .slice] 2]))))))))))) (postK zl36 (loopK L b19_28 (blockK 2 (blockK 1 (seqK (code L (.clear zl37 c19_58) (postK zl37 (loopK L b19_16 (blockK 0 (seqK (code L (.clear zl38 c19_59) (retK [.cell true [.int .i64, .int .i64, .slice] 2])) (retK [.cell true [.int .i64, .int .i64, .slice] 2])))))) (postK zl37 (loopK L b19_16 (blockK 0 (seqK (code L (.clear zl38 c19_59) (retK [.cell true [.int .i64, .int .i64, .slice] 2])) (retK [.cell true [.int .i64, .int .i64, .slice] 2]))))))))))))) (blockK 3 (seqK (code L (.clear zl36 c19_57) (postK zl36 (loopK L b19_28 (blockK 2 (blockK 1 (seqK (code L (.clear zl37 c19_58) (postK zl37 (loopK L b19_16 (blockK 0 (seqK (code L (.clear zl38 c19_59) (retK [.cell true [.int .i64, .int .i64, .slice] 2])) (retK [.cell true [.int .i64, .int .i64, .slice] 2])))))) (postK zl37 (loopK L b19_16 (blockK 0 (seqK (code L (.clear zl38 c19_59) (retK [.cell true [.int .i64, .int .i64, .slice] 2])) (retK [.cell true [.int .i64, .int .i64, .slice] 2]))))))))))) (postK zl36 (loopK L b19_28 (blockK 2 (blockK 1 (seqK (code L (.clear zl37 c19_58) (postK zl37 (loopK L b19_16 (blockK 0 (seqK (code L (.clear zl38 c19_59) (retK [.cell true [.int .i64, .int .i64, .slice] 2])) (retK [.cell true [.int .i64, .int .i64, .slice] 2])))))) (postK zl37 (loopK L b19_16 (blockK 0 (seqK (code L (.clear zl38 c19_59) (retK [.cell true [.int .i64, .int .i64, .slice] 2])) (retK [.cell true [.int .i64, .int .i64, .slice] 2])))))))))))))) (s19_45 x1 x2 x3 x4 x5 x6 x7 x8 x9 x10 x11 M) M) (P19_55 : Rec → Nat → Nat → Nat → Int → Int → Nat → Nat → Nat → Nat → Nat → Int → AMem → Res) (hP19_55 : P19_55 = fun (L : Rec) (x1 : Nat) (x2 : Nat) (x3 : Nat) (x4 : Int) (x5 : Int) (x6 : Nat) (x7 : Nat) (x8 : Nat) (x9 : Nat) (x10 : Nat) (x11 : Int) (M : AMem) => code L (.ops o19_55) (postK zl33 (loopK L b19_45 (blockK 4 (seqK (code L (.clear zl34 c19_56) (blockK 3 (seqK (code L (.clear zl36 c19_57) (postK zl36 (loopK L b19_28 (blockK 2 (blockK 1 (seqK (code L (.clear zl37 c19_58) (postK zl37 (loopK L b19_16 (blockK 0 (seqK (code L (.clear zl38 c19_59) (retK [.cell true [.int .i64, .int .i64, .slice] 2])) (retK [.cell true [.int .i64, .int .i64, .slice] 2])))))) (postK zl37 (loopK L b19_16 (blockK 0 (seqK (code L (.clear zl38 c19_59) (retK [.cell true [.int .i64, .int .i64, .slice] 2])) (retK [.cell true [.int .i64, .int .i64, .slice] 2]))))))))))) (postK zl36 (loopK L b19_28 (blockK 2 (blockK 1 (seqK (code L (.clear zl37 c19_58) (postK zl37 (loopK L b19_16 (blockK 0 (seqK (code L (.clear zl38 c19_59) (retK [.cell true [.int .i64, .int .i64, .slice] 2])) (retK [.cell true [.int .i64, .int .i64, .slice] 2])))))) (postK zl37 (loopK L b19_16 (blockK 0 (seqK (code L (.clear zl38 c19_59) (retK [.cell true [.int .i64, .int .i64, .slice] 2])) (retK [.cell true [.int .i64, .int .i64, .slice] 2]))))))))))))) (blockK 3 (seqK (code L (.clear zl36 c19_57) (postK zl36 (loopK L b19_28 (blockK 2 (blockK 1 (seqK (code L (.clear zl37 c19_58) (postK zl37 (loopK L b19_16 (blockK 0 (seqK (code L (.clear zl38 c19_59) (retK [.cell true [.int .i64, .int .i64, .slice] 2])) (retK [.cell true [.int .i64, .int .i64, .slice] 2])))))) (postK zl37 (loopK L b19_16 (blockK 0 (seqK (code L (.clear zl38 c19_59) (retK [.cell true [.int .i64, .int .i64, .slice] 2])) (retK [.cell true [.int .i64, .int .i64, .slice] 2]))))))))))) (postK zl36 (loopK L b19_28 (blockK 2 (blockK 1 (seqK (code L (.clear zl37 c19_58) (postK zl37 (loopK L b19_16 (blockK 0 (seqK (code L (.clear zl38 c19_59) (retK [.cell true [.int .i64, .int .i64, .slice] 2])) (retK [.cell true [.int .i64, .int .i64, .slice] 2])))))) (postK zl37 (loopK L b19_16 (blockK 0 (seqK (code L (.clear zl38 c19_59) (retK [.cell true [.int .i64, .int .i64, .slice] 2])) (retK [.cell true [.int .i64, .int .i64, .slice] 2])))))))))))))))) (s19_55 x1 x2 x3 x4 x5 x6 x7 x8 x9 x10 x11 M) M) (x1 : Nat) (x2 : Nat) (x3 : Nat) (x4 : Int) (x5 : Int) (x6 : Nat) (x7 : Nat) (x8 : Nat) (x9 : Nat) (x10 : Nat) (x11 : Int) (M : AMem) : P19_55 L x1 x2 x3 x4 x5 x6 x7 x8 x9 x10 x11 M =
  P19_45 L x1 x2 x3 x4 x5 x6 x7 x8 x9 x10 (IntKind.wrap .i64 (x11 + 1)) M := by
  subst hP19_45; subst hP19_55; kernel_rfl
theorem P19_55_eq (L : Rec) (x1 : Nat) (x2 : Nat) (x3 : Nat) (x4 : Int) (x5 : Int) (x6 : Nat) (x7 : Nat) (x8 : Nat) (x9 : Nat) (x10 : Nat) (x11 : Int) (M : AMem) : P19_55 L x1 x2 x3 x4 x5 x6 x7 x8 x9 x10 x11 M =
  P19_45 L x1 x2 x3 x4 x5 x6 x7 x8 x9 x10 (IntKind.wrap .i64 (x11 + 1)) M := QP19_55_eq L b19_16 b19_28 b19_45 c19_56 c19_57 c19_58 c19_59 P19_45 (Classical.choose_spec XP19_45) P19_55 (Classical.choose_spec XP19_55) x1 x2 x3 x4 x5 x6 x7 x8 x9 x10 x11 M
theorem QP19_56_eq (L : Rec) (b19_16 b19_28 c19_57 c19_58 c19_59 : ACode) (P19_56 : Rec → Nat → Nat → Nat → Int → Int → Nat → AMem → Res) (hP19_56 : P19_56 = fun (L : Rec) (x1 : Nat) (x2 : Nat) (x3 : Nat) (x4 : Int) (x5 : Int) (x10 : Nat) (M : AMem) => code L (.ops o19_56) (blockK 3 (seqK (code L (.clear zl36 c19_57) (postK zl36 (loopK L b19_28 (blockK 2 (blockK 1 (seqK (code L (.clear zl37 c19_58) (postK zl37 (loopK L b19_16 (blockK 0 (seqK (code L (.clear zl38 c19_59) (retK [.cell true [.int .i64, .int .i64, .slice] 2])) (retK [.cell true [.int .i64, .int .i64, .slice] 2])))))) (postK zl37 (loopK L b19_16 (blockK 0 (seqK (code L (.clear zl38 c19_59) (retK [.cell true [.int .i64, .int .i64, .slice] 2])) (retK [.cell true [.int .i64, .int .i64, .slice] 2]))))))))))) (postK zl36 (loopK L b19_28 (blockK 2 (blockK 1 (seqK (code L (.clear zl37 c19_58) (postK zl37 (loopK L b19_16 (blockK 0 (seqK (code L (.clear zl38 c19_59) (retK [.cell true [.int .i64, .int .i64, .slice] 2])) (retK [.cell true [.int .i64, .int .i64, .slice] 2])))))) (postK zl37 (loopK L b19_16 (blockK 0 (seqK (code L (.clear zl38 c19_59) (retK [.cell true [.int .i64, .int .i64, .slice] 2])) (retK [.cell true [.int .i64, .int .i64, .slice] 2])))))))))))) (s19_56 x1 x2 x3 x4 x5 x10 M) M) (P19_57 : Rec → Nat → Nat → Nat → Int → Int → AMem → Res) (hP19_57 : P19_57 = fun (L : Rec) (x1 : Nat) (x2 : Nat) (x3 : Nat) (x4 : Int) (x5 : Int) (M : AMem) => code L c19_57 (postK zl36 (loopK L b19_28 (blockK 2 (blockK 1 (seqK (code L (.clear zl37 c19_58) (postK zl37 (loopK L b19_16 (blockK 0 (seqK (code L (.clear zl38 c19_59) (retK [.cell true [.int .i64, .int .i64, .slice] 2])) (retK [.cell true [.int .i64, .int .i64, .slice] 2])))))) (postK zl37 (loopK L b19_16 (blockK 0 (seqK (code L (.clear zl38 c19_59) (retK [.cell true [.int .i64, .int .i64, .slice] 2])) (retK [.cell true [.int .i64, .int .i64, .slice] 2])))))))))) (s19_57 x1 x2 x3 x4 x5 M) M) (x1 : Nat) (x2 : Nat) (x3 : Nat) (x4 : Int) (x5 : Int) (x10 : Nat) (M : AMem) : P19_56 L x1 x2 x3 x4 x5 x10 M =
  (Option.bind (sliceOf? (AMem.ld M x3 2)) fun s_1 =>
    (Option.bind (intOf? .i64 (AMem.ld M x10 0)) fun x_2 =>
    (Option.bind (intOf? .i64 (AMem.ld M x10 1)) fun x_3 =>
    (Option.bind (intOf? .i64 (AMem.ld M x10 2)) fun x_4 =>
    (Option.bind (rowOf (M ++ [AObj.cells [.int .i64 x_2, .int .i64 x_3, .int .i64 x_4] ⟨false, 0⟩]) 3 (.slice (some ⟨(List.length M), 0, none⟩) 1 3)) fun row_5 =>
    (appendK 3 24 s_1.1 s_1.2.1 s_1.2.2 1 row_5 (M ++ [AObj.cells [.int .i64 x_2, .int .i64 x_3, .int .i64 x_4] ⟨false, 0⟩]) fun p_6 n_7 c_8 M_9 =>
    (Option.bind (AMem.wr M_9 x3 2 [.slice p_6 n_7 c_8]) fun M_10 =>
    P19_57 L x1 x2 x3 x4 x5 M_10))))))) := by
  subst hP19_56; subst hP19_57; kernel_rfl
theorem P19_56_eq (L : Rec) (x1 : Nat) (x2 : Nat) (x3 : Nat) (x4 : Int) (x5 : Int) (x10 : Nat) (M : AMem) : P19_56 L x1 x2 x3 x4 x5 x10 M =
  (Option.bind (sliceOf? (AMem.ld M x3 2)) fun s_1 =>
    (Option.bind (intOf? .i64 (AMem.ld M x10 0)) fun x_2 =>
    (Option.bind (intOf? .i64 (AMem.ld M x10 1)) fun x_3 =>
    (Option.bind (intOf? .i64 (AMem.ld M x10 2)) fun x_4 =>
    (Option.bind (rowOf (M ++ [AObj.cells [.int .i64 x_2, .int .i64 x_3, .int .i64 x_4] ⟨false, 0⟩]) 3 (.slice (some ⟨(List.length M), 0, none⟩) 1 3)) fun row_5 =>
    (appendK 3 24 s_1.1 s_1.2.1 s_1.2.2 1 row_5 (M ++ [AObj.cells [.int .i64 x_2, .int .i64 x_3, .int .i64 x_4] ⟨false, 0⟩]) fun p_6 n_7 c_8 M_9 =>
    (Option.bind (AMem.wr M_9 x3 2 [.slice p_6 n_7 c_8]) fun M_10 =>
    P19_57 L x1 x2 x3 x4 x5 M_10))))))) := QP19_56_eq L b19_16 b19_28 c19_57 c19_58 c19_59 P19_56 (Classical.choose_spec XP19_56) P19_57 (Classical.choose_spec XP19_57) x1 x2 x3 x4 x5 x10 M
theorem QP19_57_eq (L : Rec) (b19_16 b19_28 c19_58 c19_59 : ACode) (P19_28 : Rec → Nat → Nat → Nat → Int → Int → AMem → Res) (hP19_28 : P19_28 = fun (L : Rec) (x1 : Nat) (x2 : Nat) (x3 : Nat) (x4 : Int) (x5 : Int) (M : AMem) => L.loop b19_28 (blockK 2 (blockK 1 (seqK (code L (.clear zl37 c19_58) (postK zl37 (loopK L b19_16 (blockK 0 (seqK (code L (.clear zl38 c19_59) (retK [.cell true [.int .i64, .int .i64, .slice] 2])) (retK [.cell true [.int .i64, .int .i64, .slice] 2])))))) (postK zl37 (loopK L b19_16 (blockK 0 (seqK (code L (.clear zl38 c19_59) (retK [.cell true [.int .i64, .int .i64, .slice] 2])) (retK [.cell true [.int .i64, .int .i64, .slice] 2])))))))) (s19_28 x1 x2 x3 x4 x5 M) M) (P19_57 : Rec → Nat → Nat → Nat → Int → Int → AMem → Res) (hP19_57 : P19_57 = fun (L : Rec) (x1 : Nat) (x2 : Nat) (x3 : Nat) (x4 : Int) (x5 : Int) (M : AMem) => code L (.ops o19_57) (postK zl36 (loopK L b19_28 (blockK 2 (blockK 1 (seqK (code L (.clear zl37 c19_58) (postK zl37 (loopK L b19_16 (blockK 0 (seqK (code L (.clear zl38 c19_59) (retK [.cell true [.int .i64, .int .i64, .slice] 2])) (retK [.cell true [.int .i64, .int .i64, .slice] 2])))))) (postK zl37 (loopK L b19_16 (blockK 0 (seqK (code L (.clear zl38 c19_59) (retK [.cell true [.int .i64, .int .i64, .slice] 2])) (retK [.cell true [.int .i64, .int .i64, .slice] 2])))))))))) (s19_57 x1 x2 x3 x4 x5 M) M) (x1 : Nat) (x2 : Nat) (x3 : Nat) (x4 : Int) (x5 : Int) (M : AMem) : P19_57 L x1 x2 x3 x4 x5 M =
  P19_28 L x1 x2 x3 x4 (IntKind.wrap .i64 (x5 + 1)) M := by
  subst hP19_28; subst hP19_57; kernel_rfl
theorem P19_57_eq (L : Rec) (x1 : Nat) (x2 : Nat) (x3 : Nat) (x4 : Int) (x5 : Int) (M : AMem) : P19_57 L x1 x2 x3 x4 x5 M =
  P19_28 L x1 x2 x3 x4 (IntKind.wrap .i64 (x5 + 1)) M := QP19_57_eq L b19_16 b19_28 c19_58 c19_59 P19_28 (Classical.choose_spec XP19_28) P19_57 (Classical.choose_spec XP19_57) x1 x2 x3 x4 x5 M
theorem QE19 (L : Rec) (b19_16 c19_59 : ACode) (P19_16 : Rec → Nat → Nat → Nat → Int → AMem → Res) (hP19_16 : P19_16 = fun (L : Rec) (x1 : Nat) (x2 : Nat) (x3 : Nat) (x4 : Int) (M : AMem) => L.loop b19_16 (blockK 0 (seqK (code L (.clear zl38 c19_59) (retK [.cell true [.int .i64, .int .i64, .slice] 2])) (retK [.cell true [.int .i64, .int .i64, .slice] 2]))) (s19_16 x1 x2 x3 x4 M) M) (x0_0 : Int) (x0_1 : Int) (x0_2 : Option Addr) (x0_2n : Nat) (x0_2c : Nat) (M : AMem) : enterF L ⟨92, [.cell true [.int .i64, .int .i64, .slice] 2], .seq (.ops o19_1) (.seq (.seq (.ops o19_4) (.cond (.tmp 14) (.seq (.ops o19_7) (.ret)) (.skip))) (.seq (.draw [] 0 o19_11 [(1, 7), (4, 7)]) (.seq (.seq (.ops o19_14) (.block 0 (.clear zl37 (.loop b19_16)))) (.clear zl38 c19_59))))⟩ [.agg #[.int .i64 x0_0, .int .i64 x0_1, .slice x0_2 x0_2n x0_2c]] M =
  (Option.bind (intOf? .i64 (AMem.ld ((M ++ [AObj.cells [.int .i64 x0_0, .int .i64 x0_1, .slice x0_2 x0_2n x0_2c] ⟨false, 0⟩]) ++ [AObj.cells [.int .i64 0, .int .i64 0, .slice none 0 0] ⟨false, 0⟩]) (List.length M) 0)) fun x_1 =>
    (Option.bind (intOf? .i64 (AMem.ld ((M ++ [AObj.cells [.int .i64 x0_0, .int .i64 x0_1, .slice x0_2 x0_2n x0_2c] ⟨false, 0⟩]) ++ [AObj.cells [.int .i64 0, .int .i64 0, .slice none 0 0] ⟨false, 0⟩]) (List.length M) 1)) fun x_2 =>
    (Option.bind (sliceOf? (AMem.ld ((M ++ [AObj.cells [.int .i64 x0_0, .int .i64 x0_1, .slice x0_2 x0_2n x0_2c] ⟨false, 0⟩]) ++ [AObj.cells [.int .i64 0, .int .i64 0, .slice none 0 0] ⟨false, 0⟩]) (List.length M) 2)) fun s_3 =>
    (Option.bind (L.call 6 [.agg #[.int .i64 x_1, .int .i64 x_2, .slice s_3.1 s_3.2.1 s_3.2.2]] ((M ++ [AObj.cells [.int .i64 x0_0, .int .i64 x0_1, .slice x0_2 x0_2n x0_2c] ⟨false, 0⟩]) ++ [AObj.cells [.int .i64 0, .int .i64 0, .slice none 0 0] ⟨false, 0⟩])) fun r_4 =>
    (Option.bind (boolOf? (some r_4.1)) fun q_5 =>
    (if (!q_5) = true
    then (Option.bind (AMem.wr r_4.2 (List.length (M ++ [AObj.cells [.int .i64 x0_0, .int .i64 x0_1, .slice x0_2 x0_2n x0_2c] ⟨false, 0⟩])) 0 [.int .i64 0, .int .i64 0, .slice none 0 0]) fun M_6 =>
      (Option.bind (intOf? .i64 (AMem.ld M_6 (List.length (M ++ [AObj.cells [.int .i64 x0_0, .int .i64 x0_1, .slice x0_2 x0_2n x0_2c] ⟨false, 0⟩])) 0)) fun x_7 =>
      (Option.bind (intOf? .i64 (AMem.ld M_6 (List.length (M ++ [AObj.cells [.int .i64 x0_0, .int .i64 x0_1, .slice x0_2 x0_2n x0_2c] ⟨false, 0⟩])) 1)) fun x_8 =>
      (Option.bind (sliceOf? (AMem.ld M_6 (List.length (M ++ [AObj.cells [.int .i64 x0_0, .int .i64 x0_1, .slice x0_2 x0_2n x0_2c] ⟨false, 0⟩])) 2)) fun s_9 =>
      some (.agg #[.int .i64 x_7, .int .i64 x_8, .slice s_9.1 s_9.2.1 s_9.2.2], M_6)))))
    else (Option.bind (intOf? .i64 (AMem.ld r_4.2 (List.length M) 0)) fun x_10 =>
      (Option.bind (L.call 28 [.int .i64 x_10] []) fun r_11 =>
      (Option.bind (intOf? .i64 (some r_11.1)) fun x_12 =>
      (Option.bind (intOf? .i64 (AMem.ld r_4.2 (List.length M) 1)) fun x_13 =>
      (Option.bind (L.call 28 [.int .i64 x_13] []) fun r_14 =>
      (Option.bind (intOf? .i64 (some r_14.1)) fun x_15 =>
      (Option.bind (AMem.wr (r_4.2 ++ [AObj.cells [.int .i64 0, .int .i64 0, .slice none 0 0] ⟨false, 0⟩]) (List.length r_4.2) 0 [.int .i64 x_12, .int .i64 x_15, .slice none 0 0]) fun M_16 =>
      (if chkOk [(1, 7), (4, 7)] [(4, (List.length M)), (1, (List.length M))] [(7, (r_4.2, (r_4.2 ++ [AObj.cells [.int .i64 0, .int .i64 0, .slice none 0 0] ⟨false, 0⟩])))] = true
      then P19_16 L (List.length M) (List.length (M ++ [AObj.cells [.int .i64 x0_0, .int .i64 x0_1, .slice x0_2 x0_2n x0_2c] ⟨false, 0⟩])) (List.length r_4.2) 0 M_16
      else none)))))))))))))) := by
  subst hP19_16; kernel_rfl
theorem E19 (L : Rec) (x0_0 : Int) (x0_1 : Int) (x0_2 : Option Addr) (x0_2n : Nat) (x0_2c : Nat) (M : AMem) : enterF L a19 [.agg #[.int .i64 x0_0, .int .i64 x0_1, .slice x0_2 x0_2n x0_2c]] M =
  (Option.bind (intOf? .i64 (AMem.ld ((M ++ [AObj.cells [.int .i64 x0_0, .int .i64 x0_1, .slice x0_2 x0_2n x0_2c] ⟨false, 0⟩]) ++ [AObj.cells [.int .i64 0, .int .i64 0, .slice none 0 0] ⟨false, 0⟩]) (List.length M) 0)) fun x_1 =>
    (Option.bind (intOf? .i64 (AMem.ld ((M ++ [AObj.cells [.int .i64 x0_0, .int .i64 x0_1, .slice x0_2 x0_2n x0_2c] ⟨false, 0⟩]) ++ [AObj.cells [.int .i64 0, .int .i64 0, .slice none 0 0] ⟨false, 0⟩]) (List.length M) 1)) fun x_2 =>
    (Option.bind (sliceOf? (AMem.ld ((M ++ [AObj.cells [.int .i64 x0_0, .int .i64 x0_1, .slice x0_2 x0_2n x0_2c] ⟨false, 0⟩]) ++ [AObj.cells [.int .i64 0, .int .i64 0, .slice none 0 0] ⟨false, 0⟩]) (List.length M) 2)) fun s_3 =>
    (Option.bind (L.call 6 [.agg #[.int .i64 x_1, .int .i64 x_2, .slice s_3.1 s_3.2.1 s_3.2.2]] ((M ++ [AObj.cells [.int .i64 x0_0, .int .i64 x0_1, .slice x0_2 x0_2n x0_2c] ⟨false, 0⟩]) ++ [AObj.cells [.int .i64 0, .int .i64 0, .slice none 0 0] ⟨false, 0⟩])) fun r_4 =>
    (Option.bind (boolOf? (some r_4.1)) fun q_5 =>
    (if (!q_5) = true
    then (Option.bind (AMem.wr r_4.2 (List.length (M ++ [AObj.cells [.int .i64 x0_0, .int .i64 x0_1, .slice x0_2 x0_2n x0_2c] ⟨false, 0⟩])) 0 [.int .i64 0, .int .i64 0, .slice none 0 0]) fun M_6 =>
      (Option.bind (intOf? .i64 (AMem.ld M_6 (List.length (M ++ [AObj.cells [.int .i64 x0_0, .int .i64 x0_1, .slice x0_2 x0_2n x0_2c] ⟨false, 0⟩])) 0)) fun x_7 =>
      (Option.bind (intOf? .i64 (AMem.ld M_6 (List.length (M ++ [AObj.cells [.int .i64 x0_0, .int .i64 x0_1, .slice x0_2 x0_2n x0_2c] ⟨false, 0⟩])) 1)) fun x_8 =>
      (Option.bind (sliceOf? (AMem.ld M_6 (List.length (M ++ [AObj.cells [.int .i64 x0_0, .int .i64 x0_1, .slice x0_2 x0_2n x0_2c] ⟨false, 0⟩])) 2)) fun s_9 =>
      some (.agg #[.int .i64 x_7, .int .i64 x_8, .slice s_9.1 s_9.2.1 s_9.2.2], M_6)))))
    else (Option.bind (intOf? .i64 (AMem.ld r_4.2 (List.length M) 0)) fun x_10 =>
      (Option.bind (L.call 28 [.int .i64 x_10] []) fun r_11 =>
      (Option.bind (intOf? .i64 (some r_11.1)) fun x_12 =>
      (Option.bind (intOf? .i64 (AMem.ld r_4.2 (List.length M) 1)) fun x_13 =>
      (Option.bind (L.call 28 [.int .i64 x_13] []) fun r_14 =>
      (Option.bind (intOf? .i64 (some r_14.1)) fun x_15 =>
      (Option.bind (AMem.wr (r_4.2 ++ [AObj.cells [.int .i64 0, .int .i64 0, .slice none 0 0] ⟨false, 0⟩]) (List.length r_4.2) 0 [.int .i64 x_12, .int .i64 x_15, .slice none 0 0]) fun M_16 =>
      (if chkOk [(1, 7), (4, 7)] [(4, (List.length M)), (1, (List.length M))] [(7, (r_4.2, (r_4.2 ++ [AObj.cells [.int .i64 0, .int .i64 0, .slice none 0 0] ⟨false, 0⟩])))] = true
      then P19_16 L (List.length M) (List.length (M ++ [AObj.cells [.int .i64 x0_0, .int .i64 x0_1, .slice x0_2 x0_2n x0_2c] ⟨false, 0⟩])) (List.length r_4.2) 0 M_16
      else none)))))))))))))) := QE19 L b19_16 c19_59 P19_16 (Classical.choose_spec XP19_16) x0_0 x0_1 x0_2 x0_2n x0_2c M
/-! #### skylightref51.Pyramid -/
noncomputable def k16_18 (L : Rec) : KT := retK [.tmp 2]
def s16_18 (x3 : Option Addr) (x3n : Nat) (x3c : Nat) (M : AMem) : List Value := [junk, junk, junk, .slice x3 x3n x3c, junk, junk, junk, junk, junk, junk, junk, junk, junk, junk, junk, junk, junk, junk, junk, junk, junk]
theorem XP16_18 : ∃ P : Rec → (Option Addr) → Nat → Nat → AMem → Res, P = fun (L : Rec) (x3 : Option Addr) (x3n : Nat) (x3c : Nat) (M : AMem) => code L c16_18 (k16_18 L) (s16_18 x3 x3n x3c M) M := ⟨_, rfl⟩
noncomputable def P16_18 : Rec → (Option Addr) → Nat → Nat → AMem → Res := Classical.choose XP16_18
theorem QP16_18_eq (L : Rec) (P16_18 : Rec → (Option Addr) → Nat → Nat → AMem → Res) (hP16_18 : P16_18 = fun (L : Rec) (x3 : Option Addr) (x3n : Nat) (x3c : Nat) (M : AMem) => code L (.seq (.ops o16_19) (.ret)) (retK [.tmp 2]) (s16_18 x3 x3n x3c M) M) (x3 : Option Addr) (x3n : Nat) (x3c : Nat) (M : AMem) : P16_18 L x3 x3n x3c M =
  some (.slice x3 x3n x3c, M) := by
  subst hP16_18; kernel_rfl
theorem P16_18_eq (L : Rec) (x3 : Option Addr) (x3n : Nat) (x3c : Nat) (M : AMem) : P16_18 L x3 x3n x3c M =
  some (.slice x3 x3n x3c, M) := QP16_18_eq L P16_18 (Classical.choose_spec XP16_18) x3 x3n x3c M
theorem QE16 (L : Rec) (c16_18 : ACode) (P16_18 : Rec → (Option Addr) → Nat → Nat → AMem → Res) (hP16_18 : P16_18 = fun (L : Rec) (x3 : Option Addr) (x3n : Nat) (x3c : Nat) (M : AMem) => code L c16_18 (retK [.tmp 2]) (s16_18 x3 x3n x3c M) M) (x0_0 : Int) (x0_1 : Int) (x0_2 : Option Addr) (x0_2n : Nat) (x0_2c : Nat) (M : AMem) : enterF L ⟨21, [.tmp 2], .seq (.ops o16_1) (.seq (.seq (.ops o16_4) (.cond (.tmp 6) (.seq (.ops o16_7) (.ret)) (.skip))) (.seq (.ops o16_11) (.seq (.seq (.ops o16_14) (.cond (.tmp 14) (.ops o16_16) (.skip))) (.clear zl28 c16_18))))⟩ [.agg #[.int .i64 x0_0, .int .i64 x0_1, .slice x0_2 x0_2n x0_2c]] M =
  (Option.bind (intOf? .i64 (AMem.ld (M ++ [AObj.cells [.int .i64 x0_0, .int .i64 x0_1, .slice x0_2 x0_2n x0_2c] ⟨false, 0⟩]) (List.length M) 0)) fun x_1 =>
    (Option.bind (intOf? .i64 (AMem.ld (M ++ [AObj.cells [.int .i64 x0_0, .int .i64 x0_1, .slice x0_2 x0_2n x0_2c] ⟨false, 0⟩]) (List.length M) 1)) fun x_2 =>
    (Option.bind (sliceOf? (AMem.ld (M ++ [AObj.cells [.int .i64 x0_0, .int .i64 x0_1, .slice x0_2 x0_2n x0_2c] ⟨false, 0⟩]) (List.length M) 2)) fun s_3 =>
    (Option.bind (L.call 6 [.agg #[.int .i64 x_1, .int .i64 x_2, .slice s_3.1 s_3.2.1 s_3.2.2]] (M ++ [AObj.cells [.int .i64 x0_0, .int .i64 x0_1, .slice x0_2 x0_2n x0_2c] ⟨false, 0⟩])) fun r_4 =>
    (Option.bind (boolOf? (some r_4.1)) fun q_5 =>
    (if (!q_5) = true
    then some (.slice none 0 0, r_4.2)
    else (Option.bind (intOf? .i64 (AMem.ld r_4.2 (List.length M) 0)) fun x_6 =>
      (Option.bind (intOf? .i64 (AMem.ld r_4.2 (List.length M) 1)) fun x_7 =>
      (Option.bind (sliceOf? (AMem.ld r_4.2 (List.length M) 2)) fun s_8 =>
      (Option.bind (intOf? .i64 (AMem.ld (r_4.2 ++ [AObj.cells [.int .i64 x_6, .int .i64 x_7, .slice s_8.1 s_8.2.1 s_8.2.2] ⟨false, 0⟩]) (List.length M) 0)) fun x_9 =>
      (Option.bind (intOf? .i64 (AMem.ld (r_4.2 ++ [AObj.cells [.int .i64 x_6, .int .i64 x_7, .slice s_8.1 s_8.2.1 s_8.2.2] ⟨false, 0⟩]) (List.length M) 1)) fun x_10 =>
      (if (decide ((IntKind.wrap .i64 (x_9 * x_10)) > 1)) = true
      then (Option.bind (intOf? .i64 (AMem.ld (r_4.2 ++ [AObj.cells [.int .i64 x_6, .int .i64 x_7, .slice s_8.1 s_8.2.1 s_8.2.2] ⟨false, 0⟩]) (List.length M) 0)) fun x_11 =>
        (Option.bind (intOf? .i64 (AMem.ld (r_4.2 ++ [AObj.cells [.int .i64 x_6, .int .i64 x_7, .slice s_8.1 s_8.2.1 s_8.2.2] ⟨false, 0⟩]) (List.length M) 1)) fun x_12 =>
        (Option.bind (sliceOf? (AMem.ld (r_4.2 ++ [AObj.cells [.int .i64 x_6, .int .i64 x_7, .slice s_8.1 s_8.2.1 s_8.2.2] ⟨false, 0⟩]) (List.length M) 2)) fun s_13 =>
        (Option.bind (L.call 19 [.agg #[.int .i64 x_11, .int .i64 x_12, .slice s_13.1 s_13.2.1 s_13.2.2]] (r_4.2 ++ [AObj.cells [.int .i64 x_6, .int .i64 x_7, .slice s_8.1 s_8.2.1 s_8.2.2] ⟨false, 0⟩])) fun r_14 =>
        (Option.bind (aggOf? 3 r_14.1) fun cs_15 =>
        (Option.bind (intOf? .i64 (cs_15[0]?)) fun x_16 =>
        (Option.bind (intOf? .i64 (cs_15[1]?)) fun x_17 =>
        (Option.bind (sliceOf? (cs_15[2]?)) fun s_18 =>
        (Option.bind (L.call 16 [.agg #[.int .i64 x_16, .int .i64 x_17, .slice s_18.1 s_18.2.1 s_18.2.2]] r_14.2) fun r_19 =>
        (Option.bind (sliceOf? (some r_19.1)) fun s_20 =>
        (Option.bind (rowOf r_19.2 3 (.slice s_20.1 s_20.2.1 s_20.2.2)) fun row_21 =>
        (appendK 3 40 (some ⟨(List.length r_4.2), 0, none⟩) 1 3 s_20.2.1 row_21 r_19.2 fun p_22 n_23 c_24 M_25 =>
        P16_18 L p_22 n_23 c_24 M_25))))))))))))
      else P16_18 L (some ⟨(List.length r_4.2), 0, none⟩) 1 3 (r_4.2 ++ [AObj.cells [.int .i64 x_6, .int .i64 x_7, .slice s_8.1 s_8.2.1 s_8.2.2] ⟨false, 0⟩]))))))))))))) := by
  subst hP16_18; kernel_rfl
theorem E16 (L : Rec) (x0_0 : Int) (x0_1 : Int) (x0_2 : Option Addr) (x0_2n : Nat) (x0_2c : Nat) (M : AMem) : enterF L a16 [.agg #[.int .i64 x0_0, .int .i64 x0_1, .slice x0_2 x0_2n x0_2c]] M =
  (Option.bind (intOf? .i64 (AMem.ld (M ++ [AObj.cells [.int .i64 x0_0, .int .i64 x0_1, .slice x0_2 x0_2n x0_2c] ⟨false, 0⟩]) (List.length M) 0)) fun x_1 =>
    (Option.bind (intOf? .i64 (AMem.ld (M ++ [AObj.cells [.int .i64 x0_0, .int .i64 x0_1, .slice x0_2 x0_2n x0_2c] ⟨false, 0⟩]) (List.length M) 1)) fun x_2 =>
    (Option.bind (sliceOf? (AMem.ld (M ++ [AObj.cells [.int .i64 x0_0, .int .i64 x0_1, .slice x0_2 x0_2n x0_2c] ⟨false, 0⟩]) (List.length M) 2)) fun s_3 =>
    (Option.bind (L.call 6 [.agg #[.int .i64 x_1, .int .i64 x_2, .slice s_3.1 s_3.2.1 s_3.2.2]] (M ++ [AObj.cells [.int .i64 x0_0, .int .i64 x0_1, .slice x0_2 x0_2n x0_2c] ⟨false, 0⟩])) fun r_4 =>
    (Option.bind (boolOf? (some r_4.1)) fun q_5 =>
    (if (!q_5) = true
    then some (.slice none 0 0, r_4.2)
    else (Option.bind (intOf? .i64 (AMem.ld r_4.2 (List.length M) 0)) fun x_6 =>
      (Option.bind (intOf? .i64 (AMem.ld r_4.2 (List.length M) 1)) fun x_7 =>
      (Option.bind (sliceOf? (AMem.ld r_4.2 (List.length M) 2)) fun s_8 =>
      (Option.bind (intOf? .i64 (AMem.ld (r_4.2 ++ [AObj.cells [.int .i64 x_6, .int .i64 x_7, .slice s_8.1 s_8.2.1 s_8.2.2] ⟨false, 0⟩]) (List.length M) 0)) fun x_9 =>
      (Option.bind (intOf? .i64 (AMem.ld (r_4.2 ++ [AObj.cells [.int .i64 x_6, .int .i64 x_7, .slice s_8.1 s_8.2.1 s_8.2.2] ⟨false, 0⟩]) (List.length M) 1)) fun x_10 =>
      (if (decide ((IntKind.wrap .i64 (x_9 * x_10)) > 1)) = true
      then (Option.bind (intOf? .i64 (AMem.ld (r_4.2 ++ [AObj.cells [.int .i64 x_6, .int .i64 x_7, .slice s_8.1 s_8.2.1 s_8.2.2] ⟨false, 0⟩]) (List.length M) 0)) fun x_11 =>
        (Option.bind (intOf? .i64 (AMem.ld (r_4.2 ++ [AObj.cells [.int .i64 x_6, .int .i64 x_7, .slice s_8.1 s_8.2.1 s_8.2.2] ⟨false, 0⟩]) (List.length M) 1)) fun x_12 =>
        (Option.bind (sliceOf? (AMem.ld (r_4.2 ++ [AObj.cells [.int .i64 x_6, .int .i64 x_7, .slice s_8.1 s_8.2.1 s_8.2.2] ⟨false, 0⟩]) (List.length M) 2)) fun s_13 =>
        (Option.bind (L.call 19 [.agg #[.int .i64 x_11, .int .i64 x_12, .slice s_13.1 s_13.2.1 s_13.2.2]] (r_4.2 ++ [AObj.cells [.int .i64 x_6, .int .i64 x_7, .slice s_8.1 s_8.2.1 s_8.2.2] ⟨false, 0⟩])) fun r_14 =>
        (Option.bind (aggOf? 3 r_14.1) fun cs_15 =>
        (Option.bind (intOf? .i64 (cs_15[0]?)) fun x_16 =>
        (Option.bind (intOf? .i64 (cs_15[1]?)) fun x_17 =>
        (Option.bind (sliceOf? (cs_15[2]?)) fun s_18 =>
        (Option.bind (L.call 16 [.agg #[.int .i64 x_16, .int .i64 x_17, .slice s_18.1 s_18.2.1 s_18.2.2]] r_14.2) fun r_19 =>
        (Option.bind (sliceOf? (some r_19.1)) fun s_20 =>
        (Option.bind (rowOf r_19.2 3 (.slice s_20.1 s_20.2.1 s_20.2.2)) fun row_21 =>
        (appendK 3 40 (some ⟨(List.length r_4.2), 0, none⟩) 1 3 s_20.2.1 row_21 r_19.2 fun p_22 n_23 c_24 M_25 =>
        P16_18 L p_22 n_23 c_24 M_25))))))))))))
      else P16_18 L (some ⟨(List.length r_4.2), 0, none⟩) 1 3 (r_4.2 ++ [AObj.cells [.int .i64 x_6, .int .i64 x_7, .slice s_8.1 s_8.2.1 s_8.2.2] ⟨false, 0⟩]))))))))))))) := QE16 L c16_18 P16_18 (Classical.choose_spec XP16_18) x0_0 x0_1 x0_2 x0_2n x0_2c M
/-! #### skylightref51.Levels -/
theorem E20 (L : Rec) (x0 : Int) (x1 : Int) : enterF L a20 [.int .i64 x0, .int .i64 x1] [] =
  (if (decide (x0 < 1)) = true
    then some (.int .i64 0, ([] : AMem))
    else (if (decide (x1 < 1)) = true
      then some (.int .i64 0, ([] : AMem))
      else (if (decide (x0 > 256)) = true
        then some (.int .i64 0, ([] : AMem))
        else (if (decide (x1 > 256)) = true
          then some (.int .i64 0, ([] : AMem))
          else (if ((IntKind.wrap .i64 (x0 * x1)) == 1) = true
            then some (.int .i64 1, ([] : AMem))
            else (Option.bind (L.call 28 [.int .i64 x0] []) fun r_1 =>
              (Option.bind (intOf? .i64 (some r_1.1)) fun x_2 =>
              (Option.bind (L.call 28 [.int .i64 x1] []) fun r_3 =>
              (Option.bind (intOf? .i64 (some r_3.1)) fun x_4 =>
              (Option.bind (L.call 20 [.int .i64 x_2, .int .i64 x_4] []) fun r_5 =>
              (Option.bind (intOf? .i64 (some r_5.1)) fun x_6 =>
              some (.int .i64 (IntKind.wrap .i64 (1 + x_6)), ([] : AMem))))))))))))) := by kernel_rfl
/-! #### skylightref51.Double -/
noncomputable def k17_16 (L : Rec) : KT := blockK 0 (seqK (code L (.clear zl30 c17_27) (retK [.cell true [.int .i64, .int .i64, .slice] 6, .tmp 7])) (retK [.cell true [.int .i64, .int .i64, .slice] 6, .tmp 7]))
def s17_16 (x1 : Int) (x2 : Int) (x3 : Nat) (x6 : Nat) (x8 : Nat) (x9 : Int) (M : AMem) : List Value := [junk, .int .i64 x1, .int .i64 x2, .pointer (some ⟨x3, 0, none⟩), junk, junk, .pointer (some ⟨x6, 0, none⟩), junk, .pointer (some ⟨x8, 0, none⟩), .int .i64 x9, junk, junk, junk, junk, junk, junk, junk, junk, junk, junk, junk, junk, junk, junk, junk, junk, junk, junk, junk, junk, junk, junk, junk, junk, junk, junk, junk, junk, junk, junk, junk, junk, junk, junk, junk, junk, junk, junk, junk, junk, junk, junk, junk, junk, junk, junk, junk, junk, junk, junk, junk, junk, junk, junk, junk, junk, junk, junk, junk, junk]
theorem XP17_16 : ∃ P : Rec → Int → Int → Nat → Nat → Nat → Int → AMem → Res, P = fun (L : Rec) (x1 : Int) (x2 : Int) (x3 : Nat) (x6 : Nat) (x8 : Nat) (x9 : Int) (M : AMem) => L.loop b17_16 (k17_16 L) (s17_16 x1 x2 x3 x6 x8 x9 M) M := ⟨_, rfl⟩
noncomputable def P17_16 : Rec → Int → Int → Nat → Nat → Nat → Int → AMem → Res := Classical.choose XP17_16
noncomputable def k17_26 (L : Rec) : KT := postK zl29 (loopK L b17_16 (blockK 0 (seqK (code L (.clear zl30 c17_27) (retK [.cell true [.int .i64, .int .i64, .slice] 6, .tmp 7])) (retK [.cell true [.int .i64, .int .i64, .slice] 6, .tmp 7]))))
def s17_26 (x1 : Int) (x2 : Int) (x3 : Nat) (x6 : Nat) (x8 : Nat) (x9 : Int) (M : AMem) : List Value := [junk, .int .i64 x1, .int .i64 x2, .pointer (some ⟨x3, 0, none⟩), junk, junk, .pointer (some ⟨x6, 0, none⟩), junk, .pointer (some ⟨x8, 0, none⟩), .int .i64 x9, junk, junk, junk, junk, junk, junk, junk, junk, junk, junk, junk, junk, junk, junk, junk, junk, junk, junk, junk, junk, junk, junk, junk, junk, junk, junk, junk, junk, junk, junk, junk, junk, junk, junk, junk, junk, junk, junk, junk, junk, junk, junk, junk, junk, junk, junk, junk, junk, junk, junk, junk, junk, junk, junk, junk, junk, junk, junk, junk, junk]
theorem XP17_26 : ∃ P : Rec → Int → Int → Nat → Nat → Nat → Int → AMem → Res, P = fun (L : Rec) (x1 : Int) (x2 : Int) (x3 : Nat) (x6 : Nat) (x8 : Nat) (x9 : Int) (M : AMem) => code L c17_26 (k17_26 L) (s17_26 x1 x2 x3 x6 x8 x9 M) M := ⟨_, rfl⟩
noncomputable def P17_26 : Rec → Int → Int → Nat → Nat → Nat → Int → AMem → Res := Classical.choose XP17_26
noncomputable def k17_27 (L : Rec) : KT := retK [.cell true [.int .i64, .int .i64, .slice] 6, .tmp 7]
def s17_27 (x6 : Nat) (x8 : Nat) (M : AMem) : List Value := [junk, junk, junk, junk, junk, junk, .pointer (some ⟨x6, 0, none⟩), junk, .pointer (some ⟨x8, 0, none⟩), junk, junk, junk, junk, junk, junk, junk, junk, junk, junk, junk, junk, junk, junk, junk, junk, junk, junk, junk, junk, junk, junk, junk, junk, junk, junk, junk, junk, junk, junk, junk, junk, junk, junk, junk, junk, junk, junk, junk, junk, junk, junk, junk, junk, junk, junk, junk, junk, junk, junk, junk, junk, junk, junk, junk, junk, junk, junk, junk, junk, junk]
theorem XP17_27 : ∃ P : Rec → Nat → Nat → AMem → Res, P = fun (L : Rec) (x6 : Nat) (x8 : Nat) (M : AMem) => code L c17_27 (k17_27 L) (s17_27 x6 x8 M) M := ⟨_, rfl⟩
noncomputable def P17_27 : Rec → Nat → Nat → AMem → Res := Classical.choose XP17_27
theorem QP17_16_eq (L : Rec) (b17_16 c17_26 c17_27 : ACode) (hb : ∀ K t A, L.loop b17_16 K t A = code L (.post (.seq (.seq (.ops o17_19) (.cond (.tmp 51) (.skip) (.exit 0))) (.seq (.block 1 (.draw [] 0 o17_25 [(1, 11), (1, 12)])) (.clear zl29 c17_26))) zl29) (loopK L b17_16 K) t A) (P17_16 : Rec → Int → Int → Nat → Nat → Nat → Int → AMem → Res) (hP17_16 : P17_16 = fun (L : Rec) (x1 : Int) (x2 : Int) (x3 : Nat) (x6 : Nat) (x8 : Nat) (x9 : Int) (M : AMem) => L.loop b17_16 (blockK 0 (seqK (code L (.clear zl30 c17_27) (retK [.cell true [.int .i64, .int .i64, .slice] 6, .tmp 7])) (retK [.cell true [.int .i64, .int .i64, .slice] 6, .tmp 7]))) (s17_16 x1 x2 x3 x6 x8 x9 M) M) (P17_26 : Rec → Int → Int → Nat → Nat → Nat → Int → AMem → Res) (hP17_26 : P17_26 = fun (L : Rec) (x1 : Int) (x2 : Int) (x3 : Nat) (x6 : Nat) (x8 : Nat) (x9 : Int) (M : AMem) => code L c17_26 (postK zl29 (loopK L b17_16 (blockK 0 (seqK (code L (.clear zl30 c17_27) (retK [.cell true [.int .i64, .int .i64, .slice] 6, .tmp 7])) (retK [.cell true [.int .i64, .int .i64, .slice] 6, .tmp 7]))))) (s17_26 x1 x2 x3 x6 x8 x9 M) M) (P17_27 : Rec → Nat → Nat → AMem → Res) (hP17_27 : P17_27 = fun (L : Rec) (x6 : Nat) (x8 : Nat) (M : AMem) => code L c17_27 (retK [.cell true [.int .i64, .int .i64, .slice] 6, .tmp 7]) (s17_27 x6 x8 M) M) (x1 : Int) (x2 : Int) (x3 : Nat) (x6 : Nat) (x8 : Nat) (x9 : Int) (M : AMem) : P17_16 L x1 x2 x3 x6 x8 x9 M =
  (if (decide (x9 < (IntKind.wrap .i64 (x1 * x2)))) = true
    then (Option.bind (sliceOf? (AMem.ld M x8 2)) fun s_1 =>
      (Option.bind (intOf? .i64 (AMem.ld M x3 0)) fun x_2 =>
      (Option.bind (intOf? .i64 (AMem.ld M x3 1)) fun x_3 =>
      (Option.bind (sliceOf? (AMem.ld M x3 2)) fun s_4 =>
      (if x1 = 0
      then none
      else (if x1 = 0
        then none
        else (Option.bind (L.call 29 [.agg #[.int .i64 x_2, .int .i64 x_3, .slice s_4.1 s_4.2.1 s_4.2.2], .int .i64 (IntKind.wrap .i64 (Int.tdiv (Int.tmod x9 x1) 2)), .int .i64 (IntKind.wrap .i64 (Int.tdiv (IntKind.wrap .i64 (Int.tdiv x9 x1)) 2))] M) fun r_5 =>
          (Option.bind (aggOf? 3 r_5.1) fun cs_6 =>
          (Option.bind (intOf? .i64 (cs_6[0]?)) fun x_7 =>
          (Option.bind (intOf? .i64 (cs_6[1]?)) fun x_8 =>
          (Option.bind (intOf? .i64 (cs_6[2]?)) fun x_9 =>
          (Option.bind (rowOf (r_5.2 ++ [AObj.cells [.int .i64 x_7, .int .i64 x_8, .int .i64 x_9] ⟨false, 0⟩]) 3 (.slice (some ⟨(List.length r_5.2), 0, none⟩) 1 3)) fun row_10 =>
          (appendK 3 24 s_1.1 s_1.2.1 s_1.2.2 1 row_10 (r_5.2 ++ [AObj.cells [.int .i64 x_7, .int .i64 x_8, .int .i64 x_9] ⟨false, 0⟩]) fun p_11 n_12 c_13 M_14 =>
          (Option.bind (AMem.wr M_14 x8 2 [.slice p_11 n_12 c_13]) fun M_15 =>
          (if chkOk [(1, 11), (1, 12)] [(1, x8)] [(12, (r_5.2, (r_5.2 ++ [AObj.cells [.int .i64 x_7, .int .i64 x_8, .int .i64 x_9] ⟨false, 0⟩]))), (11, (M, r_5.2))] = true
          then P17_26 L x1 x2 x3 x6 x8 x9 M_15
          else none)))))))))))))))
    else P17_27 L x6 x8 M) := by
  subst hP17_16; subst hP17_26; subst hP17_27; exact (hb (blockK 0 (seqK (code L (.clear zl30 c17_27) (retK [.cell true [.int .i64, .int .i64, .slice] 6, .tmp 7])) (retK [.cell true [.int .i64, .int .i64, .slice] 6, .tmp 7]))) (s17_16 x1 x2 x3 x6 x8 x9 M) M).trans (by kernel_rfl)
theorem P17_16_eq (L : Rec) (hL : ∀ b K t A, L.loop b K t A = code L b (loopK L b K) t A) (x1 : Int) (x2 : Int) (x3 : Nat) (x6 : Nat) (x8 : Nat) (x9 : Int) (M : AMem) : P17_16 L x1 x2 x3 x6 x8 x9 M =
  (if (decide (x9 < (IntKind.wrap .i64 (x1 * x2)))) = true
    then (Option.bind (sliceOf? (AMem.ld M x8 2)) fun s_1 =>
      (Option.bind (intOf? .i64 (AMem.ld M x3 0)) fun x_2 =>
      (Option.bind (intOf? .i64 (AMem.ld M x3 1)) fun x_3 =>
      (Option.bind (sliceOf? (AMem.ld M x3 2)) fun s_4 =>
      (if x1 = 0
      then none
      else (if x1 = 0
        then none
        else (Option.bind (L.call 29 [.agg #[.int .i64 x_2, .int .i64 x_3, .slice s_4.1 s_4.2.1 s_4.2.2], .int .i64 (IntKind.wrap .i64 (Int.tdiv (Int.tmod x9 x1) 2)), .int .i64 (IntKind.wrap .i64 (Int.tdiv (IntKind.wrap .i64 (Int.tdiv x9 x1)) 2))] M) fun r_5 =>
          (Option.bind (aggOf? 3 r_5.1) fun cs_6 =>
          (Option.bind (intOf? .i64 (cs_6[0]?)) fun x_7 =>
          (Option.bind (intOf? .i64 (cs_6[1]?)) fun x_8 =>
          (Option.bind (intOf? .i64 (cs_6[2]?)) fun x_9 =>
          (Option.bind (rowOf (r_5.2 ++ [AObj.cells [.int .i64 x_7, .int .i64 x_8, .int .i64 x_9] ⟨false, 0⟩]) 3 (.slice (some ⟨(List.length r_5.2), 0, none⟩) 1 3)) fun row_10 =>
          (appendK 3 24 s_1.1 s_1.2.1 s_1.2.2 1 row_10 (r_5.2 ++ [AObj.cells [.int .i64 x_7, .int .i64 x_8, .int .i64 x_9] ⟨false, 0⟩]) fun p_11 n_12 c_13 M_14 =>
          (Option.bind (AMem.wr M_14 x8 2 [.slice p_11 n_12 c_13]) fun M_15 =>
          (if chkOk [(1, 11), (1, 12)] [(1, x8)] [(12, (r_5.2, (r_5.2 ++ [AObj.cells [.int .i64 x_7, .int .i64 x_8, .int .i64 x_9] ⟨false, 0⟩]))), (11, (M, r_5.2))] = true
          then P17_26 L x1 x2 x3 x6 x8 x9 M_15
          else none)))))))))))))))
    else P17_27 L x6 x8 M) := QP17_16_eq L b17_16 c17_26 c17_27 (hL b17_16) P17_16 (Classical.choose_spec XP17_16) P17_26 (Classical.choose_spec XP17_26) P17_27 (Classical.choose_spec XP17_27) x1 x2 x3 x6 x8 x9 M
theorem QP17_26_eq (L : Rec) (b17_16 c17_27 : ACode) (P17_16 : Rec → Int → Int → Nat → Nat → Nat → Int → AMem → Res) (hP17_16 : P17_16 = fun (L : Rec) (x1 : Int) (x2 : Int) (x3 : Nat) (x6 : Nat) (x8 : Nat) (x9 : Int) (M : AMem) => L.loop b17_16 (blockK 0 (seqK (code L (.clear zl30 c17_27) (retK [.cell true [.int .i64, .int .i64, .slice] 6, .tmp 7])) (retK [.cell true [.int .i64, .int .i64, .slice] 6, .tmp 7]))) (s17_16 x1 x2 x3 x6 x8 x9 M) M) (P17_26 : Rec → Int → Int → Nat → Nat → Nat → Int → AMem → Res) (hP17_26 : P17_26 = fun (L : Rec) (x1 : Int) (x2 : Int) (x3 : Nat) (x6 : Nat) (x8 : Nat) (x9 : Int) (M : AMem) => code L (.ops o17_26) (postK zl29 (loopK L b17_16 (blockK 0 (seqK (code L (.clear zl30 c17_27) (retK [.cell true [.int .i64, .int .i64, .slice] 6, .tmp 7])) (retK [.cell true [.int .i64, .int .i64, .slice] 6, .tmp 7]))))) (s17_26 x1 x2 x3 x6 x8 x9 M) M) (x1 : Int) (x2 : Int) (x3 : Nat) (x6 : Nat) (x8 : Nat) (x9 : Int) (M : AMem) : P17_26 L x1 x2 x3 x6 x8 x9 M =
  P17_16 L x1 x2 x3 x6 x8 (IntKind.wrap .i64 (x9 + 1)) M := by
  subst hP17_16; subst hP17_26; kernel_rfl
theorem P17_26_eq (L : Rec) (x1 : Int) (x2 : Int) (x3 : Nat) (x6 : Nat) (x8 : Nat) (x9 : Int) (M : AMem) : P17_26 L x1 x2 x3 x6 x8 x9 M =
  P17_16 L x1 x2 x3 x6 x8 (IntKind.wrap .i64 (x9 + 1)) M := QP17_26_eq L b17_16 c17_27 P17_16 (Classical.choose_spec XP17_16) P17_26 (Classical.choose_spec XP17_26) x1 x2 x3 x6 x8 x9 M
theorem QP17_27_eq (L : Rec) (P17_27 : Rec → Nat → Nat → AMem → Res) (hP17_27 : P17_27 = fun (L : Rec) (x6 : Nat) (x8 : Nat) (M : AMem) => code L (.seq (.ops o17_28) (.ret)) (retK [.cell true [.int .i64, .int .i64, .slice] 6, .tmp 7]) (s17_27 x6 x8 M) M) (x6 : Nat) (x8 : Nat) (M : AMem) : P17_27 L x6 x8 M =
  (Option.bind (intOf? .i64 (AMem.ld M x8 0)) fun x_1 =>
    (Option.bind (intOf? .i64 (AMem.ld M x8 1)) fun x_2 =>
    (Option.bind (sliceOf? (AMem.ld M x8 2)) fun s_3 =>
    (Option.bind (AMem.wr M x6 0 [.int .i64 x_1, .int .i64 x_2, .slice s_3.1 s_3.2.1 s_3.2.2]) fun M_4 =>
    (Option.bind (intOf? .i64 (AMem.ld M_4 x6 0)) fun x_5 =>
    (Option.bind (intOf? .i64 (AMem.ld M_4 x6 1)) fun x_6 =>
    (Option.bind (sliceOf? (AMem.ld M_4 x6 2)) fun s_7 =>
    some (.tuple #[.agg #[.int .i64 x_5, .int .i64 x_6, .slice s_7.1 s_7.2.1 s_7.2.2], .bool true], M_4)))))))) := by
  subst hP17_27; kernel_rfl
theorem P17_27_eq (L : Rec) (x6 : Nat) (x8 : Nat) (M : AMem) : P17_27 L x6 x8 M =
  (Option.bind (intOf? .i64 (AMem.ld M x8 0)) fun x_1 =>
    (Option.bind (intOf? .i64 (AMem.ld M x8 1)) fun x_2 =>
    (Option.bind (sliceOf? (AMem.ld M x8 2)) fun s_3 =>
    (Option.bind (AMem.wr M x6 0 [.int .i64 x_1, .int .i64 x_2, .slice s_3.1 s_3.2.1 s_3.2.2]) fun M_4 =>
    (Option.bind (intOf? .i64 (AMem.ld M_4 x6 0)) fun x_5 =>
    (Option.bind (intOf? .i64 (AMem.ld M_4 x6 1)) fun x_6 =>
    (Option.bind (sliceOf? (AMem.ld M_4 x6 2)) fun s_7 =>
    some (.tuple #[.agg #[.int .i64 x_5, .int .i64 x_6, .slice s_7.1 s_7.2.1 s_7.2.2], .bool true], M_4)))))))) := QP17_27_eq L P17_27 (Classical.choose_spec XP17_27) x6 x8 M
theorem QE17 (L : Rec) (b17_16 c17_27 : ACode) (P17_16 : Rec → Int → Int → Nat → Nat → Nat → Int → AMem → Res) (hP17_16 : P17_16 = fun (L : Rec) (x1 : Int) (x2 : Int) (x3 : Nat) (x6 : Nat) (x8 : Nat) (x9 : Int) (M : AMem) => L.loop b17_16 (blockK 0 (seqK (code L (.clear zl30 c17_27) (retK [.cell true [.int .i64, .int .i64, .slice] 6, .tmp 7])) (retK [.cell true [.int .i64, .int .i64, .slice] 6, .tmp 7]))) (s17_16 x1 x2 x3 x6 x8 x9 M) M) (x0_0 : Int) (x0_1 : Int) (x0_2 : Option Addr) (x0_2n : Nat) (x0_2c : Nat) (x1 : Int) (x2 : Int) (M : AMem) : enterF L ⟨70, [.cell true [.int .i64, .int .i64, .slice] 6, .tmp 7], .seq (.ops o17_1) (.seq (.seq (.draw [] 0 o17_4 []) (.cond (.tmp 42) (.seq (.ops o17_7) (.ret)) (.skip))) (.seq (.ops o17_11) (.seq (.seq (.ops o17_14) (.block 0 (.clear zl29 (.loop b17_16)))) (.clear zl30 c17_27))))⟩ [.agg #[.int .i64 x0_0, .int .i64 x0_1, .slice x0_2 x0_2n x0_2c], .int .i64 x1, .int .i64 x2] M =
  (Option.bind (intOf? .i64 (AMem.ld ((M ++ [AObj.cells [.int .i64 x0_0, .int .i64 x0_1, .slice x0_2 x0_2n x0_2c] ⟨false, 0⟩]) ++ [AObj.cells [.int .i64 0, .int .i64 0, .slice none 0 0] ⟨false, 0⟩]) (List.length M) 0)) fun x_1 =>
    (Option.bind (intOf? .i64 (AMem.ld ((M ++ [AObj.cells [.int .i64 x0_0, .int .i64 x0_1, .slice x0_2 x0_2n x0_2c] ⟨false, 0⟩]) ++ [AObj.cells [.int .i64 0, .int .i64 0, .slice none 0 0] ⟨false, 0⟩]) (List.length M) 1)) fun x_2 =>
    (Option.bind (sliceOf? (AMem.ld ((M ++ [AObj.cells [.int .i64 x0_0, .int .i64 x0_1, .slice x0_2 x0_2n x0_2c] ⟨false, 0⟩]) ++ [AObj.cells [.int .i64 0, .int .i64 0, .slice none 0 0] ⟨false, 0⟩]) (List.length M) 2)) fun s_3 =>
    (Option.bind (L.call 6 [.agg #[.int .i64 x_1, .int .i64 x_2, .slice s_3.1 s_3.2.1 s_3.2.2]] ((M ++ [AObj.cells [.int .i64 x0_0, .int .i64 x0_1, .slice x0_2 x0_2n x0_2c] ⟨false, 0⟩]) ++ [AObj.cells [.int .i64 0, .int .i64 0, .slice none 0 0] ⟨false, 0⟩])) fun r_4 =>
    (Option.bind (boolOf? (some r_4.1)) fun q_5 =>
    (if (!q_5) = true
    then (Option.bind (AMem.wr r_4.2 (List.length (M ++ [AObj.cells [.int .i64 x0_0, .int .i64 x0_1, .slice x0_2 x0_2n x0_2c] ⟨false, 0⟩])) 0 [.int .i64 0, .int .i64 0, .slice none 0 0]) fun M_6 =>
      (Option.bind (intOf? .i64 (AMem.ld M_6 (List.length (M ++ [AObj.cells [.int .i64 x0_0, .int .i64 x0_1, .slice x0_2 x0_2n x0_2c] ⟨false, 0⟩])) 0)) fun x_7 =>
      (Option.bind (intOf? .i64 (AMem.ld M_6 (List.length (M ++ [AObj.cells [.int .i64 x0_0, .int .i64 x0_1, .slice x0_2 x0_2n x0_2c] ⟨false, 0⟩])) 1)) fun x_8 =>
      (Option.bind (sliceOf? (AMem.ld M_6 (List.length (M ++ [AObj.cells [.int .i64 x0_0, .int .i64 x0_1, .slice x0_2 x0_2n x0_2c] ⟨false, 0⟩])) 2)) fun s_9 =>
      some (.tuple #[.agg #[.int .i64 x_7, .int .i64 x_8, .slice s_9.1 s_9.2.1 s_9.2.2], .bool false], M_6)))))
    else (if (decide (x1 < 1)) = true
      then (Option.bind (AMem.wr r_4.2 (List.length (M ++ [AObj.cells [.int .i64 x0_0, .int .i64 x0_1, .slice x0_2 x0_2n x0_2c] ⟨false, 0⟩])) 0 [.int .i64 0, .int .i64 0, .slice none 0 0]) fun M_10 =>
        (Option.bind (intOf? .i64 (AMem.ld M_10 (List.length (M ++ [AObj.cells [.int .i64 x0_0, .int .i64 x0_1, .slice x0_2 x0_2n x0_2c] ⟨false, 0⟩])) 0)) fun x_11 =>
        (Option.bind (intOf? .i64 (AMem.ld M_10 (List.length (M ++ [AObj.cells [.int .i64 x0_0, .int .i64 x0_1, .slice x0_2 x0_2n x0_2c] ⟨false, 0⟩])) 1)) fun x_12 =>
        (Option.bind (sliceOf? (AMem.ld M_10 (List.length (M ++ [AObj.cells [.int .i64 x0_0, .int .i64 x0_1, .slice x0_2 x0_2n x0_2c] ⟨false, 0⟩])) 2)) fun s_13 =>
        some (.tuple #[.agg #[.int .i64 x_11, .int .i64 x_12, .slice s_13.1 s_13.2.1 s_13.2.2], .bool false], M_10)))))
      else (if (decide (x2 < 1)) = true
        then (Option.bind (AMem.wr r_4.2 (List.length (M ++ [AObj.cells [.int .i64 x0_0, .int .i64 x0_1, .slice x0_2 x0_2n x0_2c] ⟨false, 0⟩])) 0 [.int .i64 0, .int .i64 0, .slice none 0 0]) fun M_14 =>
          (Option.bind (intOf? .i64 (AMem.ld M_14 (List.length (M ++ [AObj.cells [.int .i64 x0_0, .int .i64 x0_1, .slice x0_2 x0_2n x0_2c] ⟨false, 0⟩])) 0)) fun x_15 =>
          (Option.bind (intOf? .i64 (AMem.ld M_14 (List.length (M ++ [AObj.cells [.int .i64 x0_0, .int .i64 x0_1, .slice x0_2 x0_2n x0_2c] ⟨false, 0⟩])) 1)) fun x_16 =>
          (Option.bind (sliceOf? (AMem.ld M_14 (List.length (M ++ [AObj.cells [.int .i64 x0_0, .int .i64 x0_1, .slice x0_2 x0_2n x0_2c] ⟨false, 0⟩])) 2)) fun s_17 =>
          some (.tuple #[.agg #[.int .i64 x_15, .int .i64 x_16, .slice s_17.1 s_17.2.1 s_17.2.2], .bool false], M_14)))))
        else (if (decide (x1 > 256)) = true
          then (Option.bind (AMem.wr r_4.2 (List.length (M ++ [AObj.cells [.int .i64 x0_0, .int .i64 x0_1, .slice x0_2 x0_2n x0_2c] ⟨false, 0⟩])) 0 [.int .i64 0, .int .i64 0, .slice none 0 0]) fun M_18 =>
            (Option.bind (intOf? .i64 (AMem.ld M_18 (List.length (M ++ [AObj.cells [.int .i64 x0_0, .int .i64 x0_1, .slice x0_2 x0_2n x0_2c] ⟨false, 0⟩])) 0)) fun x_19 =>
            (Option.bind (intOf? .i64 (AMem.ld M_18 (List.length (M ++ [AObj.cells [.int .i64 x0_0, .int .i64 x0_1, .slice x0_2 x0_2n x0_2c] ⟨false, 0⟩])) 1)) fun x_20 =>
            (Option.bind (sliceOf? (AMem.ld M_18 (List.length (M ++ [AObj.cells [.int .i64 x0_0, .int .i64 x0_1, .slice x0_2 x0_2n x0_2c] ⟨false, 0⟩])) 2)) fun s_21 =>
            some (.tuple #[.agg #[.int .i64 x_19, .int .i64 x_20, .slice s_21.1 s_21.2.1 s_21.2.2], .bool false], M_18)))))
          else (if (decide (x2 > 256)) = true
            then (Option.bind (AMem.wr r_4.2 (List.length (M ++ [AObj.cells [.int .i64 x0_0, .int .i64 x0_1, .slice x0_2 x0_2n x0_2c] ⟨false, 0⟩])) 0 [.int .i64 0, .int .i64 0, .slice none 0 0]) fun M_22 =>
              (Option.bind (intOf? .i64 (AMem.ld M_22 (List.length (M ++ [AObj.cells [.int .i64 x0_0, .int .i64 x0_1, .slice x0_2 x0_2n x0_2c] ⟨false, 0⟩])) 0)) fun x_23 =>
              (Option.bind (intOf? .i64 (AMem.ld M_22 (List.length (M ++ [AObj.cells [.int .i64 x0_0, .int .i64 x0_1, .slice x0_2 x0_2n x0_2c] ⟨false, 0⟩])) 1)) fun x_24 =>
              (Option.bind (sliceOf? (AMem.ld M_22 (List.length (M ++ [AObj.cells [.int .i64 x0_0, .int .i64 x0_1, .slice x0_2 x0_2n x0_2c] ⟨false, 0⟩])) 2)) fun s_25 =>
              some (.tuple #[.agg #[.int .i64 x_23, .int .i64 x_24, .slice s_25.1 s_25.2.1 s_25.2.2], .bool false], M_22)))))
            else (Option.bind (L.call 28 [.int .i64 x1] []) fun r_26 =>
              (Option.bind (intOf? .i64 (some r_26.1)) fun x_27 =>
              (Option.bind (intOf? .i64 (AMem.ld r_4.2 (List.length M) 0)) fun x_28 =>
              (if (x_27 != x_28) = true
              then (Option.bind (AMem.wr r_4.2 (List.length (M ++ [AObj.cells [.int .i64 x0_0, .int .i64 x0_1, .slice x0_2 x0_2n x0_2c] ⟨false, 0⟩])) 0 [.int .i64 0, .int .i64 0, .slice none 0 0]) fun M_29 =>
                (Option.bind (intOf? .i64 (AMem.ld M_29 (List.length (M ++ [AObj.cells [.int .i64 x0_0, .int .i64 x0_1, .slice x0_2 x0_2n x0_2c] ⟨false, 0⟩])) 0)) fun x_30 =>
                (Option.bind (intOf? .i64 (AMem.ld M_29 (List.length (M ++ [AObj.cells [.int .i64 x0_0, .int .i64 x0_1, .slice x0_2 x0_2n x0_2c] ⟨false, 0⟩])) 1)) fun x_31 =>
                (Option.bind (sliceOf? (AMem.ld M_29 (List.length (M ++ [AObj.cells [.int .i64 x0_0, .int .i64 x0_1, .slice x0_2 x0_2n x0_2c] ⟨false, 0⟩])) 2)) fun s_32 =>
                some (.tuple #[.agg #[.int .i64 x_30, .int .i64 x_31, .slice s_32.1 s_32.2.1 s_32.2.2], .bool false], M_29)))))
              else (Option.bind (L.call 28 [.int .i64 x2] []) fun r_33 =>
                (Option.bind (intOf? .i64 (some r_33.1)) fun x_34 =>
                (Option.bind (intOf? .i64 (AMem.ld r_4.2 (List.length M) 1)) fun x_35 =>
                (if (x_34 != x_35) = true
                then (Option.bind (AMem.wr r_4.2 (List.length (M ++ [AObj.cells [.int .i64 x0_0, .int .i64 x0_1, .slice x0_2 x0_2n x0_2c] ⟨false, 0⟩])) 0 [.int .i64 0, .int .i64 0, .slice none 0 0]) fun M_36 =>
                  (Option.bind (intOf? .i64 (AMem.ld M_36 (List.length (M ++ [AObj.cells [.int .i64 x0_0, .int .i64 x0_1, .slice x0_2 x0_2n x0_2c] ⟨false, 0⟩])) 0)) fun x_37 =>
                  (Option.bind (intOf? .i64 (AMem.ld M_36 (List.length (M ++ [AObj.cells [.int .i64 x0_0, .int .i64 x0_1, .slice x0_2 x0_2n x0_2c] ⟨false, 0⟩])) 1)) fun x_38 =>
                  (Option.bind (sliceOf? (AMem.ld M_36 (List.length (M ++ [AObj.cells [.int .i64 x0_0, .int .i64 x0_1, .slice x0_2 x0_2n x0_2c] ⟨false, 0⟩])) 2)) fun s_39 =>
                  some (.tuple #[.agg #[.int .i64 x_37, .int .i64 x_38, .slice s_39.1 s_39.2.1 s_39.2.2], .bool false], M_36)))))
                else (Option.bind (AMem.wr (r_4.2 ++ [AObj.cells [.int .i64 0, .int .i64 0, .slice none 0 0] ⟨false, 0⟩]) (List.length r_4.2) 0 [.int .i64 x1, .int .i64 x2, .slice none 0 0]) fun M_40 =>
                  P17_16 L x1 x2 (List.length M) (List.length (M ++ [AObj.cells [.int .i64 x0_0, .int .i64 x0_1, .slice x0_2 x0_2n x0_2c] ⟨false, 0⟩])) (List.length r_4.2) 0 M_40))))))))))))))))))) := by
  subst hP17_16; kernel_rfl
theorem E17 (L : Rec) (x0_0 : Int) (x0_1 : Int) (x0_2 : Option Addr) (x0_2n : Nat) (x0_2c : Nat) (x1 : Int) (x2 : Int) (M : AMem) : enterF L a17 [.agg #[.int .i64 x0_0, .int .i64 x0_1, .slice x0_2 x0_2n x0_2c], .int .i64 x1, .int .i64 x2] M =
  (Option.bind (intOf? .i64 (AMem.ld ((M ++ [AObj.cells [.int .i64 x0_0, .int .i64 x0_1, .slice x0_2 x0_2n x0_2c] ⟨false, 0⟩]) ++ [AObj.cells [.int .i64 0, .int .i64 0, .slice none 0 0] ⟨false, 0⟩]) (List.length M) 0)) fun x_1 =>
    (Option.bind (intOf? .i64 (AMem.ld ((M ++ [AObj.cells [.int .i64 x0_0, .int .i64 x0_1, .slice x0_2 x0_2n x0_2c] ⟨false, 0⟩]) ++ [AObj.cells [.int .i64 0, .int .i64 0, .slice none 0 0] ⟨false, 0⟩]) (List.length M) 1)) fun x_2 =>
    (Option.bind (sliceOf? (AMem.ld ((M ++ [AObj.cells [.int .i64 x0_0, .int .i64 x0_1, .slice x0_2 x0_2n x0_2c] ⟨false, 0⟩]) ++ [AObj.cells [.int .i64 0, .int .i64 0, .slice none 0 0] ⟨false, 0⟩]) (List.length M) 2)) fun s_3 =>
    (Option.bind (L.call 6 [.agg #[.int .i64 x_1, .int .i64 x_2, .slice s_3.1 s_3.2.1 s_3.2.2]] ((M ++ [AObj.cells [.int .i64 x0_0, .int .i64 x0_1, .slice x0_2 x0_2n x0_2c] ⟨false, 0⟩]) ++ [AObj.cells [.int .i64 0, .int .i64 0, .slice none 0 0] ⟨false, 0⟩])) fun r_4 =>
    (Option.bind (boolOf? (some r_4.1)) fun q_5 =>
    (if (!q_5) = true
    then (Option.bind (AMem.wr r_4.2 (List.length (M ++ [AObj.cells [.int .i64 x0_0, .int .i64 x0_1, .slice x0_2 x0_2n x0_2c] ⟨false, 0⟩])) 0 [.int .i64 0, .int .i64 0, .slice none 0 0]) fun M_6 =>
      (Option.bind (intOf? .i64 (AMem.ld M_6 (List.length (M ++ [AObj.cells [.int .i64 x0_0, .int .i64 x0_1, .slice x0_2 x0_2n x0_2c] ⟨false, 0⟩])) 0)) fun x_7 =>
      (Option.bind (intOf? .i64 (AMem.ld M_6 (List.length (M ++ [AObj.cells [.int .i64 x0_0, .int .i64 x0_1, .slice x0_2 x0_2n x0_2c] ⟨false, 0⟩])) 1)) fun x_8 =>
      (Option.bind (sliceOf? (AMem.ld M_6 (List.length (M ++ [AObj.cells [.int .i64 x0_0, .int .i64 x0_1, .slice x0_2 x0_2n x0_2c] ⟨false, 0⟩])) 2)) fun s_9 =>
      some (.tuple #[.agg #[.int .i64 x_7, .int .i64 x_8, .slice s_9.1 s_9.2.1 s_9.2.2], .bool false], M_6)))))
    else (if (decide (x1 < 1)) = true
      then (Option.bind (AMem.wr r_4.2 (List.length (M ++ [AObj.cells [.int .i64 x0_0, .int .i64 x0_1, .slice x0_2 x0_2n x0_2c] ⟨false, 0⟩])) 0 [.int .i64 0, .int .i64 0, .slice none 0 0]) fun M_10 =>
        (Option.bind (intOf? .i64 (AMem.ld M_10 (List.length (M ++ [AObj.cells [.int .i64 x0_0, .int .i64 x0_1, .slice x0_2 x0_2n x0_2c] ⟨false, 0⟩])) 0)) fun x_11 =>
        (Option.bind (intOf? .i64 (AMem.ld M_10 (List.length (M ++ [AObj.cells [.int .i64 x0_0, .int .i64 x0_1, .slice x0_2 x0_2n x0_2c] ⟨false, 0⟩])) 1)) fun x_12 =>
        (Option.bind (sliceOf? (AMem.ld M_10 (List.length (M ++ [AObj.cells [.int .i64 x0_0, .int .i64 x0_1, .slice x0_2 x0_2n x0_2c] ⟨false, 0⟩])) 2)) fun s_13 =>
        some (.tuple #[.agg #[.int .i64 x_11, .int .i64 x_12, .slice s_13.1 s_13.2.1 s_13.2.2], .bool false], M_10)))))
      else (if (decide (x2 < 1)) = true
        then (Option.bind (AMem.wr r_4.2 (List.length (M ++ [AObj.cells [.int .i64 x0_0, .int .i64 x0_1, .slice x0_2 x0_2n x0_2c] ⟨false, 0⟩])) 0 [.int .i64 0, .int .i64 0, .slice none 0 0]) fun M_14 =>
          (Option.bind (intOf? .i64 (AMem.ld M_14 (List.length (M ++ [AObj.cells [.int .i64 x0_0, .int .i64 x0_1, .slice x0_2 x0_2n x0_2c] ⟨false, 0⟩])) 0)) fun x_15 =>
          (Option.bind (intOf? .i64 (AMem.ld M_14 (List.length (M ++ [AObj.cells [.int .i64 x0_0, .int .i64 x0_1, .slice x0_2 x0_2n x0_2c] ⟨false, 0⟩])) 1)) fun x_16 =>
          (Option.bind (sliceOf? (AMem.ld M_14 (List.length (M ++ [AObj.cells [.int .i64 x0_0, .int .i64 x0_1, .slice x0_2 x0_2n x0_2c] ⟨false, 0⟩])) 2)) fun s_17 =>
          some (.tuple #[.agg #[.int .i64 x_15, .int .i64 x_16, .slice s_17.1 s_17.2.1 s_17.2.2], .bool false], M_14)))))
        else (if (decide (x1 > 256)) = true
          then (Option.bind (AMem.wr r_4.2 (List.length (M ++ [AObj.cells [.int .i64 x0_0, .int .i64 x0_1, .slice x0_2 x0_2n x0_2c] ⟨false, 0⟩])) 0 [.int .i64 0, .int .i64 0, .slice none 0 0]) fun M_18 =>
            (Option.bind (intOf? .i64 (AMem.ld M_18 (List.length (M ++ [AObj.cells [.int .i64 x0_0, .int .i64 x0_1, .slice x0_2 x0_2n x0_2c] ⟨false, 0⟩])) 0)) fun x_19 =>
            (Option.bind (intOf? .i64 (AMem.ld M_18 (List.length (M ++ [AObj.cells [.int .i64 x0_0, .int .i64 x0_1, .slice x0_2 x0_2n x0_2c] ⟨false, 0⟩])) 1)) fun x_20 =>
            (Option.bind (sliceOf? (AMem.ld M_18 (List.length (M ++ [AObj.cells [.int .i64 x0_0, .int .i64 x0_1, .slice x0_2 x0_2n x0_2c] ⟨false, 0⟩])) 2)) fun s_21 =>
            some (.tuple #[.agg #[.int .i64 x_19, .int .i64 x_20, .slice s_21.1 s_21.2.1 s_21.2.2], .bool false], M_18)))))
          else (if (decide (x2 > 256)) = true
            then (Option.bind (AMem.wr r_4.2 (List.length (M ++ [AObj.cells [.int .i64 x0_0, .int .i64 x0_1, .slice x0_2 x0_2n x0_2c] ⟨false, 0⟩])) 0 [.int .i64 0, .int .i64 0, .slice none 0 0]) fun M_22 =>
              (Option.bind (intOf? .i64 (AMem.ld M_22 (List.length (M ++ [AObj.cells [.int .i64 x0_0, .int .i64 x0_1, .slice x0_2 x0_2n x0_2c] ⟨false, 0⟩])) 0)) fun x_23 =>
              (Option.bind (intOf? .i64 (AMem.ld M_22 (List.length (M ++ [AObj.cells [.int .i64 x0_0, .int .i64 x0_1, .slice x0_2 x0_2n x0_2c] ⟨false, 0⟩])) 1)) fun x_24 =>
              (Option.bind (sliceOf? (AMem.ld M_22 (List.length (M ++ [AObj.cells [.int .i64 x0_0, .int .i64 x0_1, .slice x0_2 x0_2n x0_2c] ⟨false, 0⟩])) 2)) fun s_25 =>
              some (.tuple #[.agg #[.int .i64 x_23, .int .i64 x_24, .slice s_25.1 s_25.2.1 s_25.2.2], .bool false], M_22)))))
            else (Option.bind (L.call 28 [.int .i64 x1] []) fun r_26 =>
              (Option.bind (intOf? .i64 (some r_26.1)) fun x_27 =>
              (Option.bind (intOf? .i64 (AMem.ld r_4.2 (List.length M) 0)) fun x_28 =>
              (if (x_27 != x_28) = true
              then (Option.bind (AMem.wr r_4.2 (List.length (M ++ [AObj.cells [.int .i64 x0_0, .int .i64 x0_1, .slice x0_2 x0_2n x0_2c] ⟨false, 0⟩])) 0 [.int .i64 0, .int .i64 0, .slice none 0 0]) fun M_29 =>
                (Option.bind (intOf? .i64 (AMem.ld M_29 (List.length (M ++ [AObj.cells [.int .i64 x0_0, .int .i64 x0_1, .slice x0_2 x0_2n x0_2c] ⟨false, 0⟩])) 0)) fun x_30 =>
                (Option.bind (intOf? .i64 (AMem.ld M_29 (List.length (M ++ [AObj.cells [.int .i64 x0_0, .int .i64 x0_1, .slice x0_2 x0_2n x0_2c] ⟨false, 0⟩])) 1)) fun x_31 =>
                (Option.bind (sliceOf? (AMem.ld M_29 (List.length (M ++ [AObj.cells [.int .i64 x0_0, .int .i64 x0_1, .slice x0_2 x0_2n x0_2c] ⟨false, 0⟩])) 2)) fun s_32 =>
                some (.tuple #[.agg #[.int .i64 x_30, .int .i64 x_31, .slice s_32.1 s_32.2.1 s_32.2.2], .bool false], M_29)))))
              else (Option.bind (L.call 28 [.int .i64 x2] []) fun r_33 =>
                (Option.bind (intOf? .i64 (some r_33.1)) fun x_34 =>
                (Option.bind (intOf? .i64 (AMem.ld r_4.2 (List.length M) 1)) fun x_35 =>
                (if (x_34 != x_35) = true
                then (Option.bind (AMem.wr r_4.2 (List.length (M ++ [AObj.cells [.int .i64 x0_0, .int .i64 x0_1, .slice x0_2 x0_2n x0_2c] ⟨false, 0⟩])) 0 [.int .i64 0, .int .i64 0, .slice none 0 0]) fun M_36 =>
                  (Option.bind (intOf? .i64 (AMem.ld M_36 (List.length (M ++ [AObj.cells [.int .i64 x0_0, .int .i64 x0_1, .slice x0_2 x0_2n x0_2c] ⟨false, 0⟩])) 0)) fun x_37 =>
                  (Option.bind (intOf? .i64 (AMem.ld M_36 (List.length (M ++ [AObj.cells [.int .i64 x0_0, .int .i64 x0_1, .slice x0_2 x0_2n x0_2c] ⟨false, 0⟩])) 1)) fun x_38 =>
                  (Option.bind (sliceOf? (AMem.ld M_36 (List.length (M ++ [AObj.cells [.int .i64 x0_0, .int .i64 x0_1, .slice x0_2 x0_2n x0_2c] ⟨false, 0⟩])) 2)) fun s_39 =>
                  some (.tuple #[.agg #[.int .i64 x_37, .int .i64 x_38, .slice s_39.1 s_39.2.1 s_39.2.2], .bool false], M_36)))))
                else (Option.bind (AMem.wr (r_4.2 ++ [AObj.cells [.int .i64 0, .int .i64 0, .slice none 0 0] ⟨false, 0⟩]) (List.length r_4.2) 0 [.int .i64 x1, .int .i64 x2, .slice none 0 0]) fun M_40 =>
                  P17_16 L x1 x2 (List.length M) (List.length (M ++ [AObj.cells [.int .i64 x0_0, .int .i64 x0_1, .slice x0_2 x0_2n x0_2c] ⟨false, 0⟩])) (List.length r_4.2) 0 M_40))))))))))))))))))) := QE17 L b17_16 c17_27 P17_16 (Classical.choose_spec XP17_16) x0_0 x0_1 x0_2 x0_2n x0_2c x1 x2 M
/-! #### skylightref51.Cut -/
noncomputable def k18_16 (L : Rec) : KT := blockK 0 (seqK (code L (.clear zl32 c18_27) (retK [.cell true [.int .i64, .int .i64, .slice] 10, .tmp 11])) (retK [.cell true [.int .i64, .int .i64, .slice] 10, .tmp 11]))
def s18_16 (x1 : Int) (x2 : Int) (x3 : Int) (x4 : Int) (x5 : Nat) (x10 : Nat) (x12 : Nat) (x13 : Int) (M : AMem) : List Value := [junk, .int .i64 x1, .int .i64 x2, .int .i64 x3, .int .i64 x4, .pointer (some ⟨x5, 0, none⟩), junk, junk, junk, junk, .pointer (some ⟨x10, 0, none⟩), junk, .pointer (some ⟨x12, 0, none⟩), .int .i64 x13, junk, junk, junk, junk, junk, junk, junk, junk, junk, junk, junk, junk, junk, junk, junk, junk, junk, junk, junk, junk, junk, junk, junk, junk, junk, junk, junk, junk, junk, junk, junk, junk, junk, junk, junk, junk, junk, junk, junk, junk, junk, junk, junk, junk, junk, junk, junk, junk, junk, junk, junk, junk, junk, junk, junk, junk, junk, junk, junk, junk, junk, junk, junk, junk, junk, junk, junk, junk, junk, junk, junk, junk]
theorem XP18_16 : ∃ P : Rec → Int → Int → Int → Int → Nat → Nat → Nat → Int → AMem → Res, P = fun (L : Rec) (x1 : Int) (x2 : Int) (x3 : Int) (x4 : Int) (x5 : Nat) (x10 : Nat) (x12 : Nat) (x13 : Int) (M : AMem) => L.loop b18_16 (k18_16 L) (s18_16 x1 x2 x3 x4 x5 x10 x12 x13 M) M := ⟨_, rfl⟩
noncomputable def P18_16 : Rec → Int → Int → Int → Int → Nat → Nat → Nat → Int → AMem → Res := Classical.choose XP18_16
noncomputable def k18_26 (L : Rec) : KT := postK zl31 (loopK L b18_16 (blockK 0 (seqK (code L (.clear zl32 c18_27) (retK [.cell true [.int .i64, .int .i64, .slice] 10, .tmp 11])) (retK [.cell true [.int .i64, .int .i64, .slice] 10, .tmp 11]))))
def s18_26 (x1 : Int) (x2 : Int) (x3 : Int) (x4 : Int) (x5 : Nat) (x10 : Nat) (x12 : Nat) (x13 : Int) (M : AMem) : List Value := [junk, .int .i64 x1, .int .i64 x2, .int .i64 x3, .int .i64 x4, .pointer (some ⟨x5, 0, none⟩), junk, junk, junk, junk, .pointer (some ⟨x10, 0, none⟩), junk, .pointer (some ⟨x12, 0, none⟩), .int .i64 x13, junk, junk, junk, junk, junk, junk, junk, junk, junk, junk, junk, junk, junk, junk, junk, junk, junk, junk, junk, junk, junk, junk, junk, junk, junk, junk, junk, junk, junk, junk, junk, junk, junk, junk, junk, junk, junk, junk, junk, junk, junk, junk, junk, junk, junk, junk, junk, junk, junk, junk, junk, junk, junk, junk, junk, junk, junk, junk, junk, junk, junk, junk, junk, junk, junk, junk, junk, junk, junk, junk, junk, junk]
theorem XP18_26 : ∃ P : Rec → Int → Int → Int → Int → Nat → Nat → Nat → Int → AMem → Res, P = fun (L : Rec) (x1 : Int) (x2 : Int) (x3 : Int) (x4 : Int) (x5 : Nat) (x10 : Nat) (x12 : Nat) (x13 : Int) (M : AMem) => code L c18_26 (k18_26 L) (s18_26 x1 x2 x3 x4 x5 x10 x12 x13 M) M := ⟨_, rfl⟩
noncomputable def P18_26 : Rec → Int → Int → Int → Int → Nat → Nat → Nat → Int → AMem → Res := Classical.choose XP18_26
noncomputable def k18_27 (L : Rec) : KT := retK [.cell true [.int .i64, .int .i64, .slice] 10, .tmp 11]
def s18_27 (x10 : Nat) (x12 : Nat) (M : AMem) : List Value := [junk, junk, junk, junk, junk, junk, junk, junk, junk, junk, .pointer (some ⟨x10, 0, none⟩), junk, .pointer (some ⟨x12, 0, none⟩), junk, junk, junk, junk, junk, junk, junk, junk, junk, junk, junk, junk, junk, junk, junk, junk, junk, junk, junk, junk, junk, junk, junk, junk, junk, junk, junk, junk, junk, junk, junk, junk, junk, junk, junk, junk, junk, junk, junk, junk, junk, junk, junk, junk, junk, junk, junk, junk, junk, junk, junk, junk, junk, junk, junk, junk, junk, junk, junk, junk, junk, junk, junk, junk, junk, junk, junk, junk, junk, junk, junk, junk, junk]
theorem XP18_27 : ∃ P : Rec → Nat → Nat → AMem → Res, P = fun (L : Rec) (x10 : Nat) (x12 : Nat) (M : AMem) => code L c18_27 (k18_27 L) (s18_27 x10 x12 M) M := ⟨_, rfl⟩
noncomputable def P18_27 : Rec → Nat → Nat → AMem → Res := Classical.choose XP18_27
theorem QP18_16_eq (L : Rec) (b18_16 c18_26 c18_27 : ACode) (hb : ∀ K t A, L.loop b18_16 K t A = code L (.post (.seq (.seq (.ops o18_19) (.cond (.tmp 65) (.skip) (.exit 0))) (.seq (.block 1 (.draw [] 0 o18_25 [(1, 13), (1, 14)])) (.clear zl31 c18_26))) zl31) (loopK L b18_16 K) t A) (P18_16 : Rec → Int → Int → Int → Int → Nat → Nat → Nat → Int → AMem → Res) (hP18_16 : P18_16 = fun (L : Rec) (x1 : Int) (x2 : Int) (x3 : Int) (x4 : Int) (x5 : Nat) (x10 : Nat) (x12 : Nat) (x13 : Int) (M : AMem) => L.loop b18_16 (blockK 0 (seqK (code L (.clear zl32 c18_27) (retK [.cell true [.int .i64, .int .i64, .slice] 10, .tmp 11])) (retK [.cell true [.int .i64, .int .i64, .slice] 10, .tmp 11]))) (s18_16 x1 x2 x3 x4 x5 x10 x12 x13 M) M) (P18_26 : Rec → Int → Int → Int → Int → Nat → Nat → Nat → Int → AMem → Res) (hP18_26 : P18_26 = fun (L : Rec) (x1 : Int) (x2 : Int) (x3 : Int) (x4 : Int) (x5 : Nat) (x10 : Nat) (x12 : Nat) (x13 : Int) (M : AMem) => code L c18_26 (postK zl31 (loopK L b18_16 (blockK 0 (seqK (code L (.clear zl32 c18_27) (retK [.cell true [.int .i64, .int .i64, .slice] 10, .tmp 11])) (retK [.cell true [.int .i64, .int .i64, .slice] 10, .tmp 11]))))) (s18_26 x1 x2 x3 x4 x5 x10 x12 x13 M) M) (P18_27 : Rec → Nat → Nat → AMem → Res) (hP18_27 : P18_27 = fun (L : Rec) (x10 : Nat) (x12 : Nat) (M : AMem) => code L c18_27 (retK [.cell true [.int .i64, .int .i64, .slice] 10, .tmp 11]) (s18_27 x10 x12 M) M) (x1 : Int) (x2 : Int) (x3 : Int) (x4 : Int) (x5 : Nat) (x10 : Nat) (x12 : Nat) (x13 : Int) (M : AMem) : P18_16 L x1 x2 x3 x4 x5 x10 x12 x13 M =
  (if (decide (x13 < (IntKind.wrap .i64 (x3 * x4)))) = true
    then (Option.bind (sliceOf? (AMem.ld M x12 2)) fun s_1 =>
      (Option.bind (intOf? .i64 (AMem.ld M x5 0)) fun x_2 =>
      (Option.bind (intOf? .i64 (AMem.ld M x5 1)) fun x_3 =>
      (Option.bind (sliceOf? (AMem.ld M x5 2)) fun s_4 =>
      (if x3 = 0
      then none
      else (if x3 = 0
        then none
        else (Option.bind (L.call 29 [.agg #[.int .i64 x_2, .int .i64 x_3, .slice s_4.1 s_4.2.1 s_4.2.2], .int .i64 (IntKind.wrap .i64 (x1 + (Int.tmod x13 x3))), .int .i64 (IntKind.wrap .i64 (x2 + (IntKind.wrap .i64 (Int.tdiv x13 x3))))] M) fun r_5 =>
          (Option.bind (aggOf? 3 r_5.1) fun cs_6 =>
          (Option.bind (intOf? .i64 (cs_6[0]?)) fun x_7 =>
          (Option.bind (intOf? .i64 (cs_6[1]?)) fun x_8 =>
          (Option.bind (intOf? .i64 (cs_6[2]?)) fun x_9 =>
          (Option.bind (rowOf (r_5.2 ++ [AObj.cells [.int .i64 x_7, .int .i64 x_8, .int .i64 x_9] ⟨false, 0⟩]) 3 (.slice (some ⟨(List.length r_5.2), 0, none⟩) 1 3)) fun row_10 =>
          (appendK 3 24 s_1.1 s_1.2.1 s_1.2.2 1 row_10 (r_5.2 ++ [AObj.cells [.int .i64 x_7, .int .i64 x_8, .int .i64 x_9] ⟨false, 0⟩]) fun p_11 n_12 c_13 M_14 =>
          (Option.bind (AMem.wr M_14 x12 2 [.slice p_11 n_12 c_13]) fun M_15 =>
          (if chkOk [(1, 13), (1, 14)] [(1, x12)] [(14, (r_5.2, (r_5.2 ++ [AObj.cells [.int .i64 x_7, .int .i64 x_8, .int .i64 x_9] ⟨false, 0⟩]))), (13, (M, r_5.2))] = true
          then P18_26 L x1 x2 x3 x4 x5 x10 x12 x13 M_15
          else none)))))))))))))))
    else P18_27 L x10 x12 M) := by
  subst hP18_16; subst hP18_26; subst hP18_27; exact (hb (blockK 0 (seqK (code L (.clear zl32 c18_27) (retK [.cell true [.int .i64, .int .i64, .slice] 10, .tmp 11])) (retK [.cell true [.int .i64, .int .i64, .slice] 10, .tmp 11]))) (s18_16 x1 x2 x3 x4 x5 x10 x12 x13 M) M).trans (by kernel_rfl)
theorem P18_16_eq (L : Rec) (hL : ∀ b K t A, L.loop b K t A = code L b (loopK L b K) t A) (x1 : Int) (x2 : Int) (x3 : Int) (x4 : Int) (x5 : Nat) (x10 : Nat) (x12 : Nat) (x13 : Int) (M : AMem) : P18_16 L x1 x2 x3 x4 x5 x10 x12 x13 M =
  (if (decide (x13 < (IntKind.wrap .i64 (x3 * x4)))) = true
    then (Option.bind (sliceOf? (AMem.ld M x12 2)) fun s_1 =>
      (Option.bind (intOf? .i64 (AMem.ld M x5 0)) fun x_2 =>
      (Option.bind (intOf? .i64 (AMem.ld M x5 1)) fun x_3 =>
      (Option.bind (sliceOf? (AMem.ld M x5 2)) fun s_4 =>
      (if x3 = 0
      then none
      else (if x3 = 0
        then none
        else (Option.bind (L.call 29 [.agg #[.int .i64 x_2, .int .i64 x_3, .slice s_4.1 s_4.2.1 s_4.2.2], .int .i64 (IntKind.wrap .i64 (x1 + (Int.tmod x13 x3))), .int .i64 (IntKind.wrap .i64 (x2 + (IntKind.wrap .i64 (Int.tdiv x13 x3))))] M) fun r_5 =>
          (Option.bind (aggOf? 3 r_5.1) fun cs_6 =>
          (Option.bind (intOf? .i64 (cs_6[0]?)) fun x_7 =>
          (Option.bind (intOf? .i64 (cs_6[1]?)) fun x_8 =>
          (Option.bind (intOf? .i64 (cs_6[2]?)) fun x_9 =>
          (Option.bind (rowOf (r_5.2 ++ [AObj.cells [.int .i64 x_7, .int .i64 x_8, .int .i64 x_9] ⟨false, 0⟩]) 3 (.slice (some ⟨(List.length r_5.2), 0, none⟩) 1 3)) fun row_10 =>
          (appendK 3 24 s_1.1 s_1.2.1 s_1.2.2 1 row_10 (r_5.2 ++ [AObj.cells [.int .i64 x_7, .int .i64 x_8, .int .i64 x_9] ⟨false, 0⟩]) fun p_11 n_12 c_13 M_14 =>
          (Option.bind (AMem.wr M_14 x12 2 [.slice p_11 n_12 c_13]) fun M_15 =>
          (if chkOk [(1, 13), (1, 14)] [(1, x12)] [(14, (r_5.2, (r_5.2 ++ [AObj.cells [.int .i64 x_7, .int .i64 x_8, .int .i64 x_9] ⟨false, 0⟩]))), (13, (M, r_5.2))] = true
          then P18_26 L x1 x2 x3 x4 x5 x10 x12 x13 M_15
          else none)))))))))))))))
    else P18_27 L x10 x12 M) := QP18_16_eq L b18_16 c18_26 c18_27 (hL b18_16) P18_16 (Classical.choose_spec XP18_16) P18_26 (Classical.choose_spec XP18_26) P18_27 (Classical.choose_spec XP18_27) x1 x2 x3 x4 x5 x10 x12 x13 M
theorem QP18_26_eq (L : Rec) (b18_16 c18_27 : ACode) (P18_16 : Rec → Int → Int → Int → Int → Nat → Nat → Nat → Int → AMem → Res) (hP18_16 : P18_16 = fun (L : Rec) (x1 : Int) (x2 : Int) (x3 : Int) (x4 : Int) (x5 : Nat) (x10 : Nat) (x12 : Nat) (x13 : Int) (M : AMem) => L.loop b18_16 (blockK 0 (seqK (code L (.clear zl32 c18_27) (retK [.cell true [.int .i64, .int .i64, .slice] 10, .tmp 11])) (retK [.cell true [.int .i64, .int .i64, .slice] 10, .tmp 11]))) (s18_16 x1 x2 x3 x4 x5 x10 x12 x13 M) M) (P18_26 : Rec → Int → Int → Int → Int → Nat → Nat → Nat → Int → AMem → Res) (hP18_26 : P18_26 = fun (L : Rec) (x1 : Int) (x2 : Int) (x3 : Int) (x4 : Int) (x5 : Nat) (x10 : Nat) (x12 : Nat) (x13 : Int) (M : AMem) => code L (.ops o18_26) (postK zl31 (loopK L b18_16 (blockK 0 (seqK (code L (.clear zl32 c18_27) (retK [.cell true [.int .i64, .int .i64, .slice] 10, .tmp 11])) (retK [.cell true [.int .i64, .int .i64, .slice] 10, .tmp 11]))))) (s18_26 x1 x2 x3 x4 x5 x10 x12 x13 M) M) (x1 : Int) (x2 : Int) (x3 : Int) (x4 : Int) (x5 : Nat) (x10 : Nat) (x12 : Nat) (x13 : Int) (M : AMem) : P18_26 L x1 x2 x3 x4 x5 x10 x12 x13 M =
  P18_16 L x1 x2 x3 x4 x5 x10 x12 (IntKind.wrap .i64 (x13 + 1)) M := by
  subst hP18_16; subst hP18_26; kernel_rfl
theorem P18_26_eq (L : Rec) (x1 : Int) (x2 : Int) (x3 : Int) (x4 : Int) (x5 : Nat) (x10 : Nat) (x12 : Nat) (x13 : Int) (M : AMem) : P18_26 L x1 x2 x3 x4 x5 x10 x12 x13 M =
  P18_16 L x1 x2 x3 x4 x5 x10 x12 (IntKind.wrap .i64 (x13 + 1)) M := QP18_26_eq L b18_16 c18_27 P18_16 (Classical.choose_spec XP18_16) P18_26 (Classical.choose_spec XP18_26) x1 x2 x3 x4 x5 x10 x12 x13 M
theorem QP18_27_eq (L : Rec) (P18_27 : Rec → Nat → Nat → AMem → Res) (hP18_27 : P18_27 = fun (L : Rec) (x10 : Nat) (x12 : Nat) (M : AMem) => code L (.seq (.ops o18_28) (.ret)) (retK [.cell true [.int .i64, .int .i64, .slice] 10, .tmp 11]) (s18_27 x10 x12 M) M) (x10 : Nat) (x12 : Nat) (M : AMem) : P18_27 L x10 x12 M =
  (Option.bind (intOf? .i64 (AMem.ld M x12 0)) fun x_1 =>
    (Option.bind (intOf? .i64 (AMem.ld M x12 1)) fun x_2 =>
    (Option.bind (sliceOf? (AMem.ld M x12 2)) fun s_3 =>
    (Option.bind (AMem.wr M x10 0 [.int .i64 x_1, .int .i64 x_2, .slice s_3.1 s_3.2.1 s_3.2.2]) fun M_4 =>
    (Option.bind (intOf? .i64 (AMem.ld M_4 x10 0)) fun x_5 =>
    (Option.bind (intOf? .i64 (AMem.ld M_4 x10 1)) fun x_6 =>
    (Option.bind (sliceOf? (AMem.ld M_4 x10 2)) fun s_7 =>
    some (.tuple #[.agg #[.int .i64 x_5, .int .i64 x_6, .slice s_7.1 s_7.2.1 s_7.2.2], .bool true], M_4)))))))) := by
  subst hP18_27; kernel_rfl
theorem P18_27_eq (L : Rec) (x10 : Nat) (x12 : Nat) (M : AMem) : P18_27 L x10 x12 M =
  (Option.bind (intOf? .i64 (AMem.ld M x12 0)) fun x_1 =>
    (Option.bind (intOf? .i64 (AMem.ld M x12 1)) fun x_2 =>
    (Option.bind (sliceOf? (AMem.ld M x12 2)) fun s_3 =>
    (Option.bind (AMem.wr M x10 0 [.int .i64 x_1, .int .i64 x_2, .slice s_3.1 s_3.2.1 s_3.2.2]) fun M_4 =>
    (Option.bind (intOf? .i64 (AMem.ld M_4 x10 0)) fun x_5 =>
    (Option.bind (intOf? .i64 (AMem.ld M_4 x10 1)) fun x_6 =>
    (Option.bind (sliceOf? (AMem.ld M_4 x10 2)) fun s_7 =>
    some (.tuple #[.agg #[.int .i64 x_5, .int .i64 x_6, .slice s_7.1 s_7.2.1 s_7.2.2], .bool true], M_4)))))))) := QP18_27_eq L P18_27 (Classical.choose_spec XP18_27) x10 x12 M
theorem QE18 (L : Rec) (b18_16 c18_27 : ACode) (P18_16 : Rec → Int → Int → Int → Int → Nat → Nat → Nat → Int → AMem → Res) (hP18_16 : P18_16 = fun (L : Rec) (x1 : Int) (x2 : Int) (x3 : Int) (x4 : Int) (x5 : Nat) (x10 : Nat) (x12 : Nat) (x13 : Int) (M : AMem) => L.loop b18_16 (blockK 0 (seqK (code L (.clear zl32 c18_27) (retK [.cell true [.int .i64, .int .i64, .slice] 10, .tmp 11])) (retK [.cell true [.int .i64, .int .i64, .slice] 10, .tmp 11]))) (s18_16 x1 x2 x3 x4 x5 x10 x12 x13 M) M) (x0_0 : Int) (x0_1 : Int) (x0_2 : Option Addr) (x0_2n : Nat) (x0_2c : Nat) (x1 : Int) (x2 : Int) (x3 : Int) (x4 : Int) (M : AMem) : enterF L ⟨86, [.cell true [.int .i64, .int .i64, .slice] 10, .tmp 11], .seq (.ops o18_1) (.seq (.seq (.ops o18_4) (.cond (.tmp 56) (.seq (.ops o18_7) (.ret)) (.skip))) (.seq (.ops o18_11) (.seq (.seq (.ops o18_14) (.block 0 (.clear zl31 (.loop b18_16)))) (.clear zl32 c18_27))))⟩ [.agg #[.int .i64 x0_0, .int .i64 x0_1, .slice x0_2 x0_2n x0_2c], .int .i64 x1, .int .i64 x2, .int .i64 x3, .int .i64 x4] M =
  (Option.bind (intOf? .i64 (AMem.ld ((M ++ [AObj.cells [.int .i64 x0_0, .int .i64 x0_1, .slice x0_2 x0_2n x0_2c] ⟨false, 0⟩]) ++ [AObj.cells [.int .i64 0, .int .i64 0, .slice none 0 0] ⟨false, 0⟩]) (List.length M) 0)) fun x_1 =>
    (Option.bind (intOf? .i64 (AMem.ld ((M ++ [AObj.cells [.int .i64 x0_0, .int .i64 x0_1, .slice x0_2 x0_2n x0_2c] ⟨false, 0⟩]) ++ [AObj.cells [.int .i64 0, .int .i64 0, .slice none 0 0] ⟨false, 0⟩]) (List.length M) 1)) fun x_2 =>
    (Option.bind (sliceOf? (AMem.ld ((M ++ [AObj.cells [.int .i64 x0_0, .int .i64 x0_1, .slice x0_2 x0_2n x0_2c] ⟨false, 0⟩]) ++ [AObj.cells [.int .i64 0, .int .i64 0, .slice none 0 0] ⟨false, 0⟩]) (List.length M) 2)) fun s_3 =>
    (Option.bind (L.call 6 [.agg #[.int .i64 x_1, .int .i64 x_2, .slice s_3.1 s_3.2.1 s_3.2.2]] ((M ++ [AObj.cells [.int .i64 x0_0, .int .i64 x0_1, .slice x0_2 x0_2n x0_2c] ⟨false, 0⟩]) ++ [AObj.cells [.int .i64 0, .int .i64 0, .slice none 0 0] ⟨false, 0⟩])) fun r_4 =>
    (Option.bind (boolOf? (some r_4.1)) fun q_5 =>
    (if (!q_5) = true
    then (Option.bind (AMem.wr r_4.2 (List.length (M ++ [AObj.cells [.int .i64 x0_0, .int .i64 x0_1, .slice x0_2 x0_2n x0_2c] ⟨false, 0⟩])) 0 [.int .i64 0, .int .i64 0, .slice none 0 0]) fun M_6 =>
      (Option.bind (intOf? .i64 (AMem.ld M_6 (List.length (M ++ [AObj.cells [.int .i64 x0_0, .int .i64 x0_1, .slice x0_2 x0_2n x0_2c] ⟨false, 0⟩])) 0)) fun x_7 =>
      (Option.bind (intOf? .i64 (AMem.ld M_6 (List.length (M ++ [AObj.cells [.int .i64 x0_0, .int .i64 x0_1, .slice x0_2 x0_2n x0_2c] ⟨false, 0⟩])) 1)) fun x_8 =>
      (Option.bind (sliceOf? (AMem.ld M_6 (List.length (M ++ [AObj.cells [.int .i64 x0_0, .int .i64 x0_1, .slice x0_2 x0_2n x0_2c] ⟨false, 0⟩])) 2)) fun s_9 =>
      some (.tuple #[.agg #[.int .i64 x_7, .int .i64 x_8, .slice s_9.1 s_9.2.1 s_9.2.2], .bool false], M_6)))))
    else (if (decide ((if x4 < x3 then x4 else x3) < 1)) = true
      then (Option.bind (AMem.wr r_4.2 (List.length (M ++ [AObj.cells [.int .i64 x0_0, .int .i64 x0_1, .slice x0_2 x0_2n x0_2c] ⟨false, 0⟩])) 0 [.int .i64 0, .int .i64 0, .slice none 0 0]) fun M_10 =>
        (Option.bind (intOf? .i64 (AMem.ld M_10 (List.length (M ++ [AObj.cells [.int .i64 x0_0, .int .i64 x0_1, .slice x0_2 x0_2n x0_2c] ⟨false, 0⟩])) 0)) fun x_11 =>
        (Option.bind (intOf? .i64 (AMem.ld M_10 (List.length (M ++ [AObj.cells [.int .i64 x0_0, .int .i64 x0_1, .slice x0_2 x0_2n x0_2c] ⟨false, 0⟩])) 1)) fun x_12 =>
        (Option.bind (sliceOf? (AMem.ld M_10 (List.length (M ++ [AObj.cells [.int .i64 x0_0, .int .i64 x0_1, .slice x0_2 x0_2n x0_2c] ⟨false, 0⟩])) 2)) fun s_13 =>
        some (.tuple #[.agg #[.int .i64 x_11, .int .i64 x_12, .slice s_13.1 s_13.2.1 s_13.2.2], .bool false], M_10)))))
      else (if (decide ((if x2 < x1 then x2 else x1) < 0)) = true
        then (Option.bind (AMem.wr r_4.2 (List.length (M ++ [AObj.cells [.int .i64 x0_0, .int .i64 x0_1, .slice x0_2 x0_2n x0_2c] ⟨false, 0⟩])) 0 [.int .i64 0, .int .i64 0, .slice none 0 0]) fun M_14 =>
          (Option.bind (intOf? .i64 (AMem.ld M_14 (List.length (M ++ [AObj.cells [.int .i64 x0_0, .int .i64 x0_1, .slice x0_2 x0_2n x0_2c] ⟨false, 0⟩])) 0)) fun x_15 =>
          (Option.bind (intOf? .i64 (AMem.ld M_14 (List.length (M ++ [AObj.cells [.int .i64 x0_0, .int .i64 x0_1, .slice x0_2 x0_2n x0_2c] ⟨false, 0⟩])) 1)) fun x_16 =>
          (Option.bind (sliceOf? (AMem.ld M_14 (List.length (M ++ [AObj.cells [.int .i64 x0_0, .int .i64 x0_1, .slice x0_2 x0_2n x0_2c] ⟨false, 0⟩])) 2)) fun s_17 =>
          some (.tuple #[.agg #[.int .i64 x_15, .int .i64 x_16, .slice s_17.1 s_17.2.1 s_17.2.2], .bool false], M_14)))))
        else (Option.bind (intOf? .i64 (AMem.ld r_4.2 (List.length M) 0)) fun x_18 =>
          (if (decide (x3 > x_18)) = true
          then (Option.bind (AMem.wr r_4.2 (List.length (M ++ [AObj.cells [.int .i64 x0_0, .int .i64 x0_1, .slice x0_2 x0_2n x0_2c] ⟨false, 0⟩])) 0 [.int .i64 0, .int .i64 0, .slice none 0 0]) fun M_19 =>
            (Option.bind (intOf? .i64 (AMem.ld M_19 (List.length (M ++ [AObj.cells [.int .i64 x0_0, .int .i64 x0_1, .slice x0_2 x0_2n x0_2c] ⟨false, 0⟩])) 0)) fun x_20 =>
            (Option.bind (intOf? .i64 (AMem.ld M_19 (List.length (M ++ [AObj.cells [.int .i64 x0_0, .int .i64 x0_1, .slice x0_2 x0_2n x0_2c] ⟨false, 0⟩])) 1)) fun x_21 =>
            (Option.bind (sliceOf? (AMem.ld M_19 (List.length (M ++ [AObj.cells [.int .i64 x0_0, .int .i64 x0_1, .slice x0_2 x0_2n x0_2c] ⟨false, 0⟩])) 2)) fun s_22 =>
            some (.tuple #[.agg #[.int .i64 x_20, .int .i64 x_21, .slice s_22.1 s_22.2.1 s_22.2.2], .bool false], M_19)))))
          else (Option.bind (intOf? .i64 (AMem.ld r_4.2 (List.length M) 1)) fun x_23 =>
            (if (decide (x4 > x_23)) = true
            then (Option.bind (AMem.wr r_4.2 (List.length (M ++ [AObj.cells [.int .i64 x0_0, .int .i64 x0_1, .slice x0_2 x0_2n x0_2c] ⟨false, 0⟩])) 0 [.int .i64 0, .int .i64 0, .slice none 0 0]) fun M_24 =>
              (Option.bind (intOf? .i64 (AMem.ld M_24 (List.length (M ++ [AObj.cells [.int .i64 x0_0, .int .i64 x0_1, .slice x0_2 x0_2n x0_2c] ⟨false, 0⟩])) 0)) fun x_25 =>
              (Option.bind (intOf? .i64 (AMem.ld M_24 (List.length (M ++ [AObj.cells [.int .i64 x0_0, .int .i64 x0_1, .slice x0_2 x0_2n x0_2c] ⟨false, 0⟩])) 1)) fun x_26 =>
              (Option.bind (sliceOf? (AMem.ld M_24 (List.length (M ++ [AObj.cells [.int .i64 x0_0, .int .i64 x0_1, .slice x0_2 x0_2n x0_2c] ⟨false, 0⟩])) 2)) fun s_27 =>
              some (.tuple #[.agg #[.int .i64 x_25, .int .i64 x_26, .slice s_27.1 s_27.2.1 s_27.2.2], .bool false], M_24)))))
            else (Option.bind (intOf? .i64 (AMem.ld r_4.2 (List.length M) 0)) fun x_28 =>
              (if (decide (x1 > (IntKind.wrap .i64 (x_28 - x3)))) = true
              then (Option.bind (AMem.wr r_4.2 (List.length (M ++ [AObj.cells [.int .i64 x0_0, .int .i64 x0_1, .slice x0_2 x0_2n x0_2c] ⟨false, 0⟩])) 0 [.int .i64 0, .int .i64 0, .slice none 0 0]) fun M_29 =>
                (Option.bind (intOf? .i64 (AMem.ld M_29 (List.length (M ++ [AObj.cells [.int .i64 x0_0, .int .i64 x0_1, .slice x0_2 x0_2n x0_2c] ⟨false, 0⟩])) 0)) fun x_30 =>
                (Option.bind (intOf? .i64 (AMem.ld M_29 (List.length (M ++ [AObj.cells [.int .i64 x0_0, .int .i64 x0_1, .slice x0_2 x0_2n x0_2c] ⟨false, 0⟩])) 1)) fun x_31 =>
                (Option.bind (sliceOf? (AMem.ld M_29 (List.length (M ++ [AObj.cells [.int .i64 x0_0, .int .i64 x0_1, .slice x0_2 x0_2n x0_2c] ⟨false, 0⟩])) 2)) fun s_32 =>
                some (.tuple #[.agg #[.int .i64 x_30, .int .i64 x_31, .slice s_32.1 s_32.2.1 s_32.2.2], .bool false], M_29)))))
              else (Option.bind (intOf? .i64 (AMem.ld r_4.2 (List.length M) 1)) fun x_33 =>
                (if (decide (x2 > (IntKind.wrap .i64 (x_33 - x4)))) = true
                then (Option.bind (AMem.wr r_4.2 (List.length (M ++ [AObj.cells [.int .i64 x0_0, .int .i64 x0_1, .slice x0_2 x0_2n x0_2c] ⟨false, 0⟩])) 0 [.int .i64 0, .int .i64 0, .slice none 0 0]) fun M_34 =>
                  (Option.bind (intOf? .i64 (AMem.ld M_34 (List.length (M ++ [AObj.cells [.int .i64 x0_0, .int .i64 x0_1, .slice x0_2 x0_2n x0_2c] ⟨false, 0⟩])) 0)) fun x_35 =>
                  (Option.bind (intOf? .i64 (AMem.ld M_34 (List.length (M ++ [AObj.cells [.int .i64 x0_0, .int .i64 x0_1, .slice x0_2 x0_2n x0_2c] ⟨false, 0⟩])) 1)) fun x_36 =>
                  (Option.bind (sliceOf? (AMem.ld M_34 (List.length (M ++ [AObj.cells [.int .i64 x0_0, .int .i64 x0_1, .slice x0_2 x0_2n x0_2c] ⟨false, 0⟩])) 2)) fun s_37 =>
                  some (.tuple #[.agg #[.int .i64 x_35, .int .i64 x_36, .slice s_37.1 s_37.2.1 s_37.2.2], .bool false], M_34)))))
                else (Option.bind (AMem.wr (r_4.2 ++ [AObj.cells [.int .i64 0, .int .i64 0, .slice none 0 0] ⟨false, 0⟩]) (List.length r_4.2) 0 [.int .i64 x3, .int .i64 x4, .slice none 0 0]) fun M_38 =>
                  P18_16 L x1 x2 x3 x4 (List.length M) (List.length (M ++ [AObj.cells [.int .i64 x0_0, .int .i64 x0_1, .slice x0_2 x0_2n x0_2c] ⟨false, 0⟩])) (List.length r_4.2) 0 M_38))))))))))))))))) := by
  subst hP18_16; kernel_rfl
theorem E18 (L : Rec) (x0_0 : Int) (x0_1 : Int) (x0_2 : Option Addr) (x0_2n : Nat) (x0_2c : Nat) (x1 : Int) (x2 : Int) (x3 : Int) (x4 : Int) (M : AMem) : enterF L a18 [.agg #[.int .i64 x0_0, .int .i64 x0_1, .slice x0_2 x0_2n x0_2c], .int .i64 x1, .int .i64 x2, .int .i64 x3, .int .i64 x4] M =
  (Option.bind (intOf? .i64 (AMem.ld ((M ++ [AObj.cells [.int .i64 x0_0, .int .i64 x0_1, .slice x0_2 x0_2n x0_2c] ⟨false, 0⟩]) ++ [AObj.cells [.int .i64 0, .int .i64 0, .slice none 0 0] ⟨false, 0⟩]) (List.length M) 0)) fun x_1 =>
    (Option.bind (intOf? .i64 (AMem.ld ((M ++ [AObj.cells [.int .i64 x0_0, .int .i64 x0_1, .slice x0_2 x0_2n x0_2c] ⟨false, 0⟩]) ++ [AObj.cells [.int .i64 0, .int .i64 0, .slice none 0 0] ⟨false, 0⟩]) (List.length M) 1)) fun x_2 =>
    (Option.bind (sliceOf? (AMem.ld ((M ++ [AObj.cells [.int .i64 x0_0, .int .i64 x0_1, .slice x0_2 x0_2n x0_2c] ⟨false, 0⟩]) ++ [AObj.cells [.int .i64 0, .int .i64 0, .slice none 0 0] ⟨false, 0⟩]) (List.length M) 2)) fun s_3 =>
    (Option.bind (L.call 6 [.agg #[.int .i64 x_1, .int .i64 x_2, .slice s_3.1 s_3.2.1 s_3.2.2]] ((M ++ [AObj.cells [.int .i64 x0_0, .int .i64 x0_1, .slice x0_2 x0_2n x0_2c] ⟨false, 0⟩]) ++ [AObj.cells [.int .i64 0, .int .i64 0, .slice none 0 0] ⟨false, 0⟩])) fun r_4 =>
    (Option.bind (boolOf? (some r_4.1)) fun q_5 =>
    (if (!q_5) = true
    then (Option.bind (AMem.wr r_4.2 (List.length (M ++ [AObj.cells [.int .i64 x0_0, .int .i64 x0_1, .slice x0_2 x0_2n x0_2c] ⟨false, 0⟩])) 0 [.int .i64 0, .int .i64 0, .slice none 0 0]) fun M_6 =>
      (Option.bind (intOf? .i64 (AMem.ld M_6 (List.length (M ++ [AObj.cells [.int .i64 x0_0, .int .i64 x0_1, .slice x0_2 x0_2n x0_2c] ⟨false, 0⟩])) 0)) fun x_7 =>
      (Option.bind (intOf? .i64 (AMem.ld M_6 (List.length (M ++ [AObj.cells [.int .i64 x0_0, .int .i64 x0_1, .slice x0_2 x0_2n x0_2c] ⟨false, 0⟩])) 1)) fun x_8 =>
      (Option.bind (sliceOf? (AMem.ld M_6 (List.length (M ++ [AObj.cells [.int .i64 x0_0, .int .i64 x0_1, .slice x0_2 x0_2n x0_2c] ⟨false, 0⟩])) 2)) fun s_9 =>
      some (.tuple #[.agg #[.int .i64 x_7, .int .i64 x_8, .slice s_9.1 s_9.2.1 s_9.2.2], .bool false], M_6)))))
    else (if (decide ((if x4 < x3 then x4 else x3) < 1)) = true
      then (Option.bind (AMem.wr r_4.2 (List.length (M ++ [AObj.cells [.int .i64 x0_0, .int .i64 x0_1, .slice x0_2 x0_2n x0_2c] ⟨false, 0⟩])) 0 [.int .i64 0, .int .i64 0, .slice none 0 0]) fun M_10 =>
        (Option.bind (intOf? .i64 (AMem.ld M_10 (List.length (M ++ [AObj.cells [.int .i64 x0_0, .int .i64 x0_1, .slice x0_2 x0_2n x0_2c] ⟨false, 0⟩])) 0)) fun x_11 =>
        (Option.bind (intOf? .i64 (AMem.ld M_10 (List.length (M ++ [AObj.cells [.int .i64 x0_0, .int .i64 x0_1, .slice x0_2 x0_2n x0_2c] ⟨false, 0⟩])) 1)) fun x_12 =>
        (Option.bind (sliceOf? (AMem.ld M_10 (List.length (M ++ [AObj.cells [.int .i64 x0_0, .int .i64 x0_1, .slice x0_2 x0_2n x0_2c] ⟨false, 0⟩])) 2)) fun s_13 =>
        some (.tuple #[.agg #[.int .i64 x_11, .int .i64 x_12, .slice s_13.1 s_13.2.1 s_13.2.2], .bool false], M_10)))))
      else (if (decide ((if x2 < x1 then x2 else x1) < 0)) = true
        then (Option.bind (AMem.wr r_4.2 (List.length (M ++ [AObj.cells [.int .i64 x0_0, .int .i64 x0_1, .slice x0_2 x0_2n x0_2c] ⟨false, 0⟩])) 0 [.int .i64 0, .int .i64 0, .slice none 0 0]) fun M_14 =>
          (Option.bind (intOf? .i64 (AMem.ld M_14 (List.length (M ++ [AObj.cells [.int .i64 x0_0, .int .i64 x0_1, .slice x0_2 x0_2n x0_2c] ⟨false, 0⟩])) 0)) fun x_15 =>
          (Option.bind (intOf? .i64 (AMem.ld M_14 (List.length (M ++ [AObj.cells [.int .i64 x0_0, .int .i64 x0_1, .slice x0_2 x0_2n x0_2c] ⟨false, 0⟩])) 1)) fun x_16 =>
          (Option.bind (sliceOf? (AMem.ld M_14 (List.length (M ++ [AObj.cells [.int .i64 x0_0, .int .i64 x0_1, .slice x0_2 x0_2n x0_2c] ⟨false, 0⟩])) 2)) fun s_17 =>
          some (.tuple #[.agg #[.int .i64 x_15, .int .i64 x_16, .slice s_17.1 s_17.2.1 s_17.2.2], .bool false], M_14)))))
        else (Option.bind (intOf? .i64 (AMem.ld r_4.2 (List.length M) 0)) fun x_18 =>
          (if (decide (x3 > x_18)) = true
          then (Option.bind (AMem.wr r_4.2 (List.length (M ++ [AObj.cells [.int .i64 x0_0, .int .i64 x0_1, .slice x0_2 x0_2n x0_2c] ⟨false, 0⟩])) 0 [.int .i64 0, .int .i64 0, .slice none 0 0]) fun M_19 =>
            (Option.bind (intOf? .i64 (AMem.ld M_19 (List.length (M ++ [AObj.cells [.int .i64 x0_0, .int .i64 x0_1, .slice x0_2 x0_2n x0_2c] ⟨false, 0⟩])) 0)) fun x_20 =>
            (Option.bind (intOf? .i64 (AMem.ld M_19 (List.length (M ++ [AObj.cells [.int .i64 x0_0, .int .i64 x0_1, .slice x0_2 x0_2n x0_2c] ⟨false, 0⟩])) 1)) fun x_21 =>
            (Option.bind (sliceOf? (AMem.ld M_19 (List.length (M ++ [AObj.cells [.int .i64 x0_0, .int .i64 x0_1, .slice x0_2 x0_2n x0_2c] ⟨false, 0⟩])) 2)) fun s_22 =>
            some (.tuple #[.agg #[.int .i64 x_20, .int .i64 x_21, .slice s_22.1 s_22.2.1 s_22.2.2], .bool false], M_19)))))
          else (Option.bind (intOf? .i64 (AMem.ld r_4.2 (List.length M) 1)) fun x_23 =>
            (if (decide (x4 > x_23)) = true
            then (Option.bind (AMem.wr r_4.2 (List.length (M ++ [AObj.cells [.int .i64 x0_0, .int .i64 x0_1, .slice x0_2 x0_2n x0_2c] ⟨false, 0⟩])) 0 [.int .i64 0, .int .i64 0, .slice none 0 0]) fun M_24 =>
              (Option.bind (intOf? .i64 (AMem.ld M_24 (List.length (M ++ [AObj.cells [.int .i64 x0_0, .int .i64 x0_1, .slice x0_2 x0_2n x0_2c] ⟨false, 0⟩])) 0)) fun x_25 =>
              (Option.bind (intOf? .i64 (AMem.ld M_24 (List.length (M ++ [AObj.cells [.int .i64 x0_0, .int .i64 x0_1, .slice x0_2 x0_2n x0_2c] ⟨false, 0⟩])) 1)) fun x_26 =>
              (Option.bind (sliceOf? (AMem.ld M_24 (List.length (M ++ [AObj.cells [.int .i64 x0_0, .int .i64 x0_1, .slice x0_2 x0_2n x0_2c] ⟨false, 0⟩])) 2)) fun s_27 =>
              some (.tuple #[.agg #[.int .i64 x_25, .int .i64 x_26, .slice s_27.1 s_27.2.1 s_27.2.2], .bool false], M_24)))))
            else (Option.bind (intOf? .i64 (AMem.ld r_4.2 (List.length M) 0)) fun x_28 =>
              (if (decide (x1 > (IntKind.wrap .i64 (x_28 - x3)))) = true
              then (Option.bind (AMem.wr r_4.2 (List.length (M ++ [AObj.cells [.int .i64 x0_0, .int .i64 x0_1, .slice x0_2 x0_2n x0_2c] ⟨false, 0⟩])) 0 [.int .i64 0, .int .i64 0, .slice none 0 0]) fun M_29 =>
                (Option.bind (intOf? .i64 (AMem.ld M_29 (List.length (M ++ [AObj.cells [.int .i64 x0_0, .int .i64 x0_1, .slice x0_2 x0_2n x0_2c] ⟨false, 0⟩])) 0)) fun x_30 =>
                (Option.bind (intOf? .i64 (AMem.ld M_29 (List.length (M ++ [AObj.cells [.int .i64 x0_0, .int .i64 x0_1, .slice x0_2 x0_2n x0_2c] ⟨false, 0⟩])) 1)) fun x_31 =>
                (Option.bind (sliceOf? (AMem.ld M_29 (List.length (M ++ [AObj.cells [.int .i64 x0_0, .int .i64 x0_1, .slice x0_2 x0_2n x0_2c] ⟨false, 0⟩])) 2)) fun s_32 =>
                some (.tuple #[.agg #[.int .i64 x_30, .int .i64 x_31, .slice s_32.1 s_32.2.1 s_32.2.2], .bool false], M_29)))))
              else (Option.bind (intOf? .i64 (AMem.ld r_4.2 (List.length M) 1)) fun x_33 =>
                (if (decide (x2 > (IntKind.wrap .i64 (x_33 - x4)))) = true
                then (Option.bind (AMem.wr r_4.2 (List.length (M ++ [AObj.cells [.int .i64 x0_0, .int .i64 x0_1, .slice x0_2 x0_2n x0_2c] ⟨false, 0⟩])) 0 [.int .i64 0, .int .i64 0, .slice none 0 0]) fun M_34 =>
                  (Option.bind (intOf? .i64 (AMem.ld M_34 (List.length (M ++ [AObj.cells [.int .i64 x0_0, .int .i64 x0_1, .slice x0_2 x0_2n x0_2c] ⟨false, 0⟩])) 0)) fun x_35 =>
                  (Option.bind (intOf? .i64 (AMem.ld M_34 (List.length (M ++ [AObj.cells [.int .i64 x0_0, .int .i64 x0_1, .slice x0_2 x0_2n x0_2c] ⟨false, 0⟩])) 1)) fun x_36 =>
                  (Option.bind (sliceOf? (AMem.ld M_34 (List.length (M ++ [AObj.cells [.int .i64 x0_0, .int .i64 x0_1, .slice x0_2 x0_2n x0_2c] ⟨false, 0⟩])) 2)) fun s_37 =>
                  some (.tuple #[.agg #[.int .i64 x_35, .int .i64 x_36, .slice s_37.1 s_37.2.1 s_37.2.2], .bool false], M_34)))))
                else (Option.bind (AMem.wr (r_4.2 ++ [AObj.cells [.int .i64 0, .int .i64 0, .slice none 0 0] ⟨false, 0⟩]) (List.length r_4.2) 0 [.int .i64 x3, .int .i64 x4, .slice none 0 0]) fun M_38 =>
                  P18_16 L x1 x2 x3 x4 (List.length M) (List.length (M ++ [AObj.cells [.int .i64 x0_0, .int .i64 x0_1, .slice x0_2 x0_2n x0_2c] ⟨false, 0⟩])) (List.length r_4.2) 0 M_38))))))))))))))))) := QE18 L b18_16 c18_27 P18_16 (Classical.choose_spec XP18_16) x0_0 x0_1 x0_2 x0_2n x0_2c x1 x2 x3 x4 M
end Go.Proofs.Ytncfdkmhpnopiaa
