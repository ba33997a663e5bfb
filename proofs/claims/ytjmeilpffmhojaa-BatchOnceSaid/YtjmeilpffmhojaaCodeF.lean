/- Functions as the interpreter takes them, and that the program's are so. -/
import Derived.Test.YtjmeilpffmhojaaCodeFPartA
set_option linter.unusedVariables false
set_option maxRecDepth 100000
namespace Go.Proofs.Ytjmeilpffmhojaa
open Go Go.Ax
/-! #### mip.Cut -/
def o29_1 : List AOper := [⟨some 5, .box (.tmp 0), none⟩,
  ⟨some 10, .alloc [.int .i64 0, .int .i64 0, .slice none 0 0], none⟩,
  ⟨some 11, .mv (.const (.bool false)), none⟩]
def o29_4 : List AOper := [⟨some 15, .load true [.int .i64, .int .i64, .slice] (.tmp 5), none⟩,
  ⟨some 16, .call false (.func 60) [.tmp 15] [(false, [.bool])] true, none⟩,
  ⟨some 17, .un .not (.tmp 16), none⟩,
  ⟨some 18, .mv (.tmp 17), none⟩,
  ⟨some 19, .mv (.tmp 1), some (18, false)⟩,
  ⟨some 20, .mv (.tmp 2), some (18, false)⟩,
  ⟨some 21, .minmax false [.tmp 19, .tmp 20], some (18, false)⟩,
  ⟨some 22, .bin .lss (.tmp 21) (.const (.int .i64 0)), some (18, false)⟩,
  ⟨some 23, .pick (.tmp 18) (.const (.bool true)) (.tmp 22), none⟩,
  ⟨some 24, .mv (.tmp 23), none⟩,
  ⟨some 25, .mv (.tmp 3), some (24, false)⟩,
  ⟨some 26, .mv (.tmp 4), some (24, false)⟩,
  ⟨some 27, .minmax false [.tmp 25, .tmp 26], some (24, false)⟩,
  ⟨some 28, .bin .lss (.tmp 27) (.const (.int .i64 1)), some (24, false)⟩,
  ⟨some 29, .pick (.tmp 24) (.const (.bool true)) (.tmp 28), none⟩,
  ⟨some 30, .mv (.tmp 29), none⟩,
  ⟨some 31, .mv (.tmp 3), some (30, false)⟩,
  ⟨some 32, .fieldAddr 0 (.tmp 5), some (30, false)⟩,
  ⟨some 33, .load false [.int .i64] (.tmp 32), some (30, false)⟩,
  ⟨some 34, .bin .gtr (.tmp 31) (.tmp 33), some (30, false)⟩,
  ⟨some 35, .pick (.tmp 30) (.const (.bool true)) (.tmp 34), none⟩,
  ⟨some 36, .mv (.tmp 35), none⟩,
  ⟨some 37, .mv (.tmp 4), some (36, false)⟩,
  ⟨some 38, .fieldAddr 1 (.tmp 5), some (36, false)⟩,
  ⟨some 39, .load false [.int .i64] (.tmp 38), some (36, false)⟩,
  ⟨some 40, .bin .gtr (.tmp 37) (.tmp 39), some (36, false)⟩,
  ⟨some 41, .pick (.tmp 36) (.const (.bool true)) (.tmp 40), none⟩,
  ⟨some 42, .mv (.tmp 41), none⟩,
  ⟨some 43, .mv (.tmp 1), some (42, false)⟩,
  ⟨some 44, .fieldAddr 0 (.tmp 5), some (42, false)⟩,
  ⟨some 45, .load false [.int .i64] (.tmp 44), some (42, false)⟩,
  ⟨some 46, .mv (.tmp 3), some (42, false)⟩,
  ⟨some 47, .bin .sub (.tmp 45) (.tmp 46), some (42, false)⟩,
  ⟨some 48, .bin .gtr (.tmp 43) (.tmp 47), some (42, false)⟩,
  ⟨some 49, .pick (.tmp 42) (.const (.bool true)) (.tmp 48), none⟩,
  ⟨some 50, .mv (.tmp 49), none⟩,
  ⟨some 51, .mv (.tmp 2), some (50, false)⟩,
  ⟨some 52, .fieldAddr 1 (.tmp 5), some (50, false)⟩,
  ⟨some 53, .load false [.int .i64] (.tmp 52), some (50, false)⟩,
  ⟨some 54, .mv (.tmp 4), some (50, false)⟩,
  ⟨some 55, .bin .sub (.tmp 53) (.tmp 54), some (50, false)⟩,
  ⟨some 56, .bin .gtr (.tmp 51) (.tmp 55), some (50, false)⟩,
  ⟨some 57, .pick (.tmp 50) (.const (.bool true)) (.tmp 56), none⟩]
def o29_7 : List AOper := [⟨some 58, .build [.int .i64 0, .int .i64 0, .slice none 0 0] [], none⟩,
  ⟨none, .store 3 (.tmp 10) (.tmp 58), none⟩,
  ⟨some 11, .mv (.const (.bool false)), none⟩]
def o29_11 : List AOper := [⟨some 59, .mv (.tmp 3), none⟩,
  ⟨some 60, .mv (.tmp 4), none⟩,
  ⟨some 61, .build [.int .i64 0, .int .i64 0, .slice none 0 0] [(0, 1, .tmp 59), (1, 1, .tmp 60)], none⟩,
  ⟨some 12, .alloc [.int .i64 0, .int .i64 0, .slice none 0 0], none⟩,
  ⟨none, .store 3 (.tmp 12) (.tmp 61), none⟩]
def o29_14 : List AOper := [⟨some 62, .mv (.tmp 4), none⟩,
  ⟨some 63, .mv (.const (.int .i64 0)), none⟩]
def o29_18 : List AOper := [⟨some 64, .bin .lss (.tmp 63) (.tmp 62), none⟩]
def o29_26 : List AOper := [⟨some 65, .mv (.tmp 63), none⟩,
  ⟨some 13, .mv (.tmp 65), none⟩]
def o29_28 : List AOper := [⟨some 66, .mv (.tmp 2), none⟩,
  ⟨some 67, .mv (.tmp 13), none⟩,
  ⟨some 68, .bin .add (.tmp 66) (.tmp 67), none⟩,
  ⟨some 69, .fieldAddr 0 (.tmp 5), none⟩,
  ⟨some 70, .load false [.int .i64] (.tmp 69), none⟩,
  ⟨some 71, .bin .mul (.tmp 68) (.tmp 70), none⟩,
  ⟨some 72, .mv (.tmp 1), none⟩,
  ⟨some 73, .bin .add (.tmp 71) (.tmp 72), none⟩,
  ⟨some 14, .mv (.tmp 73), none⟩]
def o29_29 : List (AOper × Option Nat) := [(⟨some 74, .fieldAddr 2 (.tmp 12), none⟩, none),
  (⟨some 75, .load false [.slice] (.tmp 74), none⟩, none),
  (⟨some 76, .fieldAddr 2 (.tmp 5), none⟩, none),
  (⟨some 77, .load false [.slice] (.tmp 76), none⟩, none),
  (⟨some 78, .mv (.tmp 14), none⟩, none),
  (⟨some 79, .mv (.tmp 14), none⟩, none),
  (⟨some 80, .mv (.tmp 3), none⟩, none),
  (⟨some 81, .bin .add (.tmp 79) (.tmp 80), none⟩, none),
  (⟨some 82, .slice 3 (.tmp 77) (some (.tmp 78)) (some (.tmp 81)), none⟩, none),
  (⟨some 83, .append 3 24 (.tmp 75) (.tmp 82), none⟩, none),
  (⟨some 84, .fieldAddr 2 (.tmp 12), none⟩, none),
  (⟨none, .store 1 (.tmp 84) (.tmp 83), none⟩, none)]
def o29_30 : List AOper := [⟨some 85, .bin .add (.tmp 63) (.const (.int .i64 1)), none⟩,
  ⟨some 63, .mv (.tmp 85), none⟩]
def c29_30 : ACode := .ops o29_30
def b29_16 : ACode := .post (.seq (.ops o29_18) (.seq (.cond (.tmp 64) (.skip) (.exit 0)) (.seq (.block 1 (.seq (.ops o29_26) (.seq (.ops o29_28) (.draw [] 0 o29_29 [])))) (.clear [0, 4, 6, 7, 8, 9, 11, 13, 14, 15, 16, 17, 18, 19, 20, 21, 22, 23, 24, 25, 26, 27, 28, 29, 30, 31, 32, 33, 34, 35, 36, 37, 38, 39, 40, 41, 42, 43, 44, 45, 46, 47, 48, 49, 50, 51, 52, 53, 54, 55, 56, 57, 58, 59, 60, 61, 64, 65, 66, 67, 68, 69, 70, 71, 72, 73, 74, 75, 76, 77, 78, 79, 80, 81, 82, 83, 84, 85, 86] c29_30)))) [0, 4, 6, 7, 8, 9, 11, 13, 14, 15, 16, 17, 18, 19, 20, 21, 22, 23, 24, 25, 26, 27, 28, 29, 30, 31, 32, 33, 34, 35, 36, 37, 38, 39, 40, 41, 42, 43, 44, 45, 46, 47, 48, 49, 50, 51, 52, 53, 54, 55, 56, 57, 58, 59, 60, 61, 64, 65, 66, 67, 68, 69, 70, 71, 72, 73, 74, 75, 76, 77, 78, 79, 80, 81, 82, 83, 84, 85, 86]
def o29_32 : List AOper := [⟨some 86, .load true [.int .i64, .int .i64, .slice] (.tmp 12), none⟩,
  ⟨none, .store 3 (.tmp 10) (.tmp 86), none⟩,
  ⟨some 11, .mv (.const (.bool true)), none⟩]
def c29_31 : ACode := .seq (.ops o29_32) (.ret)
def c29_0 : ACode := .seq (.ops o29_1) (.seq (.seq (.ops o29_4) (.cond (.tmp 57) (.seq (.ops o29_7) (.ret)) (.skip))) (.seq (.ops o29_11) (.seq (.seq (.ops o29_14) (.block 0 (.clear [0, 4, 6, 7, 8, 9, 11, 13, 14, 15, 16, 17, 18, 19, 20, 21, 22, 23, 24, 25, 26, 27, 28, 29, 30, 31, 32, 33, 34, 35, 36, 37, 38, 39, 40, 41, 42, 43, 44, 45, 46, 47, 48, 49, 50, 51, 52, 53, 54, 55, 56, 57, 58, 59, 60, 61, 64, 65, 66, 67, 68, 69, 70, 71, 72, 73, 74, 75, 76, 77, 78, 79, 80, 81, 82, 83, 84, 85, 86] (.loop b29_16)))) (.clear [0, 1, 2, 3, 4, 5, 6, 7, 8, 9, 11, 13, 14, 15, 16, 17, 18, 19, 20, 21, 22, 23, 24, 25, 26, 27, 28, 29, 30, 31, 32, 33, 34, 35, 36, 37, 38, 39, 40, 41, 42, 43, 44, 45, 46, 47, 48, 49, 50, 51, 52, 53, 54, 55, 56, 57, 58, 59, 60, 61, 62, 63, 64, 65, 66, 67, 68, 69, 70, 71, 72, 73, 74, 75, 76, 77, 78, 79, 80, 81, 82, 83, 84, 85, 86] c29_31))))
def a29 : AFun := ⟨87, [.cell true [.int .i64, .int .i64, .slice] 10, .tmp 11], c29_0⟩
theorem ok29 : OkFun Try.prog 29 a29 := ⟨Try.f29, Try.f29.body.getD .skip, Try.func29, by kernel_rfl, by kernel_rfl, by kernel_rfl, by kernel_rfl, by kernel_rfl⟩
/-! #### mip.Double -/
def o30_1 : List AOper := [⟨some 3, .box (.tmp 0), none⟩,
  ⟨some 6, .alloc [.int .i64 0, .int .i64 0, .slice none 0 0], none⟩,
  ⟨some 7, .mv (.const (.bool false)), none⟩]
def o30_4 : List (AOper × Option Nat) := [(⟨some 11, .mv (.tmp 1), none⟩, none),
  (⟨some 12, .mv (.tmp 2), none⟩, none),
  (⟨some 13, .minmax false [.tmp 11, .tmp 12], none⟩, none),
  (⟨some 14, .bin .lss (.tmp 13) (.const (.int .i64 1)), none⟩, none),
  (⟨some 15, .mv (.tmp 14), none⟩, none),
  (⟨some 16, .mv (.tmp 1), some (15, false)⟩, none),
  (⟨some 17, .mv (.tmp 2), some (15, false)⟩, none),
  (⟨some 18, .minmax true [.tmp 16, .tmp 17], some (15, false)⟩, none),
  (⟨some 19, .bin .gtr (.tmp 18) (.const (.int .i64 256)), some (15, false)⟩, none),
  (⟨some 20, .pick (.tmp 15) (.const (.bool true)) (.tmp 19), none⟩, none),
  (⟨some 21, .mv (.tmp 20), none⟩, none),
  (⟨some 22, .mv (.tmp 1), some (21, false)⟩, none),
  (⟨some 23, .call true (.func 62) [.tmp 22] [(false, [.int .i64])] true, some (21, false)⟩, none),
  (⟨some 24, .fieldAddr 0 (.tmp 3), some (21, false)⟩, none),
  (⟨some 25, .load false [.int .i64] (.tmp 24), some (21, false)⟩, none),
  (⟨some 26, .bin .neq (.tmp 23) (.tmp 25), some (21, false)⟩, none),
  (⟨some 27, .pick (.tmp 21) (.const (.bool true)) (.tmp 26), none⟩, none),
  (⟨some 28, .mv (.tmp 27), none⟩, none),
  (⟨some 29, .mv (.tmp 2), some (28, false)⟩, none),
  (⟨some 30, .call true (.func 62) [.tmp 29] [(false, [.int .i64])] true, some (28, false)⟩, none),
  (⟨some 31, .fieldAddr 1 (.tmp 3), some (28, false)⟩, none),
  (⟨some 32, .load false [.int .i64] (.tmp 31), some (28, false)⟩, none),
  (⟨some 33, .bin .neq (.tmp 30) (.tmp 32), some (28, false)⟩, none),
  (⟨some 34, .pick (.tmp 28) (.const (.bool true)) (.tmp 33), none⟩, none),
  (⟨some 35, .mv (.tmp 34), none⟩, none),
  (⟨some 36, .load true [.int .i64, .int .i64, .slice] (.tmp 3), some (35, false)⟩, none),
  (⟨some 37, .call false (.func 60) [.tmp 36] [(false, [.bool])] true, some (35, false)⟩, none),
  (⟨some 38, .un .not (.tmp 37), some (35, false)⟩, none),
  (⟨some 39, .pick (.tmp 35) (.const (.bool true)) (.tmp 38), none⟩, none)]
def o30_7 : List AOper := [⟨some 40, .build [.int .i64 0, .int .i64 0, .slice none 0 0] [], none⟩,
  ⟨none, .store 3 (.tmp 6) (.tmp 40), none⟩,
  ⟨some 7, .mv (.const (.bool false)), none⟩]
def o30_11 : List AOper := [⟨some 41, .mv (.tmp 1), none⟩,
  ⟨some 42, .mv (.tmp 2), none⟩,
  ⟨some 43, .mv (.tmp 1), none⟩,
  ⟨some 44, .mv (.tmp 2), none⟩,
  ⟨some 45, .bin .mul (.tmp 43) (.tmp 44), none⟩,
  ⟨some 46, .makeSlice 3 24 [.int .i64 0, .int .i64 0, .int .i64 0] (.const (.int .i64 0)) (.tmp 45), none⟩,
  ⟨some 47, .build [.int .i64 0, .int .i64 0, .slice none 0 0] [(0, 1, .tmp 41), (1, 1, .tmp 42), (2, 1, .tmp 46)], none⟩,
  ⟨some 8, .alloc [.int .i64 0, .int .i64 0, .slice none 0 0], none⟩,
  ⟨none, .store 3 (.tmp 8) (.tmp 47), none⟩]
def o30_14 : List AOper := [⟨some 48, .mv (.tmp 2), none⟩,
  ⟨some 49, .mv (.const (.int .i64 0)), none⟩]
def o30_18 : List AOper := [⟨some 50, .bin .lss (.tmp 49) (.tmp 48), none⟩]
def o30_26 : List AOper := [⟨some 51, .mv (.tmp 49), none⟩,
  ⟨some 9, .mv (.tmp 51), none⟩]
def o30_28 : List AOper := [⟨some 52, .mv (.tmp 1), none⟩,
  ⟨some 53, .mv (.const (.int .i64 0)), none⟩]
def o30_32 : List AOper := [⟨some 54, .bin .lss (.tmp 53) (.tmp 52), none⟩]
def o30_40 : List AOper := [⟨some 55, .mv (.tmp 53), none⟩,
  ⟨some 10, .mv (.tmp 55), none⟩]
def o30_41 : List (AOper × Option Nat) := [(⟨some 56, .fieldAddr 2 (.tmp 8), none⟩, none),
  (⟨some 57, .load false [.slice] (.tmp 56), none⟩, none),
  (⟨some 58, .fieldAddr 2 (.tmp 3), none⟩, none),
  (⟨some 59, .load false [.slice] (.tmp 58), none⟩, none),
  (⟨some 60, .mv (.tmp 9), none⟩, none),
  (⟨some 61, .bin .quo (.tmp 60) (.const (.int .i64 2)), none⟩, none),
  (⟨some 62, .fieldAddr 0 (.tmp 3), none⟩, none),
  (⟨some 63, .load false [.int .i64] (.tmp 62), none⟩, none),
  (⟨some 64, .bin .mul (.tmp 61) (.tmp 63), none⟩, none),
  (⟨some 65, .mv (.tmp 10), none⟩, none),
  (⟨some 66, .bin .quo (.tmp 65) (.const (.int .i64 2)), none⟩, none),
  (⟨some 67, .bin .add (.tmp 64) (.tmp 66), none⟩, none),
  (⟨some 68, .indexAddr 3 (.tmp 59) (.tmp 67), none⟩, none),
  (⟨some 69, .load true [.int .i64, .int .i64, .int .i64] (.tmp 68), none⟩, none),
  (⟨some 70, .buildSlice 3 1 [.int .i64 0, .int .i64 0, .int .i64 0] [(0, 3, .tmp 69)], none⟩, none),
  (⟨some 71, .append 3 24 (.tmp 57) (.tmp 70), none⟩, none),
  (⟨some 72, .fieldAddr 2 (.tmp 8), none⟩, none),
  (⟨none, .store 1 (.tmp 72) (.tmp 71), none⟩, none)]
def o30_42 : List AOper := [⟨some 73, .bin .add (.tmp 53) (.const (.int .i64 1)), none⟩,
  ⟨some 53, .mv (.tmp 73), none⟩]
def c30_42 : ACode := .ops o30_42
def b30_30 : ACode := .post (.seq (.ops o30_32) (.seq (.cond (.tmp 54) (.skip) (.exit 2)) (.seq (.block 3 (.seq (.ops o30_40) (.draw [] 0 o30_41 [(1, 14)]))) (.clear [0, 2, 4, 5, 7, 10, 11, 12, 13, 14, 15, 16, 17, 18, 19, 20, 21, 22, 23, 24, 25, 26, 27, 28, 29, 30, 31, 32, 33, 34, 35, 36, 37, 38, 39, 40, 41, 42, 43, 44, 45, 46, 47, 50, 51, 54, 55, 56, 57, 58, 59, 60, 61, 62, 63, 64, 65, 66, 67, 68, 69, 70, 71, 72, 73, 74, 75] c30_42)))) [0, 2, 4, 5, 7, 10, 11, 12, 13, 14, 15, 16, 17, 18, 19, 20, 21, 22, 23, 24, 25, 26, 27, 28, 29, 30, 31, 32, 33, 34, 35, 36, 37, 38, 39, 40, 41, 42, 43, 44, 45, 46, 47, 50, 51, 54, 55, 56, 57, 58, 59, 60, 61, 62, 63, 64, 65, 66, 67, 68, 69, 70, 71, 72, 73, 74, 75]
def o30_43 : List AOper := [⟨some 74, .bin .add (.tmp 49) (.const (.int .i64 1)), none⟩,
  ⟨some 49, .mv (.tmp 74), none⟩]
def c30_43 : ACode := .ops o30_43
def b30_16 : ACode := .post (.seq (.ops o30_18) (.seq (.cond (.tmp 50) (.skip) (.exit 0)) (.seq (.block 1 (.seq (.ops o30_26) (.seq (.ops o30_28) (.block 2 (.clear [0, 2, 4, 5, 7, 10, 11, 12, 13, 14, 15, 16, 17, 18, 19, 20, 21, 22, 23, 24, 25, 26, 27, 28, 29, 30, 31, 32, 33, 34, 35, 36, 37, 38, 39, 40, 41, 42, 43, 44, 45, 46, 47, 50, 51, 54, 55, 56, 57, 58, 59, 60, 61, 62, 63, 64, 65, 66, 67, 68, 69, 70, 71, 72, 73, 74, 75] (.loop b30_30)))))) (.clear [0, 2, 4, 5, 7, 9, 10, 11, 12, 13, 14, 15, 16, 17, 18, 19, 20, 21, 22, 23, 24, 25, 26, 27, 28, 29, 30, 31, 32, 33, 34, 35, 36, 37, 38, 39, 40, 41, 42, 43, 44, 45, 46, 47, 50, 51, 52, 53, 54, 55, 56, 57, 58, 59, 60, 61, 62, 63, 64, 65, 66, 67, 68, 69, 70, 71, 72, 73, 74, 75] c30_43)))) [0, 2, 4, 5, 7, 9, 10, 11, 12, 13, 14, 15, 16, 17, 18, 19, 20, 21, 22, 23, 24, 25, 26, 27, 28, 29, 30, 31, 32, 33, 34, 35, 36, 37, 38, 39, 40, 41, 42, 43, 44, 45, 46, 47, 50, 51, 52, 53, 54, 55, 56, 57, 58, 59, 60, 61, 62, 63, 64, 65, 66, 67, 68, 69, 70, 71, 72, 73, 74, 75]
def o30_45 : List AOper := [⟨some 75, .load true [.int .i64, .int .i64, .slice] (.tmp 8), none⟩,
  ⟨none, .store 3 (.tmp 6) (.tmp 75), none⟩,
  ⟨some 7, .mv (.const (.bool true)), none⟩]
def c30_44 : ACode := .seq (.ops o30_45) (.ret)
def c30_0 : ACode := .seq (.ops o30_1) (.seq (.seq (.draw [] 0 o30_4 []) (.cond (.tmp 39) (.seq (.ops o30_7) (.ret)) (.skip))) (.seq (.ops o30_11) (.seq (.seq (.ops o30_14) (.block 0 (.clear [0, 2, 4, 5, 7, 9, 10, 11, 12, 13, 14, 15, 16, 17, 18, 19, 20, 21, 22, 23, 24, 25, 26, 27, 28, 29, 30, 31, 32, 33, 34, 35, 36, 37, 38, 39, 40, 41, 42, 43, 44, 45, 46, 47, 50, 51, 52, 53, 54, 55, 56, 57, 58, 59, 60, 61, 62, 63, 64, 65, 66, 67, 68, 69, 70, 71, 72, 73, 74, 75] (.loop b30_16)))) (.clear [0, 1, 2, 3, 4, 5, 7, 9, 10, 11, 12, 13, 14, 15, 16, 17, 18, 19, 20, 21, 22, 23, 24, 25, 26, 27, 28, 29, 30, 31, 32, 33, 34, 35, 36, 37, 38, 39, 40, 41, 42, 43, 44, 45, 46, 47, 48, 49, 50, 51, 52, 53, 54, 55, 56, 57, 58, 59, 60, 61, 62, 63, 64, 65, 66, 67, 68, 69, 70, 71, 72, 73, 74, 75] c30_44))))
def a30 : AFun := ⟨76, [.cell true [.int .i64, .int .i64, .slice] 6, .tmp 7], c30_0⟩
theorem ok30 : OkFun Try.prog 30 a30 := ⟨Try.f30, Try.f30.body.getD .skip, Try.func30, by kernel_rfl, by kernel_rfl, by kernel_rfl, by kernel_rfl, by kernel_rfl⟩
/-! #### skylightref41.Same -/
def o31_1 : List AOper := [⟨some 2, .box (.tmp 0), none⟩,
  ⟨some 3, .box (.tmp 1), none⟩,
  ⟨some 4, .mv (.const (.bool false)), none⟩]
def o31_4 : List AOper := [⟨some 6, .fieldAddr 0 (.tmp 2), none⟩,
  ⟨some 7, .load false [.int .i64] (.tmp 6), none⟩,
  ⟨some 8, .fieldAddr 0 (.tmp 3), none⟩,
  ⟨some 9, .load false [.int .i64] (.tmp 8), none⟩,
  ⟨some 10, .bin .neq (.tmp 7) (.tmp 9), none⟩,
  ⟨some 11, .mv (.tmp 10), none⟩,
  ⟨some 12, .fieldAddr 1 (.tmp 2), some (11, false)⟩,
  ⟨some 13, .load false [.int .i64] (.tmp 12), some (11, false)⟩,
  ⟨some 14, .fieldAddr 1 (.tmp 3), some (11, false)⟩,
  ⟨some 15, .load false [.int .i64] (.tmp 14), some (11, false)⟩,
  ⟨some 16, .bin .neq (.tmp 13) (.tmp 15), some (11, false)⟩,
  ⟨some 17, .pick (.tmp 11) (.const (.bool true)) (.tmp 16), none⟩,
  ⟨some 18, .mv (.tmp 17), none⟩,
  ⟨some 19, .fieldAddr 2 (.tmp 2), some (18, false)⟩,
  ⟨some 20, .load false [.slice] (.tmp 19), some (18, false)⟩,
  ⟨some 21, .len (.tmp 20), some (18, false)⟩,
  ⟨some 22, .fieldAddr 2 (.tmp 3), some (18, false)⟩,
  ⟨some 23, .load false [.slice] (.tmp 22), some (18, false)⟩,
  ⟨some 24, .len (.tmp 23), some (18, false)⟩,
  ⟨some 25, .bin .neq (.tmp 21) (.tmp 24), some (18, false)⟩,
  ⟨some 26, .pick (.tmp 18) (.const (.bool true)) (.tmp 25), none⟩]
def o31_7 : List AOper := [⟨some 4, .mv (.const (.bool false)), none⟩]
def o31_12 : List AOper := [⟨some 5, .mv (.const (.int .i64 0)), none⟩]
def o31_17 : List AOper := [⟨some 27, .mv (.tmp 5), none⟩,
  ⟨some 28, .fieldAddr 2 (.tmp 2), none⟩,
  ⟨some 29, .load false [.slice] (.tmp 28), none⟩,
  ⟨some 30, .len (.tmp 29), none⟩,
  ⟨some 31, .bin .lss (.tmp 27) (.tmp 30), none⟩]
def o31_24 : List (AOper × Option Nat) := [(⟨some 34, .fieldAddr 2 (.tmp 2), none⟩, none),
  (⟨some 35, .load false [.slice] (.tmp 34), none⟩, none),
  (⟨some 36, .mv (.tmp 5), none⟩, none),
  (⟨some 37, .indexAddr 3 (.tmp 35) (.tmp 36), none⟩, none),
  (⟨some 38, .load true [.int .i64, .int .i64, .int .i64] (.tmp 37), none⟩, none),
  (⟨some 39, .fieldAddr 2 (.tmp 3), none⟩, none),
  (⟨some 40, .load false [.slice] (.tmp 39), none⟩, none),
  (⟨some 41, .mv (.tmp 5), none⟩, none),
  (⟨some 42, .indexAddr 3 (.tmp 40) (.tmp 41), none⟩, none),
  (⟨some 43, .load true [.int .i64, .int .i64, .int .i64] (.tmp 42), none⟩, none),
  (⟨some 44, .eqAgg [.int .i64, .int .i64, .int .i64] true (.tmp 38) (.tmp 43), none⟩, none)]
def o31_27 : List AOper := [⟨some 4, .mv (.const (.bool false)), none⟩]
def o31_30 : List AOper := [⟨some 32, .mv (.tmp 5), none⟩,
  ⟨some 33, .bin .add (.tmp 32) (.const (.int .i64 1)), none⟩,
  ⟨some 5, .mv (.tmp 33), none⟩]
def c31_30 : ACode := .ops o31_30
def b31_14 : ACode := .post (.seq (.seq (.ops o31_17) (.cond (.tmp 31) (.skip) (.exit 0))) (.seq (.block 1 (.seq (.draw [] 0 o31_24 []) (.cond (.tmp 44) (.seq (.ops o31_27) (.ret)) (.skip)))) (.clear [0, 1, 4, 6, 7, 8, 9, 10, 11, 12, 13, 14, 15, 16, 17, 18, 19, 20, 21, 22, 23, 24, 25, 26, 27, 28, 29, 30, 31, 32, 33, 34, 35, 36, 37, 38, 39, 40, 41, 42, 43, 44] c31_30))) [0, 1, 4, 6, 7, 8, 9, 10, 11, 12, 13, 14, 15, 16, 17, 18, 19, 20, 21, 22, 23, 24, 25, 26, 27, 28, 29, 30, 31, 32, 33, 34, 35, 36, 37, 38, 39, 40, 41, 42, 43, 44]
def o31_32 : List AOper := [⟨some 4, .mv (.const (.bool true)), none⟩]
def c31_31 : ACode := .seq (.ops o31_32) (.ret)
def c31_0 : ACode := .seq (.ops o31_1) (.seq (.seq (.ops o31_4) (.cond (.tmp 26) (.seq (.ops o31_7) (.ret)) (.skip))) (.seq (.seq (.ops o31_12) (.block 0 (.clear [0, 1, 4, 6, 7, 8, 9, 10, 11, 12, 13, 14, 15, 16, 17, 18, 19, 20, 21, 22, 23, 24, 25, 26, 27, 28, 29, 30, 31, 32, 33, 34, 35, 36, 37, 38, 39, 40, 41, 42, 43, 44] (.loop b31_14)))) (.clear [0, 1, 2, 3, 4, 5, 6, 7, 8, 9, 10, 11, 12, 13, 14, 15, 16, 17, 18, 19, 20, 21, 22, 23, 24, 25, 26, 27, 28, 29, 30, 31, 32, 33, 34, 35, 36, 37, 38, 39, 40, 41, 42, 43, 44] c31_31)))
def a31 : AFun := ⟨45, [.tmp 4], c31_0⟩
theorem ok31 : OkFun Try.prog 31 a31 := ⟨Try.f31, Try.f31.body.getD .skip, Try.func31, by kernel_rfl, by kernel_rfl, by kernel_rfl, by kernel_rfl, by kernel_rfl⟩
/-! #### skylightlaw51.back -/
def o32_1 : List AOper := [⟨some 1, .box (.tmp 0), none⟩,
  ⟨some 2, .alloc [.int .i64 0, .int .i64 0, .slice none 0 0], none⟩]
def o32_3 : List AOper := [⟨some 3, .fieldAddr 0 (.tmp 1), none⟩,
  ⟨some 4, .load false [.int .i64] (.tmp 3), none⟩,
  ⟨some 5, .fieldAddr 1 (.tmp 1), none⟩,
  ⟨some 6, .load false [.int .i64] (.tmp 5), none⟩,
  ⟨some 7, .fieldAddr 2 (.tmp 1), none⟩,
  ⟨some 8, .load false [.slice] (.tmp 7), none⟩,
  ⟨some 9, .build [.int .i64 0, .int .i64 0, .slice none 0 0] [(0, 1, .tmp 4), (1, 1, .tmp 6), (2, 1, .tmp 8)], none⟩,
  ⟨none, .store 3 (.tmp 2) (.tmp 9), none⟩]
def c32_0 : ACode := .seq (.ops o32_1) (.seq (.ops o32_3) (.ret))
def a32 : AFun := ⟨10, [.cell true [.int .i64, .int .i64, .slice] 2], c32_0⟩
theorem ok32 : OkFun Try.prog 32 a32 := ⟨Try.f32, Try.f32.body.getD .skip, Try.func32, by kernel_rfl, by kernel_rfl, by kernel_rfl, by kernel_rfl, by kernel_rfl⟩
/-! #### mip.Pyramid -/
def o33_1 : List AOper := [⟨some 1, .box (.tmp 0), none⟩,
  ⟨some 2, .mv (.const (.slice none 0 0)), none⟩]
def o33_4 : List AOper := [⟨some 3, .load true [.int .i64, .int .i64, .slice] (.tmp 1), none⟩,
  ⟨some 4, .call false (.func 60) [.tmp 3] [(false, [.bool])] true, none⟩,
  ⟨some 5, .un .not (.tmp 4), none⟩]
def o33_7 : List AOper := [⟨some 2, .mv (.const (.slice none 0 0)), none⟩]
def o33_11 : List AOper := [⟨some 6, .load true [.int .i64, .int .i64, .slice] (.tmp 1), none⟩,
  ⟨some 7, .call false (.func 64) [.tmp 6] [(false, [.any])] true, none⟩,
  ⟨some 8, .call false (.func 63) [.tmp 7] [(false, [.slice])] true, none⟩,
  ⟨some 2, .mv (.tmp 8), none⟩]
def c33_0 : ACode := .seq (.ops o33_1) (.seq (.seq (.ops o33_4) (.cond (.tmp 5) (.seq (.ops o33_7) (.ret)) (.skip))) (.seq (.ops o33_11) (.ret)))
def a33 : AFun := ⟨9, [.tmp 2], c33_0⟩
theorem ok33 : OkFun Try.prog 33 a33 := ⟨Try.f33, Try.f33.body.getD .skip, Try.func33, by kernel_rfl, by kernel_rfl, by kernel_rfl, by kernel_rfl, by kernel_rfl⟩
/-! #### mip.Levels -/
def o34_1 : List AOper := [⟨some 4, .mv (.const (.int .i64 0)), none⟩]
def o34_4 : List AOper := [⟨some 5, .mv (.tmp 0), none⟩,
  ⟨some 6, .mv (.tmp 1), none⟩,
  ⟨some 7, .minmax false [.tmp 5, .tmp 6], none⟩,
  ⟨some 8, .bin .lss (.tmp 7) (.const (.int .i64 1)), none⟩,
  ⟨some 9, .mv (.tmp 8), none⟩,
  ⟨some 10, .mv (.tmp 0), some (9, false)⟩,
  ⟨some 11, .mv (.tmp 1), some (9, false)⟩,
  ⟨some 12, .minmax true [.tmp 10, .tmp 11], some (9, false)⟩,
  ⟨some 13, .bin .gtr (.tmp 12) (.const (.int .i64 256)), some (9, false)⟩,
  ⟨some 14, .pick (.tmp 9) (.const (.bool true)) (.tmp 13), none⟩]
def o34_7 : List AOper := [⟨some 4, .mv (.const (.int .i64 0)), none⟩]
def o34_11 : List AOper := [⟨some 15, .mv (.tmp 0), none⟩,
  ⟨some 16, .mv (.tmp 1), none⟩,
  ⟨some 17, .minmax true [.tmp 15, .tmp 16], none⟩,
  ⟨some 18, .bin .sub (.tmp 17) (.const (.int .i64 1)), none⟩,
  ⟨some 19, .conv .u64 (.tmp 18), none⟩,
  ⟨some 20, .call true (.func 65) [.tmp 19] [(false, [.int .i64])] true, none⟩,
  ⟨some 21, .bin .add (.const (.int .i64 1)) (.tmp 20), none⟩,
  ⟨some 4, .mv (.tmp 21), none⟩]
def c34_0 : ACode := .seq (.ops o34_1) (.seq (.seq (.ops o34_4) (.cond (.tmp 14) (.seq (.ops o34_7) (.ret)) (.skip))) (.seq (.ops o34_11) (.ret)))
def a34 : AFun := ⟨22, [.tmp 4], c34_0⟩
theorem ok34 : OkFun Try.prog 34 a34 := ⟨Try.f34, Try.f34.body.getD .skip, Try.func34, by kernel_rfl, by kernel_rfl, by kernel_rfl, by kernel_rfl, by kernel_rfl⟩
/-! #### skylightref51.Pyramid -/
def o35_1 : List AOper := [⟨some 1, .box (.tmp 0), none⟩,
  ⟨some 2, .mv (.const (.slice none 0 0)), none⟩]
def o35_4 : List AOper := [⟨some 4, .load true [.int .i64, .int .i64, .slice] (.tmp 1), none⟩,
  ⟨some 5, .call false (.func 25) [.tmp 4] [(false, [.bool])] true, none⟩,
  ⟨some 6, .un .not (.tmp 5), none⟩]
def o35_7 : List AOper := [⟨some 2, .mv (.const (.slice none 0 0)), none⟩]
def o35_11 : List AOper := [⟨some 7, .load true [.int .i64, .int .i64, .slice] (.tmp 1), none⟩,
  ⟨some 8, .buildSlice 3 1 [.int .i64 0, .int .i64 0, .slice none 0 0] [(0, 3, .tmp 7)], none⟩,
  ⟨some 3, .mv (.tmp 8), none⟩]
def o35_14 : List AOper := [⟨some 9, .fieldAddr 0 (.tmp 1), none⟩,
  ⟨some 10, .load false [.int .i64] (.tmp 9), none⟩,
  ⟨some 11, .fieldAddr 1 (.tmp 1), none⟩,
  ⟨some 12, .load false [.int .i64] (.tmp 11), none⟩,
  ⟨some 13, .bin .mul (.tmp 10) (.tmp 12), none⟩,
  ⟨some 14, .bin .gtr (.tmp 13) (.const (.int .i64 1)), none⟩]
def o35_16 : List AOper := [⟨some 15, .mv (.tmp 3), none⟩,
  ⟨some 16, .load true [.int .i64, .int .i64, .slice] (.tmp 1), none⟩,
  ⟨some 17, .call false (.func 38) [.tmp 16] [(true, [.int .i64, .int .i64, .slice])] true, none⟩,
  ⟨some 18, .call false (.func 35) [.tmp 17] [(false, [.slice])] true, none⟩,
  ⟨some 19, .append 3 40 (.tmp 15) (.tmp 18), none⟩,
  ⟨some 3, .mv (.tmp 19), none⟩]
def o35_19 : List AOper := [⟨some 20, .mv (.tmp 3), none⟩,
  ⟨some 2, .mv (.tmp 20), none⟩]
def c35_18 : ACode := .seq (.ops o35_19) (.ret)
def c35_0 : ACode := .seq (.ops o35_1) (.seq (.seq (.ops o35_4) (.cond (.tmp 6) (.seq (.ops o35_7) (.ret)) (.skip))) (.seq (.ops o35_11) (.seq (.seq (.ops o35_14) (.cond (.tmp 14) (.ops o35_16) (.skip))) (.clear [0, 1, 2, 4, 5, 6, 7, 8, 9, 10, 11, 12, 13, 14, 15, 16, 17, 18, 19, 20] c35_18))))
def a35 : AFun := ⟨21, [.tmp 2], c35_0⟩
theorem ok35 : OkFun Try.prog 35 a35 := ⟨Try.f35, Try.f35.body.getD .skip, Try.func35, by kernel_rfl, by kernel_rfl, by kernel_rfl, by kernel_rfl, by kernel_rfl⟩
/-! #### skylightref51.Double -/
def o36_1 : List AOper := [⟨some 3, .box (.tmp 0), none⟩,
  ⟨some 6, .alloc [.int .i64 0, .int .i64 0, .slice none 0 0], none⟩,
  ⟨some 7, .mv (.const (.bool false)), none⟩]
def o36_4 : List (AOper × Option Nat) := [(⟨some 10, .load true [.int .i64, .int .i64, .slice] (.tmp 3), none⟩, none),
  (⟨some 11, .call false (.func 25) [.tmp 10] [(false, [.bool])] true, none⟩, none),
  (⟨some 12, .un .not (.tmp 11), none⟩, none),
  (⟨some 13, .mv (.tmp 12), none⟩, none),
  (⟨some 14, .mv (.tmp 1), some (13, false)⟩, none),
  (⟨some 15, .bin .lss (.tmp 14) (.const (.int .i64 1)), some (13, false)⟩, none),
  (⟨some 16, .pick (.tmp 13) (.const (.bool true)) (.tmp 15), none⟩, none),
  (⟨some 17, .mv (.tmp 16), none⟩, none),
  (⟨some 18, .mv (.tmp 2), some (17, false)⟩, none),
  (⟨some 19, .bin .lss (.tmp 18) (.const (.int .i64 1)), some (17, false)⟩, none),
  (⟨some 20, .pick (.tmp 17) (.const (.bool true)) (.tmp 19), none⟩, none),
  (⟨some 21, .mv (.tmp 20), none⟩, none),
  (⟨some 22, .mv (.tmp 1), some (21, false)⟩, none),
  (⟨some 23, .bin .gtr (.tmp 22) (.const (.int .i64 256)), some (21, false)⟩, none),
  (⟨some 24, .pick (.tmp 21) (.const (.bool true)) (.tmp 23), none⟩, none),
  (⟨some 25, .mv (.tmp 24), none⟩, none),
  (⟨some 26, .mv (.tmp 2), some (25, false)⟩, none),
  (⟨some 27, .bin .gtr (.tmp 26) (.const (.int .i64 256)), some (25, false)⟩, none),
  (⟨some 28, .pick (.tmp 25) (.const (.bool true)) (.tmp 27), none⟩, none),
  (⟨some 29, .mv (.tmp 28), none⟩, none),
  (⟨some 30, .mv (.tmp 1), some (29, false)⟩, none),
  (⟨some 31, .call true (.func 66) [.tmp 30] [(false, [.int .i64])] true, some (29, false)⟩, none),
  (⟨some 32, .fieldAddr 0 (.tmp 3), some (29, false)⟩, none),
  (⟨some 33, .load false [.int .i64] (.tmp 32), some (29, false)⟩, none),
  (⟨some 34, .bin .neq (.tmp 31) (.tmp 33), some (29, false)⟩, none),
  (⟨some 35, .pick (.tmp 29) (.const (.bool true)) (.tmp 34), none⟩, none),
  (⟨some 36, .mv (.tmp 35), none⟩, none),
  (⟨some 37, .mv (.tmp 2), some (36, false)⟩, none),
  (⟨some 38, .call true (.func 66) [.tmp 37] [(false, [.int .i64])] true, some (36, false)⟩, none),
  (⟨some 39, .fieldAddr 1 (.tmp 3), some (36, false)⟩, none),
  (⟨some 40, .load false [.int .i64] (.tmp 39), some (36, false)⟩, none),
  (⟨some 41, .bin .neq (.tmp 38) (.tmp 40), some (36, false)⟩, none),
  (⟨some 42, .pick (.tmp 36) (.const (.bool true)) (.tmp 41), none⟩, none)]
def o36_7 : List AOper := [⟨some 43, .build [.int .i64 0, .int .i64 0, .slice none 0 0] [], none⟩,
  ⟨none, .store 3 (.tmp 6) (.tmp 43), none⟩,
  ⟨some 7, .mv (.const (.bool false)), none⟩]
def o36_11 : List AOper := [⟨some 44, .mv (.tmp 1), none⟩,
  ⟨some 45, .mv (.tmp 2), none⟩,
  ⟨some 46, .build [.int .i64 0, .int .i64 0, .slice none 0 0] [(0, 1, .tmp 44), (1, 1, .tmp 45)], none⟩,
  ⟨some 8, .alloc [.int .i64 0, .int .i64 0, .slice none 0 0], none⟩,
  ⟨none, .store 3 (.tmp 8) (.tmp 46), none⟩]
def o36_14 : List AOper := [⟨some 9, .mv (.const (.int .i64 0)), none⟩]
def o36_19 : List AOper := [⟨some 47, .mv (.tmp 9), none⟩,
  ⟨some 48, .mv (.tmp 1), none⟩,
  ⟨some 49, .mv (.tmp 2), none⟩,
  ⟨some 50, .bin .mul (.tmp 48) (.tmp 49), none⟩,
  ⟨some 51, .bin .lss (.tmp 47) (.tmp 50), none⟩]
def o36_25 : List (AOper × Option Nat) := [(⟨some 54, .fieldAddr 2 (.tmp 8), none⟩, none),
  (⟨some 55, .load false [.slice] (.tmp 54), none⟩, none),
  (⟨some 56, .load true [.int .i64, .int .i64, .slice] (.tmp 3), none⟩, none),
  (⟨some 57, .mv (.tmp 9), none⟩, none),
  (⟨some 58, .mv (.tmp 1), none⟩, none),
  (⟨some 59, .bin .rem (.tmp 57) (.tmp 58), none⟩, none),
  (⟨some 60, .bin .quo (.tmp 59) (.const (.int .i64 2)), none⟩, none),
  (⟨some 61, .mv (.tmp 9), none⟩, none),
  (⟨some 62, .mv (.tmp 1), none⟩, none),
  (⟨some 63, .bin .quo (.tmp 61) (.tmp 62), none⟩, none),
  (⟨some 64, .bin .quo (.tmp 63) (.const (.int .i64 2)), none⟩, none),
  (⟨some 65, .call false (.func 67) [.tmp 56, .tmp 60, .tmp 64] [(true, [.int .i64, .int .i64, .int .i64])] true, none⟩, none),
  (⟨some 66, .buildSlice 3 1 [.int .i64 0, .int .i64 0, .int .i64 0] [(0, 3, .tmp 65)], none⟩, none),
  (⟨some 67, .append 3 24 (.tmp 55) (.tmp 66), none⟩, none),
  (⟨some 68, .fieldAddr 2 (.tmp 8), none⟩, none),
  (⟨none, .store 1 (.tmp 68) (.tmp 67), none⟩, none)]
def o36_26 : List AOper := [⟨some 52, .mv (.tmp 9), none⟩,
  ⟨some 53, .bin .add (.tmp 52) (.const (.int .i64 1)), none⟩,
  ⟨some 9, .mv (.tmp 53), none⟩]
def c36_26 : ACode := .ops o36_26
def b36_16 : ACode := .post (.seq (.seq (.ops o36_19) (.cond (.tmp 51) (.skip) (.exit 0))) (.seq (.block 1 (.draw [] 0 o36_25 [(1, 11), (1, 12)])) (.clear [0, 4, 5, 7, 10, 11, 12, 13, 14, 15, 16, 17, 18, 19, 20, 21, 22, 23, 24, 25, 26, 27, 28, 29, 30, 31, 32, 33, 34, 35, 36, 37, 38, 39, 40, 41, 42, 43, 44, 45, 46, 47, 48, 49, 50, 51, 52, 53, 54, 55, 56, 57, 58, 59, 60, 61, 62, 63, 64, 65, 66, 67, 68, 69] c36_26))) [0, 4, 5, 7, 10, 11, 12, 13, 14, 15, 16, 17, 18, 19, 20, 21, 22, 23, 24, 25, 26, 27, 28, 29, 30, 31, 32, 33, 34, 35, 36, 37, 38, 39, 40, 41, 42, 43, 44, 45, 46, 47, 48, 49, 50, 51, 52, 53, 54, 55, 56, 57, 58, 59, 60, 61, 62, 63, 64, 65, 66, 67, 68, 69]
def o36_28 : List AOper := [⟨some 69, .load true [.int .i64, .int .i64, .slice] (.tmp 8), none⟩,
  ⟨none, .store 3 (.tmp 6) (.tmp 69), none⟩,
  ⟨some 7, .mv (.const (.bool true)), none⟩]
def c36_27 : ACode := .seq (.ops o36_28) (.ret)
def c36_0 : ACode := .seq (.ops o36_1) (.seq (.seq (.draw [] 0 o36_4 []) (.cond (.tmp 42) (.seq (.ops o36_7) (.ret)) (.skip))) (.seq (.ops o36_11) (.seq (.seq (.ops o36_14) (.block 0 (.clear [0, 4, 5, 7, 10, 11, 12, 13, 14, 15, 16, 17, 18, 19, 20, 21, 22, 23, 24, 25, 26, 27, 28, 29, 30, 31, 32, 33, 34, 35, 36, 37, 38, 39, 40, 41, 42, 43, 44, 45, 46, 47, 48, 49, 50, 51, 52, 53, 54, 55, 56, 57, 58, 59, 60, 61, 62, 63, 64, 65, 66, 67, 68, 69] (.loop b36_16)))) (.clear [0, 1, 2, 3, 4, 5, 7, 9, 10, 11, 12, 13, 14, 15, 16, 17, 18, 19, 20, 21, 22, 23, 24, 25, 26, 27, 28, 29, 30, 31, 32, 33, 34, 35, 36, 37, 38, 39, 40, 41, 42, 43, 44, 45, 46, 47, 48, 49, 50, 51, 52, 53, 54, 55, 56, 57, 58, 59, 60, 61, 62, 63, 64, 65, 66, 67, 68, 69] c36_27))))
def a36 : AFun := ⟨70, [.cell true [.int .i64, .int .i64, .slice] 6, .tmp 7], c36_0⟩
theorem ok36 : OkFun Try.prog 36 a36 := ⟨Try.f36, Try.f36.body.getD .skip, Try.func36, by kernel_rfl, by kernel_rfl, by kernel_rfl, by kernel_rfl, by kernel_rfl⟩
/-! #### skylightref51.Cut -/
def o37_1 : List AOper := [⟨some 5, .box (.tmp 0), none⟩,
  ⟨some 10, .alloc [.int .i64 0, .int .i64 0, .slice none 0 0], none⟩,
  ⟨some 11, .mv (.const (.bool false)), none⟩]
def o37_4 : List AOper := [⟨some 14, .load true [.int .i64, .int .i64, .slice] (.tmp 5), none⟩,
  ⟨some 15, .call false (.func 25) [.tmp 14] [(false, [.bool])] true, none⟩,
  ⟨some 16, .un .not (.tmp 15), none⟩,
  ⟨some 17, .mv (.tmp 16), none⟩,
  ⟨some 18, .mv (.tmp 3), some (17, false)⟩,
  ⟨some 19, .mv (.tmp 4), some (17, false)⟩,
  ⟨some 20, .minmax false [.tmp 18, .tmp 19], some (17, false)⟩,
  ⟨some 21, .bin .lss (.tmp 20) (.const (.int .i64 1)), some (17, false)⟩,
  ⟨some 22, .pick (.tmp 17) (.const (.bool true)) (.tmp 21), none⟩,
  ⟨some 23, .mv (.tmp 22), none⟩,
  ⟨some 24, .mv (.tmp 1), some (23, false)⟩,
  ⟨some 25, .mv (.tmp 2), some (23, false)⟩,
  ⟨some 26, .minmax false [.tmp 24, .tmp 25], some (23, false)⟩,
  ⟨some 27, .bin .lss (.tmp 26) (.const (.int .i64 0)), some (23, false)⟩,
  ⟨some 28, .pick (.tmp 23) (.const (.bool true)) (.tmp 27), none⟩,
  ⟨some 29, .mv (.tmp 28), none⟩,
  ⟨some 30, .mv (.tmp 3), some (29, false)⟩,
  ⟨some 31, .fieldAddr 0 (.tmp 5), some (29, false)⟩,
  ⟨some 32, .load false [.int .i64] (.tmp 31), some (29, false)⟩,
  ⟨some 33, .bin .gtr (.tmp 30) (.tmp 32), some (29, false)⟩,
  ⟨some 34, .pick (.tmp 29) (.const (.bool true)) (.tmp 33), none⟩,
  ⟨some 35, .mv (.tmp 34), none⟩,
  ⟨some 36, .mv (.tmp 4), some (35, false)⟩,
  ⟨some 37, .fieldAddr 1 (.tmp 5), some (35, false)⟩,
  ⟨some 38, .load false [.int .i64] (.tmp 37), some (35, false)⟩,
  ⟨some 39, .bin .gtr (.tmp 36) (.tmp 38), some (35, false)⟩,
  ⟨some 40, .pick (.tmp 35) (.const (.bool true)) (.tmp 39), none⟩,
  ⟨some 41, .mv (.tmp 40), none⟩,
  ⟨some 42, .mv (.tmp 1), some (41, false)⟩,
  ⟨some 43, .fieldAddr 0 (.tmp 5), some (41, false)⟩,
  ⟨some 44, .load false [.int .i64] (.tmp 43), some (41, false)⟩,
  ⟨some 45, .mv (.tmp 3), some (41, false)⟩,
  ⟨some 46, .bin .sub (.tmp 44) (.tmp 45), some (41, false)⟩,
  ⟨some 47, .bin .gtr (.tmp 42) (.tmp 46), some (41, false)⟩,
  ⟨some 48, .pick (.tmp 41) (.const (.bool true)) (.tmp 47), none⟩,
  ⟨some 49, .mv (.tmp 48), none⟩,
  ⟨some 50, .mv (.tmp 2), some (49, false)⟩,
  ⟨some 51, .fieldAddr 1 (.tmp 5), some (49, false)⟩,
  ⟨some 52, .load false [.int .i64] (.tmp 51), some (49, false)⟩,
  ⟨some 53, .mv (.tmp 4), some (49, false)⟩,
  ⟨some 54, .bin .sub (.tmp 52) (.tmp 53), some (49, false)⟩,
  ⟨some 55, .bin .gtr (.tmp 50) (.tmp 54), some (49, false)⟩,
  ⟨some 56, .pick (.tmp 49) (.const (.bool true)) (.tmp 55), none⟩]
def o37_7 : List AOper := [⟨some 57, .build [.int .i64 0, .int .i64 0, .slice none 0 0] [], none⟩,
  ⟨none, .store 3 (.tmp 10) (.tmp 57), none⟩,
  ⟨some 11, .mv (.const (.bool false)), none⟩]
def o37_11 : List AOper := [⟨some 58, .mv (.tmp 3), none⟩,
  ⟨some 59, .mv (.tmp 4), none⟩,
  ⟨some 60, .build [.int .i64 0, .int .i64 0, .slice none 0 0] [(0, 1, .tmp 58), (1, 1, .tmp 59)], none⟩,
  ⟨some 12, .alloc [.int .i64 0, .int .i64 0, .slice none 0 0], none⟩,
  ⟨none, .store 3 (.tmp 12) (.tmp 60), none⟩]
def o37_14 : List AOper := [⟨some 13, .mv (.const (.int .i64 0)), none⟩]
def o37_19 : List AOper := [⟨some 61, .mv (.tmp 13), none⟩,
  ⟨some 62, .mv (.tmp 3), none⟩,
  ⟨some 63, .mv (.tmp 4), none⟩,
  ⟨some 64, .bin .mul (.tmp 62) (.tmp 63), none⟩,
  ⟨some 65, .bin .lss (.tmp 61) (.tmp 64), none⟩]
def o37_25 : List (AOper × Option Nat) := [(⟨some 68, .fieldAddr 2 (.tmp 12), none⟩, none),
  (⟨some 69, .load false [.slice] (.tmp 68), none⟩, none),
  (⟨some 70, .load true [.int .i64, .int .i64, .slice] (.tmp 5), none⟩, none),
  (⟨some 71, .mv (.tmp 1), none⟩, none),
  (⟨some 72, .mv (.tmp 13), none⟩, none),
  (⟨some 73, .mv (.tmp 3), none⟩, none),
  (⟨some 74, .bin .rem (.tmp 72) (.tmp 73), none⟩, none),
  (⟨some 75, .bin .add (.tmp 71) (.tmp 74), none⟩, none),
  (⟨some 76, .mv (.tmp 2), none⟩, none),
  (⟨some 77, .mv (.tmp 13), none⟩, none),
  (⟨some 78, .mv (.tmp 3), none⟩, none),
  (⟨some 79, .bin .quo (.tmp 77) (.tmp 78), none⟩, none),
  (⟨some 80, .bin .add (.tmp 76) (.tmp 79), none⟩, none),
  (⟨some 81, .call false (.func 67) [.tmp 70, .tmp 75, .tmp 80] [(true, [.int .i64, .int .i64, .int .i64])] true, none⟩, none),
  (⟨some 82, .buildSlice 3 1 [.int .i64 0, .int .i64 0, .int .i64 0] [(0, 3, .tmp 81)], none⟩, none),
  (⟨some 83, .append 3 24 (.tmp 69) (.tmp 82), none⟩, none),
  (⟨some 84, .fieldAddr 2 (.tmp 12), none⟩, none),
  (⟨none, .store 1 (.tmp 84) (.tmp 83), none⟩, none)]
def o37_26 : List AOper := [⟨some 66, .mv (.tmp 13), none⟩,
  ⟨some 67, .bin .add (.tmp 66) (.const (.int .i64 1)), none⟩,
  ⟨some 13, .mv (.tmp 67), none⟩]
def c37_26 : ACode := .ops o37_26
def b37_16 : ACode := .post (.seq (.seq (.ops o37_19) (.cond (.tmp 65) (.skip) (.exit 0))) (.seq (.block 1 (.draw [] 0 o37_25 [(1, 13), (1, 14)])) (.clear [0, 6, 7, 8, 9, 11, 14, 15, 16, 17, 18, 19, 20, 21, 22, 23, 24, 25, 26, 27, 28, 29, 30, 31, 32, 33, 34, 35, 36, 37, 38, 39, 40, 41, 42, 43, 44, 45, 46, 47, 48, 49, 50, 51, 52, 53, 54, 55, 56, 57, 58, 59, 60, 61, 62, 63, 64, 65, 66, 67, 68, 69, 70, 71, 72, 73, 74, 75, 76, 77, 78, 79, 80, 81, 82, 83, 84, 85] c37_26))) [0, 6, 7, 8, 9, 11, 14, 15, 16, 17, 18, 19, 20, 21, 22, 23, 24, 25, 26, 27, 28, 29, 30, 31, 32, 33, 34, 35, 36, 37, 38, 39, 40, 41, 42, 43, 44, 45, 46, 47, 48, 49, 50, 51, 52, 53, 54, 55, 56, 57, 58, 59, 60, 61, 62, 63, 64, 65, 66, 67, 68, 69, 70, 71, 72, 73, 74, 75, 76, 77, 78, 79, 80, 81, 82, 83, 84, 85]
def o37_28 : List AOper := [⟨some 85, .load true [.int .i64, .int .i64, .slice] (.tmp 12), none⟩,
  ⟨none, .store 3 (.tmp 10) (.tmp 85), none⟩,
  ⟨some 11, .mv (.const (.bool true)), none⟩]
def c37_27 : ACode := .seq (.ops o37_28) (.ret)
def c37_0 : ACode := .seq (.ops o37_1) (.seq (.seq (.ops o37_4) (.cond (.tmp 56) (.seq (.ops o37_7) (.ret)) (.skip))) (.seq (.ops o37_11) (.seq (.seq (.ops o37_14) (.block 0 (.clear [0, 6, 7, 8, 9, 11, 14, 15, 16, 17, 18, 19, 20, 21, 22, 23, 24, 25, 26, 27, 28, 29, 30, 31, 32, 33, 34, 35, 36, 37, 38, 39, 40, 41, 42, 43, 44, 45, 46, 47, 48, 49, 50, 51, 52, 53, 54, 55, 56, 57, 58, 59, 60, 61, 62, 63, 64, 65, 66, 67, 68, 69, 70, 71, 72, 73, 74, 75, 76, 77, 78, 79, 80, 81, 82, 83, 84, 85] (.loop b37_16)))) (.clear [0, 1, 2, 3, 4, 5, 6, 7, 8, 9, 11, 13, 14, 15, 16, 17, 18, 19, 20, 21, 22, 23, 24, 25, 26, 27, 28, 29, 30, 31, 32, 33, 34, 35, 36, 37, 38, 39, 40, 41, 42, 43, 44, 45, 46, 47, 48, 49, 50, 51, 52, 53, 54, 55, 56, 57, 58, 59, 60, 61, 62, 63, 64, 65, 66, 67, 68, 69, 70, 71, 72, 73, 74, 75, 76, 77, 78, 79, 80, 81, 82, 83, 84, 85] c37_27))))
def a37 : AFun := ⟨86, [.cell true [.int .i64, .int .i64, .slice] 10, .tmp 11], c37_0⟩
theorem ok37 : OkFun Try.prog 37 a37 := ⟨Try.f37, Try.f37.body.getD .skip, Try.func37, by kernel_rfl, by kernel_rfl, by kernel_rfl, by kernel_rfl, by kernel_rfl⟩
/-! #### skylightref51.Half -/
def o38_1 : List AOper := [⟨some 1, .box (.tmp 0), none⟩,
  ⟨some 2, .alloc [.int .i64 0, .int .i64 0, .slice none 0 0], none⟩]
def o38_4 : List AOper := [⟨some 12, .load true [.int .i64, .int .i64, .slice] (.tmp 1), none⟩,
  ⟨some 13, .call false (.func 25) [.tmp 12] [(false, [.bool])] true, none⟩,
  ⟨some 14, .un .not (.tmp 13), none⟩]
def o38_7 : List AOper := [⟨some 15, .build [.int .i64 0, .int .i64 0, .slice none 0 0] [], none⟩,
  ⟨none, .store 3 (.tmp 2) (.tmp 15), none⟩]
def o38_11 : List (AOper × Option Nat) := [(⟨some 16, .fieldAddr 0 (.tmp 1), none⟩, none),
  (⟨some 17, .load false [.int .i64] (.tmp 16), none⟩, none),
  (⟨some 18, .call true (.func 66) [.tmp 17] [(false, [.int .i64])] true, none⟩, none),
  (⟨some 19, .fieldAddr 1 (.tmp 1), none⟩, none),
  (⟨some 20, .load false [.int .i64] (.tmp 19), none⟩, none),
  (⟨some 21, .call true (.func 66) [.tmp 20] [(false, [.int .i64])] true, none⟩, none),
  (⟨some 22, .build [.int .i64 0, .int .i64 0, .slice none 0 0] [(0, 1, .tmp 18), (1, 1, .tmp 21)], none⟩, none),
  (⟨some 3, .alloc [.int .i64 0, .int .i64 0, .slice none 0 0], none⟩, none),
  (⟨none, .store 3 (.tmp 3) (.tmp 22), none⟩, none)]
def o38_14 : List AOper := [⟨some 4, .mv (.const (.int .i64 0)), none⟩]
def o38_19 : List AOper := [⟨some 23, .mv (.tmp 4), none⟩,
  ⟨some 24, .fieldAddr 1 (.tmp 3), none⟩,
  ⟨some 25, .load false [.int .i64] (.tmp 24), none⟩,
  ⟨some 26, .bin .lss (.tmp 23) (.tmp 25), none⟩]
def o38_26 : List AOper := [⟨some 5, .mv (.const (.int .i64 0)), none⟩]
def o38_31 : List AOper := [⟨some 29, .mv (.tmp 5), none⟩,
  ⟨some 30, .fieldAddr 0 (.tmp 3), none⟩,
  ⟨some 31, .load false [.int .i64] (.tmp 30), none⟩,
  ⟨some 32, .bin .lss (.tmp 29) (.tmp 31), none⟩]
def o38_38 : List (AOper × Option Nat) := [(⟨some 35, .load true [.int .i64, .int .i64, .slice] (.tmp 1), none⟩, none),
  (⟨some 36, .mv (.tmp 5), none⟩, none),
  (⟨some 37, .bin .mul (.const (.int .i64 2)) (.tmp 36), none⟩, none),
  (⟨some 38, .mv (.tmp 4), none⟩, none),
  (⟨some 39, .bin .mul (.const (.int .i64 2)) (.tmp 38), none⟩, none),
  (⟨some 40, .call false (.func 67) [.tmp 35, .tmp 37, .tmp 39] [(true, [.int .i64, .int .i64, .int .i64])] true, none⟩, none),
  (⟨some 41, .load true [.int .i64, .int .i64, .slice] (.tmp 1), none⟩, none),
  (⟨some 42, .mv (.tmp 5), none⟩, none),
  (⟨some 43, .bin .mul (.const (.int .i64 2)) (.tmp 42), none⟩, none),
  (⟨some 44, .bin .add (.tmp 43) (.const (.int .i64 1)), none⟩, none),
  (⟨some 45, .mv (.tmp 4), none⟩, none),
  (⟨some 46, .bin .mul (.const (.int .i64 2)) (.tmp 45), none⟩, none),
  (⟨some 47, .call false (.func 67) [.tmp 41, .tmp 44, .tmp 46] [(true, [.int .i64, .int .i64, .int .i64])] true, none⟩, none),
  (⟨some 48, .load true [.int .i64, .int .i64, .slice] (.tmp 1), none⟩, none),
  (⟨some 49, .mv (.tmp 5), none⟩, none),
  (⟨some 50, .bin .mul (.const (.int .i64 2)) (.tmp 49), none⟩, none),
  (⟨some 51, .mv (.tmp 4), none⟩, none),
  (⟨some 52, .bin .mul (.const (.int .i64 2)) (.tmp 51), none⟩, none),
  (⟨some 53, .bin .add (.tmp 52) (.const (.int .i64 1)), none⟩, none),
  (⟨some 54, .call false (.func 67) [.tmp 48, .tmp 50, .tmp 53] [(true, [.int .i64, .int .i64, .int .i64])] true, none⟩, none),
  (⟨some 55, .load true [.int .i64, .int .i64, .slice] (.tmp 1), none⟩, none),
  (⟨some 56, .mv (.tmp 5), none⟩, none),
  (⟨some 57, .bin .mul (.const (.int .i64 2)) (.tmp 56), none⟩, none),
  (⟨some 58, .bin .add (.tmp 57) (.const (.int .i64 1)), none⟩, none),
  (⟨some 59, .mv (.tmp 4), none⟩, none),
  (⟨some 60, .bin .mul (.const (.int .i64 2)) (.tmp 59), none⟩, none),
  (⟨some 61, .bin .add (.tmp 60) (.const (.int .i64 1)), none⟩, none),
  (⟨some 62, .call false (.func 67) [.tmp 55, .tmp 58, .tmp 61] [(true, [.int .i64, .int .i64, .int .i64])] true, none⟩, none),
  (⟨some 6, .nilCheck (.tmp 6), none⟩, none),
  (⟨some 7, .nilCheck (.tmp 7), none⟩, none),
  (⟨some 8, .nilCheck (.tmp 8), none⟩, none),
  (⟨some 9, .nilCheck (.tmp 9), none⟩, none),
  (⟨none, .store 3 (.tmp 6) (.tmp 40), none⟩, none),
  (⟨none, .store 3 (.tmp 7) (.tmp 47), none⟩, none),
  (⟨none, .store 3 (.tmp 8) (.tmp 54), none⟩, none),
  (⟨none, .store 3 (.tmp 9) (.tmp 62), none⟩, none)]
def f38_38 : List AOper := [⟨some 6, .alloc [.int .i64 0, .int .i64 0, .int .i64 0], none⟩,
  ⟨some 7, .alloc [.int .i64 0, .int .i64 0, .int .i64 0], none⟩,
  ⟨some 8, .alloc [.int .i64 0, .int .i64 0, .int .i64 0], none⟩,
  ⟨some 9, .alloc [.int .i64 0, .int .i64 0, .int .i64 0], none⟩]
def o38_40 : List AOper := [⟨some 10, .alloc [.int .i64 0, .int .i64 0, .int .i64 0], none⟩]
def o38_43 : List AOper := [⟨some 11, .mv (.const (.int .i64 0)), none⟩]
def o38_48 : List AOper := [⟨some 63, .mv (.tmp 11), none⟩,
  ⟨some 64, .bin .lss (.tmp 63) (.const (.int .i64 3)), none⟩]
def o38_54 : List (AOper × Option Nat) := [(⟨some 67, .mv (.tmp 11), none⟩, none),
  (⟨some 68, .mv (.tmp 11), none⟩, none),
  (⟨some 69, .indexArr 3 1 (.tmp 6) (.tmp 68), none⟩, none),
  (⟨some 70, .load false [.int .i64] (.tmp 69), none⟩, none),
  (⟨some 71, .mv (.tmp 11), none⟩, none),
  (⟨some 72, .indexArr 3 1 (.tmp 7) (.tmp 71), none⟩, none),
  (⟨some 73, .load false [.int .i64] (.tmp 72), none⟩, none),
  (⟨some 74, .bin .add (.tmp 70) (.tmp 73), none⟩, none),
  (⟨some 75, .mv (.tmp 11), none⟩, none),
  (⟨some 76, .indexArr 3 1 (.tmp 8) (.tmp 75), none⟩, none),
  (⟨some 77, .load false [.int .i64] (.tmp 76), none⟩, none),
  (⟨some 78, .bin .add (.tmp 74) (.tmp 77), none⟩, none),
  (⟨some 79, .mv (.tmp 11), none⟩, none),
  (⟨some 80, .indexArr 3 1 (.tmp 9) (.tmp 79), none⟩, none),
  (⟨some 81, .load false [.int .i64] (.tmp 80), none⟩, none),
  (⟨some 82, .bin .add (.tmp 78) (.tmp 81), none⟩, none),
  (⟨some 83, .call true (.func 68) [.tmp 82, .const (.int .i64 4)] [(false, [.int .i64])] true, none⟩, none),
  (⟨some 84, .indexArr 3 1 (.tmp 10) (.tmp 67), none⟩, none),
  (⟨none, .store 1 (.tmp 84) (.tmp 83), none⟩, none)]
def o38_55 : List AOper := [⟨some 65, .mv (.tmp 11), none⟩,
  ⟨some 66, .bin .add (.tmp 65) (.const (.int .i64 1)), none⟩,
  ⟨some 11, .mv (.tmp 66), none⟩]
def c38_55 : ACode := .ops o38_55
def b38_45 : ACode := .post (.seq (.seq (.ops o38_48) (.cond (.tmp 64) (.skip) (.exit 4))) (.seq (.block 5 (.draw [] 0 o38_54 [])) (.clear [0, 12, 13, 14, 15, 16, 17, 18, 19, 20, 21, 22, 23, 24, 25, 26, 27, 28, 29, 30, 31, 32, 33, 34, 35, 36, 37, 38, 39, 40, 41, 42, 43, 44, 45, 46, 47, 48, 49, 50, 51, 52, 53, 54, 55, 56, 57, 58, 59, 60, 61, 62, 63, 64, 65, 66, 67, 68, 69, 70, 71, 72, 73, 74, 75, 76, 77, 78, 79, 80, 81, 82, 83, 84, 85, 86, 87, 88, 89, 90, 91] c38_55))) [0, 12, 13, 14, 15, 16, 17, 18, 19, 20, 21, 22, 23, 24, 25, 26, 27, 28, 29, 30, 31, 32, 33, 34, 35, 36, 37, 38, 39, 40, 41, 42, 43, 44, 45, 46, 47, 48, 49, 50, 51, 52, 53, 54, 55, 56, 57, 58, 59, 60, 61, 62, 63, 64, 65, 66, 67, 68, 69, 70, 71, 72, 73, 74, 75, 76, 77, 78, 79, 80, 81, 82, 83, 84, 85, 86, 87, 88, 89, 90, 91]
def o38_56 : List AOper := [⟨some 85, .fieldAddr 2 (.tmp 3), none⟩,
  ⟨some 86, .load false [.slice] (.tmp 85), none⟩,
  ⟨some 87, .load true [.int .i64, .int .i64, .int .i64] (.tmp 10), none⟩,
  ⟨some 88, .buildSlice 3 1 [.int .i64 0, .int .i64 0, .int .i64 0] [(0, 3, .tmp 87)], none⟩,
  ⟨some 89, .append 3 24 (.tmp 86) (.tmp 88), none⟩,
  ⟨some 90, .fieldAddr 2 (.tmp 3), none⟩,
  ⟨none, .store 1 (.tmp 90) (.tmp 89), none⟩]
def c38_56 : ACode := .ops o38_56
def c38_39 : ACode := .seq (.ops o38_40) (.seq (.seq (.ops o38_43) (.block 4 (.clear [0, 12, 13, 14, 15, 16, 17, 18, 19, 20, 21, 22, 23, 24, 25, 26, 27, 28, 29, 30, 31, 32, 33, 34, 35, 36, 37, 38, 39, 40, 41, 42, 43, 44, 45, 46, 47, 48, 49, 50, 51, 52, 53, 54, 55, 56, 57, 58, 59, 60, 61, 62, 63, 64, 65, 66, 67, 68, 69, 70, 71, 72, 73, 74, 75, 76, 77, 78, 79, 80, 81, 82, 83, 84, 85, 86, 87, 88, 89, 90, 91] (.loop b38_45)))) (.clear [0, 6, 7, 8, 9, 11, 12, 13, 14, 15, 16, 17, 18, 19, 20, 21, 22, 23, 24, 25, 26, 27, 28, 29, 30, 31, 32, 33, 34, 35, 36, 37, 38, 39, 40, 41, 42, 43, 44, 45, 46, 47, 48, 49, 50, 51, 52, 53, 54, 55, 56, 57, 58, 59, 60, 61, 62, 63, 64, 65, 66, 67, 68, 69, 70, 71, 72, 73, 74, 75, 76, 77, 78, 79, 80, 81, 82, 83, 84, 85, 86, 87, 88, 89, 90, 91] c38_56))
def o38_57 : List AOper := [⟨some 33, .mv (.tmp 5), none⟩,
  ⟨some 34, .bin .add (.tmp 33) (.const (.int .i64 1)), none⟩,
  ⟨some 5, .mv (.tmp 34), none⟩]
def c38_57 : ACode := .ops o38_57
def b38_28 : ACode := .post (.seq (.seq (.ops o38_31) (.cond (.tmp 32) (.skip) (.exit 2))) (.seq (.block 3 (.seq (.draw f38_38 0 o38_38 [(6, 5), (13, 5), (13, 12), (20, 5), (20, 12), (20, 19), (28, 5), (28, 12), (28, 19), (28, 27), (29, 5), (29, 12), (29, 19), (29, 27), (30, 5), (30, 12), (30, 19), (30, 27), (31, 5), (31, 12), (31, 19), (31, 27)]) (.clear [0, 10, 11, 12, 13, 14, 15, 16, 17, 18, 19, 20, 21, 22, 23, 24, 25, 26, 27, 28, 29, 30, 31, 32, 33, 34, 35, 36, 37, 38, 39, 40, 41, 42, 43, 44, 45, 46, 47, 48, 49, 50, 51, 52, 53, 54, 55, 56, 57, 58, 59, 60, 61, 62, 63, 64, 65, 66, 67, 68, 69, 70, 71, 72, 73, 74, 75, 76, 77, 78, 79, 80, 81, 82, 83, 84, 85, 86, 87, 88, 89, 90, 91] c38_39))) (.clear [0, 6, 7, 8, 9, 10, 11, 12, 13, 14, 15, 16, 17, 18, 19, 20, 21, 22, 23, 24, 25, 26, 27, 28, 29, 30, 31, 32, 33, 34, 35, 36, 37, 38, 39, 40, 41, 42, 43, 44, 45, 46, 47, 48, 49, 50, 51, 52, 53, 54, 55, 56, 57, 58, 59, 60, 61, 62, 63, 64, 65, 66, 67, 68, 69, 70, 71, 72, 73, 74, 75, 76, 77, 78, 79, 80, 81, 82, 83, 84, 85, 86, 87, 88, 89, 90, 91] c38_57))) [0, 6, 7, 8, 9, 10, 11, 12, 13, 14, 15, 16, 17, 18, 19, 20, 21, 22, 23, 24, 25, 26, 27, 28, 29, 30, 31, 32, 33, 34, 35, 36, 37, 38, 39, 40, 41, 42, 43, 44, 45, 46, 47, 48, 49, 50, 51, 52, 53, 54, 55, 56, 57, 58, 59, 60, 61, 62, 63, 64, 65, 66, 67, 68, 69, 70, 71, 72, 73, 74, 75, 76, 77, 78, 79, 80, 81, 82, 83, 84, 85, 86, 87, 88, 89, 90, 91]
def o38_58 : List AOper := [⟨some 27, .mv (.tmp 4), none⟩,
  ⟨some 28, .bin .add (.tmp 27) (.const (.int .i64 1)), none⟩,
  ⟨some 4, .mv (.tmp 28), none⟩]
def c38_58 : ACode := .ops o38_58
def b38_16 : ACode := .post (.seq (.seq (.ops o38_19) (.cond (.tmp 26) (.skip) (.exit 0))) (.seq (.block 1 (.seq (.ops o38_26) (.block 2 (.clear [0, 6, 7, 8, 9, 10, 11, 12, 13, 14, 15, 16, 17, 18, 19, 20, 21, 22, 23, 24, 25, 26, 27, 28, 29, 30, 31, 32, 33, 34, 35, 36, 37, 38, 39, 40, 41, 42, 43, 44, 45, 46, 47, 48, 49, 50, 51, 52, 53, 54, 55, 56, 57, 58, 59, 60, 61, 62, 63, 64, 65, 66, 67, 68, 69, 70, 71, 72, 73, 74, 75, 76, 77, 78, 79, 80, 81, 82, 83, 84, 85, 86, 87, 88, 89, 90, 91] (.loop b38_28))))) (.clear [0, 5, 6, 7, 8, 9, 10, 11, 12, 13, 14, 15, 16, 17, 18, 19, 20, 21, 22, 23, 24, 25, 26, 27, 28, 29, 30, 31, 32, 33, 34, 35, 36, 37, 38, 39, 40, 41, 42, 43, 44, 45, 46, 47, 48, 49, 50, 51, 52, 53, 54, 55, 56, 57, 58, 59, 60, 61, 62, 63, 64, 65, 66, 67, 68, 69, 70, 71, 72, 73, 74, 75, 76, 77, 78, 79, 80, 81, 82, 83, 84, 85, 86, 87, 88, 89, 90, 91] c38_58))) [0, 5, 6, 7, 8, 9, 10, 11, 12, 13, 14, 15, 16, 17, 18, 19, 20, 21, 22, 23, 24, 25, 26, 27, 28, 29, 30, 31, 32, 33, 34, 35, 36, 37, 38, 39, 40, 41, 42, 43, 44, 45, 46, 47, 48, 49, 50, 51, 52, 53, 54, 55, 56, 57, 58, 59, 60, 61, 62, 63, 64, 65, 66, 67, 68, 69, 70, 71, 72, 73, 74, 75, 76, 77, 78, 79, 80, 81, 82, 83, 84, 85, 86, 87, 88, 89, 90, 91]
def o38_60 : List AOper := [⟨some 91, .load true [.int .i64, .int .i64, .slice] (.tmp 3), none⟩,
  ⟨none, .store 3 (.tmp 2) (.tmp 91), none⟩]
def c38_59 : ACode := .seq (.ops o38_60) (.ret)
def c38_0 : ACode := .seq (.ops o38_1) (.seq (.seq (.ops o38_4) (.cond (.tmp 14) (.seq (.ops o38_7) (.ret)) (.skip))) (.seq (.draw [] 0 o38_11 [(1, 7), (4, 7)]) (.seq (.seq (.ops o38_14) (.block 0 (.clear [0, 5, 6, 7, 8, 9, 10, 11, 12, 13, 14, 15, 16, 17, 18, 19, 20, 21, 22, 23, 24, 25, 26, 27, 28, 29, 30, 31, 32, 33, 34, 35, 36, 37, 38, 39, 40, 41, 42, 43, 44, 45, 46, 47, 48, 49, 50, 51, 52, 53, 54, 55, 56, 57, 58, 59, 60, 61, 62, 63, 64, 65, 66, 67, 68, 69, 70, 71, 72, 73, 74, 75, 76, 77, 78, 79, 80, 81, 82, 83, 84, 85, 86, 87, 88, 89, 90, 91] (.loop b38_16)))) (.clear [0, 1, 4, 5, 6, 7, 8, 9, 10, 11, 12, 13, 14, 15, 16, 17, 18, 19, 20, 21, 22, 23, 24, 25, 26, 27, 28, 29, 30, 31, 32, 33, 34, 35, 36, 37, 38, 39, 40, 41, 42, 43, 44, 45, 46, 47, 48, 49, 50, 51, 52, 53, 54, 55, 56, 57, 58, 59, 60, 61, 62, 63, 64, 65, 66, 67, 68, 69, 70, 71, 72, 73, 74, 75, 76, 77, 78, 79, 80, 81, 82, 83, 84, 85, 86, 87, 88, 89, 90, 91] c38_59))))
def a38 : AFun := ⟨92, [.cell true [.int .i64, .int .i64, .slice] 2], c38_0⟩
theorem ok38 : OkFun Try.prog 38 a38 := ⟨Try.f38, Try.f38.body.getD .skip, Try.func38, by kernel_rfl, by kernel_rfl, by kernel_rfl, by kernel_rfl, by kernel_rfl⟩
/-! #### skylightref51.Levels -/
def o39_1 : List AOper := [⟨some 4, .mv (.const (.int .i64 0)), none⟩]
def o39_4 : List AOper := [⟨some 5, .mv (.tmp 0), none⟩,
  ⟨some 6, .bin .lss (.tmp 5) (.const (.int .i64 1)), none⟩,
  ⟨some 7, .mv (.tmp 6), none⟩,
  ⟨some 8, .mv (.tmp 1), some (7, false)⟩,
  ⟨some 9, .bin .lss (.tmp 8) (.const (.int .i64 1)), some (7, false)⟩,
  ⟨some 10, .pick (.tmp 7) (.const (.bool true)) (.tmp 9), none⟩,
  ⟨some 11, .mv (.tmp 10), none⟩,
  ⟨some 12, .mv (.tmp 0), some (11, false)⟩,
  ⟨some 13, .bin .gtr (.tmp 12) (.const (.int .i64 256)), some (11, false)⟩,
  ⟨some 14, .pick (.tmp 11) (.const (.bool true)) (.tmp 13), none⟩,
  ⟨some 15, .mv (.tmp 14), none⟩,
  ⟨some 16, .mv (.tmp 1), some (15, false)⟩,
  ⟨some 17, .bin .gtr (.tmp 16) (.const (.int .i64 256)), some (15, false)⟩,
  ⟨some 18, .pick (.tmp 15) (.const (.bool true)) (.tmp 17), none⟩]
def o39_7 : List AOper := [⟨some 4, .mv (.const (.int .i64 0)), none⟩]
def o39_12 : List AOper := [⟨some 19, .mv (.tmp 0), none⟩,
  ⟨some 20, .mv (.tmp 1), none⟩,
  ⟨some 21, .bin .mul (.tmp 19) (.tmp 20), none⟩,
  ⟨some 22, .bin .eql (.tmp 21) (.const (.int .i64 1)), none⟩]
def o39_15 : List AOper := [⟨some 4, .mv (.const (.int .i64 1)), none⟩]
def o39_19 : List AOper := [⟨some 23, .mv (.tmp 0), none⟩,
  ⟨some 24, .call true (.func 66) [.tmp 23] [(false, [.int .i64])] true, none⟩,
  ⟨some 25, .mv (.tmp 1), none⟩,
  ⟨some 26, .call true (.func 66) [.tmp 25] [(false, [.int .i64])] true, none⟩,
  ⟨some 27, .call true (.func 39) [.tmp 24, .tmp 26] [(false, [.int .i64])] true, none⟩,
  ⟨some 28, .bin .add (.const (.int .i64 1)) (.tmp 27), none⟩,
  ⟨some 4, .mv (.tmp 28), none⟩]
def c39_0 : ACode := .seq (.ops o39_1) (.seq (.seq (.ops o39_4) (.cond (.tmp 18) (.seq (.ops o39_7) (.ret)) (.skip))) (.seq (.seq (.ops o39_12) (.cond (.tmp 22) (.seq (.ops o39_15) (.ret)) (.skip))) (.seq (.ops o39_19) (.ret))))
def a39 : AFun := ⟨29, [.tmp 4], c39_0⟩
theorem ok39 : OkFun Try.prog 39 a39 := ⟨Try.f39, Try.f39.body.getD .skip, Try.func39, by kernel_rfl, by kernel_rfl, by kernel_rfl, by kernel_rfl, by kernel_rfl⟩
/-! #### skylightlaw49.awake -/
def o40_1 : List AOper := [⟨some 0, .mv (.const (.bool false)), none⟩]
def o40_3 : List AOper := [⟨some 7, .build [.int .i64 0, .int .i64 0, .int .i64 0] [(0, 1, .const (.int .i64 1)), (1, 1, .const (.int .i64 2)), (2, 1, .const (.int .i64 3))], none⟩,
  ⟨some 8, .buildSlice 3 1 [.int .i64 0, .int .i64 0, .int .i64 0] [(0, 3, .tmp 7)], none⟩,
  ⟨some 9, .build [.int .i64 0, .int .i64 0, .slice none 0 0] [(0, 1, .const (.int .i64 1)), (1, 1, .const (.int .i64 1)), (2, 1, .tmp 8)], none⟩,
  ⟨some 1, .alloc [.int .i64 0, .int .i64 0, .slice none 0 0], none⟩,
  ⟨none, .store 3 (.tmp 1) (.tmp 9), none⟩]
def o40_5 : List AOper := [⟨some 10, .build [.int .i64 0, .int .i64 0, .int .i64 0] [(0, 1, .const (.int .i64 4)), (1, 1, .const (.int .i64 2)), (2, 1, .const (.int .i64 1))], none⟩,
  ⟨some 11, .buildSlice 3 1 [.int .i64 0, .int .i64 0, .int .i64 0] [(0, 3, .tmp 10)], none⟩,
  ⟨some 12, .build [.int .i64 0, .int .i64 0, .slice none 0 0] [(0, 1, .const (.int .i64 1)), (1, 1, .const (.int .i64 1)), (2, 1, .tmp 11)], none⟩,
  ⟨some 2, .alloc [.int .i64 0, .int .i64 0, .slice none 0 0], none⟩,
  ⟨none, .store 3 (.tmp 2) (.tmp 12), none⟩]
def o40_7 : List AOper := [⟨some 14, .load true [.int .i64, .int .i64, .slice] (.tmp 1), none⟩,
  ⟨some 15, .load true [.int .i64, .int .i64, .slice] (.tmp 2), none⟩,
  ⟨some 16, .call false (.func 41) [.tmp 14, .tmp 15] [(true, [.int .i64, .int .i64, .int .i64, .int .i64]), (false, [.bool])] false, none⟩,
  ⟨some 13, .mv (.tmp 16), none⟩,
  ⟨some 17, .extract (.tmp 13) 0, none⟩,
  ⟨some 18, .extract (.tmp 13) 1, none⟩,
  ⟨some 3, .alloc [.int .i64 0, .int .i64 0, .int .i64 0, .int .i64 0], none⟩,
  ⟨none, .store 4 (.tmp 3) (.tmp 17), none⟩,
  ⟨some 4, .mv (.tmp 18), none⟩]
def o40_9 : List AOper := [⟨some 20, .load true [.int .i64, .int .i64, .slice] (.tmp 1), none⟩,
  ⟨some 21, .build [.int .i64 0, .int .i64 0, .slice none 0 0] [], none⟩,
  ⟨some 22, .call false (.func 41) [.tmp 20, .tmp 21] [(true, [.int .i64, .int .i64, .int .i64, .int .i64]), (false, [.bool])] false, none⟩,
  ⟨some 19, .mv (.tmp 22), none⟩,
  ⟨some 23, .extract (.tmp 19) 0, none⟩,
  ⟨some 24, .extract (.tmp 19) 1, none⟩,
  ⟨some 5, .alloc [.int .i64 0, .int .i64 0, .int .i64 0, .int .i64 0], none⟩,
  ⟨none, .store 4 (.tmp 5) (.tmp 23), none⟩,
  ⟨some 6, .mv (.tmp 24), none⟩]
def o40_11 : List AOper := [⟨some 25, .mv (.tmp 4), none⟩,
  ⟨some 26, .mv (.tmp 25), none⟩,
  ⟨some 27, .load true [.int .i64, .int .i64, .int .i64, .int .i64] (.tmp 3), some (26, true)⟩,
  ⟨some 28, .build [.int .i64 0, .int .i64 0, .int .i64 0, .int .i64 0] [(0, 1, .const (.int .i64 1)), (1, 1, .const (.int .i64 3)), (2, 1, .const (.int .i64 5)), (3, 1, .const (.int .i64 13))], some (26, true)⟩,
  ⟨some 29, .eqAgg [.int .i64, .int .i64, .int .i64, .int .i64] false (.tmp 27) (.tmp 28), some (26, true)⟩,
  ⟨some 30, .pick (.tmp 26) (.tmp 29) (.const (.bool false)), none⟩,
  ⟨some 31, .mv (.tmp 30), none⟩,
  ⟨some 32, .mv (.tmp 6), some (31, true)⟩,
  ⟨some 33, .un .not (.tmp 32), some (31, true)⟩,
  ⟨some 34, .pick (.tmp 31) (.tmp 33) (.const (.bool false)), none⟩,
  ⟨some 35, .mv (.tmp 34), none⟩,
  ⟨some 36, .load true [.int .i64, .int .i64, .slice] (.tmp 1), some (35, true)⟩,
  ⟨some 37, .load true [.int .i64, .int .i64, .slice] (.tmp 2), some (35, true)⟩,
  ⟨some 38, .call false (.func 44) [.tmp 36, .tmp 37] [(false, [.slice])] true, some (35, true)⟩,
  ⟨some 39, .len (.tmp 38), some (35, true)⟩,
  ⟨some 40, .bin .eql (.tmp 39) (.const (.int .i64 1)), some (35, true)⟩,
  ⟨some 41, .pick (.tmp 35) (.tmp 40) (.const (.bool false)), none⟩,
  ⟨some 42, .mv (.tmp 41), none⟩,
  ⟨some 43, .load true [.int .i64, .int .i64, .int .i64, .int .i64] (.tmp 3), some (42, true)⟩,
  ⟨some 44, .call true (.func 51) [.tmp 43, .const (.int .i64 1)] [(false, [.int .i64])] true, some (42, true)⟩,
  ⟨some 45, .bin .eql (.tmp 44) (.const (.int .i64 2)), some (42, true)⟩,
  ⟨some 46, .pick (.tmp 42) (.tmp 45) (.const (.bool false)), none⟩,
  ⟨some 0, .mv (.tmp 46), none⟩]
def c40_0 : ACode := .seq (.ops o40_1) (.seq (.ops o40_3) (.seq (.ops o40_5) (.seq (.ops o40_7) (.seq (.ops o40_9) (.seq (.ops o40_11) (.ret))))))
def a40 : AFun := ⟨47, [.tmp 0], c40_0⟩
theorem ok40 : OkFun Try.prog 40 a40 := ⟨Try.f40, Try.f40.body.getD .skip, Try.func40, by kernel_rfl, by kernel_rfl, by kernel_rfl, by kernel_rfl, by kernel_rfl⟩
/-! #### diff.Of -/
def o41_1 : List AOper := [⟨some 2, .box (.tmp 0), none⟩,
  ⟨some 3, .box (.tmp 1), none⟩,
  ⟨some 4, .alloc [.int .i64 0, .int .i64 0, .int .i64 0, .int .i64 0], none⟩,
  ⟨some 5, .mv (.const (.bool false)), none⟩]
def o41_4 : List AOper := [⟨some 12, .load true [.int .i64, .int .i64, .slice] (.tmp 2), none⟩,
  ⟨some 13, .load true [.int .i64, .int .i64, .slice] (.tmp 3), none⟩,
  ⟨some 14, .call false (.func 69) [.tmp 12, .tmp 13] [(false, [.bool])] true, none⟩,
  ⟨some 15, .un .not (.tmp 14), none⟩]
def o41_7 : List AOper := [⟨some 16, .build [.int .i64 0, .int .i64 0, .int .i64 0, .int .i64 0] [], none⟩,
  ⟨none, .store 4 (.tmp 4) (.tmp 16), none⟩,
  ⟨some 5, .mv (.const (.bool false)), none⟩]
def o41_11 : List AOper := [⟨some 6, .alloc [.int .i64 0, .int .i64 0, .int .i64 0, .int .i64 0], none⟩]
def o41_14 : List AOper := [⟨some 17, .load true [.int .i64, .int .i64, .slice] (.tmp 2), none⟩,
  ⟨some 18, .load true [.int .i64, .int .i64, .slice] (.tmp 3), none⟩,
  ⟨some 19, .call false (.func 70) [.tmp 17, .tmp 18] [(false, [.any])] true, none⟩]
def o41_17 : List AOper := [⟨some 8, .alloc [.int .i64 0, .int .i64 0, .int .i64 0, .int .i64 0, .int .i64 0, .int .i64 0], none⟩,
  ⟨none, .store 6 (.tmp 8) (.tmp 21), none⟩]
def o41_21 : List AOper := [⟨some 22, .fieldAddr 0 (.tmp 8), none⟩,
  ⟨some 23, .load true [.int .i64, .int .i64, .int .i64] (.tmp 22), none⟩,
  ⟨some 24, .fieldAddr 3 (.tmp 8), none⟩,
  ⟨some 25, .load true [.int .i64, .int .i64, .int .i64] (.tmp 24), none⟩,
  ⟨some 26, .eqAgg [.int .i64, .int .i64, .int .i64] false (.tmp 23) (.tmp 25), none⟩]
def o41_26 : List AOper := [⟨some 27, .fieldAddr 0 (.tmp 6), none⟩,
  ⟨some 28, .load false [.int .i64] (.tmp 27), none⟩,
  ⟨some 29, .bin .add (.tmp 28) (.const (.int .i64 1)), none⟩,
  ⟨some 30, .fieldAddr 0 (.tmp 6), none⟩,
  ⟨none, .store 1 (.tmp 30) (.tmp 29), none⟩]
def o41_28 : List AOper := [⟨some 31, .fieldAddr 0 (.tmp 8), none⟩,
  ⟨some 32, .load true [.int .i64, .int .i64, .int .i64] (.tmp 31), none⟩,
  ⟨some 33, .mv (.const (.int .i64 0)), none⟩]
def o41_32 : List AOper := [⟨some 34, .bin .lss (.tmp 33) (.const (.int .i64 3)), none⟩]
def o41_40 : List AOper := [⟨some 35, .mv (.tmp 33), none⟩,
  ⟨some 36, .index false 3 1 (.tmp 32) (.tmp 33), none⟩,
  ⟨some 9, .mv (.tmp 35), none⟩,
  ⟨some 10, .mv (.tmp 36), none⟩]
def o41_42 : List AOper := [⟨some 37, .mv (.tmp 10), none⟩,
  ⟨some 38, .mv (.tmp 9), none⟩,
  ⟨some 39, .fieldAddr 3 (.tmp 8), none⟩,
  ⟨some 40, .indexArr 3 1 (.tmp 39) (.tmp 38), none⟩,
  ⟨some 41, .load false [.int .i64] (.tmp 40), none⟩,
  ⟨some 42, .bin .sub (.tmp 37) (.tmp 41), none⟩,
  ⟨some 11, .mv (.tmp 42), none⟩]
def o41_44 : List AOper := [⟨some 43, .fieldAddr 1 (.tmp 6), none⟩,
  ⟨some 44, .load false [.int .i64] (.tmp 43), none⟩,
  ⟨some 45, .mv (.tmp 11), none⟩,
  ⟨some 46, .mv (.tmp 11), none⟩,
  ⟨some 47, .un .neg (.tmp 46), none⟩,
  ⟨some 48, .minmax true [.tmp 44, .tmp 45, .tmp 47], none⟩,
  ⟨some 49, .fieldAddr 1 (.tmp 6), none⟩,
  ⟨none, .store 1 (.tmp 49) (.tmp 48), none⟩]
def o41_46 : List AOper := [⟨some 50, .fieldAddr 2 (.tmp 6), none⟩,
  ⟨some 51, .load false [.int .i64] (.tmp 50), none⟩,
  ⟨some 52, .mv (.tmp 11), none⟩,
  ⟨some 53, .mv (.tmp 11), none⟩,
  ⟨some 54, .un .neg (.tmp 53), none⟩,
  ⟨some 55, .minmax true [.tmp 52, .tmp 54], none⟩,
  ⟨some 56, .bin .add (.tmp 51) (.tmp 55), none⟩,
  ⟨some 57, .fieldAddr 2 (.tmp 6), none⟩,
  ⟨none, .store 1 (.tmp 57) (.tmp 56), none⟩]
def o41_47 : List AOper := [⟨some 58, .fieldAddr 3 (.tmp 6), none⟩,
  ⟨some 59, .load false [.int .i64] (.tmp 58), none⟩,
  ⟨some 60, .mv (.tmp 11), none⟩,
  ⟨some 61, .mv (.tmp 11), none⟩,
  ⟨some 62, .bin .mul (.tmp 60) (.tmp 61), none⟩,
  ⟨some 63, .bin .add (.tmp 59) (.tmp 62), none⟩,
  ⟨some 64, .fieldAddr 3 (.tmp 6), none⟩,
  ⟨none, .store 1 (.tmp 64) (.tmp 63), none⟩]
def o41_48 : List AOper := [⟨some 65, .bin .add (.tmp 33) (.const (.int .i64 1)), none⟩,
  ⟨some 33, .mv (.tmp 65), none⟩]
def c41_48 : ACode := .ops o41_48
def b41_30 : ACode := .post (.seq (.ops o41_32) (.seq (.cond (.tmp 34) (.skip) (.exit 2)) (.seq (.block 3 (.seq (.ops o41_40) (.seq (.ops o41_42) (.seq (.ops o41_44) (.seq (.ops o41_46) (.ops o41_47)))))) (.clear [0, 1, 2, 3, 4, 5, 7, 9, 10, 11, 12, 13, 14, 15, 16, 17, 18, 19, 20, 21, 22, 23, 24, 25, 26, 27, 28, 29, 30, 31, 34, 35, 36, 37, 38, 39, 40, 41, 42, 43, 44, 45, 46, 47, 48, 49, 50, 51, 52, 53, 54, 55, 56, 57, 58, 59, 60, 61, 62, 63, 64, 65, 66] c41_48)))) [0, 1, 2, 3, 4, 5, 7, 9, 10, 11, 12, 13, 14, 15, 16, 17, 18, 19, 20, 21, 22, 23, 24, 25, 26, 27, 28, 29, 30, 31, 34, 35, 36, 37, 38, 39, 40, 41, 42, 43, 44, 45, 46, 47, 48, 49, 50, 51, 52, 53, 54, 55, 56, 57, 58, 59, 60, 61, 62, 63, 64, 65, 66]
def b41_16 : ACode := .block 1 (.seq (.seq (.ops o41_21) (.cond (.tmp 26) (.exit 1) (.skip))) (.seq (.ops o41_26) (.seq (.ops o41_28) (.block 2 (.clear [0, 1, 2, 3, 4, 5, 7, 9, 10, 11, 12, 13, 14, 15, 16, 17, 18, 19, 20, 21, 22, 23, 24, 25, 26, 27, 28, 29, 30, 31, 34, 35, 36, 37, 38, 39, 40, 41, 42, 43, 44, 45, 46, 47, 48, 49, 50, 51, 52, 53, 54, 55, 56, 57, 58, 59, 60, 61, 62, 63, 64, 65, 66] (.loop b41_30))))))
def o41_50 : List AOper := [⟨some 66, .load true [.int .i64, .int .i64, .int .i64, .int .i64] (.tmp 6), none⟩,
  ⟨none, .store 4 (.tmp 4) (.tmp 66), none⟩,
  ⟨some 5, .mv (.const (.bool true)), none⟩]
def c41_49 : ACode := .seq (.ops o41_50) (.ret)
def c41_0 : ACode := .seq (.ops o41_1) (.seq (.seq (.ops o41_4) (.cond (.tmp 15) (.seq (.ops o41_7) (.ret)) (.skip))) (.seq (.ops o41_11) (.seq (.seq (.ops o41_14) (.block 0 (.clear [0, 1, 2, 3, 7, 8, 9, 10, 11, 12, 13, 14, 15, 16, 17, 18, 20, 22, 23, 24, 25, 26, 27, 28, 29, 30, 31, 32, 33, 34, 35, 36, 37, 38, 39, 40, 41, 42, 43, 44, 45, 46, 47, 48, 49, 50, 51, 52, 53, 54, 55, 56, 57, 58, 59, 60, 61, 62, 63, 64, 65, 66] (.rangeFunc (.tmp 19) [20, 21] (.ops o41_17) b41_16)))) (.clear [0, 1, 2, 3, 5, 7, 8, 9, 10, 11, 12, 13, 14, 15, 16, 17, 18, 19, 20, 21, 22, 23, 24, 25, 26, 27, 28, 29, 30, 31, 32, 33, 34, 35, 36, 37, 38, 39, 40, 41, 42, 43, 44, 45, 46, 47, 48, 49, 50, 51, 52, 53, 54, 55, 56, 57, 58, 59, 60, 61, 62, 63, 64, 65, 66] c41_49))))
def a41 : AFun := ⟨67, [.cell true [.int .i64, .int .i64, .int .i64, .int .i64] 4, .tmp 5], c41_0⟩
theorem ok41 : OkFun Try.prog 41 a41 := ⟨Try.f41, Try.f41.body.getD .skip, Try.func41, by kernel_rfl, by kernel_rfl, by kernel_rfl, by kernel_rfl, by kernel_rfl⟩
/-! #### skylightlaw49.of -/
def o42_1 : List AOper := [⟨some 1, .box (.tmp 0), none⟩,
  ⟨some 2, .alloc [.int .i64 0, .int .i64 0, .slice none 0 0], none⟩]
def o42_3 : List AOper := [⟨some 3, .fieldAddr 0 (.tmp 1), none⟩,
  ⟨some 4, .load false [.int .i64] (.tmp 3), none⟩,
  ⟨some 5, .fieldAddr 1 (.tmp 1), none⟩,
  ⟨some 6, .load false [.int .i64] (.tmp 5), none⟩,
  ⟨some 7, .fieldAddr 2 (.tmp 1), none⟩,
  ⟨some 8, .load false [.slice] (.tmp 7), none⟩,
  ⟨some 9, .build [.int .i64 0, .int .i64 0, .slice none 0 0] [(0, 1, .tmp 4), (1, 1, .tmp 6), (2, 1, .tmp 8)], none⟩,
  ⟨none, .store 3 (.tmp 2) (.tmp 9), none⟩]
def c42_0 : ACode := .seq (.ops o42_1) (.seq (.ops o42_3) (.ret))
def a42 : AFun := ⟨10, [.cell true [.int .i64, .int .i64, .slice] 2], c42_0⟩
theorem ok42 : OkFun Try.prog 42 a42 := ⟨Try.f42, Try.f42.body.getD .skip, Try.func42, by kernel_rfl, by kernel_rfl, by kernel_rfl, by kernel_rfl, by kernel_rfl⟩
/-! #### skylightref49.Of -/
def o43_1 : List AOper := [⟨some 2, .box (.tmp 0), none⟩,
  ⟨some 3, .box (.tmp 1), none⟩,
  ⟨some 4, .alloc [.int .i64 0, .int .i64 0, .int .i64 0, .int .i64 0], none⟩,
  ⟨some 5, .mv (.const (.bool false)), none⟩]
def o43_3 : List AOper := [⟨some 10, .build [.int .i64 0, .int .i64 0, .int .i64 0, .int .i64 0] [], none⟩,
  ⟨some 6, .alloc [.int .i64 0, .int .i64 0, .int .i64 0, .int .i64 0], none⟩,
  ⟨none, .store 4 (.tmp 6) (.tmp 10), none⟩]
def o43_6 : List AOper := [⟨some 11, .load true [.int .i64, .int .i64, .slice] (.tmp 2), none⟩,
  ⟨some 12, .load true [.int .i64, .int .i64, .slice] (.tmp 3), none⟩,
  ⟨some 13, .call false (.func 53) [.tmp 11, .tmp 12] [(false, [.bool])] true, none⟩,
  ⟨some 14, .un .not (.tmp 13), none⟩]
def o43_9 : List AOper := [⟨some 15, .load true [.int .i64, .int .i64, .int .i64, .int .i64] (.tmp 6), none⟩,
  ⟨none, .store 4 (.tmp 4) (.tmp 15), none⟩,
  ⟨some 5, .mv (.const (.bool false)), none⟩]
def o43_14 : List AOper := [⟨some 7, .mv (.const (.int .i64 0)), none⟩]
def o43_19 : List AOper := [⟨some 16, .mv (.tmp 7), none⟩,
  ⟨some 17, .fieldAddr 2 (.tmp 2), none⟩,
  ⟨some 18, .load false [.slice] (.tmp 17), none⟩,
  ⟨some 19, .len (.tmp 18), none⟩,
  ⟨some 20, .bin .lss (.tmp 16) (.tmp 19), none⟩]
def o43_27 : List (AOper × Option Nat) := [(⟨some 23, .fieldAddr 2 (.tmp 2), none⟩, none),
  (⟨some 24, .load false [.slice] (.tmp 23), none⟩, none),
  (⟨some 25, .mv (.tmp 7), none⟩, none),
  (⟨some 26, .indexAddr 3 (.tmp 24) (.tmp 25), none⟩, none),
  (⟨some 27, .load true [.int .i64, .int .i64, .int .i64] (.tmp 26), none⟩, none),
  (⟨some 28, .fieldAddr 2 (.tmp 3), none⟩, none),
  (⟨some 29, .load false [.slice] (.tmp 28), none⟩, none),
  (⟨some 30, .mv (.tmp 7), none⟩, none),
  (⟨some 31, .indexAddr 3 (.tmp 29) (.tmp 30), none⟩, none),
  (⟨some 32, .load true [.int .i64, .int .i64, .int .i64] (.tmp 31), none⟩, none),
  (⟨some 33, .eqAgg [.int .i64, .int .i64, .int .i64] true (.tmp 27) (.tmp 32), none⟩, none)]
def o43_29 : List AOper := [⟨some 34, .fieldAddr 0 (.tmp 6), none⟩,
  ⟨some 35, .load false [.int .i64] (.tmp 34), none⟩,
  ⟨some 36, .bin .add (.tmp 35) (.const (.int .i64 1)), none⟩,
  ⟨some 37, .fieldAddr 0 (.tmp 6), none⟩,
  ⟨none, .store 1 (.tmp 37) (.tmp 36), none⟩]
def o43_32 : List AOper := [⟨some 8, .mv (.const (.int .i64 0)), none⟩]
def o43_37 : List AOper := [⟨some 38, .mv (.tmp 8), none⟩,
  ⟨some 39, .bin .lss (.tmp 38) (.const (.int .i64 3)), none⟩]
def o43_44 : List (AOper × Option Nat) := [(⟨some 42, .fieldAddr 2 (.tmp 2), none⟩, none),
  (⟨some 43, .load false [.slice] (.tmp 42), none⟩, none),
  (⟨some 44, .mv (.tmp 7), none⟩, none),
  (⟨some 45, .mv (.tmp 8), none⟩, none),
  (⟨some 46, .indexAddr 3 (.tmp 43) (.tmp 44), none⟩, none),
  (⟨some 47, .indexArr 3 1 (.tmp 46) (.tmp 45), none⟩, none),
  (⟨some 48, .load false [.int .i64] (.tmp 47), none⟩, none),
  (⟨some 49, .fieldAddr 2 (.tmp 3), none⟩, none),
  (⟨some 50, .load false [.slice] (.tmp 49), none⟩, none),
  (⟨some 51, .mv (.tmp 7), none⟩, none),
  (⟨some 52, .mv (.tmp 8), none⟩, none),
  (⟨some 53, .indexAddr 3 (.tmp 50) (.tmp 51), none⟩, none),
  (⟨some 54, .indexArr 3 1 (.tmp 53) (.tmp 52), none⟩, none),
  (⟨some 55, .load false [.int .i64] (.tmp 54), none⟩, none),
  (⟨some 56, .bin .sub (.tmp 48) (.tmp 55), none⟩, none),
  (⟨some 57, .fieldAddr 2 (.tmp 3), none⟩, none),
  (⟨some 58, .load false [.slice] (.tmp 57), none⟩, none),
  (⟨some 59, .mv (.tmp 7), none⟩, none),
  (⟨some 60, .mv (.tmp 8), none⟩, none),
  (⟨some 61, .indexAddr 3 (.tmp 58) (.tmp 59), none⟩, none),
  (⟨some 62, .indexArr 3 1 (.tmp 61) (.tmp 60), none⟩, none),
  (⟨some 63, .load false [.int .i64] (.tmp 62), none⟩, none),
  (⟨some 64, .fieldAddr 2 (.tmp 2), none⟩, none),
  (⟨some 65, .load false [.slice] (.tmp 64), none⟩, none),
  (⟨some 66, .mv (.tmp 7), none⟩, none),
  (⟨some 67, .mv (.tmp 8), none⟩, none),
  (⟨some 68, .indexAddr 3 (.tmp 65) (.tmp 66), none⟩, none),
  (⟨some 69, .indexArr 3 1 (.tmp 68) (.tmp 67), none⟩, none),
  (⟨some 70, .load false [.int .i64] (.tmp 69), none⟩, none),
  (⟨some 71, .bin .sub (.tmp 63) (.tmp 70), none⟩, none),
  (⟨some 72, .minmax true [.tmp 56, .tmp 71], none⟩, none),
  (⟨some 9, .mv (.tmp 72), none⟩, none)]
def o43_46 : List AOper := [⟨some 73, .fieldAddr 1 (.tmp 6), none⟩,
  ⟨some 74, .load false [.int .i64] (.tmp 73), none⟩,
  ⟨some 75, .mv (.tmp 9), none⟩,
  ⟨some 76, .minmax true [.tmp 74, .tmp 75], none⟩,
  ⟨some 77, .fieldAddr 1 (.tmp 6), none⟩,
  ⟨none, .store 1 (.tmp 77) (.tmp 76), none⟩]
def o43_48 : List AOper := [⟨some 78, .fieldAddr 2 (.tmp 6), none⟩,
  ⟨some 79, .load false [.int .i64] (.tmp 78), none⟩,
  ⟨some 80, .mv (.tmp 9), none⟩,
  ⟨some 81, .bin .add (.tmp 79) (.tmp 80), none⟩,
  ⟨some 82, .fieldAddr 2 (.tmp 6), none⟩,
  ⟨none, .store 1 (.tmp 82) (.tmp 81), none⟩]
def o43_49 : List AOper := [⟨some 83, .fieldAddr 3 (.tmp 6), none⟩,
  ⟨some 84, .load false [.int .i64] (.tmp 83), none⟩,
  ⟨some 85, .mv (.tmp 9), none⟩,
  ⟨some 86, .mv (.tmp 9), none⟩,
  ⟨some 87, .bin .mul (.tmp 85) (.tmp 86), none⟩,
  ⟨some 88, .bin .add (.tmp 84) (.tmp 87), none⟩,
  ⟨some 89, .fieldAddr 3 (.tmp 6), none⟩,
  ⟨none, .store 1 (.tmp 89) (.tmp 88), none⟩]
def o43_50 : List AOper := [⟨some 40, .mv (.tmp 8), none⟩,
  ⟨some 41, .bin .add (.tmp 40) (.const (.int .i64 1)), none⟩,
  ⟨some 8, .mv (.tmp 41), none⟩]
def c43_50 : ACode := .ops o43_50
def b43_34 : ACode := .post (.seq (.seq (.ops o43_37) (.cond (.tmp 39) (.skip) (.exit 2))) (.seq (.block 3 (.seq (.draw [] 0 o43_44 []) (.seq (.ops o43_46) (.seq (.ops o43_48) (.ops o43_49))))) (.clear [0, 1, 5, 9, 10, 11, 12, 13, 14, 15, 16, 17, 18, 19, 20, 21, 22, 23, 24, 25, 26, 27, 28, 29, 30, 31, 32, 33, 34, 35, 36, 37, 38, 39, 40, 41, 42, 43, 44, 45, 46, 47, 48, 49, 50, 51, 52, 53, 54, 55, 56, 57, 58, 59, 60, 61, 62, 63, 64, 65, 66, 67, 68, 69, 70, 71, 72, 73, 74, 75, 76, 77, 78, 79, 80, 81, 82, 83, 84, 85, 86, 87, 88, 89, 90] c43_50))) [0, 1, 5, 9, 10, 11, 12, 13, 14, 15, 16, 17, 18, 19, 20, 21, 22, 23, 24, 25, 26, 27, 28, 29, 30, 31, 32, 33, 34, 35, 36, 37, 38, 39, 40, 41, 42, 43, 44, 45, 46, 47, 48, 49, 50, 51, 52, 53, 54, 55, 56, 57, 58, 59, 60, 61, 62, 63, 64, 65, 66, 67, 68, 69, 70, 71, 72, 73, 74, 75, 76, 77, 78, 79, 80, 81, 82, 83, 84, 85, 86, 87, 88, 89, 90]
def c43_31 : ACode := .seq (.ops o43_32) (.block 2 (.clear [0, 1, 5, 9, 10, 11, 12, 13, 14, 15, 16, 17, 18, 19, 20, 21, 22, 23, 24, 25, 26, 27, 28, 29, 30, 31, 32, 33, 34, 35, 36, 37, 38, 39, 40, 41, 42, 43, 44, 45, 46, 47, 48, 49, 50, 51, 52, 53, 54, 55, 56, 57, 58, 59, 60, 61, 62, 63, 64, 65, 66, 67, 68, 69, 70, 71, 72, 73, 74, 75, 76, 77, 78, 79, 80, 81, 82, 83, 84, 85, 86, 87, 88, 89, 90] (.loop b43_34)))
def o43_51 : List AOper := [⟨some 21, .mv (.tmp 7), none⟩,
  ⟨some 22, .bin .add (.tmp 21) (.const (.int .i64 1)), none⟩,
  ⟨some 7, .mv (.tmp 22), none⟩]
def c43_51 : ACode := .ops o43_51
def b43_16 : ACode := .post (.seq (.seq (.ops o43_19) (.cond (.tmp 20) (.skip) (.exit 0))) (.seq (.block 1 (.seq (.seq (.draw [] 0 o43_27 []) (.cond (.tmp 33) (.ops o43_29) (.skip))) (.clear [0, 1, 5, 8, 9, 10, 11, 12, 13, 14, 15, 16, 17, 18, 19, 20, 21, 22, 23, 24, 25, 26, 27, 28, 29, 30, 31, 32, 33, 34, 35, 36, 37, 38, 39, 40, 41, 42, 43, 44, 45, 46, 47, 48, 49, 50, 51, 52, 53, 54, 55, 56, 57, 58, 59, 60, 61, 62, 63, 64, 65, 66, 67, 68, 69, 70, 71, 72, 73, 74, 75, 76, 77, 78, 79, 80, 81, 82, 83, 84, 85, 86, 87, 88, 89, 90] c43_31))) (.clear [0, 1, 5, 8, 9, 10, 11, 12, 13, 14, 15, 16, 17, 18, 19, 20, 21, 22, 23, 24, 25, 26, 27, 28, 29, 30, 31, 32, 33, 34, 35, 36, 37, 38, 39, 40, 41, 42, 43, 44, 45, 46, 47, 48, 49, 50, 51, 52, 53, 54, 55, 56, 57, 58, 59, 60, 61, 62, 63, 64, 65, 66, 67, 68, 69, 70, 71, 72, 73, 74, 75, 76, 77, 78, 79, 80, 81, 82, 83, 84, 85, 86, 87, 88, 89, 90] c43_51))) [0, 1, 5, 8, 9, 10, 11, 12, 13, 14, 15, 16, 17, 18, 19, 20, 21, 22, 23, 24, 25, 26, 27, 28, 29, 30, 31, 32, 33, 34, 35, 36, 37, 38, 39, 40, 41, 42, 43, 44, 45, 46, 47, 48, 49, 50, 51, 52, 53, 54, 55, 56, 57, 58, 59, 60, 61, 62, 63, 64, 65, 66, 67, 68, 69, 70, 71, 72, 73, 74, 75, 76, 77, 78, 79, 80, 81, 82, 83, 84, 85, 86, 87, 88, 89, 90]
def o43_53 : List AOper := [⟨some 90, .load true [.int .i64, .int .i64, .int .i64, .int .i64] (.tmp 6), none⟩,
  ⟨none, .store 4 (.tmp 4) (.tmp 90), none⟩,
  ⟨some 5, .mv (.const (.bool true)), none⟩]
def c43_52 : ACode := .seq (.ops o43_53) (.ret)
def c43_0 : ACode := .seq (.ops o43_1) (.seq (.ops o43_3) (.seq (.seq (.ops o43_6) (.cond (.tmp 14) (.seq (.ops o43_9) (.ret)) (.skip))) (.seq (.seq (.ops o43_14) (.block 0 (.clear [0, 1, 5, 8, 9, 10, 11, 12, 13, 14, 15, 16, 17, 18, 19, 20, 21, 22, 23, 24, 25, 26, 27, 28, 29, 30, 31, 32, 33, 34, 35, 36, 37, 38, 39, 40, 41, 42, 43, 44, 45, 46, 47, 48, 49, 50, 51, 52, 53, 54, 55, 56, 57, 58, 59, 60, 61, 62, 63, 64, 65, 66, 67, 68, 69, 70, 71, 72, 73, 74, 75, 76, 77, 78, 79, 80, 81, 82, 83, 84, 85, 86, 87, 88, 89, 90] (.loop b43_16)))) (.clear [0, 1, 2, 3, 5, 7, 8, 9, 10, 11, 12, 13, 14, 15, 16, 17, 18, 19, 20, 21, 22, 23, 24, 25, 26, 27, 28, 29, 30, 31, 32, 33, 34, 35, 36, 37, 38, 39, 40, 41, 42, 43, 44, 45, 46, 47, 48, 49, 50, 51, 52, 53, 54, 55, 56, 57, 58, 59, 60, 61, 62, 63, 64, 65, 66, 67, 68, 69, 70, 71, 72, 73, 74, 75, 76, 77, 78, 79, 80, 81, 82, 83, 84, 85, 86, 87, 88, 89, 90] c43_52))))
def a43 : AFun := ⟨91, [.cell true [.int .i64, .int .i64, .int .i64, .int .i64] 4, .tmp 5], c43_0⟩
theorem ok43 : OkFun Try.prog 43 a43 := ⟨Try.f43, Try.f43.body.getD .skip, Try.func43, by kernel_rfl, by kernel_rfl, by kernel_rfl, by kernel_rfl, by kernel_rfl⟩
/-! #### diff.Where -/
def o44_1 : List AOper := [⟨some 2, .box (.tmp 0), none⟩,
  ⟨some 3, .box (.tmp 1), none⟩,
  ⟨some 4, .mv (.const (.slice none 0 0)), none⟩]
def o44_4 : List AOper := [⟨some 8, .load true [.int .i64, .int .i64, .slice] (.tmp 2), none⟩,
  ⟨some 9, .load true [.int .i64, .int .i64, .slice] (.tmp 3), none⟩,
  ⟨some 10, .call false (.func 69) [.tmp 8, .tmp 9] [(false, [.bool])] true, none⟩,
  ⟨some 11, .un .not (.tmp 10), none⟩]
def o44_7 : List AOper := [⟨some 4, .mv (.const (.slice none 0 0)), none⟩]
def o44_11 : List AOper := [⟨some 5, .alloc [.slice none 0 0], none⟩]
def o44_14 : List AOper := [⟨some 12, .load true [.int .i64, .int .i64, .slice] (.tmp 2), none⟩,
  ⟨some 13, .load true [.int .i64, .int .i64, .slice] (.tmp 3), none⟩,
  ⟨some 14, .call false (.func 70) [.tmp 12, .tmp 13] [(false, [.any])] true, none⟩]
def o44_18 : List AOper := [⟨some 6, .mv (.tmp 15), none⟩]
def o44_19 : List AOper := [⟨some 7, .alloc [.int .i64 0, .int .i64 0, .int .i64 0, .int .i64 0, .int .i64 0, .int .i64 0], none⟩,
  ⟨none, .store 6 (.tmp 7) (.tmp 16), none⟩]
def o44_22 : List AOper := [⟨some 17, .fieldAddr 0 (.tmp 7), none⟩,
  ⟨some 18, .load true [.int .i64, .int .i64, .int .i64] (.tmp 17), none⟩,
  ⟨some 19, .fieldAddr 3 (.tmp 7), none⟩,
  ⟨some 20, .load true [.int .i64, .int .i64, .int .i64] (.tmp 19), none⟩,
  ⟨some 21, .eqAgg [.int .i64, .int .i64, .int .i64] true (.tmp 18) (.tmp 20), none⟩]
def o44_24 : List AOper := [⟨some 22, .load false [.slice] (.tmp 5), none⟩,
  ⟨some 23, .mv (.tmp 6), none⟩,
  ⟨some 24, .buildSlice 1 1 [.int .i64 0] [(0, 1, .tmp 23)], none⟩,
  ⟨some 25, .append 1 8 (.tmp 22) (.tmp 24), none⟩,
  ⟨none, .store 1 (.tmp 5) (.tmp 25), none⟩]
def b44_16 : ACode := .block 1 (.seq (.ops o44_22) (.cond (.tmp 21) (.ops o44_24) (.skip)))
def o44_27 : List AOper := [⟨some 26, .load false [.slice] (.tmp 5), none⟩,
  ⟨some 4, .mv (.tmp 26), none⟩]
def c44_26 : ACode := .seq (.ops o44_27) (.ret)
def c44_0 : ACode := .seq (.ops o44_1) (.seq (.seq (.ops o44_4) (.cond (.tmp 11) (.seq (.ops o44_7) (.ret)) (.skip))) (.seq (.ops o44_11) (.seq (.seq (.ops o44_14) (.block 0 (.clear [0, 1, 2, 3, 6, 7, 8, 9, 10, 11, 12, 13, 17, 18, 19, 20, 21, 22, 23, 24, 25, 26] (.rangeFunc (.tmp 14) [15, 16] (.seq (.ops o44_18) (.ops o44_19)) b44_16)))) (.clear [0, 1, 2, 3, 4, 6, 7, 8, 9, 10, 11, 12, 13, 14, 15, 16, 17, 18, 19, 20, 21, 22, 23, 24, 25, 26] c44_26))))
def a44 : AFun := ⟨27, [.tmp 4], c44_0⟩
theorem ok44 : OkFun Try.prog 44 a44 := ⟨Try.f44, Try.f44.body.getD .skip, Try.func44, by kernel_rfl, by kernel_rfl, by kernel_rfl, by kernel_rfl, by kernel_rfl⟩
/-! #### skylightref49.Where -/
def o45_1 : List AOper := [⟨some 2, .box (.tmp 0), none⟩,
  ⟨some 3, .box (.tmp 1), none⟩,
  ⟨some 4, .mv (.const (.slice none 0 0)), none⟩]
def o45_3 : List AOper := [⟨some 5, .mv (.const (.slice none 0 0)), none⟩]
def o45_6 : List AOper := [⟨some 6, .mv (.const (.int .i64 0)), none⟩]
def o45_11 : List AOper := [⟨some 7, .mv (.tmp 6), none⟩,
  ⟨some 8, .fieldAddr 2 (.tmp 2), none⟩,
  ⟨some 9, .load false [.slice] (.tmp 8), none⟩,
  ⟨some 10, .len (.tmp 9), none⟩,
  ⟨some 11, .bin .lss (.tmp 7) (.tmp 10), none⟩,
  ⟨some 12, .mv (.tmp 11), none⟩,
  ⟨some 13, .load true [.int .i64, .int .i64, .slice] (.tmp 2), some (12, true)⟩,
  ⟨some 14, .load true [.int .i64, .int .i64, .slice] (.tmp 3), some (12, true)⟩,
  ⟨some 15, .call false (.func 53) [.tmp 13, .tmp 14] [(false, [.bool])] true, some (12, true)⟩,
  ⟨some 16, .pick (.tmp 12) (.tmp 15) (.const (.bool false)), none⟩]
def o45_18 : List (AOper × Option Nat) := [(⟨some 19, .fieldAddr 2 (.tmp 2), none⟩, none),
  (⟨some 20, .load false [.slice] (.tmp 19), none⟩, none),
  (⟨some 21, .mv (.tmp 6), none⟩, none),
  (⟨some 22, .indexAddr 3 (.tmp 20) (.tmp 21), none⟩, none),
  (⟨some 23, .load true [.int .i64, .int .i64, .int .i64] (.tmp 22), none⟩, none),
  (⟨some 24, .fieldAddr 2 (.tmp 3), none⟩, none),
  (⟨some 25, .load false [.slice] (.tmp 24), none⟩, none),
  (⟨some 26, .mv (.tmp 6), none⟩, none),
  (⟨some 27, .indexAddr 3 (.tmp 25) (.tmp 26), none⟩, none),
  (⟨some 28, .load true [.int .i64, .int .i64, .int .i64] (.tmp 27), none⟩, none),
  (⟨some 29, .eqAgg [.int .i64, .int .i64, .int .i64] true (.tmp 23) (.tmp 28), none⟩, none)]
def o45_20 : List AOper := [⟨some 30, .mv (.tmp 5), none⟩,
  ⟨some 31, .mv (.tmp 6), none⟩,
  ⟨some 32, .buildSlice 1 1 [.int .i64 0] [(0, 1, .tmp 31)], none⟩,
  ⟨some 33, .append 1 8 (.tmp 30) (.tmp 32), none⟩,
  ⟨some 5, .mv (.tmp 33), none⟩]
def o45_22 : List AOper := [⟨some 17, .mv (.tmp 6), none⟩,
  ⟨some 18, .bin .add (.tmp 17) (.const (.int .i64 1)), none⟩,
  ⟨some 6, .mv (.tmp 18), none⟩]
def c45_22 : ACode := .ops o45_22
def b45_8 : ACode := .post (.seq (.seq (.ops o45_11) (.cond (.tmp 16) (.skip) (.exit 0))) (.seq (.block 1 (.seq (.draw [] 0 o45_18 []) (.cond (.tmp 29) (.ops o45_20) (.skip)))) (.clear [0, 1, 4, 7, 8, 9, 10, 11, 12, 13, 14, 15, 16, 17, 18, 19, 20, 21, 22, 23, 24, 25, 26, 27, 28, 29, 30, 31, 32, 33, 34] c45_22))) [0, 1, 4, 7, 8, 9, 10, 11, 12, 13, 14, 15, 16, 17, 18, 19, 20, 21, 22, 23, 24, 25, 26, 27, 28, 29, 30, 31, 32, 33, 34]
def o45_24 : List AOper := [⟨some 34, .mv (.tmp 5), none⟩,
  ⟨some 4, .mv (.tmp 34), none⟩]
def c45_23 : ACode := .seq (.ops o45_24) (.ret)
def c45_0 : ACode := .seq (.ops o45_1) (.seq (.ops o45_3) (.seq (.seq (.ops o45_6) (.block 0 (.clear [0, 1, 4, 7, 8, 9, 10, 11, 12, 13, 14, 15, 16, 17, 18, 19, 20, 21, 22, 23, 24, 25, 26, 27, 28, 29, 30, 31, 32, 33, 34] (.loop b45_8)))) (.clear [0, 1, 2, 3, 4, 6, 7, 8, 9, 10, 11, 12, 13, 14, 15, 16, 17, 18, 19, 20, 21, 22, 23, 24, 25, 26, 27, 28, 29, 30, 31, 32, 33, 34] c45_23)))
def a45 : AFun := ⟨35, [.tmp 4], c45_0⟩
theorem ok45 : OkFun Try.prog 45 a45 := ⟨Try.f45, Try.f45.body.getD .skip, Try.func45, by kernel_rfl, by kernel_rfl, by kernel_rfl, by kernel_rfl, by kernel_rfl⟩
/-! #### diff.Apply -/
def o46_1 : List AOper := [⟨some 3, .box (.tmp 0), none⟩,
  ⟨some 5, .box (.tmp 2), none⟩,
  ⟨some 6, .alloc [.int .i64 0, .int .i64 0, .slice none 0 0], none⟩,
  ⟨some 7, .mv (.const (.bool false)), none⟩]
def o46_4 : List AOper := [⟨some 11, .load true [.int .i64, .int .i64, .slice] (.tmp 3), none⟩,
  ⟨some 12, .load true [.int .i64, .int .i64, .slice] (.tmp 5), none⟩,
  ⟨some 13, .call false (.func 69) [.tmp 11, .tmp 12] [(false, [.bool])] true, none⟩,
  ⟨some 14, .un .not (.tmp 13), none⟩]
def o46_7 : List AOper := [⟨some 15, .build [.int .i64 0, .int .i64 0, .slice none 0 0] [], none⟩,
  ⟨none, .store 3 (.tmp 6) (.tmp 15), none⟩,
  ⟨some 7, .mv (.const (.bool false)), none⟩]
def o46_11 : List (AOper × Option Nat) := [(⟨some 16, .fieldAddr 0 (.tmp 3), none⟩, none),
  (⟨some 17, .load false [.int .i64] (.tmp 16), none⟩, none),
  (⟨some 18, .fieldAddr 1 (.tmp 3), none⟩, none),
  (⟨some 19, .load false [.int .i64] (.tmp 18), none⟩, none),
  (⟨some 20, .fieldAddr 2 (.tmp 3), none⟩, none),
  (⟨some 21, .load false [.slice] (.tmp 20), none⟩, none),
  (⟨some 22, .call false (.func 71) [.tmp 21] [(false, [.slice])] true, none⟩, none),
  (⟨some 23, .build [.int .i64 0, .int .i64 0, .slice none 0 0] [(0, 1, .tmp 17), (1, 1, .tmp 19), (2, 1, .tmp 22)], none⟩, none),
  (⟨some 8, .nilCheck (.tmp 8), none⟩, none),
  (⟨none, .store 3 (.tmp 8) (.tmp 23), none⟩, none)]
def f46_11 : List AOper := [⟨some 8, .alloc [.int .i64 0, .int .i64 0, .slice none 0 0], none⟩]
def o46_14 : List AOper := [⟨some 24, .mv (.tmp 1), none⟩,
  ⟨some 25, .len (.tmp 24), none⟩,
  ⟨some 26, .mv (.const (.int .i64 0)), none⟩]
def o46_18 : List AOper := [⟨some 27, .bin .lss (.tmp 26) (.tmp 25), none⟩]
def o46_26 : List AOper := [⟨some 28, .indexAddr 1 (.tmp 24) (.tmp 26), none⟩,
  ⟨some 29, .load false [.int .i64] (.tmp 28), none⟩,
  ⟨some 10, .mv (.tmp 29), none⟩]
def o46_28 : List AOper := [⟨some 30, .mv (.tmp 10), none⟩,
  ⟨some 31, .bin .geq (.tmp 30) (.const (.int .i64 0)), none⟩,
  ⟨some 32, .mv (.tmp 31), none⟩,
  ⟨some 33, .mv (.tmp 10), some (32, true)⟩,
  ⟨some 34, .fieldAddr 2 (.tmp 5), some (32, true)⟩,
  ⟨some 35, .load false [.slice] (.tmp 34), some (32, true)⟩,
  ⟨some 36, .len (.tmp 35), some (32, true)⟩,
  ⟨some 37, .bin .lss (.tmp 33) (.tmp 36), some (32, true)⟩,
  ⟨some 38, .pick (.tmp 32) (.tmp 37) (.const (.bool false)), none⟩]
def o46_30 : List (AOper × Option Nat) := [(⟨some 39, .fieldAddr 2 (.tmp 8), none⟩, none),
  (⟨some 40, .load false [.slice] (.tmp 39), none⟩, none),
  (⟨some 41, .mv (.tmp 10), none⟩, none),
  (⟨some 42, .fieldAddr 2 (.tmp 5), none⟩, none),
  (⟨some 43, .load false [.slice] (.tmp 42), none⟩, none),
  (⟨some 44, .mv (.tmp 10), none⟩, none),
  (⟨some 45, .indexAddr 3 (.tmp 43) (.tmp 44), none⟩, none),
  (⟨some 46, .load true [.int .i64, .int .i64, .int .i64] (.tmp 45), none⟩, none),
  (⟨some 47, .indexAddr 3 (.tmp 40) (.tmp 41), none⟩, none),
  (⟨none, .store 3 (.tmp 47) (.tmp 46), none⟩, none)]
def o46_32 : List AOper := [⟨some 48, .bin .add (.tmp 26) (.const (.int .i64 1)), none⟩,
  ⟨some 26, .mv (.tmp 48), none⟩]
def c46_32 : ACode := .ops o46_32
def b46_16 : ACode := .post (.seq (.ops o46_18) (.seq (.cond (.tmp 27) (.skip) (.exit 0)) (.seq (.block 1 (.seq (.ops o46_26) (.seq (.ops o46_28) (.cond (.tmp 38) (.draw [] 0 o46_30 []) (.skip))))) (.clear [0, 1, 2, 3, 4, 7, 9, 10, 11, 12, 13, 14, 15, 16, 17, 18, 19, 20, 21, 22, 23, 27, 28, 29, 30, 31, 32, 33, 34, 35, 36, 37, 38, 39, 40, 41, 42, 43, 44, 45, 46, 47, 48, 49] c46_32)))) [0, 1, 2, 3, 4, 7, 9, 10, 11, 12, 13, 14, 15, 16, 17, 18, 19, 20, 21, 22, 23, 27, 28, 29, 30, 31, 32, 33, 34, 35, 36, 37, 38, 39, 40, 41, 42, 43, 44, 45, 46, 47, 48, 49]
def o46_34 : List AOper := [⟨some 49, .load true [.int .i64, .int .i64, .slice] (.tmp 8), none⟩,
  ⟨none, .store 3 (.tmp 6) (.tmp 49), none⟩,
  ⟨some 7, .mv (.const (.bool true)), none⟩]
def c46_33 : ACode := .seq (.ops o46_34) (.ret)
def c46_0 : ACode := .seq (.ops o46_1) (.seq (.seq (.ops o46_4) (.cond (.tmp 14) (.seq (.ops o46_7) (.ret)) (.skip))) (.seq (.draw f46_11 0 o46_11 [(1, 6), (3, 6), (8, 6)]) (.seq (.seq (.ops o46_14) (.block 0 (.clear [0, 1, 2, 3, 4, 7, 9, 10, 11, 12, 13, 14, 15, 16, 17, 18, 19, 20, 21, 22, 23, 27, 28, 29, 30, 31, 32, 33, 34, 35, 36, 37, 38, 39, 40, 41, 42, 43, 44, 45, 46, 47, 48, 49] (.loop b46_16)))) (.clear [0, 1, 2, 3, 4, 5, 7, 9, 10, 11, 12, 13, 14, 15, 16, 17, 18, 19, 20, 21, 22, 23, 24, 25, 26, 27, 28, 29, 30, 31, 32, 33, 34, 35, 36, 37, 38, 39, 40, 41, 42, 43, 44, 45, 46, 47, 48, 49] c46_33))))
def a46 : AFun := ⟨50, [.cell true [.int .i64, .int .i64, .slice] 6, .tmp 7], c46_0⟩
theorem ok46 : OkFun Try.prog 46 a46 := ⟨Try.f46, Try.f46.body.getD .skip, Try.func46, by kernel_rfl, by kernel_rfl, by kernel_rfl, by kernel_rfl, by kernel_rfl⟩
/-! #### skylightref49.Apply -/
def o47_1 : List AOper := [⟨some 3, .box (.tmp 0), none⟩,
  ⟨some 5, .box (.tmp 2), none⟩,
  ⟨some 6, .alloc [.int .i64 0, .int .i64 0, .slice none 0 0], none⟩,
  ⟨some 7, .mv (.const (.bool false)), none⟩]
def o47_4 : List AOper := [⟨some 12, .load true [.int .i64, .int .i64, .slice] (.tmp 3), none⟩,
  ⟨some 13, .load true [.int .i64, .int .i64, .slice] (.tmp 5), none⟩,
  ⟨some 14, .call false (.func 53) [.tmp 12, .tmp 13] [(false, [.bool])] true, none⟩,
  ⟨some 15, .un .not (.tmp 14), none⟩]
def o47_7 : List AOper := [⟨some 16, .build [.int .i64 0, .int .i64 0, .slice none 0 0] [], none⟩,
  ⟨none, .store 3 (.tmp 6) (.tmp 16), none⟩,
  ⟨some 7, .mv (.const (.bool false)), none⟩]
def o47_11 : List AOper := [⟨some 17, .fieldAddr 0 (.tmp 3), none⟩,
  ⟨some 18, .load false [.int .i64] (.tmp 17), none⟩,
  ⟨some 19, .fieldAddr 1 (.tmp 3), none⟩,
  ⟨some 20, .load false [.int .i64] (.tmp 19), none⟩,
  ⟨some 21, .build [.int .i64 0, .int .i64 0, .slice none 0 0] [(0, 1, .tmp 18), (1, 1, .tmp 20)], none⟩,
  ⟨some 8, .alloc [.int .i64 0, .int .i64 0, .slice none 0 0], none⟩,
  ⟨none, .store 3 (.tmp 8) (.tmp 21), none⟩]
def o47_14 : List AOper := [⟨some 9, .mv (.const (.int .i64 0)), none⟩]
def o47_19 : List AOper := [⟨some 22, .mv (.tmp 9), none⟩,
  ⟨some 23, .fieldAddr 2 (.tmp 3), none⟩,
  ⟨some 24, .load false [.slice] (.tmp 23), none⟩,
  ⟨some 25, .len (.tmp 24), none⟩,
  ⟨some 26, .bin .lss (.tmp 22) (.tmp 25), none⟩]
def o47_26 : List AOper := [⟨some 29, .fieldAddr 2 (.tmp 3), none⟩,
  ⟨some 30, .load false [.slice] (.tmp 29), none⟩,
  ⟨some 31, .mv (.tmp 9), none⟩,
  ⟨some 32, .indexAddr 3 (.tmp 30) (.tmp 31), none⟩,
  ⟨some 33, .load true [.int .i64, .int .i64, .int .i64] (.tmp 32), none⟩,
  ⟨some 10, .alloc [.int .i64 0, .int .i64 0, .int .i64 0], none⟩,
  ⟨none, .store 3 (.tmp 10) (.tmp 33), none⟩]
def o47_29 : List AOper := [⟨some 11, .mv (.const (.int .i64 0)), none⟩]
def o47_34 : List AOper := [⟨some 34, .mv (.tmp 11), none⟩,
  ⟨some 35, .mv (.tmp 1), none⟩,
  ⟨some 36, .len (.tmp 35), none⟩,
  ⟨some 37, .bin .lss (.tmp 34) (.tmp 36), none⟩]
def o47_41 : List AOper := [⟨some 40, .mv (.tmp 1), none⟩,
  ⟨some 41, .mv (.tmp 11), none⟩,
  ⟨some 42, .indexAddr 1 (.tmp 40) (.tmp 41), none⟩,
  ⟨some 43, .load false [.int .i64] (.tmp 42), none⟩,
  ⟨some 44, .mv (.tmp 9), none⟩,
  ⟨some 45, .bin .eql (.tmp 43) (.tmp 44), none⟩]
def o47_43 : List AOper := [⟨some 46, .fieldAddr 2 (.tmp 5), none⟩,
  ⟨some 47, .load false [.slice] (.tmp 46), none⟩,
  ⟨some 48, .mv (.tmp 9), none⟩,
  ⟨some 49, .indexAddr 3 (.tmp 47) (.tmp 48), none⟩,
  ⟨some 50, .load true [.int .i64, .int .i64, .int .i64] (.tmp 49), none⟩,
  ⟨none, .store 3 (.tmp 10) (.tmp 50), none⟩]
def o47_45 : List AOper := [⟨some 38, .mv (.tmp 11), none⟩,
  ⟨some 39, .bin .add (.tmp 38) (.const (.int .i64 1)), none⟩,
  ⟨some 11, .mv (.tmp 39), none⟩]
def c47_45 : ACode := .ops o47_45
def b47_31 : ACode := .post (.seq (.seq (.ops o47_34) (.cond (.tmp 37) (.skip) (.exit 2))) (.seq (.block 3 (.seq (.ops o47_41) (.cond (.tmp 45) (.ops o47_43) (.skip)))) (.clear [0, 2, 4, 7, 12, 13, 14, 15, 16, 17, 18, 19, 20, 21, 22, 23, 24, 25, 26, 27, 28, 29, 30, 31, 32, 33, 34, 35, 36, 37, 38, 39, 40, 41, 42, 43, 44, 45, 46, 47, 48, 49, 50, 51, 52, 53, 54, 55, 56, 57] c47_45))) [0, 2, 4, 7, 12, 13, 14, 15, 16, 17, 18, 19, 20, 21, 22, 23, 24, 25, 26, 27, 28, 29, 30, 31, 32, 33, 34, 35, 36, 37, 38, 39, 40, 41, 42, 43, 44, 45, 46, 47, 48, 49, 50, 51, 52, 53, 54, 55, 56, 57]
def o47_46 : List AOper := [⟨some 51, .fieldAddr 2 (.tmp 8), none⟩,
  ⟨some 52, .load false [.slice] (.tmp 51), none⟩,
  ⟨some 53, .load true [.int .i64, .int .i64, .int .i64] (.tmp 10), none⟩,
  ⟨some 54, .buildSlice 3 1 [.int .i64 0, .int .i64 0, .int .i64 0] [(0, 3, .tmp 53)], none⟩,
  ⟨some 55, .append 3 24 (.tmp 52) (.tmp 54), none⟩,
  ⟨some 56, .fieldAddr 2 (.tmp 8), none⟩,
  ⟨none, .store 1 (.tmp 56) (.tmp 55), none⟩]
def c47_46 : ACode := .ops o47_46
def o47_47 : List AOper := [⟨some 27, .mv (.tmp 9), none⟩,
  ⟨some 28, .bin .add (.tmp 27) (.const (.int .i64 1)), none⟩,
  ⟨some 9, .mv (.tmp 28), none⟩]
def c47_47 : ACode := .ops o47_47
def b47_16 : ACode := .post (.seq (.seq (.ops o47_19) (.cond (.tmp 26) (.skip) (.exit 0))) (.seq (.block 1 (.seq (.ops o47_26) (.seq (.seq (.ops o47_29) (.block 2 (.clear [0, 2, 4, 7, 12, 13, 14, 15, 16, 17, 18, 19, 20, 21, 22, 23, 24, 25, 26, 27, 28, 29, 30, 31, 32, 33, 34, 35, 36, 37, 38, 39, 40, 41, 42, 43, 44, 45, 46, 47, 48, 49, 50, 51, 52, 53, 54, 55, 56, 57] (.loop b47_31)))) (.clear [0, 2, 4, 7, 11, 12, 13, 14, 15, 16, 17, 18, 19, 20, 21, 22, 23, 24, 25, 26, 27, 28, 29, 30, 31, 32, 33, 34, 35, 36, 37, 38, 39, 40, 41, 42, 43, 44, 45, 46, 47, 48, 49, 50, 51, 52, 53, 54, 55, 56, 57] c47_46)))) (.clear [0, 2, 4, 7, 10, 11, 12, 13, 14, 15, 16, 17, 18, 19, 20, 21, 22, 23, 24, 25, 26, 27, 28, 29, 30, 31, 32, 33, 34, 35, 36, 37, 38, 39, 40, 41, 42, 43, 44, 45, 46, 47, 48, 49, 50, 51, 52, 53, 54, 55, 56, 57] c47_47))) [0, 2, 4, 7, 10, 11, 12, 13, 14, 15, 16, 17, 18, 19, 20, 21, 22, 23, 24, 25, 26, 27, 28, 29, 30, 31, 32, 33, 34, 35, 36, 37, 38, 39, 40, 41, 42, 43, 44, 45, 46, 47, 48, 49, 50, 51, 52, 53, 54, 55, 56, 57]
def o47_49 : List AOper := [⟨some 57, .load true [.int .i64, .int .i64, .slice] (.tmp 8), none⟩,
  ⟨none, .store 3 (.tmp 6) (.tmp 57), none⟩,
  ⟨some 7, .mv (.const (.bool true)), none⟩]
def c47_48 : ACode := .seq (.ops o47_49) (.ret)
def c47_0 : ACode := .seq (.ops o47_1) (.seq (.seq (.ops o47_4) (.cond (.tmp 15) (.seq (.ops o47_7) (.ret)) (.skip))) (.seq (.ops o47_11) (.seq (.seq (.ops o47_14) (.block 0 (.clear [0, 2, 4, 7, 10, 11, 12, 13, 14, 15, 16, 17, 18, 19, 20, 21, 22, 23, 24, 25, 26, 27, 28, 29, 30, 31, 32, 33, 34, 35, 36, 37, 38, 39, 40, 41, 42, 43, 44, 45, 46, 47, 48, 49, 50, 51, 52, 53, 54, 55, 56, 57] (.loop b47_16)))) (.clear [0, 1, 2, 3, 4, 5, 7, 9, 10, 11, 12, 13, 14, 15, 16, 17, 18, 19, 20, 21, 22, 23, 24, 25, 26, 27, 28, 29, 30, 31, 32, 33, 34, 35, 36, 37, 38, 39, 40, 41, 42, 43, 44, 45, 46, 47, 48, 49, 50, 51, 52, 53, 54, 55, 56, 57] c47_48))))
def a47 : AFun := ⟨58, [.cell true [.int .i64, .int .i64, .slice] 6, .tmp 7], c47_0⟩
theorem ok47 : OkFun Try.prog 47 a47 := ⟨Try.f47, Try.f47.body.getD .skip, Try.func47, by kernel_rfl, by kernel_rfl, by kernel_rfl, by kernel_rfl, by kernel_rfl⟩
/-! #### diff.Mix -/
def o48_1 : List AOper := [⟨some 3, .box (.tmp 0), none⟩,
  ⟨some 4, .box (.tmp 1), none⟩,
  ⟨some 5, .box (.tmp 2), none⟩,
  ⟨some 6, .alloc [.int .i64 0, .int .i64 0, .slice none 0 0], none⟩,
  ⟨some 7, .mv (.const (.bool false)), none⟩]
def o48_4 : List AOper := [⟨some 13, .load true [.int .i64, .int .i64, .slice] (.tmp 3), none⟩,
  ⟨some 14, .load true [.int .i64, .int .i64, .slice] (.tmp 4), none⟩,
  ⟨some 15, .call false (.func 69) [.tmp 13, .tmp 14] [(false, [.bool])] true, none⟩,
  ⟨some 16, .un .not (.tmp 15), none⟩,
  ⟨some 17, .mv (.tmp 16), none⟩,
  ⟨some 18, .load false [.int .i64] (.tmp 5), some (17, false)⟩,
  ⟨some 19, .bin .lss (.tmp 18) (.const (.int .i64 0)), some (17, false)⟩,
  ⟨some 20, .pick (.tmp 17) (.const (.bool true)) (.tmp 19), none⟩,
  ⟨some 21, .mv (.tmp 20), none⟩,
  ⟨some 22, .load false [.int .i64] (.tmp 5), some (21, false)⟩,
  ⟨some 23, .bin .gtr (.tmp 22) (.const (.int .i64 1000)), some (21, false)⟩,
  ⟨some 24, .pick (.tmp 21) (.const (.bool true)) (.tmp 23), none⟩]
def o48_7 : List AOper := [⟨some 25, .build [.int .i64 0, .int .i64 0, .slice none 0 0] [], none⟩,
  ⟨none, .store 3 (.tmp 6) (.tmp 25), none⟩,
  ⟨some 7, .mv (.const (.bool false)), none⟩]
def o48_11 : List (AOper × Option Nat) := [(⟨some 26, .fieldAddr 0 (.tmp 3), none⟩, none),
  (⟨some 27, .load false [.int .i64] (.tmp 26), none⟩, none),
  (⟨some 28, .fieldAddr 1 (.tmp 3), none⟩, none),
  (⟨some 29, .load false [.int .i64] (.tmp 28), none⟩, none),
  (⟨some 30, .fieldAddr 2 (.tmp 3), none⟩, none),
  (⟨some 31, .load false [.slice] (.tmp 30), none⟩, none),
  (⟨some 32, .len (.tmp 31), none⟩, none),
  (⟨some 33, .makeSlice 3 24 [.int .i64 0, .int .i64 0, .int .i64 0] (.tmp 32) (.tmp 32), none⟩, none),
  (⟨some 34, .build [.int .i64 0, .int .i64 0, .slice none 0 0] [(0, 1, .tmp 27), (1, 1, .tmp 29), (2, 1, .tmp 33)], none⟩, none),
  (⟨some 8, .nilCheck (.tmp 8), none⟩, none),
  (⟨none, .store 3 (.tmp 8) (.tmp 34), none⟩, none)]
def f48_11 : List AOper := [⟨some 8, .alloc [.int .i64 0, .int .i64 0, .slice none 0 0], none⟩]
def o48_14 : List AOper := [⟨some 35, .load true [.int .i64, .int .i64, .slice] (.tmp 3), none⟩,
  ⟨some 36, .load true [.int .i64, .int .i64, .slice] (.tmp 4), none⟩,
  ⟨some 37, .call false (.func 70) [.tmp 35, .tmp 36] [(false, [.any])] true, none⟩]
def o48_18 : List AOper := [⟨some 9, .mv (.tmp 38), none⟩]
def o48_19 : List AOper := [⟨some 10, .alloc [.int .i64 0, .int .i64 0, .int .i64 0, .int .i64 0, .int .i64 0, .int .i64 0], none⟩,
  ⟨none, .store 6 (.tmp 10) (.tmp 39), none⟩]
def o48_22 : List AOper := [⟨some 40, .fieldAddr 0 (.tmp 10), none⟩,
  ⟨some 41, .load true [.int .i64, .int .i64, .int .i64] (.tmp 40), none⟩,
  ⟨some 42, .mv (.const (.int .i64 0)), none⟩]
def o48_26 : List AOper := [⟨some 43, .bin .lss (.tmp 42) (.const (.int .i64 3)), none⟩]
def o48_34 : List AOper := [⟨some 44, .mv (.tmp 42), none⟩,
  ⟨some 45, .index false 3 1 (.tmp 41) (.tmp 42), none⟩,
  ⟨some 11, .mv (.tmp 44), none⟩,
  ⟨some 12, .mv (.tmp 45), none⟩]
def o48_35 : List (AOper × Option Nat) := [(⟨some 46, .fieldAddr 2 (.tmp 8), none⟩, none),
  (⟨some 47, .load false [.slice] (.tmp 46), none⟩, none),
  (⟨some 48, .mv (.tmp 9), none⟩, none),
  (⟨some 49, .mv (.tmp 11), none⟩, none),
  (⟨some 50, .mv (.tmp 12), none⟩, none),
  (⟨some 51, .load false [.int .i64] (.tmp 5), none⟩, none),
  (⟨some 52, .bin .sub (.const (.int .i64 1000)) (.tmp 51), none⟩, none),
  (⟨some 53, .bin .mul (.tmp 50) (.tmp 52), none⟩, none),
  (⟨some 54, .mv (.tmp 11), none⟩, none),
  (⟨some 55, .fieldAddr 3 (.tmp 10), none⟩, none),
  (⟨some 56, .indexArr 3 1 (.tmp 55) (.tmp 54), none⟩, none),
  (⟨some 57, .load false [.int .i64] (.tmp 56), none⟩, none),
  (⟨some 58, .load false [.int .i64] (.tmp 5), none⟩, none),
  (⟨some 59, .bin .mul (.tmp 57) (.tmp 58), none⟩, none),
  (⟨some 60, .bin .add (.tmp 53) (.tmp 59), none⟩, none),
  (⟨some 61, .bin .quo (.tmp 60) (.const (.int .i64 1000)), none⟩, none),
  (⟨some 62, .indexAddr 3 (.tmp 47) (.tmp 48), none⟩, none),
  (⟨some 63, .indexArr 3 1 (.tmp 62) (.tmp 49), none⟩, none),
  (⟨none, .store 1 (.tmp 63) (.tmp 61), none⟩, none)]
def o48_36 : List AOper := [⟨some 64, .bin .add (.tmp 42) (.const (.int .i64 1)), none⟩,
  ⟨some 42, .mv (.tmp 64), none⟩]
def c48_36 : ACode := .ops o48_36
def b48_24 : ACode := .post (.seq (.ops o48_26) (.seq (.cond (.tmp 43) (.skip) (.exit 2)) (.seq (.block 3 (.seq (.ops o48_34) (.draw [] 0 o48_35 []))) (.clear [0, 1, 2, 3, 4, 6, 7, 11, 12, 13, 14, 15, 16, 17, 18, 19, 20, 21, 22, 23, 24, 25, 26, 27, 28, 29, 30, 31, 32, 33, 34, 35, 36, 37, 38, 39, 40, 43, 44, 45, 46, 47, 48, 49, 50, 51, 52, 53, 54, 55, 56, 57, 58, 59, 60, 61, 62, 63, 64, 65] c48_36)))) [0, 1, 2, 3, 4, 6, 7, 11, 12, 13, 14, 15, 16, 17, 18, 19, 20, 21, 22, 23, 24, 25, 26, 27, 28, 29, 30, 31, 32, 33, 34, 35, 36, 37, 38, 39, 40, 43, 44, 45, 46, 47, 48, 49, 50, 51, 52, 53, 54, 55, 56, 57, 58, 59, 60, 61, 62, 63, 64, 65]
def b48_16 : ACode := .block 1 (.seq (.ops o48_22) (.block 2 (.clear [0, 1, 2, 3, 4, 6, 7, 11, 12, 13, 14, 15, 16, 17, 18, 19, 20, 21, 22, 23, 24, 25, 26, 27, 28, 29, 30, 31, 32, 33, 34, 35, 36, 37, 38, 39, 40, 43, 44, 45, 46, 47, 48, 49, 50, 51, 52, 53, 54, 55, 56, 57, 58, 59, 60, 61, 62, 63, 64, 65] (.loop b48_24))))
def o48_38 : List AOper := [⟨some 65, .load true [.int .i64, .int .i64, .slice] (.tmp 8), none⟩,
  ⟨none, .store 3 (.tmp 6) (.tmp 65), none⟩,
  ⟨some 7, .mv (.const (.bool true)), none⟩]
def c48_37 : ACode := .seq (.ops o48_38) (.ret)
def c48_0 : ACode := .seq (.ops o48_1) (.seq (.seq (.ops o48_4) (.cond (.tmp 24) (.seq (.ops o48_7) (.ret)) (.skip))) (.seq (.draw f48_11 0 o48_11 [(1, 7), (3, 7), (9, 7)]) (.seq (.seq (.ops o48_14) (.block 0 (.clear [0, 1, 2, 3, 4, 9, 10, 11, 12, 13, 14, 15, 16, 17, 18, 19, 20, 21, 22, 23, 24, 25, 26, 27, 28, 29, 30, 31, 32, 33, 34, 35, 36, 40, 41, 42, 43, 44, 45, 46, 47, 48, 49, 50, 51, 52, 53, 54, 55, 56, 57, 58, 59, 60, 61, 62, 63, 64, 65] (.rangeFunc (.tmp 37) [38, 39] (.seq (.ops o48_18) (.ops o48_19)) b48_16)))) (.clear [0, 1, 2, 3, 4, 5, 7, 9, 10, 11, 12, 13, 14, 15, 16, 17, 18, 19, 20, 21, 22, 23, 24, 25, 26, 27, 28, 29, 30, 31, 32, 33, 34, 35, 36, 37, 38, 39, 40, 41, 42, 43, 44, 45, 46, 47, 48, 49, 50, 51, 52, 53, 54, 55, 56, 57, 58, 59, 60, 61, 62, 63, 64, 65] c48_37))))
def a48 : AFun := ⟨66, [.cell true [.int .i64, .int .i64, .slice] 6, .tmp 7], c48_0⟩
theorem ok48 : OkFun Try.prog 48 a48 := ⟨Try.f48, Try.f48.body.getD .skip, Try.func48, by kernel_rfl, by kernel_rfl, by kernel_rfl, by kernel_rfl, by kernel_rfl⟩
/-! #### skylightref49.Mix -/
def o49_1 : List AOper := [⟨some 3, .box (.tmp 0), none⟩,
  ⟨some 4, .box (.tmp 1), none⟩,
  ⟨some 6, .alloc [.int .i64 0, .int .i64 0, .slice none 0 0], none⟩,
  ⟨some 7, .mv (.const (.bool false)), none⟩]
def o49_4 : List AOper := [⟨some 12, .load true [.int .i64, .int .i64, .slice] (.tmp 3), none⟩,
  ⟨some 13, .load true [.int .i64, .int .i64, .slice] (.tmp 4), none⟩,
  ⟨some 14, .call false (.func 53) [.tmp 12, .tmp 13] [(false, [.bool])] true, none⟩,
  ⟨some 15, .un .not (.tmp 14), none⟩,
  ⟨some 16, .mv (.tmp 15), none⟩,
  ⟨some 17, .mv (.tmp 2), some (16, false)⟩,
  ⟨some 18, .bin .lss (.tmp 17) (.const (.int .i64 0)), some (16, false)⟩,
  ⟨some 19, .pick (.tmp 16) (.const (.bool true)) (.tmp 18), none⟩,
  ⟨some 20, .mv (.tmp 19), none⟩,
  ⟨some 21, .mv (.tmp 2), some (20, false)⟩,
  ⟨some 22, .bin .gtr (.tmp 21) (.const (.int .i64 1000)), some (20, false)⟩,
  ⟨some 23, .pick (.tmp 20) (.const (.bool true)) (.tmp 22), none⟩]
def o49_7 : List AOper := [⟨some 24, .build [.int .i64 0, .int .i64 0, .slice none 0 0] [], none⟩,
  ⟨none, .store 3 (.tmp 6) (.tmp 24), none⟩,
  ⟨some 7, .mv (.const (.bool false)), none⟩]
def o49_11 : List AOper := [⟨some 25, .fieldAddr 0 (.tmp 3), none⟩,
  ⟨some 26, .load false [.int .i64] (.tmp 25), none⟩,
  ⟨some 27, .fieldAddr 1 (.tmp 3), none⟩,
  ⟨some 28, .load false [.int .i64] (.tmp 27), none⟩,
  ⟨some 29, .build [.int .i64 0, .int .i64 0, .slice none 0 0] [(0, 1, .tmp 26), (1, 1, .tmp 28)], none⟩,
  ⟨some 8, .alloc [.int .i64 0, .int .i64 0, .slice none 0 0], none⟩,
  ⟨none, .store 3 (.tmp 8) (.tmp 29), none⟩]
def o49_14 : List AOper := [⟨some 9, .mv (.const (.int .i64 0)), none⟩]
def o49_19 : List AOper := [⟨some 30, .mv (.tmp 9), none⟩,
  ⟨some 31, .fieldAddr 2 (.tmp 3), none⟩,
  ⟨some 32, .load false [.slice] (.tmp 31), none⟩,
  ⟨some 33, .len (.tmp 32), none⟩,
  ⟨some 34, .bin .lss (.tmp 30) (.tmp 33), none⟩]
def o49_26 : List AOper := [⟨some 10, .alloc [.int .i64 0, .int .i64 0, .int .i64 0], none⟩]
def o49_29 : List AOper := [⟨some 11, .mv (.const (.int .i64 0)), none⟩]
def o49_34 : List AOper := [⟨some 37, .mv (.tmp 11), none⟩,
  ⟨some 38, .bin .lss (.tmp 37) (.const (.int .i64 3)), none⟩]
def o49_40 : List (AOper × Option Nat) := [(⟨some 41, .mv (.tmp 11), none⟩, none),
  (⟨some 42, .fieldAddr 2 (.tmp 3), none⟩, none),
  (⟨some 43, .load false [.slice] (.tmp 42), none⟩, none),
  (⟨some 44, .mv (.tmp 9), none⟩, none),
  (⟨some 45, .mv (.tmp 11), none⟩, none),
  (⟨some 46, .indexAddr 3 (.tmp 43) (.tmp 44), none⟩, none),
  (⟨some 47, .indexArr 3 1 (.tmp 46) (.tmp 45), none⟩, none),
  (⟨some 48, .load false [.int .i64] (.tmp 47), none⟩, none),
  (⟨some 49, .mv (.tmp 2), none⟩, none),
  (⟨some 50, .bin .sub (.const (.int .i64 1000)) (.tmp 49), none⟩, none),
  (⟨some 51, .bin .mul (.tmp 48) (.tmp 50), none⟩, none),
  (⟨some 52, .fieldAddr 2 (.tmp 4), none⟩, none),
  (⟨some 53, .load false [.slice] (.tmp 52), none⟩, none),
  (⟨some 54, .mv (.tmp 9), none⟩, none),
  (⟨some 55, .mv (.tmp 11), none⟩, none),
  (⟨some 56, .indexAddr 3 (.tmp 53) (.tmp 54), none⟩, none),
  (⟨some 57, .indexArr 3 1 (.tmp 56) (.tmp 55), none⟩, none),
  (⟨some 58, .load false [.int .i64] (.tmp 57), none⟩, none),
  (⟨some 59, .mv (.tmp 2), none⟩, none),
  (⟨some 60, .bin .mul (.tmp 58) (.tmp 59), none⟩, none),
  (⟨some 61, .bin .add (.tmp 51) (.tmp 60), none⟩, none),
  (⟨some 62, .call true (.func 68) [.tmp 61, .const (.int .i64 1000)] [(false, [.int .i64])] true, none⟩, none),
  (⟨some 63, .indexArr 3 1 (.tmp 10) (.tmp 41), none⟩, none),
  (⟨none, .store 1 (.tmp 63) (.tmp 62), none⟩, none)]
def o49_41 : List AOper := [⟨some 39, .mv (.tmp 11), none⟩,
  ⟨some 40, .bin .add (.tmp 39) (.const (.int .i64 1)), none⟩,
  ⟨some 11, .mv (.tmp 40), none⟩]
def c49_41 : ACode := .ops o49_41
def b49_31 : ACode := .post (.seq (.seq (.ops o49_34) (.cond (.tmp 38) (.skip) (.exit 2))) (.seq (.block 3 (.draw [] 0 o49_40 [])) (.clear [0, 1, 5, 7, 12, 13, 14, 15, 16, 17, 18, 19, 20, 21, 22, 23, 24, 25, 26, 27, 28, 29, 30, 31, 32, 33, 34, 35, 36, 37, 38, 39, 40, 41, 42, 43, 44, 45, 46, 47, 48, 49, 50, 51, 52, 53, 54, 55, 56, 57, 58, 59, 60, 61, 62, 63, 64, 65, 66, 67, 68, 69, 70] c49_41))) [0, 1, 5, 7, 12, 13, 14, 15, 16, 17, 18, 19, 20, 21, 22, 23, 24, 25, 26, 27, 28, 29, 30, 31, 32, 33, 34, 35, 36, 37, 38, 39, 40, 41, 42, 43, 44, 45, 46, 47, 48, 49, 50, 51, 52, 53, 54, 55, 56, 57, 58, 59, 60, 61, 62, 63, 64, 65, 66, 67, 68, 69, 70]
def o49_42 : List AOper := [⟨some 64, .fieldAddr 2 (.tmp 8), none⟩,
  ⟨some 65, .load false [.slice] (.tmp 64), none⟩,
  ⟨some 66, .load true [.int .i64, .int .i64, .int .i64] (.tmp 10), none⟩,
  ⟨some 67, .buildSlice 3 1 [.int .i64 0, .int .i64 0, .int .i64 0] [(0, 3, .tmp 66)], none⟩,
  ⟨some 68, .append 3 24 (.tmp 65) (.tmp 67), none⟩,
  ⟨some 69, .fieldAddr 2 (.tmp 8), none⟩,
  ⟨none, .store 1 (.tmp 69) (.tmp 68), none⟩]
def c49_42 : ACode := .ops o49_42
def o49_43 : List AOper := [⟨some 35, .mv (.tmp 9), none⟩,
  ⟨some 36, .bin .add (.tmp 35) (.const (.int .i64 1)), none⟩,
  ⟨some 9, .mv (.tmp 36), none⟩]
def c49_43 : ACode := .ops o49_43
def b49_16 : ACode := .post (.seq (.seq (.ops o49_19) (.cond (.tmp 34) (.skip) (.exit 0))) (.seq (.block 1 (.seq (.ops o49_26) (.seq (.seq (.ops o49_29) (.block 2 (.clear [0, 1, 5, 7, 12, 13, 14, 15, 16, 17, 18, 19, 20, 21, 22, 23, 24, 25, 26, 27, 28, 29, 30, 31, 32, 33, 34, 35, 36, 37, 38, 39, 40, 41, 42, 43, 44, 45, 46, 47, 48, 49, 50, 51, 52, 53, 54, 55, 56, 57, 58, 59, 60, 61, 62, 63, 64, 65, 66, 67, 68, 69, 70] (.loop b49_31)))) (.clear [0, 1, 5, 7, 11, 12, 13, 14, 15, 16, 17, 18, 19, 20, 21, 22, 23, 24, 25, 26, 27, 28, 29, 30, 31, 32, 33, 34, 35, 36, 37, 38, 39, 40, 41, 42, 43, 44, 45, 46, 47, 48, 49, 50, 51, 52, 53, 54, 55, 56, 57, 58, 59, 60, 61, 62, 63, 64, 65, 66, 67, 68, 69, 70] c49_42)))) (.clear [0, 1, 5, 7, 10, 11, 12, 13, 14, 15, 16, 17, 18, 19, 20, 21, 22, 23, 24, 25, 26, 27, 28, 29, 30, 31, 32, 33, 34, 35, 36, 37, 38, 39, 40, 41, 42, 43, 44, 45, 46, 47, 48, 49, 50, 51, 52, 53, 54, 55, 56, 57, 58, 59, 60, 61, 62, 63, 64, 65, 66, 67, 68, 69, 70] c49_43))) [0, 1, 5, 7, 10, 11, 12, 13, 14, 15, 16, 17, 18, 19, 20, 21, 22, 23, 24, 25, 26, 27, 28, 29, 30, 31, 32, 33, 34, 35, 36, 37, 38, 39, 40, 41, 42, 43, 44, 45, 46, 47, 48, 49, 50, 51, 52, 53, 54, 55, 56, 57, 58, 59, 60, 61, 62, 63, 64, 65, 66, 67, 68, 69, 70]
def o49_45 : List AOper := [⟨some 70, .load true [.int .i64, .int .i64, .slice] (.tmp 8), none⟩,
  ⟨none, .store 3 (.tmp 6) (.tmp 70), none⟩,
  ⟨some 7, .mv (.const (.bool true)), none⟩]
def c49_44 : ACode := .seq (.ops o49_45) (.ret)
def c49_0 : ACode := .seq (.ops o49_1) (.seq (.seq (.ops o49_4) (.cond (.tmp 23) (.seq (.ops o49_7) (.ret)) (.skip))) (.seq (.ops o49_11) (.seq (.seq (.ops o49_14) (.block 0 (.clear [0, 1, 5, 7, 10, 11, 12, 13, 14, 15, 16, 17, 18, 19, 20, 21, 22, 23, 24, 25, 26, 27, 28, 29, 30, 31, 32, 33, 34, 35, 36, 37, 38, 39, 40, 41, 42, 43, 44, 45, 46, 47, 48, 49, 50, 51, 52, 53, 54, 55, 56, 57, 58, 59, 60, 61, 62, 63, 64, 65, 66, 67, 68, 69, 70] (.loop b49_16)))) (.clear [0, 1, 2, 3, 4, 5, 7, 9, 10, 11, 12, 13, 14, 15, 16, 17, 18, 19, 20, 21, 22, 23, 24, 25, 26, 27, 28, 29, 30, 31, 32, 33, 34, 35, 36, 37, 38, 39, 40, 41, 42, 43, 44, 45, 46, 47, 48, 49, 50, 51, 52, 53, 54, 55, 56, 57, 58, 59, 60, 61, 62, 63, 64, 65, 66, 67, 68, 69, 70] c49_44))))
def a49 : AFun := ⟨71, [.cell true [.int .i64, .int .i64, .slice] 6, .tmp 7], c49_0⟩
theorem ok49 : OkFun Try.prog 49 a49 := ⟨Try.f49, Try.f49.body.getD .skip, Try.func49, by kernel_rfl, by kernel_rfl, by kernel_rfl, by kernel_rfl, by kernel_rfl⟩
/-! #### skylightlaw49.back -/
def o50_1 : List AOper := [⟨some 1, .box (.tmp 0), none⟩,
  ⟨some 2, .alloc [.int .i64 0, .int .i64 0, .slice none 0 0], none⟩]
def o50_3 : List AOper := [⟨some 3, .fieldAddr 0 (.tmp 1), none⟩,
  ⟨some 4, .load false [.int .i64] (.tmp 3), none⟩,
  ⟨some 5, .fieldAddr 1 (.tmp 1), none⟩,
  ⟨some 6, .load false [.int .i64] (.tmp 5), none⟩,
  ⟨some 7, .fieldAddr 2 (.tmp 1), none⟩,
  ⟨some 8, .load false [.slice] (.tmp 7), none⟩,
  ⟨some 9, .build [.int .i64 0, .int .i64 0, .slice none 0 0] [(0, 1, .tmp 4), (1, 1, .tmp 6), (2, 1, .tmp 8)], none⟩,
  ⟨none, .store 3 (.tmp 2) (.tmp 9), none⟩]
def c50_0 : ACode := .seq (.ops o50_1) (.seq (.ops o50_3) (.ret))
def a50 : AFun := ⟨10, [.cell true [.int .i64, .int .i64, .slice] 2], c50_0⟩
theorem ok50 : OkFun Try.prog 50 a50 := ⟨Try.f50, Try.f50.body.getD .skip, Try.func50, by kernel_rfl, by kernel_rfl, by kernel_rfl, by kernel_rfl, by kernel_rfl⟩
/-! #### diff.Root -/
def o51_1 : List AOper := [⟨some 2, .box (.tmp 0), none⟩,
  ⟨some 4, .mv (.const (.int .i64 0)), none⟩]
def o51_4 : List AOper := [⟨some 5, .fieldAddr 3 (.tmp 2), none⟩,
  ⟨some 6, .load false [.int .i64] (.tmp 5), none⟩,
  ⟨some 7, .bin .lss (.tmp 6) (.const (.int .i64 0)), none⟩,
  ⟨some 8, .mv (.tmp 7), none⟩,
  ⟨some 9, .fieldAddr 3 (.tmp 2), some (8, false)⟩,
  ⟨some 10, .load false [.int .i64] (.tmp 9), some (8, false)⟩,
  ⟨some 11, .bin .gtr (.tmp 10) (.const (.int .i64 1099511627776)), some (8, false)⟩,
  ⟨some 12, .pick (.tmp 8) (.const (.bool true)) (.tmp 11), none⟩,
  ⟨some 13, .mv (.tmp 12), none⟩,
  ⟨some 14, .mv (.tmp 1), some (13, false)⟩,
  ⟨some 15, .bin .lss (.tmp 14) (.const (.int .i64 1)), some (13, false)⟩,
  ⟨some 16, .pick (.tmp 13) (.const (.bool true)) (.tmp 15), none⟩,
  ⟨some 17, .mv (.tmp 16), none⟩,
  ⟨some 18, .mv (.tmp 1), some (17, false)⟩,
  ⟨some 19, .bin .gtr (.tmp 18) (.const (.int .i64 65536)), some (17, false)⟩,
  ⟨some 20, .pick (.tmp 17) (.const (.bool true)) (.tmp 19), none⟩]
def o51_7 : List AOper := [⟨some 4, .mv (.const (.int .i64 0)), none⟩]
def o51_11 : List AOper := [⟨some 21, .fieldAddr 3 (.tmp 2), none⟩,
  ⟨some 22, .load false [.int .i64] (.tmp 21), none⟩,
  ⟨some 23, .mv (.tmp 1), none⟩,
  ⟨some 24, .bin .mul (.const (.int .i64 3)) (.tmp 23), none⟩,
  ⟨some 25, .bin .quo (.tmp 22) (.tmp 24), none⟩,
  ⟨some 26, .conv .u64 (.tmp 25), none⟩,
  ⟨some 27, .call true (.func 72) [.tmp 26] [(false, [.int .i64])] true, none⟩,
  ⟨some 4, .mv (.tmp 27), none⟩]
def c51_0 : ACode := .seq (.ops o51_1) (.seq (.seq (.ops o51_4) (.cond (.tmp 20) (.seq (.ops o51_7) (.ret)) (.skip))) (.seq (.ops o51_11) (.ret)))
def a51 : AFun := ⟨28, [.tmp 4], c51_0⟩
theorem ok51 : OkFun Try.prog 51 a51 := ⟨Try.f51, Try.f51.body.getD .skip, Try.func51, by kernel_rfl, by kernel_rfl, by kernel_rfl, by kernel_rfl, by kernel_rfl⟩
/-! #### skylightref49.Root -/
def o52_1 : List AOper := [⟨some 2, .box (.tmp 0), none⟩,
  ⟨some 4, .mv (.const (.int .i64 0)), none⟩]
def o52_4 : List AOper := [⟨some 5, .fieldAddr 3 (.tmp 2), none⟩,
  ⟨some 6, .load false [.int .i64] (.tmp 5), none⟩,
  ⟨some 7, .bin .lss (.tmp 6) (.const (.int .i64 0)), none⟩,
  ⟨some 8, .mv (.tmp 7), none⟩,
  ⟨some 9, .fieldAddr 3 (.tmp 2), some (8, false)⟩,
  ⟨some 10, .load false [.int .i64] (.tmp 9), some (8, false)⟩,
  ⟨some 11, .bin .gtr (.tmp 10) (.const (.int .i64 1099511627776)), some (8, false)⟩,
  ⟨some 12, .pick (.tmp 8) (.const (.bool true)) (.tmp 11), none⟩,
  ⟨some 13, .mv (.tmp 12), none⟩,
  ⟨some 14, .mv (.tmp 1), some (13, false)⟩,
  ⟨some 15, .bin .lss (.tmp 14) (.const (.int .i64 1)), some (13, false)⟩,
  ⟨some 16, .pick (.tmp 13) (.const (.bool true)) (.tmp 15), none⟩,
  ⟨some 17, .mv (.tmp 16), none⟩,
  ⟨some 18, .mv (.tmp 1), some (17, false)⟩,
  ⟨some 19, .bin .gtr (.tmp 18) (.const (.int .i64 65536)), some (17, false)⟩,
  ⟨some 20, .pick (.tmp 17) (.const (.bool true)) (.tmp 19), none⟩]
def o52_7 : List AOper := [⟨some 4, .mv (.const (.int .i64 0)), none⟩]
def o52_11 : List AOper := [⟨some 21, .fieldAddr 3 (.tmp 2), none⟩,
  ⟨some 22, .load false [.int .i64] (.tmp 21), none⟩,
  ⟨some 23, .mv (.tmp 1), none⟩,
  ⟨some 24, .bin .mul (.const (.int .i64 3)) (.tmp 23), none⟩,
  ⟨some 25, .call true (.func 68) [.tmp 22, .tmp 24] [(false, [.int .i64])] true, none⟩,
  ⟨some 26, .conv .u64 (.tmp 25), none⟩,
  ⟨some 27, .call true (.func 73) [.tmp 26] [(false, [.int .i64])] true, none⟩,
  ⟨some 4, .mv (.tmp 27), none⟩]
def c52_0 : ACode := .seq (.ops o52_1) (.seq (.seq (.ops o52_4) (.cond (.tmp 20) (.seq (.ops o52_7) (.ret)) (.skip))) (.seq (.ops o52_11) (.ret)))
def a52 : AFun := ⟨28, [.tmp 4], c52_0⟩
theorem ok52 : OkFun Try.prog 52 a52 := ⟨Try.f52, Try.f52.body.getD .skip, Try.func52, by kernel_rfl, by kernel_rfl, by kernel_rfl, by kernel_rfl, by kernel_rfl⟩
/-! #### skylightref49.Fit -/
def o53_1 : List AOper := [⟨some 2, .box (.tmp 0), none⟩,
  ⟨some 3, .box (.tmp 1), none⟩,
  ⟨some 4, .mv (.const (.bool false)), none⟩]
def o53_3 : List AOper := [⟨some 5, .load true [.int .i64, .int .i64, .slice] (.tmp 2), none⟩,
  ⟨some 6, .call false (.func 25) [.tmp 5] [(false, [.bool])] true, none⟩,
  ⟨some 7, .mv (.tmp 6), none⟩,
  ⟨some 8, .load true [.int .i64, .int .i64, .slice] (.tmp 3), some (7, true)⟩,
  ⟨some 9, .call false (.func 25) [.tmp 8] [(false, [.bool])] true, some (7, true)⟩,
  ⟨some 10, .pick (.tmp 7) (.tmp 9) (.const (.bool false)), none⟩,
  ⟨some 11, .mv (.tmp 10), none⟩,
  ⟨some 12, .fieldAddr 0 (.tmp 2), some (11, true)⟩,
  ⟨some 13, .load false [.int .i64] (.tmp 12), some (11, true)⟩,
  ⟨some 14, .fieldAddr 0 (.tmp 3), some (11, true)⟩,
  ⟨some 15, .load false [.int .i64] (.tmp 14), some (11, true)⟩,
  ⟨some 16, .bin .eql (.tmp 13) (.tmp 15), some (11, true)⟩,
  ⟨some 17, .pick (.tmp 11) (.tmp 16) (.const (.bool false)), none⟩,
  ⟨some 18, .mv (.tmp 17), none⟩,
  ⟨some 19, .fieldAddr 1 (.tmp 2), some (18, true)⟩,
  ⟨some 20, .load false [.int .i64] (.tmp 19), some (18, true)⟩,
  ⟨some 21, .fieldAddr 1 (.tmp 3), some (18, true)⟩,
  ⟨some 22, .load false [.int .i64] (.tmp 21), some (18, true)⟩,
  ⟨some 23, .bin .eql (.tmp 20) (.tmp 22), some (18, true)⟩,
  ⟨some 24, .pick (.tmp 18) (.tmp 23) (.const (.bool false)), none⟩,
  ⟨some 4, .mv (.tmp 24), none⟩]
def c53_0 : ACode := .seq (.ops o53_1) (.seq (.ops o53_3) (.ret))
def a53 : AFun := ⟨25, [.tmp 4], c53_0⟩
theorem ok53 : OkFun Try.prog 53 a53 := ⟨Try.f53, Try.f53.body.getD .skip, Try.func53, by kernel_rfl, by kernel_rfl, by kernel_rfl, by kernel_rfl, by kernel_rfl⟩
/-! #### cell.Memory.at -/
def o54_1 : List AOper := [⟨some 4, .mv (.const (.pointer none)), none⟩]
def o54_4 : List AOper := [⟨some 5, .mv (.tmp 0), none⟩,
  ⟨some 6, .eqNil 0 false (.tmp 5), none⟩,
  ⟨some 7, .mv (.tmp 6), none⟩,
  ⟨some 8, .mv (.tmp 0), some (7, false)⟩,
  ⟨some 9, .nilCheck (.tmp 8), some (7, false)⟩,
  ⟨some 10, .fieldAddr 0 (.tmp 9), some (7, false)⟩,
  ⟨some 11, .load false [.bool] (.tmp 10), some (7, false)⟩,
  ⟨some 12, .un .not (.tmp 11), some (7, false)⟩,
  ⟨some 13, .pick (.tmp 7) (.const (.bool true)) (.tmp 12), none⟩]
def o54_7 : List AOper := [⟨some 4, .mv (.const (.pointer none)), none⟩]
def o54_11 : List AOper := [⟨some 14, .mv (.tmp 0), none⟩,
  ⟨some 15, .nilCheck (.tmp 14), none⟩,
  ⟨some 16, .fieldAddr 2 (.tmp 15), none⟩,
  ⟨some 17, .load false [.int .i64] (.tmp 16), none⟩,
  ⟨some 18, .bin .add (.tmp 17) (.const (.int .i64 1)), none⟩,
  ⟨some 19, .nilCheck (.tmp 14), none⟩,
  ⟨some 20, .fieldAddr 2 (.tmp 19), none⟩,
  ⟨none, .store 1 (.tmp 20) (.tmp 18), none⟩]
def o54_14 : List AOper := [⟨some 21, .mv (.tmp 1), none⟩,
  ⟨some 22, .bin .lss (.tmp 21) (.const (.int .i64 0)), none⟩,
  ⟨some 23, .mv (.tmp 22), none⟩,
  ⟨some 24, .mv (.tmp 1), some (23, false)⟩,
  ⟨some 25, .mv (.tmp 0), some (23, false)⟩,
  ⟨some 26, .nilCheck (.tmp 25), some (23, false)⟩,
  ⟨some 27, .fieldAddr 1 (.tmp 26), some (23, false)⟩,
  ⟨some 28, .load false [.slice] (.tmp 27), some (23, false)⟩,
  ⟨some 29, .len (.tmp 28), some (23, false)⟩,
  ⟨some 30, .bin .geq (.tmp 24) (.tmp 29), some (23, false)⟩,
  ⟨some 31, .pick (.tmp 23) (.const (.bool true)) (.tmp 30), none⟩]
def o54_17 : List AOper := [⟨some 4, .mv (.const (.pointer none)), none⟩]
def o54_21 : List AOper := [⟨some 32, .mv (.tmp 0), none⟩,
  ⟨some 33, .nilCheck (.tmp 32), none⟩,
  ⟨some 34, .fieldAddr 1 (.tmp 33), none⟩,
  ⟨some 35, .load false [.slice] (.tmp 34), none⟩,
  ⟨some 36, .mv (.tmp 1), none⟩,
  ⟨some 37, .indexAddr 1 (.tmp 35) (.tmp 36), none⟩,
  ⟨some 4, .mv (.tmp 37), none⟩]
def c54_0 : ACode := .seq (.ops o54_1) (.seq (.seq (.ops o54_4) (.cond (.tmp 13) (.seq (.ops o54_7) (.ret)) (.skip))) (.seq (.ops o54_11) (.seq (.seq (.ops o54_14) (.cond (.tmp 31) (.seq (.ops o54_17) (.ret)) (.skip))) (.seq (.ops o54_21) (.ret)))))
def a54 : AFun := ⟨38, [.tmp 4], c54_0⟩
theorem ok54 : OkFun Try.prog 54 a54 := ⟨Try.f54, Try.f54.body.getD .skip, Try.func54, by kernel_rfl, by kernel_rfl, by kernel_rfl, by kernel_rfl, by kernel_rfl⟩
/-! #### batch.read -/
def o55_1 : List AOper := [⟨some 5, .mv (.tmp 0), none⟩,
  ⟨some 6, .mv (.tmp 1), none⟩,
  ⟨some 7, .call false (.func 22) [.tmp 6, .const (.int .i64 0)] [(false, [.int .u64]), (false, [.bool])] false, none⟩,
  ⟨some 4, .mv (.tmp 7), none⟩,
  ⟨some 8, .extract (.tmp 4) 0, none⟩,
  ⟨some 9, .extract (.tmp 4) 1, none⟩,
  ⟨some 10, .nilCheck (.tmp 5), none⟩,
  ⟨some 11, .fieldAddr 4 (.tmp 10), none⟩,
  ⟨none, .store 1 (.tmp 11) (.tmp 8), none⟩]
def o55_3 : List AOper := [⟨some 12, .mv (.tmp 0), none⟩,
  ⟨some 13, .nilCheck (.tmp 12), none⟩,
  ⟨some 14, .fieldAddr 2 (.tmp 13), none⟩,
  ⟨none, .store 1 (.tmp 14) (.func 74), none⟩]
def o55_5 : List (AOper × Option Nat) := [(⟨some 15, .mv (.tmp 0), none⟩, none),
  (⟨some 16, .nilCheck (.tmp 15), none⟩, none),
  (⟨some 17, .fieldAddr 4 (.tmp 16), none⟩, none),
  (⟨some 18, .load false [.int .u64] (.tmp 17), none⟩, none),
  (⟨some 19, .mv (.tmp 0), none⟩, none),
  (⟨some 20, .nilCheck (.tmp 19), none⟩, none),
  (⟨some 21, .fieldAddr 0 (.tmp 20), none⟩, none),
  (⟨some 22, .load false [.int .i64] (.tmp 21), none⟩, none),
  (⟨some 23, .conv .u64 (.tmp 22), none⟩, none),
  (⟨some 24, .bin .geq (.tmp 18) (.tmp 23), none⟩, none)]
def o55_7 : List AOper := [⟨some 25, .mv (.tmp 0), none⟩,
  ⟨some 26, .nilCheck (.tmp 25), none⟩,
  ⟨some 27, .fieldAddr 2 (.tmp 26), none⟩,
  ⟨none, .store 1 (.tmp 27) (.const (.nilFunc)), none⟩]
def c55_0 : ACode := .seq (.ops o55_1) (.seq (.ops o55_3) (.seq (.draw [] 0 o55_5 []) (.cond (.tmp 24) (.ops o55_7) (.skip))))
def a55 : AFun := ⟨28, [], c55_0⟩
theorem ok55 : OkFun Try.prog 55 a55 := ⟨Try.f55, Try.f55.body.getD .skip, Try.func55, by kernel_rfl, by kernel_rfl, by kernel_rfl, by kernel_rfl, by kernel_rfl⟩
/-! #### batch.Claim.under -/
def o56_1 : List AOper := [⟨some 2, .mv (.const (.bool false)), none⟩]
def o56_3 : List AOper := [⟨some 3, .mv (.tmp 0), none⟩,
  ⟨some 4, .eqNil 0 true (.tmp 3), none⟩,
  ⟨some 5, .mv (.tmp 4), none⟩,
  ⟨some 6, .mv (.tmp 0), some (5, true)⟩,
  ⟨some 7, .nilCheck (.tmp 6), some (5, true)⟩,
  ⟨some 8, .fieldAddr 2 (.tmp 7), some (5, true)⟩,
  ⟨some 9, .load false [.any] (.tmp 8), some (5, true)⟩,
  ⟨some 10, .eqNil 2 true (.tmp 9), some (5, true)⟩,
  ⟨some 11, .pick (.tmp 5) (.tmp 10) (.const (.bool false)), none⟩,
  ⟨some 2, .mv (.tmp 11), none⟩]
def c56_0 : ACode := .seq (.ops o56_1) (.seq (.ops o56_3) (.ret))
def a56 : AFun := ⟨12, [.tmp 2], c56_0⟩
theorem ok56 : OkFun Try.prog 56 a56 := ⟨Try.f56, Try.f56.body.getD .skip, Try.func56, by kernel_rfl, by kernel_rfl, by kernel_rfl, by kernel_rfl, by kernel_rfl⟩
/-! #### cell.Memory.Len -/
def o57_1 : List AOper := [⟨some 2, .mv (.const (.int .i64 0)), none⟩]
def o57_4 : List AOper := [⟨some 3, .mv (.tmp 0), none⟩,
  ⟨some 4, .eqNil 0 false (.tmp 3), none⟩]
def o57_7 : List AOper := [⟨some 2, .mv (.const (.int .i64 0)), none⟩]
def o57_11 : List AOper := [⟨some 5, .mv (.tmp 0), none⟩,
  ⟨some 6, .nilCheck (.tmp 5), none⟩,
  ⟨some 7, .fieldAddr 1 (.tmp 6), none⟩,
  ⟨some 8, .load false [.slice] (.tmp 7), none⟩,
  ⟨some 9, .len (.tmp 8), none⟩,
  ⟨some 2, .mv (.tmp 9), none⟩]
def c57_0 : ACode := .seq (.ops o57_1) (.seq (.seq (.ops o57_4) (.cond (.tmp 4) (.seq (.ops o57_7) (.ret)) (.skip))) (.seq (.ops o57_11) (.ret)))
def a57 : AFun := ⟨10, [.tmp 2], c57_0⟩
theorem ok57 : OkFun Try.prog 57 a57 := ⟨Try.f57, Try.f57.body.getD .skip, Try.func57, by kernel_rfl, by kernel_rfl, by kernel_rfl, by kernel_rfl, by kernel_rfl⟩
/-! #### skylightref30.Memory.Load -/
def o58_1 : List AOper := [⟨some 4, .mv (.const (.int .u64 0)), none⟩,
  ⟨some 5, .mv (.const (.bool false)), none⟩]
def o58_3 : List AOper := [⟨some 6, .mv (.tmp 0), none⟩,
  ⟨some 7, .nilCheck (.tmp 6), none⟩,
  ⟨some 8, .fieldAddr 1 (.tmp 7), none⟩,
  ⟨some 9, .load false [.int .i64] (.tmp 8), none⟩,
  ⟨some 10, .bin .add (.tmp 9) (.const (.int .i64 1)), none⟩,
  ⟨some 11, .nilCheck (.tmp 6), none⟩,
  ⟨some 12, .fieldAddr 1 (.tmp 11), none⟩,
  ⟨none, .store 1 (.tmp 12) (.tmp 10), none⟩]
def o58_6 : List AOper := [⟨some 13, .mv (.tmp 1), none⟩,
  ⟨some 14, .bin .lss (.tmp 13) (.const (.int .i64 0)), none⟩,
  ⟨some 15, .mv (.tmp 14), none⟩,
  ⟨some 16, .mv (.tmp 1), some (15, false)⟩,
  ⟨some 17, .mv (.tmp 0), some (15, false)⟩,
  ⟨some 18, .nilCheck (.tmp 17), some (15, false)⟩,
  ⟨some 19, .fieldAddr 0 (.tmp 18), some (15, false)⟩,
  ⟨some 20, .load false [.slice] (.tmp 19), some (15, false)⟩,
  ⟨some 21, .len (.tmp 20), some (15, false)⟩,
  ⟨some 22, .bin .geq (.tmp 16) (.tmp 21), some (15, false)⟩,
  ⟨some 23, .pick (.tmp 15) (.const (.bool true)) (.tmp 22), none⟩]
def o58_9 : List AOper := [⟨some 4, .mv (.const (.int .u64 0)), none⟩,
  ⟨some 5, .mv (.const (.bool false)), none⟩]
def o58_13 : List AOper := [⟨some 24, .mv (.tmp 0), none⟩,
  ⟨some 25, .nilCheck (.tmp 24), none⟩,
  ⟨some 26, .fieldAddr 0 (.tmp 25), none⟩,
  ⟨some 27, .load false [.slice] (.tmp 26), none⟩,
  ⟨some 28, .mv (.tmp 1), none⟩,
  ⟨some 29, .indexAddr 1 (.tmp 27) (.tmp 28), none⟩,
  ⟨some 30, .load false [.int .u64] (.tmp 29), none⟩,
  ⟨some 4, .mv (.tmp 30), none⟩,
  ⟨some 5, .mv (.const (.bool true)), none⟩]
def c58_0 : ACode := .seq (.ops o58_1) (.seq (.ops o58_3) (.seq (.seq (.ops o58_6) (.cond (.tmp 23) (.seq (.ops o58_9) (.ret)) (.skip))) (.seq (.ops o58_13) (.ret))))
def a58 : AFun := ⟨31, [.tmp 4, .tmp 5], c58_0⟩
theorem ok58 : OkFun Try.prog 58 a58 := ⟨Try.f58, Try.f58.body.getD .skip, Try.func58, by kernel_rfl, by kernel_rfl, by kernel_rfl, by kernel_rfl, by kernel_rfl⟩
/-! #### skylightref41.sides -/
def o59_1 : List AOper := [⟨some 6, .mv (.const (.bool false)), none⟩]
def o59_3 : List AOper := [⟨some 7, .mv (.tmp 0), none⟩,
  ⟨some 8, .bin .geq (.tmp 7) (.const (.int .i64 1)), none⟩,
  ⟨some 9, .mv (.tmp 8), none⟩,
  ⟨some 10, .mv (.tmp 0), some (9, true)⟩,
  ⟨some 11, .bin .leq (.tmp 10) (.const (.int .i64 256)), some (9, true)⟩,
  ⟨some 12, .pick (.tmp 9) (.tmp 11) (.const (.bool false)), none⟩,
  ⟨some 13, .mv (.tmp 12), none⟩,
  ⟨some 14, .mv (.tmp 1), some (13, true)⟩,
  ⟨some 15, .bin .geq (.tmp 14) (.const (.int .i64 1)), some (13, true)⟩,
  ⟨some 16, .pick (.tmp 13) (.tmp 15) (.const (.bool false)), none⟩,
  ⟨some 17, .mv (.tmp 16), none⟩,
  ⟨some 18, .mv (.tmp 1), some (17, true)⟩,
  ⟨some 19, .bin .leq (.tmp 18) (.const (.int .i64 256)), some (17, true)⟩,
  ⟨some 20, .pick (.tmp 17) (.tmp 19) (.const (.bool false)), none⟩,
  ⟨some 21, .mv (.tmp 20), none⟩,
  ⟨some 22, .mv (.tmp 2), some (21, true)⟩,
  ⟨some 23, .mv (.tmp 0), some (21, true)⟩,
  ⟨some 24, .mv (.tmp 1), some (21, true)⟩,
  ⟨some 25, .bin .mul (.tmp 23) (.tmp 24), some (21, true)⟩,
  ⟨some 26, .bin .eql (.tmp 22) (.tmp 25), some (21, true)⟩,
  ⟨some 27, .pick (.tmp 21) (.tmp 26) (.const (.bool false)), none⟩,
  ⟨some 6, .mv (.tmp 27), none⟩]
def c59_0 : ACode := .seq (.ops o59_1) (.seq (.ops o59_3) (.ret))
def a59 : AFun := ⟨28, [.tmp 6], c59_0⟩
theorem ok59 : OkFun Try.prog 59 a59 := ⟨Try.f59, Try.f59.body.getD .skip, Try.func59, by kernel_rfl, by kernel_rfl, by kernel_rfl, by kernel_rfl, by kernel_rfl⟩
/-! #### picture.Right -/
def o60_1 : List AOper := [⟨some 1, .box (.tmp 0), none⟩,
  ⟨some 2, .mv (.const (.bool false)), none⟩]
def o60_4 : List AOper := [⟨some 5, .fieldAddr 2 (.tmp 1), none⟩,
  ⟨some 6, .load false [.slice] (.tmp 5), none⟩,
  ⟨some 7, .len (.tmp 6), none⟩,
  ⟨some 8, .mv (.const (.int .i64 0)), none⟩]
def o60_8 : List AOper := [⟨some 9, .bin .lss (.tmp 8) (.tmp 7), none⟩]
def o60_16 : List AOper := [⟨some 10, .indexAddr 3 (.tmp 6) (.tmp 8), none⟩,
  ⟨some 11, .load true [.int .i64, .int .i64, .int .i64] (.tmp 10), none⟩,
  ⟨some 4, .alloc [.int .i64 0, .int .i64 0, .int .i64 0], none⟩,
  ⟨none, .store 3 (.tmp 4) (.tmp 11), none⟩]
def o60_18 : List AOper := [⟨some 12, .indexArr 3 1 (.tmp 4) (.const (.int .i64 0)), none⟩,
  ⟨some 13, .load false [.int .i64] (.tmp 12), none⟩,
  ⟨some 14, .call true (.func 75) [.tmp 13] [(false, [.bool])] true, none⟩,
  ⟨some 15, .un .not (.tmp 14), none⟩,
  ⟨some 16, .mv (.tmp 15), none⟩,
  ⟨some 17, .indexArr 3 1 (.tmp 4) (.const (.int .i64 1)), some (16, false)⟩,
  ⟨some 18, .load false [.int .i64] (.tmp 17), some (16, false)⟩,
  ⟨some 19, .call true (.func 75) [.tmp 18] [(false, [.bool])] true, some (16, false)⟩,
  ⟨some 20, .un .not (.tmp 19), some (16, false)⟩,
  ⟨some 21, .pick (.tmp 16) (.const (.bool true)) (.tmp 20), none⟩,
  ⟨some 22, .mv (.tmp 21), none⟩,
  ⟨some 23, .indexArr 3 1 (.tmp 4) (.const (.int .i64 2)), some (22, false)⟩,
  ⟨some 24, .load false [.int .i64] (.tmp 23), some (22, false)⟩,
  ⟨some 25, .call true (.func 75) [.tmp 24] [(false, [.bool])] true, some (22, false)⟩,
  ⟨some 26, .un .not (.tmp 25), some (22, false)⟩,
  ⟨some 27, .pick (.tmp 22) (.const (.bool true)) (.tmp 26), none⟩]
def o60_21 : List AOper := [⟨some 2, .mv (.const (.bool false)), none⟩]
def o60_24 : List AOper := [⟨some 28, .bin .add (.tmp 8) (.const (.int .i64 1)), none⟩,
  ⟨some 8, .mv (.tmp 28), none⟩]
def c60_24 : ACode := .ops o60_24
def b60_6 : ACode := .post (.seq (.ops o60_8) (.seq (.cond (.tmp 9) (.skip) (.exit 0)) (.seq (.block 1 (.seq (.ops o60_16) (.seq (.ops o60_18) (.cond (.tmp 27) (.seq (.ops o60_21) (.ret)) (.skip))))) (.clear [0, 2, 3, 4, 5, 9, 10, 11, 12, 13, 14, 15, 16, 17, 18, 19, 20, 21, 22, 23, 24, 25, 26, 27, 28, 29, 30, 31, 32, 33, 34, 35, 36] c60_24)))) [0, 2, 3, 4, 5, 9, 10, 11, 12, 13, 14, 15, 16, 17, 18, 19, 20, 21, 22, 23, 24, 25, 26, 27, 28, 29, 30, 31, 32, 33, 34, 35, 36]
def o60_26 : List AOper := [⟨some 29, .fieldAddr 0 (.tmp 1), none⟩,
  ⟨some 30, .load false [.int .i64] (.tmp 29), none⟩,
  ⟨some 31, .fieldAddr 1 (.tmp 1), none⟩,
  ⟨some 32, .load false [.int .i64] (.tmp 31), none⟩,
  ⟨some 33, .fieldAddr 2 (.tmp 1), none⟩,
  ⟨some 34, .load false [.slice] (.tmp 33), none⟩,
  ⟨some 35, .len (.tmp 34), none⟩,
  ⟨some 36, .call true (.func 76) [.tmp 30, .tmp 32, .tmp 35] [(false, [.bool])] true, none⟩,
  ⟨some 2, .mv (.tmp 36), none⟩]
def c60_25 : ACode := .seq (.ops o60_26) (.ret)
def c60_0 : ACode := .seq (.ops o60_1) (.seq (.seq (.ops o60_4) (.block 0 (.clear [0, 2, 3, 4, 5, 9, 10, 11, 12, 13, 14, 15, 16, 17, 18, 19, 20, 21, 22, 23, 24, 25, 26, 27, 28, 29, 30, 31, 32, 33, 34, 35, 36] (.loop b60_6)))) (.clear [0, 2, 3, 4, 5, 6, 7, 8, 9, 10, 11, 12, 13, 14, 15, 16, 17, 18, 19, 20, 21, 22, 23, 24, 25, 26, 27, 28, 29, 30, 31, 32, 33, 34, 35, 36] c60_25))
def a60 : AFun := ⟨37, [.tmp 2], c60_0⟩
theorem ok60 : OkFun Try.prog 60 a60 := ⟨Try.f60, Try.f60.body.getD .skip, Try.func60, by kernel_rfl, by kernel_rfl, by kernel_rfl, by kernel_rfl, by kernel_rfl⟩
/-! #### mip.halved -/
def o61_1 : List AOper := [⟨some 1, .box (.tmp 0), none⟩,
  ⟨some 2, .alloc [.int .i64 0, .int .i64 0, .slice none 0 0], none⟩]
def o61_3 : List (AOper × Option Nat) := [(⟨some 14, .fieldAddr 0 (.tmp 1), none⟩, none),
  (⟨some 15, .load false [.int .i64] (.tmp 14), none⟩, none),
  (⟨some 16, .call true (.func 62) [.tmp 15] [(false, [.int .i64])] true, none⟩, none),
  (⟨some 17, .fieldAddr 1 (.tmp 1), none⟩, none),
  (⟨some 18, .load false [.int .i64] (.tmp 17), none⟩, none),
  (⟨some 19, .call true (.func 62) [.tmp 18] [(false, [.int .i64])] true, none⟩, none),
  (⟨some 20, .build [.int .i64 0, .int .i64 0, .slice none 0 0] [(0, 1, .tmp 16), (1, 1, .tmp 19)], none⟩, none),
  (⟨some 3, .alloc [.int .i64 0, .int .i64 0, .slice none 0 0], none⟩, none),
  (⟨none, .store 3 (.tmp 3) (.tmp 20), none⟩, none)]
def o61_5 : List AOper := [⟨some 21, .fieldAddr 0 (.tmp 3), none⟩,
  ⟨some 22, .load false [.int .i64] (.tmp 21), none⟩,
  ⟨some 23, .fieldAddr 1 (.tmp 3), none⟩,
  ⟨some 24, .load false [.int .i64] (.tmp 23), none⟩,
  ⟨some 25, .bin .mul (.tmp 22) (.tmp 24), none⟩,
  ⟨some 26, .makeSlice 3 24 [.int .i64 0, .int .i64 0, .int .i64 0] (.tmp 25) (.tmp 25), none⟩,
  ⟨some 27, .fieldAddr 2 (.tmp 3), none⟩,
  ⟨none, .store 1 (.tmp 27) (.tmp 26), none⟩]
def o61_8 : List AOper := [⟨some 28, .fieldAddr 2 (.tmp 3), none⟩,
  ⟨some 29, .load false [.slice] (.tmp 28), none⟩,
  ⟨some 30, .len (.tmp 29), none⟩,
  ⟨some 31, .mv (.const (.int .i64 0)), none⟩]
def o61_12 : List AOper := [⟨some 32, .bin .lss (.tmp 31) (.tmp 30), none⟩]
def o61_20 : List AOper := [⟨some 33, .mv (.tmp 31), none⟩,
  ⟨some 4, .mv (.tmp 33), none⟩]
def o61_22 : List (AOper × Option Nat) := [(⟨some 34, .mv (.tmp 4), none⟩, none),
  (⟨some 35, .fieldAddr 0 (.tmp 3), none⟩, none),
  (⟨some 36, .load false [.int .i64] (.tmp 35), none⟩, none),
  (⟨some 37, .bin .rem (.tmp 34) (.tmp 36), none⟩, none),
  (⟨some 38, .bin .mul (.const (.int .i64 2)) (.tmp 37), none⟩, none),
  (⟨some 39, .mv (.tmp 4), none⟩, none),
  (⟨some 40, .fieldAddr 0 (.tmp 3), none⟩, none),
  (⟨some 41, .load false [.int .i64] (.tmp 40), none⟩, none),
  (⟨some 42, .bin .quo (.tmp 39) (.tmp 41), none⟩, none),
  (⟨some 43, .bin .mul (.const (.int .i64 2)) (.tmp 42), none⟩, none),
  (⟨some 5, .mv (.tmp 38), none⟩, none),
  (⟨some 6, .mv (.tmp 43), none⟩, none)]
def o61_24 : List (AOper × Option Nat) := [(⟨some 44, .mv (.tmp 5), none⟩, none),
  (⟨some 45, .bin .add (.tmp 44) (.const (.int .i64 1)), none⟩, none),
  (⟨some 46, .fieldAddr 0 (.tmp 1), none⟩, none),
  (⟨some 47, .load false [.int .i64] (.tmp 46), none⟩, none),
  (⟨some 48, .bin .sub (.tmp 47) (.const (.int .i64 1)), none⟩, none),
  (⟨some 49, .minmax false [.tmp 45, .tmp 48], none⟩, none),
  (⟨some 50, .mv (.tmp 6), none⟩, none),
  (⟨some 51, .bin .add (.tmp 50) (.const (.int .i64 1)), none⟩, none),
  (⟨some 52, .fieldAddr 1 (.tmp 1), none⟩, none),
  (⟨some 53, .load false [.int .i64] (.tmp 52), none⟩, none),
  (⟨some 54, .bin .sub (.tmp 53) (.const (.int .i64 1)), none⟩, none),
  (⟨some 55, .minmax false [.tmp 51, .tmp 54], none⟩, none),
  (⟨some 7, .mv (.tmp 49), none⟩, none),
  (⟨some 8, .mv (.tmp 55), none⟩, none)]
def o61_27 : List AOper := [⟨some 56, .mv (.tmp 6), none⟩,
  ⟨some 57, .fieldAddr 0 (.tmp 1), none⟩,
  ⟨some 58, .load false [.int .i64] (.tmp 57), none⟩,
  ⟨some 59, .bin .mul (.tmp 56) (.tmp 58), none⟩,
  ⟨some 60, .mv (.tmp 5), none⟩,
  ⟨some 61, .bin .add (.tmp 59) (.tmp 60), none⟩,
  ⟨some 62, .mv (.tmp 6), none⟩,
  ⟨some 63, .fieldAddr 0 (.tmp 1), none⟩,
  ⟨some 64, .load false [.int .i64] (.tmp 63), none⟩,
  ⟨some 65, .bin .mul (.tmp 62) (.tmp 64), none⟩,
  ⟨some 66, .mv (.tmp 7), none⟩,
  ⟨some 67, .bin .add (.tmp 65) (.tmp 66), none⟩,
  ⟨some 68, .mv (.tmp 8), none⟩,
  ⟨some 69, .fieldAddr 0 (.tmp 1), none⟩,
  ⟨some 70, .load false [.int .i64] (.tmp 69), none⟩,
  ⟨some 71, .bin .mul (.tmp 68) (.tmp 70), none⟩,
  ⟨some 72, .mv (.tmp 5), none⟩,
  ⟨some 73, .bin .add (.tmp 71) (.tmp 72), none⟩,
  ⟨some 74, .mv (.tmp 8), none⟩,
  ⟨some 75, .fieldAddr 0 (.tmp 1), none⟩,
  ⟨some 76, .load false [.int .i64] (.tmp 75), none⟩,
  ⟨some 77, .bin .mul (.tmp 74) (.tmp 76), none⟩,
  ⟨some 78, .mv (.tmp 7), none⟩,
  ⟨some 79, .bin .add (.tmp 77) (.tmp 78), none⟩,
  ⟨some 80, .build [.int .i64 0, .int .i64 0, .int .i64 0, .int .i64 0] [(0, 1, .tmp 61), (1, 1, .tmp 67), (2, 1, .tmp 73), (3, 1, .tmp 79)], none⟩,
  ⟨some 81, .mv (.const (.int .i64 0)), none⟩]
def o61_31 : List AOper := [⟨some 82, .bin .lss (.tmp 81) (.const (.int .i64 4)), none⟩]
def o61_39 : List AOper := [⟨some 83, .index false 4 1 (.tmp 80) (.tmp 81), none⟩,
  ⟨some 10, .mv (.tmp 83), none⟩]
def o61_41 : List AOper := [⟨some 84, .fieldAddr 2 (.tmp 1), none⟩,
  ⟨some 85, .load false [.slice] (.tmp 84), none⟩,
  ⟨some 86, .mv (.tmp 10), none⟩,
  ⟨some 87, .indexAddr 3 (.tmp 85) (.tmp 86), none⟩,
  ⟨some 88, .load true [.int .i64, .int .i64, .int .i64] (.tmp 87), none⟩,
  ⟨some 89, .mv (.const (.int .i64 0)), none⟩]
def o61_45 : List AOper := [⟨some 90, .bin .lss (.tmp 89) (.const (.int .i64 3)), none⟩]
def o61_53 : List AOper := [⟨some 91, .mv (.tmp 89), none⟩,
  ⟨some 92, .index false 3 1 (.tmp 88) (.tmp 89), none⟩,
  ⟨some 11, .mv (.tmp 91), none⟩,
  ⟨some 12, .mv (.tmp 92), none⟩]
def o61_54 : List (AOper × Option Nat) := [(⟨some 93, .fieldAddr 2 (.tmp 3), none⟩, none),
  (⟨some 94, .load false [.slice] (.tmp 93), none⟩, none),
  (⟨some 95, .mv (.tmp 4), none⟩, none),
  (⟨some 96, .mv (.tmp 11), none⟩, none),
  (⟨some 97, .indexAddr 3 (.tmp 94) (.tmp 95), none⟩, none),
  (⟨some 98, .indexArr 3 1 (.tmp 97) (.tmp 96), none⟩, none),
  (⟨some 99, .load false [.int .i64] (.tmp 98), none⟩, none),
  (⟨some 100, .mv (.tmp 12), none⟩, none),
  (⟨some 101, .bin .add (.tmp 99) (.tmp 100), none⟩, none),
  (⟨some 102, .indexAddr 3 (.tmp 94) (.tmp 95), none⟩, none),
  (⟨some 103, .indexArr 3 1 (.tmp 102) (.tmp 96), none⟩, none),
  (⟨none, .store 1 (.tmp 103) (.tmp 101), none⟩, none)]
def o61_55 : List AOper := [⟨some 104, .bin .add (.tmp 89) (.const (.int .i64 1)), none⟩,
  ⟨some 89, .mv (.tmp 104), none⟩]
def c61_55 : ACode := .ops o61_55
def b61_43 : ACode := .post (.seq (.ops o61_45) (.seq (.cond (.tmp 90) (.skip) (.exit 4)) (.seq (.block 5 (.seq (.ops o61_53) (.draw [] 0 o61_54 []))) (.clear [0, 5, 6, 7, 8, 9, 10, 11, 12, 13, 14, 15, 16, 17, 18, 19, 20, 21, 22, 23, 24, 25, 26, 27, 28, 29, 32, 33, 34, 35, 36, 37, 38, 39, 40, 41, 42, 43, 44, 45, 46, 47, 48, 49, 50, 51, 52, 53, 54, 55, 56, 57, 58, 59, 60, 61, 62, 63, 64, 65, 66, 67, 68, 69, 70, 71, 72, 73, 74, 75, 76, 77, 78, 79, 82, 83, 84, 85, 86, 87, 90, 91, 92, 93, 94, 95, 96, 97, 98, 99, 100, 101, 102, 103, 104, 105, 106, 107, 108, 109, 110, 111, 112, 113, 114, 115, 116, 117, 118, 119, 120, 121] c61_55)))) [0, 5, 6, 7, 8, 9, 10, 11, 12, 13, 14, 15, 16, 17, 18, 19, 20, 21, 22, 23, 24, 25, 26, 27, 28, 29, 32, 33, 34, 35, 36, 37, 38, 39, 40, 41, 42, 43, 44, 45, 46, 47, 48, 49, 50, 51, 52, 53, 54, 55, 56, 57, 58, 59, 60, 61, 62, 63, 64, 65, 66, 67, 68, 69, 70, 71, 72, 73, 74, 75, 76, 77, 78, 79, 82, 83, 84, 85, 86, 87, 90, 91, 92, 93, 94, 95, 96, 97, 98, 99, 100, 101, 102, 103, 104, 105, 106, 107, 108, 109, 110, 111, 112, 113, 114, 115, 116, 117, 118, 119, 120, 121]
def o61_56 : List AOper := [⟨some 105, .bin .add (.tmp 81) (.const (.int .i64 1)), none⟩,
  ⟨some 81, .mv (.tmp 105), none⟩]
def c61_56 : ACode := .ops o61_56
def b61_29 : ACode := .post (.seq (.ops o61_31) (.seq (.cond (.tmp 82) (.skip) (.exit 2)) (.seq (.block 3 (.seq (.ops o61_39) (.seq (.ops o61_41) (.block 4 (.clear [0, 5, 6, 7, 8, 9, 10, 11, 12, 13, 14, 15, 16, 17, 18, 19, 20, 21, 22, 23, 24, 25, 26, 27, 28, 29, 32, 33, 34, 35, 36, 37, 38, 39, 40, 41, 42, 43, 44, 45, 46, 47, 48, 49, 50, 51, 52, 53, 54, 55, 56, 57, 58, 59, 60, 61, 62, 63, 64, 65, 66, 67, 68, 69, 70, 71, 72, 73, 74, 75, 76, 77, 78, 79, 82, 83, 84, 85, 86, 87, 90, 91, 92, 93, 94, 95, 96, 97, 98, 99, 100, 101, 102, 103, 104, 105, 106, 107, 108, 109, 110, 111, 112, 113, 114, 115, 116, 117, 118, 119, 120, 121] (.loop b61_43)))))) (.clear [0, 5, 6, 7, 8, 9, 10, 11, 12, 13, 14, 15, 16, 17, 18, 19, 20, 21, 22, 23, 24, 25, 26, 27, 28, 29, 32, 33, 34, 35, 36, 37, 38, 39, 40, 41, 42, 43, 44, 45, 46, 47, 48, 49, 50, 51, 52, 53, 54, 55, 56, 57, 58, 59, 60, 61, 62, 63, 64, 65, 66, 67, 68, 69, 70, 71, 72, 73, 74, 75, 76, 77, 78, 79, 82, 83, 84, 85, 86, 87, 88, 89, 90, 91, 92, 93, 94, 95, 96, 97, 98, 99, 100, 101, 102, 103, 104, 105, 106, 107, 108, 109, 110, 111, 112, 113, 114, 115, 116, 117, 118, 119, 120, 121] c61_56)))) [0, 5, 6, 7, 8, 9, 10, 11, 12, 13, 14, 15, 16, 17, 18, 19, 20, 21, 22, 23, 24, 25, 26, 27, 28, 29, 32, 33, 34, 35, 36, 37, 38, 39, 40, 41, 42, 43, 44, 45, 46, 47, 48, 49, 50, 51, 52, 53, 54, 55, 56, 57, 58, 59, 60, 61, 62, 63, 64, 65, 66, 67, 68, 69, 70, 71, 72, 73, 74, 75, 76, 77, 78, 79, 82, 83, 84, 85, 86, 87, 88, 89, 90, 91, 92, 93, 94, 95, 96, 97, 98, 99, 100, 101, 102, 103, 104, 105, 106, 107, 108, 109, 110, 111, 112, 113, 114, 115, 116, 117, 118, 119, 120, 121]
def o61_58 : List AOper := [⟨some 106, .mv (.const (.int .i64 0)), none⟩]
def o61_62 : List AOper := [⟨some 107, .bin .lss (.tmp 106) (.const (.int .i64 3)), none⟩]
def o61_70 : List AOper := [⟨some 108, .mv (.tmp 106), none⟩,
  ⟨some 13, .mv (.tmp 108), none⟩]
def o61_71 : List (AOper × Option Nat) := [(⟨some 109, .fieldAddr 2 (.tmp 3), none⟩, none),
  (⟨some 110, .load false [.slice] (.tmp 109), none⟩, none),
  (⟨some 111, .mv (.tmp 4), none⟩, none),
  (⟨some 112, .mv (.tmp 13), none⟩, none),
  (⟨some 113, .indexAddr 3 (.tmp 110) (.tmp 111), none⟩, none),
  (⟨some 114, .indexArr 3 1 (.tmp 113) (.tmp 112), none⟩, none),
  (⟨some 115, .load false [.int .i64] (.tmp 114), none⟩, none),
  (⟨some 116, .bin .quo (.tmp 115) (.const (.int .i64 4)), none⟩, none),
  (⟨some 117, .indexAddr 3 (.tmp 110) (.tmp 111), none⟩, none),
  (⟨some 118, .indexArr 3 1 (.tmp 117) (.tmp 112), none⟩, none),
  (⟨none, .store 1 (.tmp 118) (.tmp 116), none⟩, none)]
def o61_72 : List AOper := [⟨some 119, .bin .add (.tmp 106) (.const (.int .i64 1)), none⟩,
  ⟨some 106, .mv (.tmp 119), none⟩]
def c61_72 : ACode := .ops o61_72
def b61_60 : ACode := .post (.seq (.ops o61_62) (.seq (.cond (.tmp 107) (.skip) (.exit 6)) (.seq (.block 7 (.seq (.ops o61_70) (.draw [] 0 o61_71 []))) (.clear [0, 5, 6, 7, 8, 9, 10, 11, 12, 13, 14, 15, 16, 17, 18, 19, 20, 21, 22, 23, 24, 25, 26, 27, 28, 29, 32, 33, 34, 35, 36, 37, 38, 39, 40, 41, 42, 43, 44, 45, 46, 47, 48, 49, 50, 51, 52, 53, 54, 55, 56, 57, 58, 59, 60, 61, 62, 63, 64, 65, 66, 67, 68, 69, 70, 71, 72, 73, 74, 75, 76, 77, 78, 79, 80, 81, 82, 83, 84, 85, 86, 87, 88, 89, 90, 91, 92, 93, 94, 95, 96, 97, 98, 99, 100, 101, 102, 103, 104, 105, 107, 108, 109, 110, 111, 112, 113, 114, 115, 116, 117, 118, 119, 120, 121] c61_72)))) [0, 5, 6, 7, 8, 9, 10, 11, 12, 13, 14, 15, 16, 17, 18, 19, 20, 21, 22, 23, 24, 25, 26, 27, 28, 29, 32, 33, 34, 35, 36, 37, 38, 39, 40, 41, 42, 43, 44, 45, 46, 47, 48, 49, 50, 51, 52, 53, 54, 55, 56, 57, 58, 59, 60, 61, 62, 63, 64, 65, 66, 67, 68, 69, 70, 71, 72, 73, 74, 75, 76, 77, 78, 79, 80, 81, 82, 83, 84, 85, 86, 87, 88, 89, 90, 91, 92, 93, 94, 95, 96, 97, 98, 99, 100, 101, 102, 103, 104, 105, 107, 108, 109, 110, 111, 112, 113, 114, 115, 116, 117, 118, 119, 120, 121]
def c61_57 : ACode := .seq (.ops o61_58) (.block 6 (.clear [0, 5, 6, 7, 8, 9, 10, 11, 12, 13, 14, 15, 16, 17, 18, 19, 20, 21, 22, 23, 24, 25, 26, 27, 28, 29, 32, 33, 34, 35, 36, 37, 38, 39, 40, 41, 42, 43, 44, 45, 46, 47, 48, 49, 50, 51, 52, 53, 54, 55, 56, 57, 58, 59, 60, 61, 62, 63, 64, 65, 66, 67, 68, 69, 70, 71, 72, 73, 74, 75, 76, 77, 78, 79, 80, 81, 82, 83, 84, 85, 86, 87, 88, 89, 90, 91, 92, 93, 94, 95, 96, 97, 98, 99, 100, 101, 102, 103, 104, 105, 107, 108, 109, 110, 111, 112, 113, 114, 115, 116, 117, 118, 119, 120, 121] (.loop b61_60)))
def c61_25 : ACode := .seq (.seq (.ops o61_27) (.block 2 (.clear [0, 5, 6, 7, 8, 9, 10, 11, 12, 13, 14, 15, 16, 17, 18, 19, 20, 21, 22, 23, 24, 25, 26, 27, 28, 29, 32, 33, 34, 35, 36, 37, 38, 39, 40, 41, 42, 43, 44, 45, 46, 47, 48, 49, 50, 51, 52, 53, 54, 55, 56, 57, 58, 59, 60, 61, 62, 63, 64, 65, 66, 67, 68, 69, 70, 71, 72, 73, 74, 75, 76, 77, 78, 79, 82, 83, 84, 85, 86, 87, 88, 89, 90, 91, 92, 93, 94, 95, 96, 97, 98, 99, 100, 101, 102, 103, 104, 105, 106, 107, 108, 109, 110, 111, 112, 113, 114, 115, 116, 117, 118, 119, 120, 121] (.loop b61_29)))) (.clear [0, 5, 6, 7, 8, 9, 10, 11, 12, 13, 14, 15, 16, 17, 18, 19, 20, 21, 22, 23, 24, 25, 26, 27, 28, 29, 32, 33, 34, 35, 36, 37, 38, 39, 40, 41, 42, 43, 44, 45, 46, 47, 48, 49, 50, 51, 52, 53, 54, 55, 56, 57, 58, 59, 60, 61, 62, 63, 64, 65, 66, 67, 68, 69, 70, 71, 72, 73, 74, 75, 76, 77, 78, 79, 80, 81, 82, 83, 84, 85, 86, 87, 88, 89, 90, 91, 92, 93, 94, 95, 96, 97, 98, 99, 100, 101, 102, 103, 104, 105, 106, 107, 108, 109, 110, 111, 112, 113, 114, 115, 116, 117, 118, 119, 120, 121] c61_57)
def o61_73 : List AOper := [⟨some 120, .bin .add (.tmp 31) (.const (.int .i64 1)), none⟩,
  ⟨some 31, .mv (.tmp 120), none⟩]
def c61_73 : ACode := .ops o61_73
def b61_10 : ACode := .post (.seq (.ops o61_12) (.seq (.cond (.tmp 32) (.skip) (.exit 0)) (.seq (.block 1 (.seq (.ops o61_20) (.seq (.draw [] 0 o61_22 []) (.seq (.draw [] 0 o61_24 []) (.clear [0, 9, 10, 11, 12, 13, 14, 15, 16, 17, 18, 19, 20, 21, 22, 23, 24, 25, 26, 27, 28, 29, 32, 33, 34, 35, 36, 37, 38, 39, 40, 41, 42, 43, 44, 45, 46, 47, 48, 49, 50, 51, 52, 53, 54, 55, 56, 57, 58, 59, 60, 61, 62, 63, 64, 65, 66, 67, 68, 69, 70, 71, 72, 73, 74, 75, 76, 77, 78, 79, 80, 81, 82, 83, 84, 85, 86, 87, 88, 89, 90, 91, 92, 93, 94, 95, 96, 97, 98, 99, 100, 101, 102, 103, 104, 105, 106, 107, 108, 109, 110, 111, 112, 113, 114, 115, 116, 117, 118, 119, 120, 121] c61_25))))) (.clear [0, 4, 5, 6, 7, 8, 9, 10, 11, 12, 13, 14, 15, 16, 17, 18, 19, 20, 21, 22, 23, 24, 25, 26, 27, 28, 29, 32, 33, 34, 35, 36, 37, 38, 39, 40, 41, 42, 43, 44, 45, 46, 47, 48, 49, 50, 51, 52, 53, 54, 55, 56, 57, 58, 59, 60, 61, 62, 63, 64, 65, 66, 67, 68, 69, 70, 71, 72, 73, 74, 75, 76, 77, 78, 79, 80, 81, 82, 83, 84, 85, 86, 87, 88, 89, 90, 91, 92, 93, 94, 95, 96, 97, 98, 99, 100, 101, 102, 103, 104, 105, 106, 107, 108, 109, 110, 111, 112, 113, 114, 115, 116, 117, 118, 119, 120, 121] c61_73)))) [0, 4, 5, 6, 7, 8, 9, 10, 11, 12, 13, 14, 15, 16, 17, 18, 19, 20, 21, 22, 23, 24, 25, 26, 27, 28, 29, 32, 33, 34, 35, 36, 37, 38, 39, 40, 41, 42, 43, 44, 45, 46, 47, 48, 49, 50, 51, 52, 53, 54, 55, 56, 57, 58, 59, 60, 61, 62, 63, 64, 65, 66, 67, 68, 69, 70, 71, 72, 73, 74, 75, 76, 77, 78, 79, 80, 81, 82, 83, 84, 85, 86, 87, 88, 89, 90, 91, 92, 93, 94, 95, 96, 97, 98, 99, 100, 101, 102, 103, 104, 105, 106, 107, 108, 109, 110, 111, 112, 113, 114, 115, 116, 117, 118, 119, 120, 121]
def o61_75 : List AOper := [⟨some 121, .load true [.int .i64, .int .i64, .slice] (.tmp 3), none⟩,
  ⟨none, .store 3 (.tmp 2) (.tmp 121), none⟩]
def c61_74 : ACode := .seq (.ops o61_75) (.ret)
def c61_0 : ACode := .seq (.ops o61_1) (.seq (.draw [] 0 o61_3 [(1, 7), (4, 7)]) (.seq (.ops o61_5) (.seq (.seq (.ops o61_8) (.block 0 (.clear [0, 4, 5, 6, 7, 8, 9, 10, 11, 12, 13, 14, 15, 16, 17, 18, 19, 20, 21, 22, 23, 24, 25, 26, 27, 28, 29, 32, 33, 34, 35, 36, 37, 38, 39, 40, 41, 42, 43, 44, 45, 46, 47, 48, 49, 50, 51, 52, 53, 54, 55, 56, 57, 58, 59, 60, 61, 62, 63, 64, 65, 66, 67, 68, 69, 70, 71, 72, 73, 74, 75, 76, 77, 78, 79, 80, 81, 82, 83, 84, 85, 86, 87, 88, 89, 90, 91, 92, 93, 94, 95, 96, 97, 98, 99, 100, 101, 102, 103, 104, 105, 106, 107, 108, 109, 110, 111, 112, 113, 114, 115, 116, 117, 118, 119, 120, 121] (.loop b61_10)))) (.clear [0, 1, 4, 5, 6, 7, 8, 9, 10, 11, 12, 13, 14, 15, 16, 17, 18, 19, 20, 21, 22, 23, 24, 25, 26, 27, 28, 29, 30, 31, 32, 33, 34, 35, 36, 37, 38, 39, 40, 41, 42, 43, 44, 45, 46, 47, 48, 49, 50, 51, 52, 53, 54, 55, 56, 57, 58, 59, 60, 61, 62, 63, 64, 65, 66, 67, 68, 69, 70, 71, 72, 73, 74, 75, 76, 77, 78, 79, 80, 81, 82, 83, 84, 85, 86, 87, 88, 89, 90, 91, 92, 93, 94, 95, 96, 97, 98, 99, 100, 101, 102, 103, 104, 105, 106, 107, 108, 109, 110, 111, 112, 113, 114, 115, 116, 117, 118, 119, 120, 121] c61_74))))
def a61 : AFun := ⟨122, [.cell true [.int .i64, .int .i64, .slice] 2], c61_0⟩
theorem ok61 : OkFun Try.prog 61 a61 := ⟨Try.f61, Try.f61.body.getD .skip, Try.func61, by kernel_rfl, by kernel_rfl, by kernel_rfl, by kernel_rfl, by kernel_rfl⟩
/-! #### mip.half -/
def o62_1 : List AOper := [⟨some 2, .mv (.const (.int .i64 0)), none⟩]
def o62_3 : List AOper := [⟨some 3, .mv (.tmp 0), none⟩,
  ⟨some 4, .mv (.tmp 0), none⟩,
  ⟨some 5, .bin .quo (.tmp 4) (.const (.int .i64 2)), none⟩,
  ⟨some 6, .bin .sub (.tmp 3) (.tmp 5), none⟩,
  ⟨some 2, .mv (.tmp 6), none⟩]
def c62_0 : ACode := .seq (.ops o62_1) (.seq (.ops o62_3) (.ret))
def a62 : AFun := ⟨7, [.tmp 2], c62_0⟩
theorem ok62 : OkFun Try.prog 62 a62 := ⟨Try.f62, Try.f62.body.getD .skip, Try.func62, by kernel_rfl, by kernel_rfl, by kernel_rfl, by kernel_rfl, by kernel_rfl⟩
/-! #### slices.Collect[picture.Picture] -/
def o63_1 : List AOper := [⟨some 2, .mv (.const (.slice none 0 0)), none⟩]
def o63_3 : List AOper := [⟨some 3, .mv (.tmp 0), none⟩,
  ⟨some 4, .call false (.func 77) [.const (.slice none 0 0), .tmp 3] [(false, [.slice])] true, none⟩,
  ⟨some 2, .mv (.tmp 4), none⟩]
def c63_0 : ACode := .seq (.ops o63_1) (.seq (.ops o63_3) (.ret))
def a63 : AFun := ⟨5, [.tmp 2], c63_0⟩
theorem ok63 : OkFun Try.prog 63 a63 := ⟨Try.f63, Try.f63.body.getD .skip, Try.func63, by kernel_rfl, by kernel_rfl, by kernel_rfl, by kernel_rfl, by kernel_rfl⟩
/-! #### mip.pyramid -/
def o64_1 : List AOper := [⟨some 1, .box (.tmp 0), none⟩,
  ⟨some 2, .mv (.const (.nilFunc)), none⟩]
def o64_3 : List AOper := [⟨some 3, .makeFunc (.func 78) [] [.tmp 1], none⟩,
  ⟨some 2, .mv (.tmp 3), none⟩]
def c64_0 : ACode := .seq (.ops o64_1) (.seq (.ops o64_3) (.ret))
def a64 : AFun := ⟨4, [.tmp 2], c64_0⟩
theorem ok64 : OkFun Try.prog 64 a64 := ⟨Try.f64, Try.f64.body.getD .skip, Try.func64, by kernel_rfl, by kernel_rfl, by kernel_rfl, by kernel_rfl, by kernel_rfl⟩
/-! #### math/bits.Len -/
def o65_1 : List AOper := [⟨some 2, .mv (.const (.int .i64 0)), none⟩]
def o65_5 : List AOper := [⟨some 3, .mv (.tmp 0), none⟩,
  ⟨some 4, .conv .u32 (.tmp 3), none⟩,
  ⟨some 5, .call true (.func 79) [.tmp 4] [(false, [.int .i64])] true, none⟩,
  ⟨some 2, .mv (.tmp 5), none⟩]
def o65_9 : List AOper := [⟨some 6, .mv (.tmp 0), none⟩,
  ⟨some 7, .call true (.func 80) [.tmp 6] [(false, [.int .i64])] true, none⟩,
  ⟨some 2, .mv (.tmp 7), none⟩]
def c65_0 : ACode := .seq (.ops o65_1) (.seq (.cond (.const (.bool false)) (.seq (.ops o65_5) (.ret)) (.skip)) (.seq (.ops o65_9) (.ret)))
def a65 : AFun := ⟨8, [.tmp 2], c65_0⟩
theorem ok65 : OkFun Try.prog 65 a65 := ⟨Try.f65, Try.f65.body.getD .skip, Try.func65, by kernel_rfl, by kernel_rfl, by kernel_rfl, by kernel_rfl, by kernel_rfl⟩
/-! #### skylightref51.half -/
def o66_1 : List AOper := [⟨some 2, .mv (.const (.int .i64 0)), none⟩]
def o66_3 : List AOper := [⟨some 3, .mv (.tmp 0), none⟩,
  ⟨some 4, .bin .add (.tmp 3) (.const (.int .i64 1)), none⟩,
  ⟨some 5, .bin .quo (.tmp 4) (.const (.int .i64 2)), none⟩,
  ⟨some 2, .mv (.tmp 5), none⟩]
def c66_0 : ACode := .seq (.ops o66_1) (.seq (.ops o66_3) (.ret))
def a66 : AFun := ⟨6, [.tmp 2], c66_0⟩
theorem ok66 : OkFun Try.prog 66 a66 := ⟨Try.f66, Try.f66.body.getD .skip, Try.func66, by kernel_rfl, by kernel_rfl, by kernel_rfl, by kernel_rfl, by kernel_rfl⟩
/-! #### skylightref51.at -/
def o67_1 : List AOper := [⟨some 3, .box (.tmp 0), none⟩,
  ⟨some 6, .alloc [.int .i64 0, .int .i64 0, .int .i64 0], none⟩]
def o67_3 : List AOper := [⟨some 7, .fieldAddr 2 (.tmp 3), none⟩,
  ⟨some 8, .load false [.slice] (.tmp 7), none⟩,
  ⟨some 9, .mv (.tmp 2), none⟩,
  ⟨some 10, .fieldAddr 1 (.tmp 3), none⟩,
  ⟨some 11, .load false [.int .i64] (.tmp 10), none⟩,
  ⟨some 12, .bin .sub (.tmp 11) (.const (.int .i64 1)), none⟩,
  ⟨some 13, .minmax false [.tmp 9, .tmp 12], none⟩,
  ⟨some 14, .fieldAddr 0 (.tmp 3), none⟩,
  ⟨some 15, .load false [.int .i64] (.tmp 14), none⟩,
  ⟨some 16, .bin .mul (.tmp 13) (.tmp 15), none⟩,
  ⟨some 17, .mv (.tmp 1), none⟩,
  ⟨some 18, .fieldAddr 0 (.tmp 3), none⟩,
  ⟨some 19, .load false [.int .i64] (.tmp 18), none⟩,
  ⟨some 20, .bin .sub (.tmp 19) (.const (.int .i64 1)), none⟩,
  ⟨some 21, .minmax false [.tmp 17, .tmp 20], none⟩,
  ⟨some 22, .bin .add (.tmp 16) (.tmp 21), none⟩,
  ⟨some 23, .indexAddr 3 (.tmp 8) (.tmp 22), none⟩,
  ⟨some 24, .load true [.int .i64, .int .i64, .int .i64] (.tmp 23), none⟩,
  ⟨none, .store 3 (.tmp 6) (.tmp 24), none⟩]
def c67_0 : ACode := .seq (.ops o67_1) (.seq (.ops o67_3) (.ret))
def a67 : AFun := ⟨25, [.cell true [.int .i64, .int .i64, .int .i64] 6], c67_0⟩
theorem ok67 : OkFun Try.prog 67 a67 := ⟨Try.f67, Try.f67.body.getD .skip, Try.func67, by kernel_rfl, by kernel_rfl, by kernel_rfl, by kernel_rfl, by kernel_rfl⟩
/-! #### skylightref01.Div -/
def o68_1 : List AOper := [⟨some 4, .mv (.const (.int .i64 0)), none⟩]
def o68_4 : List AOper := [⟨some 6, .mv (.tmp 1), none⟩,
  ⟨some 7, .bin .lss (.tmp 6) (.const (.int .i64 1)), none⟩]
def o68_7 : List AOper := [⟨some 4, .mv (.const (.int .i64 0)), none⟩]
def o68_11 : List AOper := [⟨some 8, .mv (.tmp 0), none⟩,
  ⟨some 9, .mv (.tmp 1), none⟩,
  ⟨some 10, .bin .quo (.tmp 8) (.tmp 9), none⟩,
  ⟨some 5, .mv (.tmp 10), none⟩]
def o68_14 : List AOper := [⟨some 11, .mv (.tmp 0), none⟩,
  ⟨some 12, .bin .lss (.tmp 11) (.const (.int .i64 0)), none⟩,
  ⟨some 13, .mv (.tmp 12), none⟩,
  ⟨some 14, .mv (.tmp 0), some (13, true)⟩,
  ⟨some 15, .mv (.tmp 1), some (13, true)⟩,
  ⟨some 16, .bin .rem (.tmp 14) (.tmp 15), some (13, true)⟩,
  ⟨some 17, .bin .neq (.tmp 16) (.const (.int .i64 0)), some (13, true)⟩,
  ⟨some 18, .pick (.tmp 13) (.tmp 17) (.const (.bool false)), none⟩]
def o68_16 : List AOper := [⟨some 19, .mv (.tmp 5), none⟩,
  ⟨some 20, .bin .sub (.tmp 19) (.const (.int .i64 1)), none⟩,
  ⟨some 5, .mv (.tmp 20), none⟩]
def o68_19 : List AOper := [⟨some 21, .mv (.tmp 5), none⟩,
  ⟨some 4, .mv (.tmp 21), none⟩]
def c68_18 : ACode := .seq (.ops o68_19) (.ret)
def c68_0 : ACode := .seq (.ops o68_1) (.seq (.seq (.ops o68_4) (.cond (.tmp 7) (.seq (.ops o68_7) (.ret)) (.skip))) (.seq (.ops o68_11) (.seq (.seq (.ops o68_14) (.cond (.tmp 18) (.ops o68_16) (.skip))) (.clear [0, 1, 2, 3, 4, 6, 7, 8, 9, 10, 11, 12, 13, 14, 15, 16, 17, 18, 19, 20, 21] c68_18))))
def a68 : AFun := ⟨22, [.tmp 4], c68_0⟩
theorem ok68 : OkFun Try.prog 68 a68 := ⟨Try.f68, Try.f68.body.getD .skip, Try.func68, by kernel_rfl, by kernel_rfl, by kernel_rfl, by kernel_rfl, by kernel_rfl⟩
/-! #### diff.fit -/
def o69_1 : List AOper := [⟨some 2, .box (.tmp 0), none⟩,
  ⟨some 3, .box (.tmp 1), none⟩,
  ⟨some 4, .mv (.const (.bool false)), none⟩]
def o69_3 : List AOper := [⟨some 5, .fieldAddr 0 (.tmp 2), none⟩,
  ⟨some 6, .load false [.int .i64] (.tmp 5), none⟩,
  ⟨some 7, .fieldAddr 0 (.tmp 3), none⟩,
  ⟨some 8, .load false [.int .i64] (.tmp 7), none⟩,
  ⟨some 9, .bin .eql (.tmp 6) (.tmp 8), none⟩,
  ⟨some 10, .mv (.tmp 9), none⟩,
  ⟨some 11, .fieldAddr 1 (.tmp 2), some (10, true)⟩,
  ⟨some 12, .load false [.int .i64] (.tmp 11), some (10, true)⟩,
  ⟨some 13, .fieldAddr 1 (.tmp 3), some (10, true)⟩,
  ⟨some 14, .load false [.int .i64] (.tmp 13), some (10, true)⟩,
  ⟨some 15, .bin .eql (.tmp 12) (.tmp 14), some (10, true)⟩,
  ⟨some 16, .pick (.tmp 10) (.tmp 15) (.const (.bool false)), none⟩,
  ⟨some 17, .mv (.tmp 16), none⟩,
  ⟨some 18, .load true [.int .i64, .int .i64, .slice] (.tmp 2), some (17, true)⟩,
  ⟨some 19, .call false (.func 60) [.tmp 18] [(false, [.bool])] true, some (17, true)⟩,
  ⟨some 20, .pick (.tmp 17) (.tmp 19) (.const (.bool false)), none⟩,
  ⟨some 21, .mv (.tmp 20), none⟩,
  ⟨some 22, .load true [.int .i64, .int .i64, .slice] (.tmp 3), some (21, true)⟩,
  ⟨some 23, .call false (.func 60) [.tmp 22] [(false, [.bool])] true, some (21, true)⟩,
  ⟨some 24, .pick (.tmp 21) (.tmp 23) (.const (.bool false)), none⟩,
  ⟨some 4, .mv (.tmp 24), none⟩]
def c69_0 : ACode := .seq (.ops o69_1) (.seq (.ops o69_3) (.ret))
def a69 : AFun := ⟨25, [.tmp 4], c69_0⟩
theorem ok69 : OkFun Try.prog 69 a69 := ⟨Try.f69, Try.f69.body.getD .skip, Try.func69, by kernel_rfl, by kernel_rfl, by kernel_rfl, by kernel_rfl, by kernel_rfl⟩
/-! #### diff.pairs -/
def o70_1 : List AOper := [⟨some 2, .box (.tmp 0), none⟩,
  ⟨some 3, .box (.tmp 1), none⟩,
  ⟨some 4, .mv (.const (.nilFunc)), none⟩]
def o70_3 : List AOper := [⟨some 5, .makeFunc (.func 81) [] [.tmp 2, .tmp 3], none⟩,
  ⟨some 4, .mv (.tmp 5), none⟩]
def c70_0 : ACode := .seq (.ops o70_1) (.seq (.ops o70_3) (.ret))
def a70 : AFun := ⟨6, [.tmp 4], c70_0⟩
theorem ok70 : OkFun Try.prog 70 a70 := ⟨Try.f70, Try.f70.body.getD .skip, Try.func70, by kernel_rfl, by kernel_rfl, by kernel_rfl, by kernel_rfl, by kernel_rfl⟩
/-! #### slices.Clone[[][3]int,[3]int] -/
def o71_1 : List AOper := [⟨some 2, .mv (.const (.slice none 0 0)), none⟩]
def o71_4 : List AOper := [⟨some 3, .mv (.tmp 0), none⟩,
  ⟨some 4, .eqNil 1 false (.tmp 3), none⟩]
def o71_7 : List AOper := [⟨some 2, .mv (.const (.slice none 0 0)), none⟩]
def o71_11 : List AOper := [⟨some 5, .buildSlice 3 0 [] [], none⟩,
  ⟨some 6, .mv (.tmp 0), none⟩,
  ⟨some 7, .append 3 24 (.tmp 5) (.tmp 6), none⟩,
  ⟨some 2, .mv (.tmp 7), none⟩]
def c71_0 : ACode := .seq (.ops o71_1) (.seq (.seq (.ops o71_4) (.cond (.tmp 4) (.seq (.ops o71_7) (.ret)) (.skip))) (.seq (.ops o71_11) (.ret)))
def a71 : AFun := ⟨8, [.tmp 2], c71_0⟩
theorem ok71 : OkFun Try.prog 71 a71 := ⟨Try.f71, Try.f71.body.getD .skip, Try.func71, by kernel_rfl, by kernel_rfl, by kernel_rfl, by kernel_rfl, by kernel_rfl⟩
/-! #### num.Root -/
def o72_1 : List AOper := [⟨some 2, .mv (.const (.int .i64 0)), none⟩]
def o72_4 : List AOper := [⟨some 5, .mv (.tmp 0), none⟩,
  ⟨some 6, .bin .eql (.tmp 5) (.const (.int .u64 0)), none⟩]
def o72_7 : List AOper := [⟨some 2, .mv (.const (.int .i64 0)), none⟩]
def o72_11 : List AOper := [⟨some 7, .mv (.tmp 0), none⟩,
  ⟨some 8, .call true (.func 80) [.tmp 7] [(false, [.int .i64])] true, none⟩,
  ⟨some 9, .bin .add (.tmp 8) (.const (.int .i64 1)), none⟩,
  ⟨some 10, .bin .quo (.tmp 9) (.const (.int .i64 2)), none⟩,
  ⟨some 11, .bin .shl (.const (.int .u64 1)) (.tmp 10), none⟩,
  ⟨some 3, .mv (.tmp 11), none⟩]
def o72_16 : List AOper := [⟨some 12, .mv (.tmp 3), none⟩,
  ⟨some 13, .mv (.tmp 0), none⟩,
  ⟨some 14, .mv (.tmp 3), none⟩,
  ⟨some 15, .bin .quo (.tmp 13) (.tmp 14), none⟩,
  ⟨some 16, .bin .add (.tmp 12) (.tmp 15), none⟩,
  ⟨some 17, .bin .quo (.tmp 16) (.const (.int .u64 2)), none⟩,
  ⟨some 4, .mv (.tmp 17), none⟩]
def o72_19 : List AOper := [⟨some 18, .mv (.tmp 4), none⟩,
  ⟨some 19, .mv (.tmp 3), none⟩,
  ⟨some 20, .bin .geq (.tmp 18) (.tmp 19), none⟩]
def o72_22 : List AOper := [⟨some 21, .mv (.tmp 3), none⟩,
  ⟨some 22, .conv .i64 (.tmp 21), none⟩,
  ⟨some 2, .mv (.tmp 22), none⟩]
def o72_25 : List AOper := [⟨some 23, .mv (.tmp 4), none⟩,
  ⟨some 3, .mv (.tmp 23), none⟩]
def b72_13 : ACode := .post (.block 1 (.seq (.ops o72_16) (.seq (.seq (.ops o72_19) (.cond (.tmp 20) (.seq (.ops o72_22) (.ret)) (.skip))) (.ops o72_25)))) [1, 2, 4, 5, 6, 7, 8, 9, 10, 11, 12, 13, 14, 15, 16, 17, 18, 19, 20, 21, 22, 23]
def c72_0 : ACode := .seq (.ops o72_1) (.seq (.seq (.ops o72_4) (.cond (.tmp 6) (.seq (.ops o72_7) (.ret)) (.skip))) (.seq (.ops o72_11) (.block 0 (.clear [1, 2, 4, 5, 6, 7, 8, 9, 10, 11, 12, 13, 14, 15, 16, 17, 18, 19, 20, 21, 22, 23] (.loop b72_13)))))
def a72 : AFun := ⟨24, [.tmp 2], c72_0⟩
theorem ok72 : OkFun Try.prog 72 a72 := ⟨Try.f72, Try.f72.body.getD .skip, Try.func72, by kernel_rfl, by kernel_rfl, by kernel_rfl, by kernel_rfl, by kernel_rfl⟩
/-! #### skylightref01.Root -/
def o73_1 : List AOper := [⟨some 2, .mv (.const (.int .i64 0)), none⟩]
def o73_3 : List AOper := [⟨some 3, .mv (.const (.int .u64 0)), none⟩]
def o73_6 : List AOper := [⟨some 4, .mv (.const (.int .i64 31)), none⟩]
def o73_11 : List AOper := [⟨some 6, .mv (.tmp 4), none⟩,
  ⟨some 7, .bin .geq (.tmp 6) (.const (.int .i64 0)), none⟩]
def o73_18 : List AOper := [⟨some 10, .mv (.tmp 3), none⟩,
  ⟨some 11, .mv (.tmp 4), none⟩,
  ⟨some 12, .bin .shl (.const (.int .u64 1)) (.tmp 11), none⟩,
  ⟨some 13, .bin .add (.tmp 10) (.tmp 12), none⟩,
  ⟨some 5, .mv (.tmp 13), none⟩]
def o73_20 : List AOper := [⟨some 14, .mv (.tmp 5), none⟩,
  ⟨some 15, .mv (.tmp 5), none⟩,
  ⟨some 16, .bin .mul (.tmp 14) (.tmp 15), none⟩,
  ⟨some 17, .mv (.tmp 0), none⟩,
  ⟨some 18, .bin .leq (.tmp 16) (.tmp 17), none⟩]
def o73_22 : List AOper := [⟨some 19, .mv (.tmp 5), none⟩,
  ⟨some 3, .mv (.tmp 19), none⟩]
def o73_24 : List AOper := [⟨some 8, .mv (.tmp 4), none⟩,
  ⟨some 9, .bin .sub (.tmp 8) (.const (.int .i64 1)), none⟩,
  ⟨some 4, .mv (.tmp 9), none⟩]
def c73_24 : ACode := .ops o73_24
def b73_8 : ACode := .post (.seq (.seq (.ops o73_11) (.cond (.tmp 7) (.skip) (.exit 0))) (.seq (.block 1 (.seq (.ops o73_18) (.seq (.ops o73_20) (.cond (.tmp 18) (.ops o73_22) (.skip))))) (.clear [1, 2, 5, 6, 7, 8, 9, 10, 11, 12, 13, 14, 15, 16, 17, 18, 19, 20, 21] c73_24))) [1, 2, 5, 6, 7, 8, 9, 10, 11, 12, 13, 14, 15, 16, 17, 18, 19, 20, 21]
def o73_26 : List AOper := [⟨some 20, .mv (.tmp 3), none⟩,
  ⟨some 21, .conv .i64 (.tmp 20), none⟩,
  ⟨some 2, .mv (.tmp 21), none⟩]
def c73_25 : ACode := .seq (.ops o73_26) (.ret)
def c73_0 : ACode := .seq (.ops o73_1) (.seq (.ops o73_3) (.seq (.seq (.ops o73_6) (.block 0 (.clear [1, 2, 5, 6, 7, 8, 9, 10, 11, 12, 13, 14, 15, 16, 17, 18, 19, 20, 21] (.loop b73_8)))) (.clear [0, 1, 2, 4, 5, 6, 7, 8, 9, 10, 11, 12, 13, 14, 15, 16, 17, 18, 19, 20, 21] c73_25)))
def a73 : AFun := ⟨22, [.tmp 2], c73_0⟩
theorem ok73 : OkFun Try.prog 73 a73 := ⟨Try.f73, Try.f73.body.getD .skip, Try.func73, by kernel_rfl, by kernel_rfl, by kernel_rfl, by kernel_rfl, by kernel_rfl⟩
/-! #### batch.exchange -/
def o74_1 : List AOper := [⟨some 6, .mv (.tmp 0), none⟩,
  ⟨some 7, .nilCheck (.tmp 6), none⟩,
  ⟨some 8, .fieldAddr 4 (.tmp 7), none⟩,
  ⟨some 9, .load false [.int .u64] (.tmp 8), none⟩,
  ⟨some 10, .conv .i64 (.tmp 9), none⟩,
  ⟨some 4, .mv (.tmp 10), none⟩]
def o74_3 : List (AOper × Option Nat) := [(⟨some 11, .mv (.tmp 4), none⟩, none),
  (⟨some 12, .mv (.tmp 0), none⟩, none),
  (⟨some 13, .nilCheck (.tmp 12), none⟩, none),
  (⟨some 14, .fieldAddr 1 (.tmp 13), none⟩, none),
  (⟨some 15, .load false [.int .i64] (.tmp 14), none⟩, none),
  (⟨some 16, .mv (.tmp 0), none⟩, none),
  (⟨some 17, .nilCheck (.tmp 16), none⟩, none),
  (⟨some 18, .fieldAddr 0 (.tmp 17), none⟩, none),
  (⟨some 19, .load false [.int .i64] (.tmp 18), none⟩, none),
  (⟨some 20, .mv (.tmp 4), none⟩, none),
  (⟨some 21, .bin .sub (.tmp 19) (.tmp 20), none⟩, none),
  (⟨some 22, .minmax false [.tmp 15, .tmp 21], none⟩, none),
  (⟨some 23, .bin .add (.tmp 11) (.tmp 22), none⟩, none),
  (⟨some 5, .mv (.tmp 23), none⟩, none)]
def o74_6 : List AOper := [⟨some 24, .mv (.tmp 1), none⟩,
  ⟨some 25, .mv (.tmp 0), none⟩,
  ⟨some 26, .nilCheck (.tmp 25), none⟩,
  ⟨some 27, .fieldAddr 4 (.tmp 26), none⟩,
  ⟨some 28, .load false [.int .u64] (.tmp 27), none⟩,
  ⟨some 29, .mv (.tmp 5), none⟩,
  ⟨some 30, .conv .u64 (.tmp 29), none⟩,
  ⟨some 31, .call false (.func 14) [.tmp 24, .const (.int .i64 0), .tmp 28, .tmp 30] [(false, [.bool])] true, none⟩,
  ⟨some 32, .un .not (.tmp 31), none⟩]
def o74_9 : List AOper := [⟨some 33, .mv (.tmp 0), none⟩,
  ⟨some 34, .nilCheck (.tmp 33), none⟩,
  ⟨some 35, .fieldAddr 7 (.tmp 34), none⟩,
  ⟨some 36, .load false [.int .i64] (.tmp 35), none⟩,
  ⟨some 37, .bin .add (.tmp 36) (.const (.int .i64 1)), none⟩,
  ⟨some 38, .nilCheck (.tmp 33), none⟩,
  ⟨some 39, .fieldAddr 7 (.tmp 38), none⟩,
  ⟨none, .store 1 (.tmp 39) (.tmp 37), none⟩]
def o74_11 : List AOper := [⟨some 40, .mv (.tmp 0), none⟩,
  ⟨some 41, .nilCheck (.tmp 40), none⟩,
  ⟨some 42, .fieldAddr 2 (.tmp 41), none⟩,
  ⟨none, .store 1 (.tmp 42) (.func 55), none⟩]
def o74_14 : List AOper := [⟨some 43, .mv (.tmp 0), none⟩,
  ⟨some 44, .mv (.tmp 0), none⟩,
  ⟨some 45, .mv (.tmp 0), none⟩,
  ⟨some 46, .mv (.tmp 4), none⟩,
  ⟨some 47, .mv (.tmp 5), none⟩,
  ⟨some 48, .nilCheck (.tmp 43), none⟩,
  ⟨some 49, .fieldAddr 5 (.tmp 48), none⟩,
  ⟨none, .store 1 (.tmp 49) (.tmp 46), none⟩,
  ⟨some 50, .nilCheck (.tmp 44), none⟩,
  ⟨some 51, .fieldAddr 6 (.tmp 50), none⟩,
  ⟨none, .store 1 (.tmp 51) (.tmp 47), none⟩,
  ⟨some 52, .nilCheck (.tmp 45), none⟩,
  ⟨some 53, .fieldAddr 2 (.tmp 52), none⟩,
  ⟨none, .store 1 (.tmp 53) (.const (.nilFunc)), none⟩]
def c74_0 : ACode := .seq (.ops o74_1) (.seq (.draw [] 0 o74_3 []) (.seq (.seq (.ops o74_6) (.cond (.tmp 32) (.seq (.ops o74_9) (.seq (.ops o74_11) (.ret))) (.skip))) (.ops o74_14)))
def a74 : AFun := ⟨54, [], c74_0⟩
theorem ok74 : OkFun Try.prog 74 a74 := ⟨Try.f74, Try.f74.body.getD .skip, Try.func74, by kernel_rfl, by kernel_rfl, by kernel_rfl, by kernel_rfl, by kernel_rfl⟩
/-! #### picture.bright -/
def o75_1 : List AOper := [⟨some 2, .mv (.const (.bool false)), none⟩]
def o75_3 : List AOper := [⟨some 3, .mv (.tmp 0), none⟩,
  ⟨some 4, .bin .leq (.const (.int .i64 0)) (.tmp 3), none⟩,
  ⟨some 5, .mv (.tmp 4), none⟩,
  ⟨some 6, .mv (.tmp 0), some (5, true)⟩,
  ⟨some 7, .bin .leq (.tmp 6) (.const (.int .i64 255)), some (5, true)⟩,
  ⟨some 8, .pick (.tmp 5) (.tmp 7) (.const (.bool false)), none⟩,
  ⟨some 2, .mv (.tmp 8), none⟩]
def c75_0 : ACode := .seq (.ops o75_1) (.seq (.ops o75_3) (.ret))
def a75 : AFun := ⟨9, [.tmp 2], c75_0⟩
theorem ok75 : OkFun Try.prog 75 a75 := ⟨Try.f75, Try.f75.body.getD .skip, Try.func75, by kernel_rfl, by kernel_rfl, by kernel_rfl, by kernel_rfl, by kernel_rfl⟩
/-! #### picture.sides -/
def o76_1 : List AOper := [⟨some 6, .mv (.const (.bool false)), none⟩]
def o76_3 : List AOper := [⟨some 7, .mv (.tmp 0), none⟩,
  ⟨some 8, .bin .leq (.const (.int .i64 1)) (.tmp 7), none⟩,
  ⟨some 9, .mv (.tmp 8), none⟩,
  ⟨some 10, .mv (.tmp 0), some (9, true)⟩,
  ⟨some 11, .bin .leq (.tmp 10) (.const (.int .i64 256)), some (9, true)⟩,
  ⟨some 12, .pick (.tmp 9) (.tmp 11) (.const (.bool false)), none⟩,
  ⟨some 13, .mv (.tmp 12), none⟩,
  ⟨some 14, .mv (.tmp 1), some (13, true)⟩,
  ⟨some 15, .bin .leq (.const (.int .i64 1)) (.tmp 14), some (13, true)⟩,
  ⟨some 16, .pick (.tmp 13) (.tmp 15) (.const (.bool false)), none⟩,
  ⟨some 17, .mv (.tmp 16), none⟩,
  ⟨some 18, .mv (.tmp 1), some (17, true)⟩,
  ⟨some 19, .bin .leq (.tmp 18) (.const (.int .i64 256)), some (17, true)⟩,
  ⟨some 20, .pick (.tmp 17) (.tmp 19) (.const (.bool false)), none⟩,
  ⟨some 21, .mv (.tmp 20), none⟩,
  ⟨some 22, .mv (.tmp 2), some (21, true)⟩,
  ⟨some 23, .mv (.tmp 0), some (21, true)⟩,
  ⟨some 24, .mv (.tmp 1), some (21, true)⟩,
  ⟨some 25, .bin .mul (.tmp 23) (.tmp 24), some (21, true)⟩,
  ⟨some 26, .bin .eql (.tmp 22) (.tmp 25), some (21, true)⟩,
  ⟨some 27, .pick (.tmp 21) (.tmp 26) (.const (.bool false)), none⟩,
  ⟨some 6, .mv (.tmp 27), none⟩]
def c76_0 : ACode := .seq (.ops o76_1) (.seq (.ops o76_3) (.ret))
def a76 : AFun := ⟨28, [.tmp 6], c76_0⟩
theorem ok76 : OkFun Try.prog 76 a76 := ⟨Try.f76, Try.f76.body.getD .skip, Try.func76, by kernel_rfl, by kernel_rfl, by kernel_rfl, by kernel_rfl, by kernel_rfl⟩
/-! #### slices.AppendSeq[[]picture.Picture,picture.Picture] -/
def o77_1 : List AOper := [⟨some 2, .box (.tmp 0), none⟩,
  ⟨some 4, .mv (.const (.slice none 0 0)), none⟩]
def o77_4 : List AOper := [⟨some 6, .mv (.tmp 1), none⟩]
def o77_7 : List AOper := [⟨some 5, .alloc [.int .i64 0, .int .i64 0, .slice none 0 0], none⟩,
  ⟨none, .store 3 (.tmp 5) (.tmp 7), none⟩]
def o77_9 : List AOper := [⟨some 8, .load false [.slice] (.tmp 2), none⟩,
  ⟨some 9, .load true [.int .i64, .int .i64, .slice] (.tmp 5), none⟩,
  ⟨some 10, .buildSlice 3 1 [.int .i64 0, .int .i64 0, .slice none 0 0] [(0, 3, .tmp 9)], none⟩,
  ⟨some 11, .append 3 40 (.tmp 8) (.tmp 10), none⟩,
  ⟨none, .store 1 (.tmp 2) (.tmp 11), none⟩]
def b77_6 : ACode := .block 1 (.ops o77_9)
def o77_11 : List AOper := [⟨some 12, .load false [.slice] (.tmp 2), none⟩,
  ⟨some 4, .mv (.tmp 12), none⟩]
def c77_10 : ACode := .seq (.ops o77_11) (.ret)
def c77_0 : ACode := .seq (.ops o77_1) (.seq (.seq (.ops o77_4) (.block 0 (.clear [0, 1, 3, 5, 8, 9, 10, 11, 12] (.rangeFunc (.tmp 6) [7] (.ops o77_7) b77_6)))) (.clear [0, 1, 3, 4, 5, 6, 7, 8, 9, 10, 11, 12] c77_10))
def a77 : AFun := ⟨13, [.tmp 4], c77_0⟩
theorem ok77 : OkFun Try.prog 77 a77 := ⟨Try.f77, Try.f77.body.getD .skip, Try.func77, by kernel_rfl, by kernel_rfl, by kernel_rfl, by kernel_rfl, by kernel_rfl⟩
/-! #### mip.pyramid$1 -/
def o78_4 : List AOper := [⟨some 3, .mv (.tmp 0), none⟩,
  ⟨some 4, .load true [.int .i64, .int .i64, .slice] (.tmp 1), none⟩,
  ⟨some 5, .call false (.tmp 3) [.tmp 4] [(false, [.bool])] true, none⟩,
  ⟨some 6, .mv (.tmp 5), none⟩,
  ⟨some 7, .fieldAddr 2 (.tmp 1), some (6, true)⟩,
  ⟨some 8, .load false [.slice] (.tmp 7), some (6, true)⟩,
  ⟨some 9, .len (.tmp 8), some (6, true)⟩,
  ⟨some 10, .bin .gtr (.tmp 9) (.const (.int .i64 1)), some (6, true)⟩,
  ⟨some 11, .pick (.tmp 6) (.tmp 10) (.const (.bool false)), none⟩]
def o78_9 : List AOper := [⟨some 12, .load true [.int .i64, .int .i64, .slice] (.tmp 1), none⟩,
  ⟨some 13, .call false (.func 61) [.tmp 12] [(true, [.int .i64, .int .i64, .slice])] true, none⟩,
  ⟨none, .store 3 (.tmp 1) (.tmp 13), none⟩]
def b78_1 : ACode := .post (.seq (.seq (.ops o78_4) (.cond (.tmp 11) (.skip) (.exit 0))) (.block 1 (.ops o78_9))) [2, 3, 4, 5, 6, 7, 8, 9, 10, 11, 12, 13]
def c78_0 : ACode := .block 0 (.clear [2, 3, 4, 5, 6, 7, 8, 9, 10, 11, 12, 13] (.loop b78_1))
def a78 : AFun := ⟨14, [], c78_0⟩
theorem ok78 : OkFun Try.prog 78 a78 := ⟨Try.f78, Try.f78.body.getD .skip, Try.func78, by kernel_rfl, by kernel_rfl, by kernel_rfl, by kernel_rfl, by kernel_rfl⟩
/-! #### math/bits.Len32 -/
def o79_1 : List AOper := [⟨some 2, .mv (.const (.int .i64 0)), none⟩]
def o79_4 : List AOper := [⟨some 3, .mv (.tmp 0), none⟩,
  ⟨some 4, .bin .geq (.tmp 3) (.const (.int .u32 65536)), none⟩]
def o79_7 : List AOper := [⟨some 5, .mv (.tmp 0), none⟩,
  ⟨some 6, .bin .shr (.tmp 5) (.const (.int .u64 16)), none⟩,
  ⟨some 0, .mv (.tmp 6), none⟩]
def o79_8 : List AOper := [⟨some 2, .mv (.const (.int .i64 16)), none⟩]
def o79_12 : List AOper := [⟨some 7, .mv (.tmp 0), none⟩,
  ⟨some 8, .bin .geq (.tmp 7) (.const (.int .u32 256)), none⟩]
def o79_15 : List AOper := [⟨some 9, .mv (.tmp 0), none⟩,
  ⟨some 10, .bin .shr (.tmp 9) (.const (.int .u64 8)), none⟩,
  ⟨some 0, .mv (.tmp 10), none⟩]
def o79_16 : List AOper := [⟨some 11, .mv (.tmp 2), none⟩,
  ⟨some 12, .bin .add (.tmp 11) (.const (.int .i64 8)), none⟩,
  ⟨some 2, .mv (.tmp 12), none⟩]
def o79_19 : List AOper := [⟨some 13, .mv (.tmp 2), none⟩,
  ⟨some 14, .mv (.tmp 0), none⟩,
  ⟨some 15, .conv .u8 (.tmp 14), none⟩,
  ⟨some 16, .indexStr (.const (.string (ByteArray.mk #[0, 1, 2, 2, 3, 3, 3, 3, 4, 4, 4, 4, 4, 4, 4, 4, 5, 5, 5, 5, 5, 5, 5, 5, 5, 5, 5, 5, 5, 5, 5, 5, 6, 6, 6, 6, 6, 6, 6, 6, 6, 6, 6, 6, 6, 6, 6, 6, 6, 6, 6, 6, 6, 6, 6, 6, 6, 6, 6, 6, 6, 6, 6, 6, 7, 7, 7, 7, 7, 7, 7, 7, 7, 7, 7, 7, 7, 7, 7, 7, 7, 7, 7, 7, 7, 7, 7, 7, 7, 7, 7, 7, 7, 7, 7, 7, 7, 7, 7, 7, 7, 7, 7, 7, 7, 7, 7, 7, 7, 7, 7, 7, 7, 7, 7, 7, 7, 7, 7, 7, 7, 7, 7, 7, 7, 7, 7, 7, 8, 8, 8, 8, 8, 8, 8, 8, 8, 8, 8, 8, 8, 8, 8, 8, 8, 8, 8, 8, 8, 8, 8, 8, 8, 8, 8, 8, 8, 8, 8, 8, 8, 8, 8, 8, 8, 8, 8, 8, 8, 8, 8, 8, 8, 8, 8, 8, 8, 8, 8, 8, 8, 8, 8, 8, 8, 8, 8, 8, 8, 8, 8, 8, 8, 8, 8, 8, 8, 8, 8, 8, 8, 8, 8, 8, 8, 8, 8, 8, 8, 8, 8, 8, 8, 8, 8, 8, 8, 8, 8, 8, 8, 8, 8, 8, 8, 8, 8, 8, 8, 8, 8, 8, 8, 8, 8, 8, 8, 8, 8, 8, 8, 8, 8, 8, 8, 8, 8, 8, 8, 8, 8, 8, 8, 8, 8, 8]))) (.tmp 15), none⟩,
  ⟨some 17, .conv .i64 (.tmp 16), none⟩,
  ⟨some 18, .bin .add (.tmp 13) (.tmp 17), none⟩,
  ⟨some 2, .mv (.tmp 18), none⟩]
def c79_18 : ACode := .seq (.ops o79_19) (.ret)
def c79_10 : ACode := .seq (.seq (.ops o79_12) (.cond (.tmp 8) (.seq (.ops o79_15) (.ops o79_16)) (.skip))) (.clear [1, 3, 4, 5, 6, 7, 8, 9, 10, 11, 12, 13, 14, 15, 16, 17, 18] c79_18)
def c79_0 : ACode := .seq (.ops o79_1) (.seq (.seq (.ops o79_4) (.cond (.tmp 4) (.seq (.ops o79_7) (.ops o79_8)) (.skip))) (.clear [1, 3, 4, 5, 6, 7, 8, 9, 10, 11, 12, 13, 14, 15, 16, 17, 18] c79_10))
def a79 : AFun := ⟨19, [.tmp 2], c79_0⟩
theorem ok79 : OkFun Try.prog 79 a79 := ⟨Try.f79, Try.f79.body.getD .skip, Try.func79, by kernel_rfl, by kernel_rfl, by kernel_rfl, by kernel_rfl, by kernel_rfl⟩
/-! #### math/bits.Len64 -/
def o80_1 : List AOper := [⟨some 2, .mv (.const (.int .i64 0)), none⟩]
def o80_4 : List AOper := [⟨some 3, .mv (.tmp 0), none⟩,
  ⟨some 4, .bin .geq (.tmp 3) (.const (.int .u64 4294967296)), none⟩]
def o80_7 : List AOper := [⟨some 5, .mv (.tmp 0), none⟩,
  ⟨some 6, .bin .shr (.tmp 5) (.const (.int .u64 32)), none⟩,
  ⟨some 0, .mv (.tmp 6), none⟩]
def o80_8 : List AOper := [⟨some 2, .mv (.const (.int .i64 32)), none⟩]
def o80_12 : List AOper := [⟨some 7, .mv (.tmp 0), none⟩,
  ⟨some 8, .bin .geq (.tmp 7) (.const (.int .u64 65536)), none⟩]
def o80_15 : List AOper := [⟨some 9, .mv (.tmp 0), none⟩,
  ⟨some 10, .bin .shr (.tmp 9) (.const (.int .u64 16)), none⟩,
  ⟨some 0, .mv (.tmp 10), none⟩]
def o80_16 : List AOper := [⟨some 11, .mv (.tmp 2), none⟩,
  ⟨some 12, .bin .add (.tmp 11) (.const (.int .i64 16)), none⟩,
  ⟨some 2, .mv (.tmp 12), none⟩]
def o80_20 : List AOper := [⟨some 13, .mv (.tmp 0), none⟩,
  ⟨some 14, .bin .geq (.tmp 13) (.const (.int .u64 256)), none⟩]
def o80_23 : List AOper := [⟨some 15, .mv (.tmp 0), none⟩,
  ⟨some 16, .bin .shr (.tmp 15) (.const (.int .u64 8)), none⟩,
  ⟨some 0, .mv (.tmp 16), none⟩]
def o80_24 : List AOper := [⟨some 17, .mv (.tmp 2), none⟩,
  ⟨some 18, .bin .add (.tmp 17) (.const (.int .i64 8)), none⟩,
  ⟨some 2, .mv (.tmp 18), none⟩]
def o80_27 : List AOper := [⟨some 19, .mv (.tmp 2), none⟩,
  ⟨some 20, .mv (.tmp 0), none⟩,
  ⟨some 21, .conv .u8 (.tmp 20), none⟩,
  ⟨some 22, .indexStr (.const (.string (ByteArray.mk #[0, 1, 2, 2, 3, 3, 3, 3, 4, 4, 4, 4, 4, 4, 4, 4, 5, 5, 5, 5, 5, 5, 5, 5, 5, 5, 5, 5, 5, 5, 5, 5, 6, 6, 6, 6, 6, 6, 6, 6, 6, 6, 6, 6, 6, 6, 6, 6, 6, 6, 6, 6, 6, 6, 6, 6, 6, 6, 6, 6, 6, 6, 6, 6, 7, 7, 7, 7, 7, 7, 7, 7, 7, 7, 7, 7, 7, 7, 7, 7, 7, 7, 7, 7, 7, 7, 7, 7, 7, 7, 7, 7, 7, 7, 7, 7, 7, 7, 7, 7, 7, 7, 7, 7, 7, 7, 7, 7, 7, 7, 7, 7, 7, 7, 7, 7, 7, 7, 7, 7, 7, 7, 7, 7, 7, 7, 7, 7, 8, 8, 8, 8, 8, 8, 8, 8, 8, 8, 8, 8, 8, 8, 8, 8, 8, 8, 8, 8, 8, 8, 8, 8, 8, 8, 8, 8, 8, 8, 8, 8, 8, 8, 8, 8, 8, 8, 8, 8, 8, 8, 8, 8, 8, 8, 8, 8, 8, 8, 8, 8, 8, 8, 8, 8, 8, 8, 8, 8, 8, 8, 8, 8, 8, 8, 8, 8, 8, 8, 8, 8, 8, 8, 8, 8, 8, 8, 8, 8, 8, 8, 8, 8, 8, 8, 8, 8, 8, 8, 8, 8, 8, 8, 8, 8, 8, 8, 8, 8, 8, 8, 8, 8, 8, 8, 8, 8, 8, 8, 8, 8, 8, 8, 8, 8, 8, 8, 8, 8, 8, 8, 8, 8, 8, 8, 8, 8]))) (.tmp 21), none⟩,
  ⟨some 23, .conv .i64 (.tmp 22), none⟩,
  ⟨some 24, .bin .add (.tmp 19) (.tmp 23), none⟩,
  ⟨some 2, .mv (.tmp 24), none⟩]
def c80_26 : ACode := .seq (.ops o80_27) (.ret)
def c80_18 : ACode := .seq (.seq (.ops o80_20) (.cond (.tmp 14) (.seq (.ops o80_23) (.ops o80_24)) (.skip))) (.clear [1, 3, 4, 5, 6, 7, 8, 9, 10, 11, 12, 13, 14, 15, 16, 17, 18, 19, 20, 21, 22, 23, 24] c80_26)
def c80_10 : ACode := .seq (.seq (.ops o80_12) (.cond (.tmp 8) (.seq (.ops o80_15) (.ops o80_16)) (.skip))) (.clear [1, 3, 4, 5, 6, 7, 8, 9, 10, 11, 12, 13, 14, 15, 16, 17, 18, 19, 20, 21, 22, 23, 24] c80_18)
def c80_0 : ACode := .seq (.ops o80_1) (.seq (.seq (.ops o80_4) (.cond (.tmp 4) (.seq (.ops o80_7) (.ops o80_8)) (.skip))) (.clear [1, 3, 4, 5, 6, 7, 8, 9, 10, 11, 12, 13, 14, 15, 16, 17, 18, 19, 20, 21, 22, 23, 24] c80_10))
def a80 : AFun := ⟨25, [.tmp 2], c80_0⟩
theorem ok80 : OkFun Try.prog 80 a80 := ⟨Try.f80, Try.f80.body.getD .skip, Try.func80, by kernel_rfl, by kernel_rfl, by kernel_rfl, by kernel_rfl, by kernel_rfl⟩
/-! #### diff.pairs$1 -/
def o81_1 : List AOper := [⟨some 6, .fieldAddr 2 (.tmp 1), none⟩,
  ⟨some 7, .load false [.slice] (.tmp 6), none⟩,
  ⟨some 8, .len (.tmp 7), none⟩,
  ⟨some 9, .mv (.const (.int .i64 0)), none⟩]
def o81_5 : List AOper := [⟨some 10, .bin .lss (.tmp 9) (.tmp 8), none⟩]
def o81_13 : List AOper := [⟨some 11, .mv (.tmp 9), none⟩,
  ⟨some 12, .indexAddr 3 (.tmp 7) (.tmp 9), none⟩,
  ⟨some 13, .load true [.int .i64, .int .i64, .int .i64] (.tmp 12), none⟩,
  ⟨some 5, .alloc [.int .i64 0, .int .i64 0, .int .i64 0], none⟩,
  ⟨some 4, .mv (.tmp 11), none⟩,
  ⟨none, .store 3 (.tmp 5) (.tmp 13), none⟩]
def o81_15 : List (AOper × Option Nat) := [(⟨some 14, .mv (.tmp 0), none⟩, none),
  (⟨some 15, .mv (.tmp 4), none⟩, none),
  (⟨some 16, .load true [.int .i64, .int .i64, .int .i64] (.tmp 5), none⟩, none),
  (⟨some 17, .fieldAddr 2 (.tmp 2), none⟩, none),
  (⟨some 18, .load false [.slice] (.tmp 17), none⟩, none),
  (⟨some 19, .mv (.tmp 4), none⟩, none),
  (⟨some 20, .indexAddr 3 (.tmp 18) (.tmp 19), none⟩, none),
  (⟨some 21, .load true [.int .i64, .int .i64, .int .i64] (.tmp 20), none⟩, none),
  (⟨some 22, .build [.int .i64 0, .int .i64 0, .int .i64 0, .int .i64 0, .int .i64 0, .int .i64 0] [(0, 3, .tmp 16), (3, 3, .tmp 21)], none⟩, none),
  (⟨some 23, .call false (.tmp 14) [.tmp 15, .tmp 22] [(false, [.bool])] true, none⟩, none),
  (⟨some 24, .un .not (.tmp 23), none⟩, none)]
def o81_19 : List AOper := [⟨some 25, .bin .add (.tmp 9) (.const (.int .i64 1)), none⟩,
  ⟨some 9, .mv (.tmp 25), none⟩]
def c81_19 : ACode := .ops o81_19
def b81_3 : ACode := .post (.seq (.ops o81_5) (.seq (.cond (.tmp 10) (.skip) (.exit 0)) (.seq (.block 1 (.seq (.ops o81_13) (.seq (.draw [] 0 o81_15 []) (.cond (.tmp 24) (.ret) (.skip))))) (.clear [1, 3, 4, 5, 6, 10, 11, 12, 13, 14, 15, 16, 17, 18, 19, 20, 21, 22, 23, 24, 25] c81_19)))) [1, 3, 4, 5, 6, 10, 11, 12, 13, 14, 15, 16, 17, 18, 19, 20, 21, 22, 23, 24, 25]
def c81_0 : ACode := .seq (.ops o81_1) (.block 0 (.clear [1, 3, 4, 5, 6, 10, 11, 12, 13, 14, 15, 16, 17, 18, 19, 20, 21, 22, 23, 24, 25] (.loop b81_3)))
def a81 : AFun := ⟨26, [], c81_0⟩
theorem ok81 : OkFun Try.prog 81 a81 := ⟨Try.f81, Try.f81.body.getD .skip, Try.func81, by kernel_rfl, by kernel_rfl, by kernel_rfl, by kernel_rfl, by kernel_rfl⟩
end Go.Proofs.Ytjmeilpffmhojaa
